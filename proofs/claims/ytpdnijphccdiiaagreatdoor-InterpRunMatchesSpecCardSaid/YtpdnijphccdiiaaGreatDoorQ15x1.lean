/- Part 1. -/
import Derived.Tactics
import Derived.Below
import Derived.Orders
import Derived.Laws.Rows
import Derived.WalkKit
import Derived.Deep.LoopGhost
import Derived.OrdersHeld
import Derived.IntWalk
import Derived.Laws.BytesString
import Derived.Maps.AppendAt
import Derived.Laws.MakeOwn
import Derived.Laws.CopyRow
import Derived.MapKept
import Derived.Lib.ItoaMem
import Derived.Lib.ParseIntBCases
set_option linter.unusedVariables false
set_option linter.unusedSimpArgs false
set_option linter.unnecessarySimpa false
set_option maxRecDepth 100000
set_option maxHeartbeats 8000000
namespace Go.FL
open Go Go.RowKit
theorem cQ9{α:Type _}{a:α}{x y:List α}:a::x++y=a::(x++y):=rfl
theorem nQ9{α:Type _}{x:List α}:[]++x=x:=rfl
theorem _root_.Go.V{p:Prop}(h:p:=by kernel_rfl):p:=h
theorem _root_.Go.Tt:True:=True.intro
theorem _root_.Go.Oz{p:Prop}(h:p:=by simp only;omega):p:=h
theorem _root_.Go.Dc{p:Prop}(h:p:=by decide):p:=h
theorem _root_.Go.Pr{α:Type _}{l:List α}:l.Perm l:=List.Perm.refl l
theorem _root_.Go.Mc{α:Type _}{a:α}{l:List α}:a∈a::l:=List.mem_cons_self ..
theorem _root_.Go.O{p:Prop}(h:p:=by omega):p:=h
theorem _root_.Go.As{p:Prop}(h:p:=by assumption):p:=h
theorem _root_.Go.Og{p:Prop}(h:p:=by first | omega | grind):p:=h
theorem _root_.Go.Ut{p:Prop}(h:p:=by (try simp only [List.length_append,List.length_cons,List.length_nil]);omega):p:=h
theorem _root_.Go.Uo{p:Prop}(h:p:=by simp only [List.length_append,List.length_cons,List.length_nil];omega):p:=h
abbrev Hl:=List (Nat×Obj)
def dum(D:Nat):Obj:=.mapIter none D #[] 0
def qbn(w:World)(b:Nat)(o:Obj):World:={ w with heap:=w.heap.setIfInBounds b o }
def fill:Hl→World→World
 | [],s=>s
 | x::L,s=>qbn (fill L s) x.1 x.2
structure OKL(D:Nat)(L:Hl)(s:World):Prop where
 nd:(L.map (·.1)).Nodup
 dm:∀ x∈L,s.heap[x.1]?=some (dum D)
structure Le(D:Nat)(s s':World):Prop where
 os:s'.os=s.os
 tape:s'.tape=s.tape
 output:s'.output=s.output
 size:s.heap.size≤s'.heap.size
 block:∀ k,k < s.heap.size→s.heap[k]?=some (dum D)∨s'.heap[k]?=s.heap[k]?
variable{D:Nat}
theorem Le.refl(s:World):Le D s s:=⟨rfl,rfl,rfl,Nat.le_refl _,fun _ _=>.inr rfl⟩
theorem Lr(D:Nat){s:World}:Le D s s:=Le.refl s
theorem Z{α:Sort _}{a:α}:a=a:=rfl
theorem Y4{α0:Type _}{a0:α0}{α1:Type _}{a1:α1}{α2:Type _}{a2:α2}{α3:Type _}{a3:α3}:a0=a0∧a1=a1∧a2=a2∧a3=a3:=⟨rfl,rfl,rfl,rfl⟩
theorem Y5{α0:Type _}{a0:α0}{α1:Type _}{a1:α1}{α2:Type _}{a2:α2}{α3:Type _}{a3:α3}{α4:Type _}{a4:α4}:a0=a0∧a1=a1∧a2=a2∧a3=a3∧a4=a4:=⟨rfl,rfl,rfl,rfl,rfl⟩
theorem Y6{α0:Type _}{a0:α0}{α1:Type _}{a1:α1}{α2:Type _}{a2:α2}{α3:Type _}{a3:α3}{α4:Type _}{a4:α4}{α5:Type _}{a5:α5}:a0=a0∧a1=a1∧a2=a2∧a3=a3∧a4=a4∧a5=a5:=⟨rfl,rfl,rfl,rfl,rfl,rfl⟩
theorem Y9{α0:Type _}{a0:α0}{α1:Type _}{a1:α1}{α2:Type _}{a2:α2}{α3:Type _}{a3:α3}{α4:Type _}{a4:α4}{α5:Type _}{a5:α5}{α6:Type _}{a6:α6}{α7:Type _}{a7:α7}{α8:Type _}{a8:α8}:a0=a0∧a1=a1∧a2=a2∧a3=a3∧a4=a4∧a5=a5∧a6=a6∧a7=a7∧a8=a8:=⟨rfl,rfl,rfl,rfl,rfl,rfl,rfl,rfl,rfl⟩
theorem Le.trans{a b c:World}(h:Le D a b)(k:Le D b c):Le D a c:=
  ⟨k.os.trans h.os,k.tape.trans h.tape,k.output.trans h.output,Nat.le_trans h.size k.size,fun i hi=>by
    rcases h.block i hi with h1 | h1
    · exact .inl h1
    · rcases k.block i (Nat.lt_of_lt_of_le hi h.size) with h2 | h2
      · exact .inl (h1▸h2)
      · exact .inr (h2.trans h1)⟩
theorem Le.t{D:Nat}{a b c:World}(h:Le D a b)(k:Le D b c):Le D a c:=Le.trans h k
theorem qlc{w:World}{a:Addr}{u:Value}(h:w.cell? a=some u):a.block < w.heap.size:=World.block_lt_of_cell? w a h
theorem qe5{w:World}{a:Addr}{u:Value}(h:w.cell? a=some u):w.heap[a.block]?≠some (dum D):=by
 intro e;simp [World.cell?,e,dum] at h
theorem Le.cell{s s':World}(h:Le D s s'){a:Addr}{u:Value}(hc:s.cell? a=some u):s'.cell? a=some u:=by
 rcases h.block a.block (qlc hc) with h1 | h1
 · exact absurd h1 (qe5 hc)
 · rw [← hc];exact World.cell?_of_block h1
@[simp] theorem setBlk_size (w:World) (b:Nat) (o:Obj):(qbn w b o).heap.size=w.heap.size:=by simp [qbn]
theorem qcL{w:World}{b:Nat}(o:Obj)(h:b < w.heap.size):(qbn w b o).heap[b]?=some o:=by
 simp [qbn,h]
theorem qbS{w:World}{b k:Nat}(o:Obj)(h:b≠k):(qbn w b o).heap[k]?=w.heap[k]?:=by
 simp [qbn,Array.getElem?_setIfInBounds_ne h]
theorem qaG(L:Hl)(s:World):(fill L s).heap.size=s.heap.size:=by
 induction L with
 | nil=>rfl
 | cons x L ih=>simp [fill,ih]
theorem qcO(L:Hl)(s:World):(fill L s).os=s.os:=by induction L with
 | nil=>rfl
 | cons x L ih=>exact ih
theorem qbQ(L:Hl)(s:World):(fill L s).tape=s.tape:=by induction L with
 | nil=>rfl
 | cons x L ih=>exact ih
theorem qcF(L:Hl)(s:World):(fill L s).drawn=s.drawn:=by induction L with
 | nil=>rfl
 | cons x L ih=>exact ih
theorem qbr(L:Hl)(s:World):(fill L s).output=s.output:=by induction L with
 | nil=>rfl
 | cons x L ih=>exact ih
theorem qbg{L:Hl}{s:World}{k:Nat}(h:k ∉ L.map (·.1)):(fill L s).heap[k]?=s.heap[k]?:=by
 induction L with
 | nil=>rfl
 | cons x L ih=>
  simp only [List.map_cons,List.mem_cons,not_or] at h
  rw [fill,qbS _ (fun e=>h.1 e.symm),ih h.2]
theorem OKL.lt{L:Hl}{s:World}(h:OKL D L s){x:Nat×Obj}(hx:x∈L):x.1 < s.heap.size:=by
 have:=h.dm x hx
 rcases Nat.lt_or_ge x.1 s.heap.size with h1 | h1
 · exact h1
 · rw [Array.getElem?_eq_none h1] at this;cases this
theorem OKL.tail{x:Nat×Obj}{L:Hl}{s:World}(h:OKL D (x::L) s):OKL D L s:=
 ⟨by have:=h.nd;simp only [List.map_cons,List.nodup_cons] at this;exact this.2,fun y hy=>h.dm y (List.mem_cons_of_mem _ hy)⟩
theorem qa8{L:Hl}{s:World}(h:OKL D L s){b:Nat}{o:Obj}(hx:(b,o)∈L):(fill L s).heap[b]?=some o:=by
  induction L with
  | nil=>cases hx
  | cons x L ih=>
    have hnd:=h.nd
    simp only [List.map_cons,List.nodup_cons] at hnd
    rcases List.mem_cons.1 hx with rfl | hx
    · rw [fill];exact qcL _ (by rw [qaG];exact h.lt Mc)
    · rw [fill,qbS]
      · exact ih h.tail hx
      · intro e;exact hnd.1 (by rw [e];exact List.mem_map.2 ⟨_,hx,rfl⟩)
theorem qg6{L:Hl}{s:World}(h:OKL D L s){k:Nat}(hk:s.heap[k]?≠some (dum D)):k ∉ L.map (·.1):=by
 intro hm
 obtain ⟨x,hx,rfl⟩:=List.mem_map.1 hm
 exact hk (h.dm x hx)
theorem qdJ{L:Hl}{s:World}(h:OKL D L s){a:Addr}{u:Value}(hc:s.cell? a=some u):(fill L s).cell? a=some u:=by
 rw [← hc];exact World.cell?_of_block (qbg (qg6 h (qe5 hc)))
theorem qfw{L:Hl}{s:World}(h:OKL D L s):Le D s (fill L s):=
 ⟨qcO L s,qbQ L s,qbr L s,by rw [qaG];exact Nat.le_refl _,fun k hk=>by
  by_cases hd:s.heap[k]?=some (dum D)
  · exact .inl hd
  · exact .inr (qbg (qg6 h hd))⟩
theorem qc3{w w':World}(h1:w.heap=w'.heap)(h2:w.tape=w'.tape)(h3:w.drawn=w'.drawn)(h4:w.os=w'.os)(h5:w.output=w'.output):w=w':=by
 cases w;cases w';simp_all
theorem qc4{a b:Array Obj}(h:∀ k:Nat,a[k]?=b[k]?):a=b:=Array.ext_getElem? h
theorem qeb(A B:Hl)(s:World):fill (A++B) s=fill A (fill B s):=by
 induction A with
 | nil=>rfl
 | cons x A ih=>simp [fill,ih]
theorem qea{w:World}{b c:Nat}(o p:Obj)(h:b≠c):qbn (qbn w b o) c p=qbn (qbn w c p) b o:=by
 unfold qbn;simp [Array.setIfInBounds_comm _ _ h]
theorem qin{L:Hl}{s:World}{b:Nat}{o:Obj}(h:b ∉ L.map (·.1)):fill L (qbn s b o)=qbn (fill L s) b o:=by
 induction L with
 | nil=>rfl
 | cons x L ih=>
  simp only [List.map_cons,List.mem_cons,not_or] at h
  rw [fill,ih h.2,fill,qea _ _ h.1]
theorem qky{A B:Hl}{s:World}(h:((A++B).map (·.1)).Nodup):fill A (fill B s)=fill B (fill A s):=by
 induction A with
 | nil=>rfl
 | cons x A ih=>
  simp only [List.cons_append,List.map_cons,List.nodup_cons] at h
  rw [fill,ih h.2,fill,qin]
  intro hb;exact h.1 (by rw [List.map_append];exact List.mem_append_right _ hb)
theorem OKL.left{A B:Hl}{s:World}(h:OKL D (A++B) s):OKL D A s:=
 ⟨by have:=h.nd;rw [List.map_append] at this;exact (List.nodup_append.1 this).1,fun x hx=>h.dm x (List.mem_append_left _ hx)⟩
theorem OKL.right{A B:Hl}{s:World}(h:OKL D (A++B) s):OKL D B s:=
 ⟨by have:=h.nd;rw [List.map_append] at this;exact (List.nodup_append.1 this).2.1,fun x hx=>h.dm x (List.mem_append_right _ hx)⟩
theorem qbm{A B:Hl}{s:World}(h:OKL D (A++B) s):fill (A++B) s=fill B (fill A s)∧OKL D B (fill A s)∧Le D s (fill A s):=by
  refine ⟨by rw [qeb,qky h.nd],⟨h.right.nd,fun x hx=>?_⟩,qfw h.left⟩
  rw [qbg]
  · exact h.right.dm x hx
  · intro hm
    have:=h.nd
    rw [List.map_append] at this
    exact (List.nodup_append.1 this).2.2 _ hm _ (List.mem_map.2 ⟨x,hx,rfl⟩) rfl
def qcq(D:Nat):Hl→World→World
 | [],w=>w
 | x::L,w=>qbn (qcq D L w) x.1 (dum D)
theorem qeI(L:Hl)(w:World):(qcq D L w).heap.size=w.heap.size:=by
 induction L with
 | nil=>rfl
 | cons x L ih=>simp [qcq,ih]
theorem qcQ{L:Hl}{w:World}{k:Nat}(h:k ∉ L.map (·.1)):(qcq D L w).heap[k]?=w.heap[k]?:=by
 induction L with
 | nil=>rfl
 | cons x L ih=>
  simp only [List.map_cons,List.mem_cons,not_or] at h
  rw [qcq,qbS _ (fun e=>h.1 e.symm),ih h.2]
theorem qhN{L:Hl}{w:World}(hlt:∀ x∈L,x.1 < w.heap.size){k:Nat}(h:k∈L.map (·.1)):(qcq D L w).heap[k]?=some (dum D):=by
  induction L with
  | nil=>cases h
  | cons x L ih=>
    by_cases hk:x.1=k
    · subst hk;rw [qcq];exact qcL _ (by rw [qeI];exact hlt x Mc)
    · rw [qcq,qbS _ hk]
      simp only [List.map_cons,List.mem_cons] at h
      exact ih (fun y hy=>hlt y (List.mem_cons_of_mem _ hy)) (h.resolve_left (fun e=>hk e.symm))
theorem qfq(L:Hl)(s:World):(qcq D L s).os=s.os:=by induction L with
 | nil=>rfl
 | cons x L ih=>exact ih
theorem qdZ(L:Hl)(s:World):(qcq D L s).tape=s.tape:=by induction L with
 | nil=>rfl
 | cons x L ih=>exact ih
theorem qfz(L:Hl)(s:World):(qcq D L s).drawn=s.drawn:=by induction L with
 | nil=>rfl
 | cons x L ih=>exact ih
theorem qc0(L:Hl)(s:World):(qcq D L s).output=s.output:=by induction L with
 | nil=>rfl
 | cons x L ih=>exact ih
theorem quh{L:Hl}{s w':World}(h:OKL D L s)(hb:Below (fill L s).heap.size (fill L s) w') :
    w'=fill L (qcq D L w')∧OKL D L (qcq D L w')∧Le D s (qcq D L w'):=by
  have hsz:s.heap.size≤w'.heap.size:=by have:=hb.size;rwa [qaG] at this
  have hlt:∀ x∈L,x.1 < w'.heap.size:=fun x hx=>Nat.lt_of_lt_of_le (h.lt hx) hsz
  have hok:OKL D L (qcq D L w'):=⟨h.nd,fun x hx=>qhN hlt (List.mem_map.2 ⟨x,hx,rfl⟩)⟩
  refine ⟨qc3 (qc4 fun k=>?_) ?_ ?_ ?_ ?_,hok,⟨?_,?_,?_,by rw [qeI];exact hsz,fun k hk=>?_⟩⟩
  · by_cases hk:k∈L.map (·.1)
    · obtain ⟨x,hx,rfl⟩:=List.mem_map.1 hk
      rw [qa8 hok hx,hb.block x.1 (by rw [qaG];exact h.lt hx),qa8 h hx]
    · rw [qbg hk,qcQ hk]
  · rw [qbQ,qdZ]
  · rw [qcF,qfz]
  · rw [qcO,qfq]
  · rw [qbr,qc0]
  · rw [qfq,hb.os,qcO]
  · rw [qdZ,hb.tape,qbQ]
  · rw [qc0,hb.output,qbr]
  · by_cases hd:s.heap[k]?=some (dum D)
    · exact .inl hd
    · have hk':=qg6 h hd
      exact .inr (by rw [qcQ hk',hb.block k (by rw [qaG];exact hk),qbg hk'])
theorem qaH{L:Hl}{s:World}(h:OKL D L s)(o:Obj) :
    (fill L s).alloc o=fill ((s.heap.size,o)::L) (s.alloc (dum D))∧OKL D ((s.heap.size,o)::L) (s.alloc (dum D))∧Le D s (s.alloc (dum D)):=by
  have hold:∀ k,k < s.heap.size→(s.alloc (dum D)).heap[k]?=s.heap[k]?:=fun k hk=>Below.heap_alloc s _ k hk
  have hok:OKL D ((s.heap.size,o)::L) (s.alloc (dum D)):=by
    refine ⟨?_,?_⟩
    · simp only [List.map_cons,List.nodup_cons]
      refine ⟨fun hm=>?_,h.nd⟩
      obtain ⟨x,hx,he⟩:=List.mem_map.1 hm
      have:=h.lt hx
      omega
    · intro x hx
      rcases List.mem_cons.1 hx with rfl | hx
      · exact heap_alloc_new s _
      · rw [hold _ (h.lt hx)];exact h.dm x hx
  refine ⟨qc3 (qc4 fun k=>?_) ?_ ?_ ?_ ?_,hok,⟨Z,Z,Z,by simp,fun k hk=>.inr (hold k hk)⟩⟩
  · rcases Nat.lt_trichotomy k s.heap.size with hk | rfl | hk
    · rw [Below.heap_alloc _ _ _ (by rw [qaG];exact hk)]
      by_cases hm:k∈L.map (·.1)
      · obtain ⟨x,hx,rfl⟩:=List.mem_map.1 hm
        rw [qa8 h hx,qa8 hok (List.mem_cons_of_mem _ hx)]
      · rw [qbg hm,qbg (by simp only [List.map_cons,List.mem_cons,not_or];exact ⟨by omega,hm⟩),hold k hk]
    · rw [qa8 hok Mc,← qaG L s];exact heap_alloc_new _ _
    · rw [Array.getElem?_eq_none (by simp [qaG];omega),Array.getElem?_eq_none (by rw [qaG];simp;omega)]
  · show (fill L s).tape=_;rw [qbQ,qbQ];rfl
  · show (fill L s).drawn=_;rw [qcF,qcF];rfl
  · show (fill L s).os=_;rw [qcO,qcO];rfl
  · show (fill L s).output=_;rw [qbr,qbr];rfl
def qdl(L:Hl)(i:Nat)(o:Obj):Hl:=match L,i with
 | [],_=>[]
 | x::L,0=>(x.1,o)::L
 | x::L,i+1=>x::qdl L i o
theorem qhP(L:Hl)(i:Nat)(o:Obj):(qdl L i o).map (·.1)=L.map (·.1):=by
 induction L generalizing i with
 | nil=>cases i <;> rfl
 | cons x L ih=>cases i with
  | zero=>rfl
  | succ i=>simp [qdl,ih]
theorem qdQ{L:Hl}{s:World}(h:OKL D L s)(i:Nat)(o:Obj):OKL D (qdl L i o) s:=by
 refine ⟨by rw [qhP];exact h.nd,fun x hx=>?_⟩
 have:x.1∈(qdl L i o).map (·.1):=List.mem_map.2 ⟨x,hx,rfl⟩
 rw [qhP] at this
 obtain ⟨y,hy,he⟩:=List.mem_map.1 this
 rw [← he];exact h.dm y hy
theorem qha(w:World)(b:Nat)(o p:Obj):qbn (qbn w b o) b p=qbn w b p:=by
 unfold qbn;simp
theorem qcr{L:Hl}{s:World}(h:OKL D L s){i b:Nat}{p:Obj}(hi:L[i]?=some (b,p))(o:Obj):fill (qdl L i o) s=qbn (fill L s) b o:=by
 induction L generalizing i with
 | nil=>cases hi
 | cons x L ih=>
  cases i with
  | zero=>
   simp only [List.getElem?_cons_zero,Option.some.injEq] at hi
   subst hi
   simp only [qdl,fill]
   rw [qha]
  | succ i=>
   simp only [List.getElem?_cons_succ] at hi
   have hnd:=h.nd
   simp only [List.map_cons,List.nodup_cons] at hnd
   simp only [qdl,fill]
   rw [ih h.tail hi,qea]
   intro e
   exact hnd.1 (by rw [← e];exact List.mem_map.2 ⟨_,List.mem_of_getElem? hi,rfl⟩)
theorem qko(L:Hl)(s:World):(fill L s).drew=fill L s.drew:=by
 induction L with
 | nil=>rfl
 | cons x L ih=>show qbn (fill L s).drew x.1 x.2=qbn (fill L s.drew) x.1 x.2;rw [ih]
theorem Le.drew(s:World):Le D s s.drew:=⟨rfl,rfl,rfl,Nat.le_refl _,fun _ _=>.inr rfl⟩
theorem OKL.drew{L:Hl}{s:World}(h:OKL D L s):OKL D L s.drew:=⟨h.nd,h.dm⟩
abbrev Fr:=List (Nat×Value)
def qa1:Fr→Nat→Option Value
 | [],_=>none
 | (d,v)::r,t=>bif Nat.beq d t then some v else qa1 r t
def lk(fr:Fr):Operand→Option Value
 | .tmp t=>qa1 fr t
 | .const v=>some v
 | .global g=>some (.pointer (some ⟨g,0,none⟩))
 | .func f=>some (.func (.func f) #[] #[])
structure FrRel(n:Nat)(a:Act)(fr:Fr):Prop where
 size:a.tmps.size=n
 defers:a.defers=[]
 slot:∀ t,t < n→∀ v,qa1 fr t=some v→a.tmps[t]?=some v
 top:∀ t v,qa1 fr t=some v→t < n
theorem FrRel.ev{n:Nat}{a:Act}{fr:Fr}(h:FrRel n a fr){x:Operand}{v:Value}(hx:lk fr x=some v):a.eval x=v:=by
 cases x with
 | tmp t=>
  have:=h.slot t (h.top t v hx) v hx
  simp [Act.eval,this]
 | const u=>simpa [lk,Act.eval] using hx
 | global g=>simpa [lk,Act.eval] using hx
 | func f=>simpa [lk,Act.eval] using hx
theorem qbo(d:Nat)(v:Value)(fr:Fr)(t:Nat):qa1 ((d,v)::fr) t=if d=t then some v else qa1 fr t:=by
  simp only [qa1,cond_eq_ite]
  by_cases h:d=t
  · subst h;simp
  · have:Nat.beq d t=false:=by
      cases hb:Nat.beq d t with
      | false=>rfl
      | true=>exact absurd (Nat.eq_of_beq_eq_true hb) h
    simp [h,this]
theorem FrRel.put{n:Nat}{a:Act}{fr:Fr}(h:FrRel n a fr){d:Nat}(hd:Nat.blt d n=true)(v:Value):FrRel n (a.put (some d) v) ((d,v)::fr):=by
  have hd':d < n:=Nat.le_of_ble_eq_true hd
  refine ⟨by simp [Act.put,h.size],by simp [Act.put,h.defers],fun t ht u hu=>?_,fun t u hu=>?_⟩
  · rw [qbo] at hu
    by_cases he:d=t
    · subst he;simp at hu;subst hu;simp [Act.put,h.size,hd']
    · simp only [he,if_false] at hu
      simp only [Act.put,Array.getElem?_setIfInBounds_ne he]
      exact h.slot t ht u hu
  · rw [qbo] at hu
    by_cases he:d=t
    · subst he;exact hd'
    · simp only [he,if_false] at hu;exact h.top t u hu
inductive TK where
 | sc                       -- one cell
 | sl (elem:Nat)          -- a slice
 | st (offs:List Nat)     -- a struct; the offsets of its fields
 | ar (len elem:Nat)      -- an array
def qdO:TK→Bool
 | .sc=>true
 | .sl _=>true
 | _=>false
structure TI where
 kind:TK
 desc:TypeDesc
 size:Nat
 bytes:Nat
 zeros:List Value
 fsz:List Nat:=[]      -- a struct: the sizes of its fields
def TI.zero(x:TI):Value:=match x.kind with
 | .st _=>.agg x.zeros.toArray
 | .ar _ _=>.agg x.zeros.toArray
 | _=>x.zeros.headD undef
abbrev qaZ:=List (Nat×TI)
def TK.fits:TK→TypeDesc→Prop
 | .sc,.struct _=>False
 | .sc,.array _ _=>False
 | .sc,_=>True
 | .sl e,d=>d=.slice e
 | .st offs,.struct fs=>fs.toList.map (·.offset)=offs
 | .st _,_=>False
 | .ar n e,d=>d=.array n e
def qkJ(P:Program):TypeDesc→Bool
 | .struct fs=>fs.toList.all (fun f=>decide (0 < P.cellsOf f.type))
 | _=>true
def qj5(P:Program):TypeDesc→List Nat
 | .struct fs=>fs.toList.map fun f=>P.cellsOf f.type
 | _=>[]
def TI.ok(P:Program)(t:Nat)(x:TI):Prop:=
 P.underlying t=some x.desc∧x.kind.fits x.desc∧(P.info? t).map (fun i=>(i.size,i.bytes,i.zero))=some (x.size,x.bytes,some x.zero)∧x.zeros.length=x.size∧x.zeros.all (·.oneCell')=true∧0 < x.size∧(qdO x.kind=true→x.size=1) ∧
 qkJ P x.desc=true∧qj5 P x.desc=x.fsz
def TabOK(P:Program)(TT:qaZ):Prop:=∀ x∈TT,x.2.ok P x.1
def qaB:qaZ→Nat→Option TI
 | [],_=>none
 | (d,v)::r,t=>bif Nat.beq d t then some v else qaB r t
theorem qkL{TT:qaZ}{t:Nat}{x:TI}(h:qaB TT t=some x):(t,x)∈TT:=by
  induction TT with
  | nil=>cases h
  | cons y TT ih=>
    obtain ⟨d,v⟩:=y
    simp only [qaB,cond_eq_ite] at h
    by_cases he:Nat.beq d t=true
    · simp only [he,if_true,Option.some.injEq] at h
      have:d=t:=by simpa using he
      subst h;subst this;exact List.mem_cons_self ..
    · simp only [he] at h;exact List.mem_cons_of_mem _ (ih h)
theorem TabOK.at_{P:Program}{TT:qaZ}(h:TabOK P TT){t:Nat}{x:TI}(hx:qaB TT t=some x):x.ok P t:=h _ (qkL hx)
abbrev qbD:=Exit→Fr→Hl→World→Prop
def conc(D n:Nat)(Q:qbD):Exit→Act→World→Prop:=fun e a w=>∃ fr L s,FrRel n a fr∧OKL D L s∧w=fill L s∧Q e fr L s
def JC(P:Program)(TT:qaZ)(D n:Nat)(Q:qbD)(c:Code)(fr:Fr)(L:Hl)(s:World):Prop:=
 TabOK P TT→∀ a,FrRel n a fr→OKL D L s→c.wp P (conc D n Q) a (fill L s)
def JO(P:Program)(TT:qaZ)(D n:Nat)(ops:Array Oper)(Q:qbD)(l:List Oper)(fr:Fr)(L:Hl)(s:World):Prop:=
 TabOK P TT→∀ a,FrRel n a fr→OKL D L s→wpList P ops (conc D n Q) l a (fill L s)
section control
variable{P:Program}{TT:qaZ}{D n:Nat}{Q:qbD}{fr:Fr}{L:Hl}{s:World}
def qaJ(J:Fr→Hl→World→Prop)(Q:qbD):qbD
 | .normal,fr,L,s=>J fr L s
 | e,fr,L,s=>Q e fr L s
def qaw(id:Nat)(Q:qbD):qbD
 | .exit i,fr,L,s=>if i=id then Q .normal fr L s else Q (.exit i) fr L s
 | e,fr,L,s=>Q e fr L s
theorem qrp(h:Q .normal fr L s):JC P TT D n Q .skip fr L s:=fun _ _ hr ho=>wp_skip ⟨fr,L,s,hr,ho,rfl,h⟩
theorem qrg{id:Nat}(h:Q (.exit id) fr L s):JC P TT D n Q (.exit id) fr L s:=fun _ _ hr ho=>wp_exit ⟨fr,L,s,hr,ho,rfl,h⟩
theorem qt6(h:Q .ret fr L s):JC P TT D n Q .ret fr L s:=fun _ _ hr ho=>wp_ret ⟨fr,L,s,hr,ho,rfl,h⟩
theorem qpC{x y:Code}(h:JC P TT D n (qaJ (JC P TT D n Q y) Q) x fr L s):JC P TT D n Q (.seq x y) fr L s:=fun ht a hr ho=>
 wp_seq (wp_mono (h ht a hr ho) fun e a w ⟨fr',L',s',h1,h2,h3,h4⟩=>by
  cases e with
  | normal=>subst h3;exact h4 ht a h1 h2
  | _=>exact ⟨fr',L',s',h1,h2,h3,h4⟩)
theorem qnR{id:Nat}{c:Code}(h:JC P TT D n (qaw id Q) c fr L s):JC P TT D n Q (.block id c) fr L s:=fun ht a hr ho=>
 wp_block (wp_mono (h ht a hr ho) fun e a w ⟨fr',L',s',h1,h2,h3,h4⟩=>by
  cases e with
  | exit i=>
   simp only [qaw] at h4
   simp only [Exit.inBlock]
   by_cases hi:i=id
   · simp only [hi,if_true] at h4 ⊢;exact ⟨fr',L',s',h1,h2,h3,h4⟩
   · simp only [hi,if_false] at h4 ⊢;exact ⟨fr',L',s',h1,h2,h3,h4⟩
  | _=>exact ⟨fr',L',s',h1,h2,h3,h4⟩)
theorem qcf{c:Operand}{x y:Code}{b:Bool}(hc:lk fr c=some (.bool b))(h1:b=true→JC P TT D n Q x fr L s)(h2:b=false→JC P TT D n Q y fr L s):JC P TT D n Q (.cond c x y) fr L s:=
 fun ht a hr ho=>wp_cond_split (hr.ev hc) (fun hb=>h1 hb ht a hr ho) (fun hb=>h2 hb ht a hr ho)
theorem qaa{c:Operand}{x y:Code}{p:Prop} [Decidable p] (hc:lk fr c=some (.bool (decide p))) (h1:p→JC P TT D n Q x fr L s) (h2:¬ p→JC P TT D n Q y fr L s):JC P TT D n Q (.cond c x y) fr L s:=
 qcf hc (fun hb=>h1 (of_decide_eq_true hb)) (fun hb=>h2 (of_decide_eq_false hb))
theorem qaP{c:Operand}{x y:Code}{p:Prop} [Decidable p] (hc:lk fr c=some (.bool (!decide p))) (h1:¬ p→JC P TT D n Q x fr L s) (h2:p→JC P TT D n Q y fr L s):JC P TT D n Q (.cond c x y) fr L s:=
 qcf hc (fun hb=>h1 (by simpa using hb)) (fun hb=>h2 (by simpa using hb))
theorem qcH{c:Operand}{x y:Code}{b:Bool}(hc:lk fr c=some (.bool (!b)))(h1:b=false→JC P TT D n Q x fr L s)(h2:b=true→JC P TT D n Q y fr L s):JC P TT D n Q (.cond c x y) fr L s:=
 qcf hc (fun hb=>h1 (by simpa using hb)) (fun hb=>h2 (by simpa using hb))
theorem qtD{c:Operand}{x y:Code}(hc:lk fr c=some (.bool true))(h1:JC P TT D n Q x fr L s):JC P TT D n Q (.cond c x y) fr L s:=
 qcf hc (fun _=>h1) (fun hb=>by cases hb)
theorem quf{c:Operand}{x y:Code}(hc:lk fr c=some (.bool false))(h2:JC P TT D n Q y fr L s):JC P TT D n Q (.cond c x y) fr L s:=
 qcf hc (fun hb=>by cases hb) (fun _=>h2)
theorem qhR{id:Nat}{l:List Oper}(h:JO P TT D n l.toArray Q l fr L s):JC P TT D n Q (.region id l.toArray false) fr L s:=
 fun ht a hr ho=>wp_region_lit (h ht a hr ho)
theorem qpd{ops:Array Oper}(h:Q .normal fr L s):JO P TT D n ops Q [] fr L s:=fun _ _ hr ho=>⟨fr,L,s,hr,ho,rfl,h⟩
theorem qhS{l fr:Fr}(t:Nat):qa1 (l++fr) t=(qa1 l t).or (qa1 fr t):=by
 induction l with
 | nil=>simp [qa1]
 | cons x l ih=>
  obtain ⟨d,v⟩:=x
  rw [List.cons_append,qbo,qbo]
  by_cases h:d=t <;> simp [h,ih]
theorem FrRel.sub{n:Nat}{a:Act}{fr l:Fr}(h:FrRel n a fr)(hs:∀ t v,qa1 l t=some v→qa1 fr t=some v):FrRel n a l:=
 ⟨h.size,h.defers,fun t ht v hv=>h.slot t ht v (hs t v hv),fun t v hv=>h.top t v (hs t v hv)⟩
def Keeps(fr l:Fr):Prop:=∀ t v,qa1 l t=some v→qa1 fr t=some v
theorem Keeps.nil(fr:Fr):Keeps fr []:=fun _ _ h=>by cases h
theorem Keeps.cons{fr l:Fr}{d:Nat}{v:Value}(h1:qa1 fr d=some v)(h:Keeps fr l):Keeps fr ((d,v)::l):=fun t u hu=>by
 rw [qbo] at hu
 by_cases he:d=t
 · subst he;simp at hu;subst hu;exact h1
 · simp only [he,if_false] at hu;exact h t u hu
theorem Keeps.c6{fr l:Fr}{d0:Nat}{v0:Value}{d1:Nat}{v1:Value}{d2:Nat}{v2:Value}{d3:Nat}{v3:Value}{d4:Nat}{v4:Value}{d5:Nat}{v5:Value}(h0:qa1 fr d0=some v0)(h1:qa1 fr d1=some v1)(h2:qa1 fr d2=some v2)(h3:qa1 fr d3=some v3)(h4:qa1 fr d4=some v4)(h5:qa1 fr d5=some v5)(h:Keeps fr l):Keeps fr ((d0,v0)::(d1,v1)::(d2,v2)::(d3,v3)::(d4,v4)::(d5,v5)::l):=Keeps.cons h0 (Keeps.cons h1 (Keeps.cons h2 (Keeps.cons h3 (Keeps.cons h4 (Keeps.cons h5 (h))))))
theorem Keeps.c5{fr l:Fr}{d0:Nat}{v0:Value}{d1:Nat}{v1:Value}{d2:Nat}{v2:Value}{d3:Nat}{v3:Value}{d4:Nat}{v4:Value}(h0:qa1 fr d0=some v0)(h1:qa1 fr d1=some v1)(h2:qa1 fr d2=some v2)(h3:qa1 fr d3=some v3)(h4:qa1 fr d4=some v4)(h:Keeps fr l):Keeps fr ((d0,v0)::(d1,v1)::(d2,v2)::(d3,v3)::(d4,v4)::l):=Keeps.cons h0 (Keeps.cons h1 (Keeps.cons h2 (Keeps.cons h3 (Keeps.cons h4 (h)))))
theorem Keeps.c4{fr l:Fr}{d0:Nat}{v0:Value}{d1:Nat}{v1:Value}{d2:Nat}{v2:Value}{d3:Nat}{v3:Value}(h0:qa1 fr d0=some v0)(h1:qa1 fr d1=some v1)(h2:qa1 fr d2=some v2)(h3:qa1 fr d3=some v3)(h:Keeps fr l):Keeps fr ((d0,v0)::(d1,v1)::(d2,v2)::(d3,v3)::l):=Keeps.cons h0 (Keeps.cons h1 (Keeps.cons h2 (Keeps.cons h3 (h))))
theorem Keeps.c3{fr l:Fr}{d0:Nat}{v0:Value}{d1:Nat}{v1:Value}{d2:Nat}{v2:Value}(h0:qa1 fr d0=some v0)(h1:qa1 fr d1=some v1)(h2:qa1 fr d2=some v2)(h:Keeps fr l):Keeps fr ((d0,v0)::(d1,v1)::(d2,v2)::l):=Keeps.cons h0 (Keeps.cons h1 (Keeps.cons h2 (h)))
theorem Keeps.c2{fr l:Fr}{d0:Nat}{v0:Value}{d1:Nat}{v1:Value}(h0:qa1 fr d0=some v0)(h1:qa1 fr d1=some v1)(h:Keeps fr l):Keeps fr ((d0,v0)::(d1,v1)::l):=Keeps.cons h0 (Keeps.cons h1 (h))
theorem qav{γ:Type}{c:Code}(S:γ→Fr)(H:γ→Hl)(I:γ→World→Prop)(μ:γ→Nat)(mono:∀ g s s',I g s→Le D s s'→I g s')(g0:γ)
  (hS:Keeps fr (S g0)) (hL:L=H g0) (hI:I g0 s)
  (round:∀ g s,I g s→JC P TT D n (qaJ (fun fr' L' s'=>∃ g' A,Keeps fr' (S g')∧L'=A++H g'∧I g' s'∧μ g' < μ g) Q) c (S g) (H g) s) :
  JC P TT D n Q (.loop c) fr L s:=fun ht a hr ho=>by
 refine wp_loop_ghost (fun m a w=>∃ g s,μ g=m∧FrRel n a (S g)∧OKL D (H g) s∧w=fill (H g) s∧I g s) (μ g0) ⟨g0,s,Z,hr.sub hS,hL▸ho,hL▸Z,hI⟩ ?_
 rintro m a w ⟨g,s,rfl,h1,h2,rfl,h4⟩
 refine wp_mono (round g s h4 ht a h1 h2) ?_
 rintro e a' w' ⟨fr',L',s',k1,k2,rfl,k4⟩
 cases e with
 | normal=>
  obtain ⟨g',A,j1,rfl,j3,j4⟩:=k4
  obtain ⟨e,d1,d2⟩:=qbm k2
  exact ⟨μ g',j4,g',_,rfl,k1.sub j1,d1,e,mono _ _ _ j3 d2⟩
 | _=>exact ⟨fr',L',s',k1,k2,rfl,k4⟩
end control
def cb(zs:List Value)(t:Nat):Obj:=.cells zs.toArray t (0,0)
abbrev St(l:List UInt8):Value:=.string ⟨l.toArray⟩
def Ev(P:Program)(TT:qaZ)(D:Nat)(fr:Fr)(op:Op)(ty:Nat)(L:Hl)(s:World)(r:Next)(L':Hl)(s':World):Prop:=
 TabOK P TT→OKL D L s→∀ (dst:Option Nat) (pos:String) (af:Array Edge) (g:Option (Nat×Bool)) (ρ:Operand→Value),(∀ x v,lk fr x=some v→ρ x=v)→(execOp ρ ⟨dst,op,ty,pos,af,g⟩).run P (fill L s)=.ok r (fill L' s')∧OKL D L' s'
def QE(P:Program)(TT:qaZ)(D:Nat)(fr:Fr)(op:Op)(ty:Nat)(K:Hl)(s0:World)(v:Value):Prop:=
 TabOK P TT→∀ (dst:Option Nat) (pos:String) (af:Array Edge) (g:Option (Nat×Bool)) (ρ:Operand→Value),(∀ x v,lk fr x=some v→ρ x=v) →
  ∀ L s,OKL D L s→Le D s0 s→(∀ x∈K,x∈L)→(execOp ρ ⟨dst,op,ty,pos,af,g⟩).run P (fill L s)=.ok (.value v) (fill L s)
theorem QE.pure{P:Program}{TT:qaZ}{D:Nat}{fr:Fr}{op:Op}{ty:Nat}{K:Hl}{s0:World}{v:Value}
  (h:TabOK P TT→∀ (dst:Option Nat) (pos:String) (af:Array Edge) (g:Option (Nat×Bool)) (ρ:Operand→Value),(∀ x v,lk fr x=some v→ρ x=v)→∀ w,(execOp ρ ⟨dst,op,ty,pos,af,g⟩).run P w=.ok (.value v) w):QE P TT D fr op ty K s0 v:=
 fun ht dst pos af g ρ hρ L s _ _ _=>h ht dst pos af g ρ hρ _
section
variable{P:Program}{TT:qaZ}{D n:Nat}{Q:qbD}{fr:Fr}{L L':Hl}{s s':World}{ops:Array Oper}{rest:List Oper}{d ty:Nat}{op:Op}{pos:String}{af:Array Edge}{v:Value}
theorem qf6(hd:Nat.blt d n=true)(h:Ev P TT D fr op ty L s (.value v) L' s')(k:JO P TT D n ops Q rest ((d,v)::fr) L' s') :
  JO P TT D n ops Q (⟨some d,op,ty,pos,af,none⟩::rest) fr L s:=fun ht a hr ho=>by
 obtain ⟨h1,h2⟩:=h ht ho (some d) pos af none a.eval (fun x v hx=>hr.ev hx)
 simp only [wpList,Region.wanted,if_true]
 refine .inl ?_
 simp only [Oper.wp,h1,Oper.upon]
 exact k ht _ (hr.put hd v) h2
theorem qq3(h:Ev P TT D fr op ty L s .skip L' s')(k:JO P TT D n ops Q rest fr L' s') :
  JO P TT D n ops Q (⟨none,op,ty,pos,af,none⟩::rest) fr L s:=fun ht a hr ho=>by
 obtain ⟨h1,h2⟩:=h ht ho none pos af none a.eval (fun x v hx=>hr.ev hx)
 simp only [wpList,Region.wanted,if_true]
 refine .inl ?_
 simp only [Oper.wp,h1,Oper.upon]
 exact k ht _ hr h2
theorem qac(h:QE P TT D fr op ty L s v)(hd:Nat.blt d n=true)(k:JO P TT D n ops Q rest ((d,v)::fr) L s):JO P TT D n ops Q (⟨some d,op,ty,pos,af,none⟩::rest) fr L s:=
 qf6 hd (fun ht ho dst pos af g ρ hρ=>⟨h ht dst pos af g ρ hρ L s ho (Le.refl _) (fun _ hx=>hx),ho⟩) k
def qd3(ops:Array Oper)(j:Nat):Option Nat:=(ops[j]?).bind (·.dst)
theorem quP{dst:Option Nat}{j t:Nat}{w:Bool}(hj:qd3 ops j=some t)(hv:qa1 fr t=some (.bool w))
  (k:JO P TT D n ops Q (⟨dst,op,ty,pos,af,none⟩::rest) fr L s):JO P TT D n ops Q (⟨dst,op,ty,pos,af,some (j,w)⟩::rest) fr L s:=fun ht a hr ho=>by
 have k1:=k ht a hr ho
 have hy:yielded ops a.tmps j=some w:=by
  have h1:=hr.slot t (hr.top _ _ hv) _ hv
  unfold qd3 at hj
  simp [yielded,hj,h1]
 simp only [wpList,Region.wanted,if_true] at k1
 simp only [wpList,Region.wanted,hy,beq_self_eq_true,if_true]
 exact k1
theorem qsK{d:Nat}{j t:Nat}{w b:Bool}(hd:Nat.blt d n=true)(hj:qd3 ops j=some t)(hv:qa1 fr t=some (.bool b))(hb:(b != w)=true)
  (k:JO P TT D n ops Q rest ((d,undef)::fr) L s):JO P TT D n ops Q (⟨some d,op,ty,pos,af,some (j,w)⟩::rest) fr L s:=fun ht a hr ho=>by
 have hy:yielded ops a.tmps j=some b:=by
  have h1:=hr.slot t (hr.top _ _ hv) _ hv
  unfold qd3 at hj
  simp [yielded,hj,h1]
 have hne:(some b == some w)=false:=by cases b <;> cases w <;> simp_all
 simp only [wpList,Region.wanted,hy,hne,Bool.false_eq_true,if_false]
 exact k ht _ (hr.put hd undef) ho
theorem Wf{d:Nat}{j t:Nat}{w b:Bool}(hY:(Nat.blt d n=true)∧(qd3 ops j=some t)∧(qa1 fr t=some (.bool b))∧((b != w)=true))
  (k:JO P TT D n ops Q rest ((d,undef)::fr) L s):JO P TT D n ops Q (⟨some d,op,ty,pos,af,some (j,w)⟩::rest) fr L s:=qsK hY.1 hY.2.1 hY.2.2.1 hY.2.2.2 k
theorem qvs{d:Nat}{j t:Nat}{w:Bool}(hd:Nat.blt d n=true)(hj:qd3 ops j=some t)(hv:qa1 fr t=some undef)
  (k:JO P TT D n ops Q rest ((d,undef)::fr) L s):JO P TT D n ops Q (⟨some d,op,ty,pos,af,some (j,w)⟩::rest) fr L s:=fun ht a hr ho=>by
 have hy:yielded ops a.tmps j=none:=by
  have h1:=hr.slot t (hr.top _ _ hv) _ hv
  unfold qd3 at hj
  simp [yielded,hj,h1,undef]
 simp only [wpList,Region.wanted,hy]
 exact k ht _ (hr.put hd undef) ho
theorem qc9{l:List Oper}{t:Nat}{b:Bool}(hv:qa1 fr t=some (.bool b))(h1:b=true→JO P TT D n ops Q l ((t,.bool true)::fr) L s)(h2:b=false→JO P TT D n ops Q l ((t,.bool false)::fr) L s) :
  JO P TT D n ops Q l fr L s:=fun ht a hr ho=>by
 cases b with
 | true=>exact h1 rfl ht a (hr.sub fun t' v' h=>by rw [qbo] at h;split at h <;> simp_all) ho
 | false=>exact h2 rfl ht a (hr.sub fun t' v' h=>by rw [qbo] at h;split at h <;> simp_all) ho
theorem qak{l:List Oper}{t:Nat}{p:Prop} [Decidable p] (hv:qa1 fr t=some (.bool (decide p))) (h1:p→JO P TT D n ops Q l ((t,.bool true)::fr) L s) (h2:¬ p→JO P TT D n ops Q l ((t,.bool false)::fr) L s) :
  JO P TT D n ops Q l fr L s:=qc9 hv (fun h=>h1 (of_decide_eq_true h)) (fun h=>h2 (of_decide_eq_false h))
theorem qnI{l:List Oper}{t:Nat}{b:Bool}(hv:qa1 fr t=some (.bool (!b)))(h1:b=false→JO P TT D n ops Q l ((t,.bool true)::fr) L s)(h2:b=true→JO P TT D n ops Q l ((t,.bool false)::fr) L s) :
  JO P TT D n ops Q l fr L s:=qc9 hv (fun h=>h1 (by simpa using h)) (fun h=>h2 (by simpa using h))
theorem qaE{l:List Oper}{t:Nat}{p:Prop} [Decidable p] (hv:qa1 fr t=some (.bool (!decide p))) (h1:¬ p→JO P TT D n ops Q l ((t,.bool true)::fr) L s) (h2:p→JO P TT D n ops Q l ((t,.bool false)::fr) L s) :
  JO P TT D n ops Q l fr L s:=qc9 hv (fun h=>h1 (by simpa using h)) (fun h=>h2 (by simpa using h))
end
section
variable{P:Program}{TT:qaZ}{D:Nat}{fr:Fr}{ty:Nat}{v:Value}{K:Hl}{s0:World}
theorem qan{x:Operand}(hx:lk fr x=some v):QE P TT D fr (.move x) ty K s0 v:=QE.pure fun _ dst pos af g ρ hρ w=>by simp [execOp,hρ x v hx]
theorem qaM{x:Operand}(hx:lk fr x=some v):QE P TT D fr (.assign x) ty K s0 v:=QE.pure fun _ dst pos af g ρ hρ w=>by simp [execOp,hρ x v hx]
theorem qep{c x y:Operand}(hc:lk fr c=some (.bool true))(hx:lk fr x=some v):QE P TT D fr (.pick c x y) ty K s0 v:=QE.pure fun _ dst pos af g ρ hρ w=>by simp [execOp,hρ x v hx,hρ c _ hc,asBool]
theorem qeo{c x y:Operand}(hc:lk fr c=some (.bool false))(hx:lk fr y=some v):QE P TT D fr (.pick c x y) ty K s0 v:=QE.pure fun _ dst pos af g ρ hρ w=>by simp [execOp,hρ y v hx,hρ c _ hc,asBool]
theorem qiO{x:Operand}{b:Bool}{t:Nat}(hx:lk fr x=some (.bool b)):QE P TT D fr (.unOp .not t x) ty K s0 (.bool (!b)):=QE.pure fun _ dst pos af g ρ hρ w=>by simp [execOp,hρ x _ hx,Op.unary]
theorem qqZ{x:Operand}{t:Nat}(hx:lk fr x=some (.bool true)):QE P TT D fr (.unOp .not t x) ty K s0 (.bool false):=qiO hx
theorem qse{x:Operand}{t:Nat}(hx:lk fr x=some (.bool false)):QE P TT D fr (.unOp .not t x) ty K s0 (.bool true):=qiO hx
def nth:List Value→Nat→Option Value
 | [],_=>none
 | x::_,0=>some x
 | _::r,k+1=>nth r k
theorem qeE(l:List Value)(i:Nat):nth l i=l[i]?:=by
 induction l generalizing i with
 | nil=>rfl
 | cons x l ih=>cases i <;> simp [nth,ih]
theorem qaX{x:Operand}{i:Nat}{vs:List Value}(hx:lk fr x=some (.tuple vs.toArray))(hi:nth vs i=some v):QE P TT D fr (.extract x i) ty K s0 v:=
 QE.pure fun _ dst pos af g ρ hρ w=>by rw [qeE] at hi;simp [execOp,hρ x _ hx,Instr.extract,hi]
theorem qbx{x:Operand}{a:Addr}(hx:lk fr x=some (.pointer (some a))):QE P TT D fr (.nilCheck x) ty K s0 (.pointer (some a)):=QE.pure fun _ dst pos af g ρ hρ w=>by simp [execOp,hρ x _ hx]
theorem qa9{x y:Operand}{ik:IntKind}{a b:Int}{t t':Nat}(hx:lk fr x=some (.int ik a))(hy:lk fr y=some (.int ik b)):QE P TT D fr (.binOp .eql t x y t') ty K s0 (.bool (decide (a=b))):=
 QE.pure fun _ dst pos af g ρ hρ w=>by simp [execOp,hρ x _ hx,hρ y _ hy,eqGuard,binOp,Op.intCmp];rfl
theorem qec{x y:Operand}{ik:IntKind}{a b:Int}{t t':Nat}(hx:lk fr x=some (.int ik a))(hy:lk fr y=some (.int ik b)):QE P TT D fr (.binOp .neq t x y t') ty K s0 (.bool (!decide (a=b))):=
 QE.pure fun _ dst pos af g ρ hρ w=>by simp [execOp,hρ x _ hx,hρ y _ hy,eqGuard,binOp,Op.intCmp];rfl
theorem qb7{x y:Operand}{ik:IntKind}{a b:Int}{t t':Nat}(hx:lk fr x=some (.int ik a))(hy:lk fr y=some (.int ik b)):QE P TT D fr (.binOp .lss t x y t') ty K s0 (.bool (decide (a < b))):=
 QE.pure fun _ dst pos af g ρ hρ w=>by simp [execOp,hρ x _ hx,hρ y _ hy,eqGuard,binOp,Op.intCmp]
theorem qrL{x y:Operand}{ik:IntKind}{a b:Int}{t t':Nat}(hx:lk fr x=some (.int ik a))(hy:lk fr y=some (.int ik b)):QE P TT D fr (.binOp .leq t x y t') ty K s0 (.bool (decide (a≤b))):=
 QE.pure fun _ dst pos af g ρ hρ w=>by simp [execOp,hρ x _ hx,hρ y _ hy,eqGuard,binOp,Op.intCmp]
theorem qdn{x y:Operand}{ik:IntKind}{a b:Int}{t t':Nat}(hx:lk fr x=some (.int ik a))(hy:lk fr y=some (.int ik b)):QE P TT D fr (.binOp .gtr t x y t') ty K s0 (.bool (decide (b < a))):=
 QE.pure fun _ dst pos af g ρ hρ w=>by simp [execOp,hρ x _ hx,hρ y _ hy,eqGuard,binOp,Op.intCmp]
theorem qtl{x y:Operand}{ik:IntKind}{a b:Int}{t t':Nat}(hx:lk fr x=some (.int ik a))(hy:lk fr y=some (.int ik b)):QE P TT D fr (.binOp .geq t x y t') ty K s0 (.bool (decide (b≤a))):=
 QE.pure fun _ dst pos af g ρ hρ w=>by simp [execOp,hρ x _ hx,hρ y _ hy,eqGuard,binOp,Op.intCmp]
theorem qe0{x y:Operand}{ik:IntKind}{a b:Int}{t t':Nat}(hx:lk fr x=some (.int ik a))(hy:lk fr y=some (.int ik b)):QE P TT D fr (.binOp .add t x y t') ty K s0 (.int ik (ik.wrap (a+b))):=
 QE.pure fun _ dst pos af g ρ hρ w=>by simp [execOp,hρ x _ hx,hρ y _ hy,eqGuard,binOp,Op.intArith]
theorem qaR{x y:Operand}{ik:IntKind}{a b c:Int}{t t':Nat}(hx:lk fr x=some (.int ik a))(hy:lk fr y=some (.int ik b))(hc:ik.wrap (a+b)=c):QE P TT D fr (.binOp .add t x y t') ty K s0 (.int ik c):=hc▸qe0 hx hy
theorem qfO{x y:Operand}{ik:IntKind}{a b:Int}{t t':Nat}(hx:lk fr x=some (.int ik a))(hy:lk fr y=some (.int ik b)):QE P TT D fr (.binOp .sub t x y t') ty K s0 (.int ik (ik.wrap (a - b))):=
 QE.pure fun _ dst pos af g ρ hρ w=>by simp [execOp,hρ x _ hx,hρ y _ hy,eqGuard,binOp,Op.intArith]
theorem qbd{x y:Operand}{ik:IntKind}{a b c:Int}{t t':Nat}(hx:lk fr x=some (.int ik a))(hy:lk fr y=some (.int ik b))(hc:ik.wrap (a - b)=c):QE P TT D fr (.binOp .sub t x y t') ty K s0 (.int ik c):=hc▸qfO hx hy
theorem qhn{x y:Operand}{ik:IntKind}{a b:Int}{t t':Nat}(hx:lk fr x=some (.int ik a))(hy:lk fr y=some (.int ik b)):QE P TT D fr (.binOp .mul t x y t') ty K s0 (.int ik (ik.wrap (a * b))):=
 QE.pure fun _ dst pos af g ρ hρ w=>by simp [execOp,hρ x _ hx,hρ y _ hy,eqGuard,binOp,Op.intArith]
theorem qev{x y:Operand}{ik:IntKind}{a b:Int}{t t':Nat}(hx:lk fr x=some (.int ik a))(hy:lk fr y=some (.int ik b))(hb:b≠0):QE P TT D fr (.binOp .quo t x y t') ty K s0 (.int ik (ik.wrap (a.tdiv b))):=
 QE.pure fun _ dst pos af g ρ hρ w=>by simp [execOp,hρ x _ hx,hρ y _ hy,eqGuard,binOp,Op.intDiv,hb]
theorem qhD{x y:Operand}{ik:IntKind}{a b:Int}{t t':Nat}(hx:lk fr x=some (.int ik a))(hy:lk fr y=some (.int ik b))(hb:b≠0):QE P TT D fr (.binOp .rem t x y t') ty K s0 (.int ik (a.tmod b)):=
 QE.pure fun _ dst pos af g ρ hρ w=>by simp [execOp,hρ x _ hx,hρ y _ hy,eqGuard,binOp,Op.intDiv,hb]
theorem qhv{x y:Operand}{ik jk:IntKind}{a b:Int}{t t':Nat}{bo:BinOp}(hx:lk fr x=some (.int ik a))(hy:lk fr y=some (.int jk b))(hne:bo≠.eql∧bo≠.neq)(h:∀ w,(binOp bo t (.int ik a) (.int jk b)).run P w=.ok v w):QE P TT D fr (.binOp bo t x y t') ty K s0 v:=
 QE.pure fun _ dst pos af g ρ hρ w=>by
  obtain ⟨h1,h2⟩:=hne
  have hg:(eqGuard bo t x y (.int ik a) (.int jk b)).run P w=.ok () w:=by cases bo <;> simp_all [eqGuard]
  simp [execOp,hρ x _ hx,hρ y _ hy,hg,h w]
theorem qiZ{x y:Operand}{a b:List UInt8}{t t':Nat}(hx:lk fr x=some (St a))(hy:lk fr y=some (St b)):QE P TT D fr (.binOp .eql t x y t') ty K s0 (.bool (decide (a=b))):=
 QE.pure fun _ dst pos af g ρ hρ w=>by simp [execOp,hρ x _ hx,hρ y _ hy,eqGuard,binOp,Op.stringOp];by_cases h:a=b <;> simp [h]
theorem qsY{x y:Operand}{a b:List UInt8}{t t':Nat}(hx:lk fr x=some (St a))(hy:lk fr y=some (St b)):QE P TT D fr (.binOp .neq t x y t') ty K s0 (.bool (!decide (a=b))):=
 QE.pure fun _ dst pos af g ρ hρ w=>by simp [execOp,hρ x _ hx,hρ y _ hy,eqGuard,binOp,Op.stringOp];by_cases h:a=b <;> simp [h]
theorem qhy{P:Program}{t:Nat}(h:P.underlying t=some .bool)(a b:Bool)(w:World):(Op.equal t (.bool a) (.bool b)).run P w=.ok (decide (a=b)) w:=by
 rw [run_equal_bool w t a b h]
 cases a <;> cases b <;> rfl
def EqA(P:Program)(t:Nat)(xs ys:List Value)(b:Bool):Prop:=P.eqGuardType P.depth t=false∧∀ w,(Op.equal t (.agg xs.toArray) (.agg ys.toArray)).run P w=.ok b w
theorem qjs{x y:Operand}{xs ys:List Value}{b:Bool}{t t':Nat}(hx:lk fr x=some (.agg xs.toArray))(hy:lk fr y=some (.agg ys.toArray))(hE:EqA P t xs ys b):QE P TT D fr (.binOp .eql t x y t') ty K s0 (.bool b):=
 QE.pure fun ht dst pos af g ρ hρ w=>by simp [execOp,hρ x _ hx,hρ y _ hy,eqGuard,binOp,hE.1,hE.2 w]
theorem qgw{x y:Operand}{xs ys:List Value}{b:Bool}{t t':Nat}(hx:lk fr x=some (.agg xs.toArray))(hy:lk fr y=some (.agg ys.toArray))(hE:EqA P t xs ys b):QE P TT D fr (.binOp .neq t x y t') ty K s0 (.bool (!b)):=
 QE.pure fun ht dst pos af g ρ hρ w=>by simp [execOp,hρ x _ hx,hρ y _ hy,eqGuard,binOp,hE.1,hE.2 w]
theorem qtc{x y:Operand}{a b:Bool}{t t':Nat}{ti:TI}(hx:lk fr x=some (.bool a))(hy:lk fr y=some (.bool b))(hu:qaB TT t=some ti)(hu':ti.desc=.bool):QE P TT D fr (.binOp .eql t x y t') ty K s0 (.bool (decide (a=b))):=
 QE.pure fun ht dst pos af g ρ hρ w=>by
  have h1:=(ht.at_ hu).1;rw [hu'] at h1
  simp [execOp,hρ x _ hx,hρ y _ hy,eqGuard,binOp,qhy h1]
end
def CellsAt(s:World)(b off:Nat)(vs:List Value):Prop:=∀ j v,vs[j]?=some v→s.cell? ⟨b,off+j,none⟩=some v
theorem CellsAt.le{D:Nat}{s s':World}{b off:Nat}{vs:List Value}(h:CellsAt s b off vs)(hl:Le D s s'):CellsAt s' b off vs:=fun j v hj=>hl.cell (h j v hj)
theorem add_lit(b off j:Nat):(⟨b,off,none⟩:Addr).add j=⟨b,off+j,none⟩:=by unfold Addr.add;split <;> simp_all
section
variable{P:Program}{TT:qaZ}{D:Nat}
theorem qhW{t:Nat}{ti:TI}(h:ti.ok P t)(hk:ti.kind=.sc)(w:World):(isAgg t).run P w=.ok false w:=by
 obtain ⟨h1,h2,_⟩:=h
 rw [hk] at h2
 unfold isAgg
 simp only [Sem.run_bind,run_underlying h1,Result.andThen_ok]
 generalize ti.desc=dd at h2
 cases dd <;> simp_all [TK.fits]
theorem qhQ{t e:Nat}{ti:TI}(h:ti.ok P t)(hk:ti.kind=.sl e)(w:World):(isAgg t).run P w=.ok false w:=by
 obtain ⟨h1,h2,_⟩:=h
 rw [hk] at h2
 unfold isAgg
 simp only [TK.fits] at h2
 simp [run_underlying h1,h2]
theorem qhz{t:Nat}{os:List Nat}{ti:TI}(h:ti.ok P t)(hk:ti.kind=.st os)(w:World):(isAgg t).run P w=.ok true w:=by
 obtain ⟨h1,h2,_⟩:=h
 rw [hk] at h2
 unfold isAgg
 simp only [Sem.run_bind,run_underlying h1,Result.andThen_ok]
 generalize ti.desc=dd at h2
 cases dd <;> simp_all [TK.fits]
theorem qhA{t m e:Nat}{ti:TI}(h:ti.ok P t)(hk:ti.kind=.ar m e)(w:World):(isAgg t).run P w=.ok true w:=by
 obtain ⟨h1,h2,_⟩:=h
 rw [hk] at h2
 unfold isAgg
 simp only [TK.fits] at h2
 simp [run_underlying h1,h2]
theorem qdu{t:Nat}{ti:TI}(h:ti.ok P t):∃ i,P.info? t=some i∧i.size=ti.size∧i.bytes=ti.bytes∧i.zero=some ti.zero:=by
 obtain ⟨_,_,h3,_⟩:=h
 cases hi:P.info? t with
 | none=>simp [hi] at h3
 | some i=>simp [hi] at h3;exact ⟨i,rfl,h3.1,h3.2.1,h3.2.2⟩
theorem qbH{t:Nat}{ti:TI}(h:ti.ok P t)(w:World):(sizeOf t).run P w=.ok ti.size w:=by
 obtain ⟨i,h1,h2,_,_⟩:=qdu h
 simp [sizeOf,typeInfo,h1,h2]
theorem qey{t:Nat}{ti:TI}(h:ti.ok P t)(w:World):(zeroValue t).run P w=.ok ti.zero w:=by
 obtain ⟨i,h1,_,_,h2⟩:=qdu h
 simp [zeroValue,typeInfo,h1,h2]
theorem qeH{t:Nat}{ti:TI}(h:ti.ok P t)(w:World):(isAgg t).run P w=.ok (!qdO ti.kind) w:=by
 cases hk:ti.kind with
 | sc=>exact qhW h hk w
 | sl e=>exact qhQ h hk w
 | st os=>exact qhz h hk w
 | ar m e=>exact qhA h hk w
theorem qcD{t:Nat}{ti:TI}(h:ti.ok P t):ti.zero.cells=ti.zeros.toArray:=by
 obtain ⟨h1,h2,h3,h4,h5,h6,h7,_⟩:=h
 unfold TI.zero
 cases hk:ti.kind with
 | st os=>rfl
 | ar m e=>rfl
 | sc=>
  have hl:ti.zeros.length=1:=by rw [h4];exact h7 (by rw [hk];rfl)
  match hz:ti.zeros,hl with
  | [z],_=>rw [hz] at h5;simp at h5;simp only [List.headD];cases z <;> simp_all [Value.oneCell',Value.cells]
 | sl e=>
  have hl:ti.zeros.length=1:=by rw [h4];exact h7 (by rw [hk];rfl)
  match hz:ti.zeros,hl with
  | [z],_=>rw [hz] at h5;simp at h5;simp only [List.headD];cases z <;> simp_all [Value.oneCell',Value.cells]
theorem qg4(t:TypeId)(cs:Array Value)(w:World):(newRow t cs).run P w=.ok ⟨w.heap.size,0,none⟩ (w.alloc (.cells cs t)):=by
 simp [newRow]
def qa6:Value→List Value
 | .agg cs=>cs.toList
 | v=>[v]
theorem qc5(v:Value):v.cells=(qa6 v).toArray:=by cases v <;> simp [Value.cells,qa6]
theorem qcP{t:Nat}{ti:TI}(h:ti.ok P t)(hk:qdO ti.kind=true){w:World}{a:Addr}{v:Value}(hc:w.cell? a=some v):(loadVar t a).run P w=.ok v w:=by
 simp [loadVar,qeH h,hk,hc]
theorem qcT{t:Nat}{ti:TI}(h:ti.ok P t)(hk:qdO ti.kind=false){w:World}{b off:Nat}{vs:List Value}(hl:vs.length=ti.size)
  (hc:∀ j v,vs[j]?=some v→w.cell? ⟨b,off+j,none⟩=some v):(loadVar t ⟨b,off,none⟩).run P w=.ok (.agg vs.toArray) w:=by
 have h1:=run_loadCells_list (P:=P) w ⟨b,off,none⟩ vs (fun j v hj=>by rw [add_lit];exact hc j v hj)
 simp [loadVar,qeH h,hk,qbH h,← hl,h1]
theorem qkS{L:Hl}{s:World}(ho:OKL D L s){i b t:Nat}{zs:List Value}(hi:L[i]?=some (b,cb zs t))(j:Nat):(fill L s).cell? ⟨b,j,none⟩=zs[j]?:=by
 have:=qa8 ho (List.mem_of_getElem? hi)
 simp [World.cell?,this,cb]
def cut(zs:List Value)(off:Nat):Nat→Option (List Value)
 | 0=>some []
 | n+1=>match nth zs off with
  | some v=>match cut zs (off+1) n with
   | some r=>some (v::r)
   | none=>none
  | none=>none
theorem qiU{zs:List Value}{off n:Nat}{vs:List Value}(h:cut zs off n=some vs):vs.length=n∧∀ j v,vs[j]?=some v→zs[off+j]?=some v:=by
 induction n generalizing off vs with
 | zero=>simp [cut] at h;subst h;simp
 | succ n ih=>
  simp only [cut] at h
  cases h1:nth zs off with
  | none=>simp [h1] at h
  | some x=>
   cases h2:cut zs (off+1) n with
   | none=>simp [h1,h2] at h
   | some r=>
    simp [h1,h2] at h
    subst h
    obtain ⟨k1,k2⟩:=ih h2
    refine ⟨by simp [k1],fun j v hj=>?_⟩
    cases j with
    | zero=>simp at hj;subst hj;rw [qeE] at h1;exact h1
    | succ j=>simp at hj;have:=k2 j v hj;rwa [Nat.add_right_comm,Nat.add_assoc] at this
end
section
variable{P:Program}{TT:qaZ}{D n:Nat}{Q:qbD}{fr:Fr}{L L' K:Hl}{s s' s0:World}{ops:Array Oper}{rest:List Oper}{d ty:Nat}{op:Op}{pos:String}{af:Array Edge}{v:Value}
theorem qgC{t:Nat}{ti:TI}(ht:qaB TT t=some ti)(ho:OKL D L s):Ev P TT D fr (.alloc t) ty L s (.value (.pointer (some ⟨s.heap.size,0,none⟩))) ((s.heap.size,cb ti.zeros t)::L) (s.alloc (dum D)):=fun hT _ dst pos af g ρ _=>by
 obtain ⟨h1,h2,h3⟩:=qaH ho (cb ti.zeros t)
 refine ⟨?_,h2⟩
 have hz:=qcD (hT.at_ ht)
 simp only [execOp,Instr.alloc,Sem.run_bind,qey (hT.at_ ht),Result.andThen_ok,newVar,qg4,hz,Sem.run_pure,qaG]
 rw [← h1];rfl
theorem qli{t:Nat}{x:Operand}{zs:List Value}(hx:lk fr x=some v)(hz:qa6 v=zs)(ho:OKL D L s):Ev P TT D fr (.box t x) ty L s (.value (.pointer (some ⟨s.heap.size,0,none⟩))) ((s.heap.size,cb zs t)::L) (s.alloc (dum D)):=fun hT _ dst pos af g ρ hρ=>by
 obtain ⟨h1,h2,h3⟩:=qaH ho (cb zs t)
 refine ⟨?_,h2⟩
 simp only [execOp,Instr.box,Sem.run_bind,Result.andThen_ok,newVar,qg4,Sem.run_pure,qaG,hρ x v hx,qc5,hz]
 rw [← h1];rfl
theorem qnN{t:Nat}{ti:TI}(ht:qaB TT t=some ti)(hd:Nat.blt d n=true)
  (k:∀ β s',Le D s s'→JO P TT D n ops Q rest ((d,.pointer (some ⟨β,0,none⟩))::fr) ((β,cb ti.zeros t)::L) s'):JO P TT D n ops Q (⟨some d,.alloc t,ty,pos,af,none⟩::rest) fr L s:=fun hT a hr ho=>
 qf6 hd (qgC ht ho) (k _ _ (qaH ho (cb ti.zeros t)).2.2) hT a hr ho
theorem qaj{t:Nat}{ti:TI}(ht:qaB TT t=some ti)(zs:List Value)(hz:ti.zeros=zs)(hd:Nat.blt d n=true)
  (k:∀ β s',Le D s s'→JO P TT D n ops Q rest ((d,.pointer (some ⟨β,0,none⟩))::fr) ((β,cb zs t)::L) s'):JO P TT D n ops Q (⟨some d,.alloc t,ty,pos,af,none⟩::rest) fr L s:=by subst hz;exact qnN ht hd k
theorem qe4{t:Nat}{x:Operand}{zs:List Value}(hx:lk fr x=some v)(hz:qa6 v=zs)(hd:Nat.blt d n=true)
  (k:∀ β s',Le D s s'→JO P TT D n ops Q rest ((d,.pointer (some ⟨β,0,none⟩))::fr) ((β,cb zs t)::L) s'):JO P TT D n ops Q (⟨some d,.box t x,ty,pos,af,none⟩::rest) fr L s:=fun hT a hr ho=>
 qf6 hd (qli hx hz ho) (k _ _ (qaH ho (cb zs t)).2.2) hT a hr ho
theorem qaq{t:Nat}{x:Operand}{zs:List Value}(hx:lk fr x=some (.agg zs.toArray))(hd:Nat.blt d n=true)
  (k:∀ β s',Le D s s'→JO P TT D n ops Q rest ((d,.pointer (some ⟨β,0,none⟩))::fr) ((β,cb zs t)::L) s'):JO P TT D n ops Q (⟨some d,.box t x,ty,pos,af,none⟩::rest) fr L s:=
 qe4 hx (by simp [qa6]) hd k
theorem qcC{zs:List Value}{b t j:Nat}(ho:OKL D L s)(hi:(b,cb zs t)∈L):(fill L s).cell? ⟨b,j,none⟩=zs[j]?:=by
 have:=qa8 ho hi
 simp [World.cell?,this,cb]
theorem qdE{t b off:Nat}{x:Operand}{ti:TI}{t':Nat}{zs:List Value}(i:Nat)(hx:lk fr x=some (.pointer (some ⟨b,off,none⟩)))(hi:K[i]?=some (b,cb zs t'))(ht:qaB TT t=some ti)(hk:qdO ti.kind=true)
  (hv:nth zs off=some v):QE P TT D fr (.load t x) ty K s0 v:=fun hT dst pos af g ρ hρ L s ho _ hK=>by
 have hc:(fill L s).cell? ⟨b,off,none⟩=some v:=by rw [qcC ho (hK _ (List.mem_of_getElem? hi)),← qeE];exact hv
 simp [execOp,hρ x _ hx,Instr.loadAt,Instr.sureAddr,qcP (hT.at_ ht) hk hc]
theorem Wd{t b off:Nat}{x:Operand}{ti:TI}{t':Nat}{zs:List Value}(i:Nat)(hY:(lk fr x=some (.pointer (some ⟨b,off,none⟩)))∧(K[i]?=some (b,cb zs t'))∧(qaB TT t=some ti)∧(qdO ti.kind=true)∧(nth zs off=some v)):QE P TT D fr (.load t x) ty K s0 v:=qdE i hY.1 hY.2.1 hY.2.2.1 hY.2.2.2.1 hY.2.2.2.2
theorem qag{t b off:Nat}{x:Operand}{ti:TI}{t':Nat}{zs:List Value}(i:Nat)(vs:List Value)(hx:lk fr x=some (.pointer (some ⟨b,off,none⟩)))(hi:K[i]?=some (b,cb zs t'))(ht:qaB TT t=some ti)(hk:qdO ti.kind=false)
  (hv:cut zs off ti.size=some vs):QE P TT D fr (.load t x) ty K s0 (.agg vs.toArray):=fun hT dst pos af g ρ hρ L s ho _ hK=>by
 obtain ⟨h1,h2⟩:=qiU hv
 have hc:∀ j v,vs[j]?=some v→(fill L s).cell? ⟨b,off+j,none⟩=some v:=fun j v hj=>by rw [qcC ho (hK _ (List.mem_of_getElem? hi))];exact h2 j v hj
 simp [execOp,hρ x _ hx,Instr.loadAt,Instr.sureAddr,qcT (hT.at_ ht) hk h1 hc]
theorem qpr{t b off:Nat}{x:Operand}{ti:TI}(hx:lk fr x=some (.pointer (some ⟨b,off,none⟩)))(ht:qaB TT t=some ti)(hk:qdO ti.kind=true)
  (hv:s0.cell? ⟨b,off,none⟩=some v):QE P TT D fr (.load t x) ty K s0 v:=fun hT dst pos af g ρ hρ L s ho hl _=>by
 simp [execOp,hρ x _ hx,Instr.loadAt,Instr.sureAddr,qcP (hT.at_ ht) hk (qdJ ho (hl.cell hv))]
theorem qau{t b off:Nat}{x:Operand}{ti:TI}{vs:List Value}(hx:lk fr x=some (.pointer (some ⟨b,off,none⟩)))(ht:qaB TT t=some ti)(hk:qdO ti.kind=false)
  (hv:CellsAt s0 b off vs) (hl:vs.length=ti.size):QE P TT D fr (.load t x) ty K s0 (.agg vs.toArray):=fun hT dst pos af g ρ hρ L s ho hle _=>by
 simp [execOp,hρ x _ hx,Instr.loadAt,Instr.sureAddr,qcT (hT.at_ ht) hk hl (fun j v hj=>qdJ ho (hle.cell (hv j v hj)))]
theorem qaC{t b off:Nat}{x:Operand}{ti:TI}{vs:List Value}(j:Nat)(hx:lk fr x=some (.pointer (some ⟨b,off+j,none⟩)))(ht:qaB TT t=some ti)(hk:qdO ti.kind=true)
  (hv:CellsAt s0 b off vs) (hj:nth vs j=some v):QE P TT D fr (.load t x) ty K s0 v:=qpr hx ht hk (hv j v (by rw [← qeE];exact hj))
theorem qah{t b off:Nat}{x:Operand}{ti:TI}{vs:List Value}(hx:lk fr x=some (.pointer (some ⟨b,off,none⟩)))(ht:qaB TT t=some ti)(hk:qdO ti.kind=true)
  (hv:CellsAt s0 b off vs) (hj:nth vs 0=some v):QE P TT D fr (.load t x) ty K s0 v:=qpr hx ht hk (hv 0 v (by rw [← qeE];exact hj))
def qbN(zs:List Value)(off:Nat)(vs:List Value):List Value:=match vs with
 | []=>zs
 | v::vs=>match zs,off with
  | [],_=>[]
  | _::zs,0=>v::qbN zs 0 vs
  | z::zs,o+1=>z::qbN zs o (v::vs)
theorem qdf(zs:List Value)(off:Nat)(vs:List Value)(h:off+vs.length≤zs.length):qbN zs off vs=zs.take off++vs++zs.drop (off+vs.length):=by
 induction zs generalizing off vs with
 | nil=>cases vs <;> simp_all [qbN]
 | cons z zs ih=>
  cases vs with
  | nil=>simp [qbN]
  | cons v vs=>
   cases off with
   | zero=>simp only [qbN];rw [ih 0 vs (by simp at h ⊢;omega)];simp
   | succ o=>simp only [qbN];rw [ih o (v::vs) (by simp at h ⊢;omega)];simp;rw [show o+1+(vs.length+1)=(o+(vs.length+1))+1 by omega];rfl
theorem qeD{w:World}{b t:Nat}{cs:Array Value}{fz:Nat×Nat}(h:w.heap[b]?=some (.cells cs t fz))(ds:Array Value):w.setRow b ds=qbn w b (.cells ds t fz):=by
  refine qc3 (qc4 fun k=>?_) Z Z Z Z
  by_cases hk:k=b
  · subst hk
    rw [setRow_heap w k cs ds t fz h,qcL]
    rcases Nat.lt_or_ge k w.heap.size with h1 | h1
    · exact h1
    · rw [Array.getElem?_eq_none h1] at h;cases h
  · rw [setRow_other w b k ds hk,qbS _ (fun e=>hk e.symm)]
theorem qqN{t b off:Nat}{x y:Operand}{ti:TI}{t':Nat}{zs:List Value}(i:Nat)(zs':List Value)(hx:lk fr x=some (.pointer (some ⟨b,off,none⟩)))(hy:lk fr y=some v)(hi:L[i]?=some (b,cb zs t'))(ht:qaB TT t=some ti)
  (hl:(qa6 v).length=ti.size) (hle:Nat.ble (off+ti.size) zs.length=true) (h1:(qa6 v).all (·.oneCell')=true) (hs:qbN zs off (qa6 v)=zs'):Ev P TT D fr (.store t x y) ty L s .skip (qdl L i (cb zs' t')) s:=fun hT ho dst pos af g ρ hρ=>⟨by
  have hg:=qa8 ho (List.mem_of_getElem? hi)
  have hle':off+ti.size≤zs.length:=Nat.le_of_ble_eq_true hle
  have hst:=run_storeCells_at (P:=P) b off t' (qa6 v) 0 zs.toArray (fill L s) hg (by simp [hl];omega) (by simpa using h1)
  rw [qcr ho hi,← hs,qdf zs off (qa6 v) (by rw [hl];exact hle'),cb,← qeD hg]
  simp only [Nat.add_zero,List.toList_toArray] at hst
  have hsz:(qa6 v).toArray.size=ti.size:=by simpa using hl
  simp only [execOp,hρ x _ hx,hρ y _ hy,Instr.storeAt,Instr.sureAddr,storeVar,qc5,Sem.run_bind,Sem.run_pure,Result.andThen_ok,qbH (hT.at_ ht),hsz,ne_eq,not_true,if_false,hst,List.toList_toArray],qdQ ho _ _⟩
theorem qro{t b off:Nat}{x y:Operand}{ti:TI}{t':Nat}{zs:List Value}(i:Nat)(zs':List Value){L':Hl}(hx:lk fr x=some (.pointer (some ⟨b,off,none⟩)))(hy:lk fr y=some v)(hi:L[i]?=some (b,cb zs t'))(ht:qaB TT t=some ti)
  (hl:(qa6 v).length=ti.size) (hle:Nat.ble (off+ti.size) zs.length=true) (h1:(qa6 v).all (·.oneCell')=true) (hs:qbN zs off (qa6 v)=zs') (hL:qdl L i (cb zs' t')=L')
  (k:JO P TT D n ops Q rest fr L' s):JO P TT D n ops Q (⟨none,.store t x y,ty,pos,af,none⟩::rest) fr L s:=by
 subst hL;exact qq3 (qqN i zs' hx hy hi ht hl hle h1 hs) k
theorem Wt{t b off:Nat}{x y:Operand}{ti:TI}{t':Nat}{zs:List Value}(i:Nat)(zs':List Value){L':Hl}(hY:(lk fr x=some (.pointer (some ⟨b,off,none⟩)))∧(lk fr y=some v)∧(L[i]?=some (b,cb zs t'))∧(qaB TT t=some ti)∧((qa6 v).length=ti.size)∧(Nat.ble (off+ti.size) zs.length=true)∧((qa6 v).all (·.oneCell')=true)∧(qbN zs off (qa6 v)=zs')∧(qdl L i (cb zs' t')=L'))
  (k:JO P TT D n ops Q rest fr L' s):JO P TT D n ops Q (⟨none,.store t x y,ty,pos,af,none⟩::rest) fr L s:=qro i zs' hY.1 hY.2.1 hY.2.2.1 hY.2.2.2.1 hY.2.2.2.2.1 hY.2.2.2.2.2.1 hY.2.2.2.2.2.2.1 hY.2.2.2.2.2.2.2.1 hY.2.2.2.2.2.2.2.2 k
end
section
variable{P:Program}{TT:qaZ}{D n:Nat}{Q:qbD}{fr:Fr}{L L' K:Hl}{s s' s0:World}{ops:Array Oper}{rest:List Oper}{d ty:Nat}{op:Op}{pos:String}{af:Array Edge}{v:Value}
def qiM:List Nat→Nat→Option Nat
 | [],_=>none
 | x::_,0=>some x
 | _::r,k+1=>qiM r k
theorem qqf(l:List Nat)(i:Nat):qiM l i=l[i]?:=by
 induction l generalizing i with
 | nil=>rfl
 | cons x l ih=>cases i <;> simp [qiM,ih]
theorem qib{t f fo b off:Nat}{ti:TI}{os:List Nat}(h:ti.ok P t)(hk:ti.kind=.st os)(hf:qiM os f=some fo)(w:World) :
  (Instr.fieldAt t (.pointer (some ⟨b,off,none⟩)) f).run P w=.ok (.pointer (some ⟨b,off+fo,none⟩)) w:=by
 obtain ⟨h1,h2,_,_,_,_,_,h8,_⟩:=h
 rw [hk] at h2
 cases hd:ti.desc with
 | struct fs=>
  rw [hd] at h1 h2 h8
  simp only [TK.fits] at h2
  rw [qqf,← h2,List.getElem?_map] at hf
  cases hff:fs.toList[f]? with
  | none=>simp [hff] at hf
  | some fld=>
   simp [hff] at hf
   have hpos:0 < P.cellsOf fld.type:=by
    have:=List.all_eq_true.1 (show fs.toList.all (fun f=>decide (0 < P.cellsOf f.type))=true from h8) fld (List.mem_of_getElem? hff)
    simpa using this
   have hff':fs[f]?=some fld:=by simpa using hff
   have hsz:∀ w,(sizeOf fld.type).run P w=.ok (P.cellsOf fld.type) w:=by
    intro w
    unfold Program.cellsOf at hpos ⊢
    cases hi:P.info? fld.type with
    | none=>simp [hi] at hpos
    | some i=>simp [sizeOf,typeInfo,hi]
   simp [Instr.fieldAt,run_underlying h1,hff',Instr.sureAddr,fieldPlace,hsz,Nat.pos_iff_ne_zero.1 hpos,add_lit,hf]
 | _=>rw [hd] at h2;simp [TK.fits] at h2
theorem qbs{t f fo b off:Nat}{x:Operand}{ti:TI}{os:List Nat}(hx:lk fr x=some (.pointer (some ⟨b,off,none⟩)))(ht:qaB TT t=some ti)(hk:ti.kind=.st os)(hf:qiM os f=some fo):QE P TT D fr (.fieldAddr t x f) ty K s0 (.pointer (some ⟨b,off+fo,none⟩)):=
 QE.pure fun hT dst pos af g ρ hρ w=>by simp [execOp,hρ x _ hx,qib (hT.at_ ht) hk hf]
theorem qbp{t f b off:Nat}{x:Operand}{ti:TI}{os:List Nat}(hx:lk fr x=some (.pointer (some ⟨b,off,none⟩)))(ht:qaB TT t=some ti)(hk:ti.kind=.st os)(hf:qiM os f=some 0):QE P TT D fr (.fieldAddr t x f) ty K s0 (.pointer (some ⟨b,off,none⟩)):=qbs hx ht hk hf
theorem qlb{t f fo b:Nat}{x:Operand}{ti:TI}{os:List Nat}(hx:lk fr x=some (.pointer (some ⟨b,0,none⟩)))(ht:qaB TT t=some ti)(hk:ti.kind=.st os)(hf:qiM os f=some fo):QE P TT D fr (.fieldAddr t x f) ty K s0 (.pointer (some ⟨b,fo,none⟩)):=by
 have:=qbs (P:=P) (D:=D) (ty:=ty) (K:=K) (s0:=s0) hx ht hk hf
 simpa using this
theorem We{t f fo b:Nat}{x:Operand}{ti:TI}{os:List Nat}(hY:(lk fr x=some (.pointer (some ⟨b,0,none⟩)))∧(qaB TT t=some ti)∧(ti.kind=.st os)∧(qiM os f=some fo)):QE P TT D fr (.fieldAddr t x f) ty K s0 (.pointer (some ⟨b,fo,none⟩)):=qlb hY.1 hY.2.1 hY.2.2.1 hY.2.2.2
theorem qeU{t e b off len cap:Nat}{ti te:TI}{ik:IntKind}{i:Int}(h:ti.ok P t)(hk:ti.kind=.sl e)(he:te.ok P e)(h0:0≤i)(h1:i < len)(w:World) :
  (Instr.indexAt t (.slice (some ⟨b,off,none⟩) len cap) (.int ik i)).run P w=.ok (.pointer (some ⟨b,off+i.toNat * te.size,none⟩)) w:=by
 obtain ⟨k1,k2,_⟩:=h
 rw [hk] at k2
 simp only [TK.fits] at k2
 rw [k2] at k1
 simp [Instr.indexAt,asIntOf,run_underlying k1,h0,h1,qbH he,add_lit]
theorem qvg{t e b off len cap:Nat}{x y:Operand}{ti te:TI}{ik:IntKind}{i:Int}(hx:lk fr x=some (.slice (some ⟨b,off,none⟩) len cap))(hy:lk fr y=some (.int ik i))(ht:qaB TT t=some ti)(hk:ti.kind=.sl e)(he:qaB TT e=some te)
  (h0:0≤i) (h1:i < len):QE P TT D fr (.indexAddr t x y) ty K s0 (.pointer (some ⟨b,off+i.toNat * te.size,none⟩)):=
 QE.pure fun hT dst pos af g ρ hρ w=>by simp [execOp,hρ x _ hx,hρ y _ hy,qeU (hT.at_ ht) hk (hT.at_ he) h0 h1]
theorem qap{t e b off len cap:Nat}{x y:Operand}{ti te:TI}{ik:IntKind}{j sz:Nat}(hx:lk fr x=some (.slice (some ⟨b,off,none⟩) len cap))(hy:lk fr y=some (.int ik (j:Int)))(ht:qaB TT t=some ti)(hk:ti.kind=.sl e)(he:qaB TT e=some te)
  (hs:te.size=sz) (h1:j < len):QE P TT D fr (.indexAddr t x y) ty K s0 (.pointer (some ⟨b,off+j * sz,none⟩)):=by
 have:=qvg (P:=P) (D:=D) (ty:=ty) (K:=K) (s0:=s0) hx hy ht hk he (Int.natCast_nonneg _) O
 rwa [Int.toNat_natCast,hs] at this
theorem qas{t e b off len cap:Nat}{x y:Operand}{ti te:TI}{ik:IntKind}{j:Nat}(hx:lk fr x=some (.slice (some ⟨b,off,none⟩) len cap))(hy:lk fr y=some (.int ik (j:Int)))(ht:qaB TT t=some ti)(hk:ti.kind=.sl e)(he:qaB TT e=some te)
  (hs:te.size=1) (h1:j < len):QE P TT D fr (.indexAddr t x y) ty K s0 (.pointer (some ⟨b,off+j,none⟩)):=by
 have:=qap (P:=P) (D:=D) (ty:=ty) (K:=K) (s0:=s0) hx hy ht hk he hs h1
 rwa [Nat.mul_one] at this
theorem qfA{t:Nat}{x y:Operand}{ti:TI}{ik:IntKind}{j:Nat}{l:List UInt8}{c:UInt8}(hx:lk fr x=some (St l))(hy:lk fr y=some (.int ik (j:Int)))(ht:qaB TT t=some ti)(hk:ti.desc=.string)(hc:l[j]?=some c):QE P TT D fr (.index t x y) ty K s0 (.int .u8 (c.toNat:Int)):=
 QE.pure fun hT dst pos af g ρ hρ w=>by
  have k1:=(hT.at_ ht).1
  rw [hk] at k1
  have hb:(⟨l.toArray⟩:ByteArray)[j]?=some c:=by
   obtain ⟨hlt,hv⟩:=List.getElem?_eq_some_iff.1 hc
   have hlt':j < (⟨l.toArray⟩:ByteArray).size:=by simpa [ByteArray.size] using hlt
   rw [getElem?_pos (⟨l.toArray⟩:ByteArray) j hlt']
   simp only [ByteArray.getElem_eq_getElem_data,List.getElem_toArray,hv]
  simp [execOp,hρ x _ hx,hρ y _ hy,Instr.index,asIntOf,run_underlying k1,hb]
theorem qbR{x:Operand}{t:Nat}{A:Option Addr}{m c:Nat}{ti:TI}{e:Nat}(hx:lk fr x=some (.slice A m c))(ht:qaB TT t=some ti)(hk:ti.kind=.sl e):QE P TT D fr (.call { callee:=.builtin .len,args:=#[x],argTypes:=#[t] }) ty K s0 (.int .i64 (m:Int)):=
 QE.pure fun hT dst pos af g ρ hρ w=>by
  obtain ⟨k1,k2,_⟩:=hT.at_ ht
  rw [hk] at k2
  simp only [TK.fits] at k2
  rw [k2] at k1
  simp [execOp,resolve,invoke,builtin,hρ x _ hx,Builtin.len_,run_underlying k1,goInt]
theorem qqT{x:Operand}{t:Nat}{l:List UInt8}{ti:TI}(hx:lk fr x=some (St l))(ht:qaB TT t=some ti)(hk:ti.desc=.string):QE P TT D fr (.call { callee:=.builtin .len,args:=#[x],argTypes:=#[t] }) ty K s0 (.int .i64 (l.length:Int)):=
 QE.pure fun hT dst pos af g ρ hρ w=>by
  have k1:=(hT.at_ ht).1
  rw [hk] at k1
  have hsz:(⟨l.toArray⟩:ByteArray).size=l.length:=by simp [ByteArray.size]
  simp [execOp,resolve,invoke,builtin,hρ x _ hx,Builtin.len_,run_underlying k1,goInt,hsz]
theorem qdI{x:Operand}{t t':Nat}{ik ik':IntKind}{a:Int}{ti ti':TI}(hx:lk fr x=some (.int ik a))(ht:qaB TT t=some ti)(ht':qaB TT t'=some ti')(hk:ti.desc=.int ik)(hk':ti'.desc=.int ik'):QE P TT D fr (.convert t t' x) ty K s0 (.int ik' (ik'.wrap a)):=
 QE.pure fun hT dst pos af g ρ hρ w=>by
  have k1:=(hT.at_ ht).1
  have k2:=(hT.at_ ht').1
  rw [hk] at k1;rw [hk'] at k2
  simp [execOp,hρ x _ hx,convert,run_underlying k1,run_underlying k2,Conv.intToInt]
theorem qbl{x:Operand}{t t':Nat}{ik ik':IntKind}{a c:Int}{ti ti':TI}(hx:lk fr x=some (.int ik a))(ht:qaB TT t=some ti)(ht':qaB TT t'=some ti')(hk:ti.desc=.int ik)(hk':ti'.desc=.int ik')(hc:ik'.wrap a=c):QE P TT D fr (.convert t t' x) ty K s0 (.int ik' c):=hc▸qdI hx ht ht' hk hk'
def lks(fr:Fr):List Operand→Option (List Value)
 | []=>some []
 | x::r=>match lk fr x with
  | some v=>match lks fr r with
   | some vs=>some (v::vs)
   | none=>none
  | none=>none
theorem qdK{fr:Fr}{ρ:Operand→Value}(hρ:∀ x v,lk fr x=some v→ρ x=v){xs:List Operand}{vs:List Value}(h:lks fr xs=some vs):xs.map ρ=vs:=by
 induction xs generalizing vs with
 | nil=>simp [lks] at h;subst h;rfl
 | cons x xs ih=>
  simp only [lks] at h
  cases h1:lk fr x with
  | none=>simp [h1] at h
  | some v=>
   cases h2:lks fr xs with
   | none=>simp [h1,h2] at h
   | some r=>simp [h1,h2] at h;subst h;simp [hρ x v h1,ih h2]
theorem qbu{f:FuncId}{xs:List Operand}{vs:List Value}(hv:lks fr xs=some vs):QE P TT D fr (.makeFunc (.func f) #[] xs.toArray) ty K s0 (.func (.func f) #[] vs.toArray):=
 QE.pure fun hT dst pos af g ρ hρ w=>by simp [execOp,Instr.makeFunc,qdK hρ hv]
def qjy(P:Program)(f:FuncId):Prop:=∃ fn,P.funcs[f]?=some fn∧(fn.name == "runtime.NumGoroutine")=false∧fn.body.isNone=false
def AC(P:Program)(D:Nat)(f:FuncId)(args:List Value)(L:Hl)(s:World)(R:Value→Hl→World→Prop):Prop:=
 qjy P f∧(OKL D L s→Calls P f args.toArray (fill L s) fun e w'=>∃ v L' s',e=.returned v∧w'=fill L' s'∧OKL D L' s'∧Le D s s'∧R v L' s')
theorem AC.mono{f:FuncId}{args:List Value}{R R':Value→Hl→World→Prop}(h:AC P D f args L s R)(hr:∀ v L' s',Le D s s'→R v L' s'→R' v L' s'):AC P D f args L s R':=
 ⟨h.1,fun ho=>(h.2 ho).mono fun _ _ ⟨v,L',s',h1,h2,h3,h4,h5⟩=>⟨v,L',s',h1,h2,h3,h4,hr _ _ _ h4 h5⟩⟩
theorem qh6{f:FuncId}{x:Operand}{xs:List Operand}{first captured vs:List Value}{ts:Array TypeId}{R:Value→Hl→World→Prop}(hx:lk fr x=some (.func (.func f) first.toArray captured.toArray))(hv:lks fr xs=some vs)
  (hd:Nat.blt d n=true) (h:AC P D f (first++vs++captured) L s R) (k:∀ v L' s',Le D s s'→R v L' s'→JO P TT D n ops Q rest ((d,v)::fr) L' s') :
  JO P TT D n ops Q (⟨some d,.call { callee:=.value x,args:=xs.toArray,argTypes:=ts },ty,pos,af,none⟩::rest) fr L s:=fun hT a hr ho=>by
 obtain ⟨⟨fn,h1,h2,h3⟩,hc⟩:=h
 have hρ:∀ x v,lk fr x=some v→a.eval x=v:=fun x v hx=>hr.ev hx
 simp only [wpList,Region.wanted,if_true]
 refine .inl ?_
 have hrun:(execOp a.eval ⟨some d,.call { callee:=.value x,args:=xs.toArray,argTypes:=ts },ty,pos,af,none⟩).run P (fill L s)=.ok (.enter f (first++vs++captured).toArray) (fill L s):=by
  have h2':¬ fn.name = "runtime.NumGoroutine" := by simpa using h2
  have h3':¬ fn.body=none:=by intro e;simp [e] at h3
  simp [execOp,resolve,Deferred.ofValue,invoke,callFunc,hρ x _ hx,qdK hρ hv,h1,h2',h3']
 simp only [Oper.wp,hrun,Oper.upon]
 refine (hc ho).mono ?_
 rintro e w' ⟨v,L',s',rfl,rfl,h4,h5,h6⟩
 exact k v L' s' h5 h6 hT _ (hr.put hd v) h4
theorem Jc{f:FuncId}{x:Operand}{xs:List Operand}{vs:List Value}{ts:Array TypeId}{R:Value→Hl→World→Prop}(hx:lk fr x=some (.func (.func f) ([]:List Value).toArray ([]:List Value).toArray))(hv:lks fr xs=some vs)
  (hd:Nat.blt d n=true) (h:AC P D f (([]:List Value)++vs++[]) L s R) (k:∀ v L' s',Le D s s'→R v L' s'→JO P TT D n ops Q rest ((d,v)::fr) L' s') :
  JO P TT D n ops Q (⟨some d,.call { callee:=.value x,args:=xs.toArray,argTypes:=ts },ty,pos,af,none⟩::rest) fr L s:=qh6 (first:=[]) (captured:=[]) hx hv hd h k
inductive Res(TT:qaZ)(fr:Fr)(L:Hl):List ResultVar→List Value→Prop
 | nil:Res TT fr L [] []
 | tmp {t:Nat} {v:Value} {rs vs} (h:qa1 fr t=some v) (k:Res TT fr L rs vs):Res TT fr L (.tmp t::rs) (v::vs)
 | one {a t t' b:Nat} {ti:TI} {zs:List Value} {v:Value} {rs vs} (i:Nat) (h:qa1 fr a=some (.pointer (some ⟨b,0,none⟩))) (hi:L[i]?=some (b,cb zs t')) (ht:qaB TT t=some ti) (hk:qdO ti.kind=true) (hv:nth zs 0=some v) (k:Res TT fr L rs vs):Res TT fr L (.cell a t::rs) (v::vs)
 | agg {a t t' b:Nat} {ti:TI} {zs us:List Value} {rs vs} (i:Nat) (h:qa1 fr a=some (.pointer (some ⟨b,0,none⟩))) (hi:L[i]?=some (b,cb zs t')) (ht:qaB TT t=some ti) (hk:qdO ti.kind=false) (hv:cut zs 0 ti.size=some us) (k:Res TT fr L rs vs):Res TT fr L (.cell a t::rs) (.agg us.toArray::vs)
theorem Res.t1{TT:qaZ}{fr:Fr}{L:Hl}{t:Nat}{v:Value}(h:qa1 fr t=some v):Res TT fr L [.tmp t] [v]:=.tmp h .nil
def qat:List Value→Value
 | [v]=>v
 | vs=>.tuple vs.toArray
def qmX(tmps:Array Value):ResultVar→Sem Value
 | .tmp t=>pure (tmps.getD t undef)
 | .cell a t=>do loadVar t (← asAddr (tmps.getD a undef))
theorem qdg(fn:Func)(tmps:Array Value):results fn tmps=(do let vs ← fn.results.mapM (qmX tmps);pure (if h:vs.size=1 then vs[0] else .tuple vs)):=by
 unfold results
 congr 1
theorem Res.run(hT:TabOK P TT){a:Act}(hr:FrRel n a fr)(ho:OKL D L s){rs:List ResultVar}{vs:List Value}(h:Res TT fr L rs vs) :
  (rs.mapM (qmX a.tmps)).run P (fill L s)=.ok vs (fill L s):=by
 have hs:∀ t v,qa1 fr t=some v→a.tmps.getD t undef=v:=fun t v hv=>by
  have:=hr.slot t (hr.top t v hv) v hv
  simp [this]
 induction h with
 | nil=>simp
 | tmp h k ih=>simp only [List.mapM_cons,qmX,hs _ _ h,Sem.run_bind,Sem.run_pure,Result.andThen_ok,ih]
 | one i h hi ht hk hv k ih=>
  rename_i b _ zs v _ _
  have hc:(fill L s).cell? ⟨b,0,none⟩=some v:=by rw [qkS ho hi,← qeE];exact hv
  simp only [List.mapM_cons,qmX,hs _ _ h,asAddr,Sem.run_bind,Sem.run_pure,Result.andThen_ok,qcP (hT.at_ ht) hk hc,ih]
 | agg i h hi ht hk hv k ih=>
  rename_i b _ zs us _ _
  obtain ⟨h1,h2⟩:=qiU hv
  have hc:∀ j v,us[j]?=some v→(fill L s).cell? ⟨b,0+j,none⟩=some v:=fun j v hj=>by rw [qkS ho hi];exact h2 j v hj
  simp only [List.mapM_cons,qmX,hs _ _ h,asAddr,Sem.run_bind,Sem.run_pure,Result.andThen_ok,qcT (hT.at_ ht) hk h1 hc,ih]
def qbM(TT:qaZ)(D:Nat)(rs:List ResultVar)(s0:World)(R:Value→Hl→World→Prop):qbD:=fun e fr L s=>
 (e=.normal∨e=.ret)∧∃ vs A L',Res TT fr L rs vs∧L=A++L'∧Le D s0 s∧∀ s',Le D s s'→R (qat vs) L' s'
def qeF(k:Nat):List Value→Fr
 | []=>[]
 | v::vs=>(k,v)::qeF (k+1) vs
theorem qby(vs:List Value)(k t:Nat):qa1 (qeF k vs) t=if k≤t then vs[t - k]? else none:=by
  induction vs generalizing k with
  | nil=>simp [qeF,qa1]
  | cons v vs ih=>
    rw [qeF,qbo,ih]
    by_cases h:k=t
    · subst h;simp
    · by_cases h2:k+1≤t
      · have:t - k=(t - (k+1))+1:=by omega
        simp [h,h2,show k≤t by omega,this]
      · simp [h,h2,show ¬ k≤t by omega]
theorem qai{f:FuncId}{fn:Func}{c:Code}{args:List Value}{R:Value→Hl→World→Prop}(hT:TabOK P TT)(hf:P.funcs[f]?=some fn)(hn:(fn.name == "runtime.NumGoroutine")=false)(hb:fn.body=some c)(hnt:fn.ntmps=n)(hle:Nat.ble args.length n=true){rs:List ResultVar}(hrs:fn.results.toList=rs)(fr0:Fr)(hfr:qeF 0 args=fr0)
    (h:JC P TT D n (qbM TT D rs s R) c fr0 L s):AC P D f args L s R:=by
  subst hfr;subst hrs
  refine ⟨⟨fn,hf,hn,by simp [hb]⟩,fun ho=>calls_of_wp hf hb ?_⟩
  have hle':args.length≤n:=Nat.le_of_ble_eq_true hle
  have hr:FrRel n { tmps:=args.toArray++Array.replicate (fn.ntmps - args.toArray.size) undef,defers:=[] } (qeF 0 args):=by
    refine ⟨by simp [hnt];omega,Z,fun t ht v hv=>?_,fun t v hv=>?_⟩
    · rw [qby] at hv
      simp at hv
      obtain ⟨hlt,_⟩:=List.getElem?_eq_some_iff.1 hv
      simp [Array.getElem?_append,hlt]
      exact (List.getElem?_eq_some_iff.1 hv).2
    · rw [qby] at hv
      simp at hv
      obtain ⟨hlt,_⟩:=List.getElem?_eq_some_iff.1 hv
      omega
  refine wp_mono (h hT _ hr ho) ?_
  rintro e a w ⟨fr',L1,s1,k1,k2,rfl,he,vs,A,L',hres,rfl,hle1,hR⟩
  obtain ⟨d1,d2,d3⟩:=qbm k2
  have hrun:(results fn a.tmps).run P (fill (A++L') s1)=.ok (qat vs) (fill (A++L') s1):=by
    have h1:=Res.run hT k1 k2 hres
    have h2:(fn.results.mapM (qmX a.tmps)).run P (fill (A++L') s1)=.ok vs.toArray (fill (A++L') s1):=by
      rw [Array.mapM_eq_mapM_toList]
      simp only [map_eq_pure_bind,Sem.run_bind,h1,Result.andThen_ok,Sem.run_pure]
    rw [qdg]
    simp only [Sem.run_bind,h2,Result.andThen_ok,Sem.run_pure]
    congr 1
    match vs with
    | []=>rfl
    | [v]=>rfl
    | v::u::r=>simp [qat]
  have hpost:∃ v,(results fn a.tmps).run P (fill (A++L') s1)=.ok v (fill (A++L') s1)∧∃ v_1 L'_1 s',Ending.returned v=.returned v_1∧fill (A++L') s1=fill L'_1 s'∧OKL D L'_1 s'∧Le D s s'∧R v_1 L'_1 s':=
    ⟨_,hrun,_,L',fill A s1,rfl,d1,d2,hle1.trans d3,hR _ d3⟩
  rcases he with rfl | rfl
  · exact ⟨k1.defers,hpost⟩
  · exact ⟨k1.defers,hpost⟩
theorem qab{J:Fr→Hl→World→Prop}(h:J fr L s):qaJ J Q .normal fr L s:=h
theorem qqr{J:Fr→Hl→World→Prop}(h:Q .ret fr L s):qaJ J Q .ret fr L s:=h
theorem qqj{J:Fr→Hl→World→Prop}{i:Nat}(h:Q (.exit i) fr L s):qaJ J Q (.exit i) fr L s:=h
theorem qor{id:Nat}(h:Q .normal fr L s):qaw id Q .normal fr L s:=h
theorem qoE{id:Nat}(h:Q .ret fr L s):qaw id Q .ret fr L s:=h
theorem qnV{id:Nat}(h:Q .normal fr L s):qaw id Q (.exit id) fr L s:=by simpa [qaw] using h
theorem qkx{id i:Nat}(hi:Nat.beq i id=false)(h:Q (.exit i) fr L s):qaw id Q (.exit i) fr L s:=by
 have:i≠id:=fun e=>by subst e;simp at hi
 simpa [qaw,this] using h
theorem qbz{rs:List ResultVar}{s0:World}{R:Value→Hl→World→Prop}{e:Exit}{vs:List Value}(A L':Hl)(he:e=.normal∨e=.ret)(h:Res TT fr L rs vs)(hL:L=A++L')(hl:Le D s0 s)(hR:∀ s',Le D s s'→R (qat vs) L' s'):qbM TT D rs s0 R e fr L s:=
 ⟨he,vs,A,L',h,hL,hl,hR⟩
theorem rR{rs:List ResultVar}{s0:World}{R:Value→Hl→World→Prop}{vs:List Value}(A L':Hl)(h:Res TT fr L rs vs)(hL:L=A++L')(hl:Le D s0 s)(hR:∀ s',Le D s s'→R (qat vs) L' s'):qbM TT D rs s0 R .ret fr L s:=qbz A L' (.inr rfl) h hL hl hR
end
def SH(D:Nat)(K:Hl)(s0:World):World→Prop:=fun w=>∃ L s,w=fill L s∧OKL D L s∧Le D s0 s∧∀ x∈K,x∈L
def noPan(Q:Exit→Act→World→Prop):Exit→Act→World→Prop
 | .panic _,_,_=>False
 | e,a,w=>Q e a w
def quG(D n:Nat)(Q:qbD):Exit→Act→World→Prop
 | .panic ch,a,w=>FrRel n a []∧∃ L s,OKL D L s∧w=fill L s∧∀ fr,Q (.panic ch) fr L s
 | e,a,w=>conc D n Q e a w
theorem FrRel.bare{n:Nat}{a:Act}{fr:Fr}(h:FrRel n a fr):FrRel n a []:=⟨h.size,h.defers,fun t ht v hv=>by simp [qa1] at hv,fun t v hv=>by simp [qa1] at hv⟩
theorem FrRel.unput{n:Nat}{a:Act}{d:Option Nat}{v:Value}(h:FrRel n (a.put d v) []):FrRel n a []:=by
  refine ⟨?_,?_,fun t ht v hv=>by simp [qa1] at hv,fun t v hv=>by simp [qa1] at hv⟩
  · have:=h.size
    cases d <;> simpa [Act.put] using this
  · have:=h.defers
    cases d <;> simpa [Act.put] using this
def JA(P:Program)(TT:qaZ)(D n:Nat)(ops:Array Oper)(Q:qbD)(K:Hl)(s0:World)(fuel:Nat)(listed:Array Bool)(fr:Fr)(L:Hl)(s:World):Prop:=
 TabOK P TT→∀ a,FrRel n a fr→OKL D L s→Le D s0 s→(∀ x∈K,x∈L)→wpAnyH P .any ops (quG D n Q) (SH D K s0) fuel listed a (fill L s)
def JB(P:Program)(TT:qaZ)(D n:Nat)(ops:Array Oper)(Q:qbD)(K:Hl)(s0:World)(fuel:Nat)(listed:Array Bool)(i:Nat)(fr:Fr)(L:Hl)(s:World):Prop:=
 TabOK P TT→∀ a,FrRel n a fr→OKL D L s→Le D s0 s→(∀ x∈K,x∈L) →
  wpOp P ops (quG D n Q) i (fun a' w'=>SH D K s0 w'∧wpAnyH P .any ops (quG D n Q) (SH D K s0) fuel (listed.setIfInBounds i true) a' w') a (fill L s)
def GOK(ops:Array Oper)(fr:Fr):Option (Nat×Bool)→Prop
 | none=>True
 | some (j,w)=>∃ t,qd3 ops j=some t∧qa1 fr t=some (.bool w)
section
variable{P:Program}{TT:qaZ}{D n:Nat}{Q:qbD}{fr:Fr}{L L' K:Hl}{s s' s0:World}{ops:Array Oper}{d ty:Nat}{op:Op}{pos:String}{af:Array Edge}{g:Option (Nat×Bool)}{v:Value}{fuel:Nat}{listed:Array Bool}
theorem GOK.wanted{dst:Option Nat}{a:Act}(hr:FrRel n a fr)(h:GOK ops fr g):Region.wanted ⟨dst,op,ty,pos,af,g⟩ (yielded ops a.tmps)=true:=by
 cases g with
 | none=>rfl
 | some jw=>
  obtain ⟨j,w⟩:=jw
  obtain ⟨t,h1,h2⟩:=h
  have h3:=hr.slot t (hr.top _ _ h2) _ h2
  unfold qd3 at h1
  simp [Region.wanted,yielded,h1,h3]
theorem qj7{L:Hl}{i:Nat}{x:Nat×Obj}(h:x∈L.eraseIdx i)(o:Obj):x∈qdl L i o:=by
 induction L generalizing i with
 | nil=>simp at h
 | cons y L ih=>
  cases i with
  | zero=>exact List.mem_cons_of_mem _ (by simpa using h)
  | succ i=>
   simp only [List.eraseIdx_cons_succ,List.mem_cons] at h
   rcases h with rfl | h
   · exact List.mem_cons_self ..
   · exact List.mem_cons_of_mem _ (ih h)
theorem sbY{α:Type}{a b:List α}{x:α}(h:a.Sublist b):(x::a).Sublist (x::b):=List.cons_sublist_cons.2 h
theorem sbN{α:Type}{a b:List α}{x:α}(h:a.Sublist b):a.Sublist (x::b):=List.Sublist.cons _ h
theorem sbn2{α:Type}{a b:List α}{x0 x1:α}(h:a.Sublist b):(a).Sublist (x0::x1::b):=sbN (sbN (h))
theorem sbn3{α:Type}{a b:List α}{x0 x1 x2:α}(h:a.Sublist b):(a).Sublist (x0::x1::x2::b):=sbN (sbN (sbN (h)))
theorem sbn4{α:Type}{a b:List α}{x0 x1 x2 x3:α}(h:a.Sublist b):(a).Sublist (x0::x1::x2::x3::b):=sbN (sbN (sbN (sbN (h))))
theorem qmw{α:Type}{a b:List α}{x0 x1:α}(h:a.Sublist b):(x0::x1::a).Sublist (x0::x1::b):=sbY (sbY (h))
theorem qdC{α:Type}{a b:List α}{x0 x1 x2:α}(h:a.Sublist b):(x0::x1::x2::a).Sublist (x0::x1::x2::b):=sbY (sbY (sbY (h)))
theorem sby4{α:Type}{a b:List α}{x0 x1 x2 x3:α}(h:a.Sublist b):(x0::x1::x2::x3::a).Sublist (x0::x1::x2::x3::b):=sbY (sbY (sbY (sbY (h))))
theorem sbE{α:Type}(a:List α):a.Sublist a:=List.Sublist.refl a
theorem sb0{α:Type}(a:List α):([]:List α).Sublist a:=List.nil_sublist a
theorem qvB{α:Type}{a b:List α}{x:α}(h:a.Sublist b)(hx:x∈a):x∈b:=h.subset hx
theorem sM{α:Type}{a b:List α}(h:a.Sublist b):∀ x∈a,x∈b:=fun _ hx=>h.subset hx
theorem qay{id:Nat}{l:List Oper}(hm:P.follows .mixedOrders=true)(N:Nat)(hN:l.length=N)(K:Hl)(hK:∀ x∈K,x∈L)
  (h:∀ s',Le D s s'→JA P TT D n l.toArray Q K s' N (Array.replicate N false) fr L s'):JC P TT D n Q (.region id l.toArray true) fr L s:=fun ht a hr ho=>by
 subst hN
 have h1:=h s.drew (Le.drew s) ht a hr ho.drew (Le.refl _) hK
 refine wp_mono (wp_region_held (Q:=quG D n Q) (S:=SH D K s.drew) hm ?_) (fun e a w hq=>by
  cases e with
  | panic ch=>obtain ⟨h1,L1,s1,h2,h3,h4⟩:=hq;exact ⟨[],L1,s1,h1,h2,h3,h4 []⟩
  | _=>exact hq)
 rw [← qko] at h1
 simpa using h1
theorem qal(hr:Region.ready .any ops listed=[])(h:Q .normal fr L s):JA P TT D n ops Q K s0 fuel listed fr L s:=fun _ a hf ho _ _=>
 wpAnyH_done hr ⟨fr,L,s,hf,ho,rfl,h⟩ fuel
theorem JA_q(i:Nat)(hi:ops[i]?=some ⟨some d,op,ty,pos,af,g⟩)(hs:Region.noSelect ops=true)(hf:Region.free .any ops listed i=true)(hr:(Region.ready .any ops listed).contains i=true)(hg:GOK ops fr g)
  (hq:QE P TT D fr op ty K s0 v) (hd:Nat.blt d n=true) (k:JA P TT D n ops Q K s0 fuel (listed.setIfInBounds i true) ((d,v)::fr) L s):JA P TT D n ops Q K s0 (fuel+1) listed fr L s:=fun ht a hfr ho hl hK=>by
 refine wpAnyH_take hi hs hf hr (fun _ _ _ h=>⟨h.1.unput,h.2⟩) (v:=v) (.inl ⟨hg.wanted hfr,?_⟩) ⟨L,s,Z,ho,hl,hK⟩ (k ht _ (hfr.put hd v) ho hl hK)
 rintro w ⟨L2,s2,rfl,h1,h2,h3⟩
 exact hq ht _ _ _ _ _ (fun x v hx=>hfr.ev hx) L2 s2 h1 h2 h3
theorem qve(i:Nat){j t:Nat}{w b:Bool}(hi:ops[i]?=some ⟨some d,op,ty,pos,af,some (j,w)⟩)(hs:Region.noSelect ops=true)(hf:Region.free .any ops listed i=true)(hr:(Region.ready .any ops listed).contains i=true)
  (hj:qd3 ops j=some t) (hv:qa1 fr t=some (.bool b)) (hb:(b != w)=true) (hd:Nat.blt d n=true) (k:JA P TT D n ops Q K s0 fuel (listed.setIfInBounds i true) ((d,undef)::fr) L s):JA P TT D n ops Q K s0 (fuel+1) listed fr L s:=fun ht a hfr ho hl hK=>by
 refine wpAnyH_take hi hs hf hr (fun _ _ _ h=>⟨h.1.unput,h.2⟩) (v:=undef) (.inr ⟨?_,Z⟩) ⟨L,s,Z,ho,hl,hK⟩ (k ht _ (hfr.put hd undef) ho hl hK)
 have h3:=hfr.slot t (hfr.top _ _ hv) _ hv
 unfold qd3 at hj
 have hne:(some b == some w)=false:=by cases b <;> cases w <;> simp_all
 simp [Region.wanted,yielded,hj,h3,hne]
theorem qkI{rs:List Nat}(hr:Region.ready .any ops listed=rs)(hne:rs≠[])(h:∀ i∈rs,JB P TT D n ops Q K s0 fuel listed i fr L s):JA P TT D n ops Q K s0 (fuel+1) listed fr L s:=fun ht a hf ho hl hK=>
 wpAnyH_all hr hne fun i hi=>h i hi ht a hf ho hl hK
theorem qax(i:Nat)(hr:Region.ready .any ops listed=[i])(h:JB P TT D n ops Q K s0 fuel listed i fr L s):JA P TT D n ops Q K s0 (fuel+1) listed fr L s:=
 qkI hr (by simp) (by simpa using h)
theorem qfl(i j:Nat)(hr:Region.ready .any ops listed=[i,j])(h:JB P TT D n ops Q K s0 fuel listed i fr L s)(h':JB P TT D n ops Q K s0 fuel listed j fr L s):JA P TT D n ops Q K s0 (fuel+1) listed fr L s:=
 qkI hr (by simp) (by simpa using ⟨h,h'⟩)
theorem JA_3(i j m:Nat)(hr:Region.ready .any ops listed=[i,j,m])(h:JB P TT D n ops Q K s0 fuel listed i fr L s)(h':JB P TT D n ops Q K s0 fuel listed j fr L s)(h'':JB P TT D n ops Q K s0 fuel listed m fr L s):JA P TT D n ops Q K s0 (fuel+1) listed fr L s:=
 qkI hr (by simp) (by simpa using ⟨h,h',h''⟩)
theorem qhw{i:Nat}(hi:ops[i]?=some ⟨some d,op,ty,pos,af,g⟩)(hg:GOK ops fr g)(h:Ev P TT D fr op ty L s (.value v) L' s')(hle:Le D s s')(hK':∀ x∈K,x∈L→x∈L')(hd:Nat.blt d n=true)(k:JA P TT D n ops Q K s0 fuel (listed.setIfInBounds i true) ((d,v)::fr) L' s') :
  JB P TT D n ops Q K s0 fuel listed i fr L s:=fun ht a hf ho hl hK=>by
 obtain ⟨h1,h2⟩:=h ht ho (some d) pos af g a.eval (fun x v hx=>hf.ev hx)
 simp only [wpOp,hi,hg.wanted hf,if_true]
 refine .inl ?_
 simp only [Oper.wp,h1,Oper.upon]
 have hK2:∀ x∈K,x∈L':=fun x hx=>hK' x hx (hK x hx)
 exact ⟨⟨L',s',rfl,h2,hl.trans hle,hK2⟩,k ht _ (hf.put hd v) h2 (hl.trans hle) hK2⟩
theorem qvo{i:Nat}(hi:ops[i]?=some ⟨none,op,ty,pos,af,g⟩)(hg:GOK ops fr g)(h:Ev P TT D fr op ty L s .skip L' s')(hle:Le D s s')(hK':∀ x∈K,x∈L→x∈L')(k:JA P TT D n ops Q K s0 fuel (listed.setIfInBounds i true) fr L' s') :
  JB P TT D n ops Q K s0 fuel listed i fr L s:=fun ht a hf ho hl hK=>by
 obtain ⟨h1,h2⟩:=h ht ho none pos af g a.eval (fun x v hx=>hf.ev hx)
 simp only [wpOp,hi,hg.wanted hf,if_true]
 refine .inl ?_
 simp only [Oper.wp,h1,Oper.upon]
 have hK2:∀ x∈K,x∈L':=fun x hx=>hK' x hx (hK x hx)
 exact ⟨⟨L',s',rfl,h2,hl.trans hle,hK2⟩,k ht _ hf h2 (hl.trans hle) hK2⟩
theorem qe3{i:Nat}(hi:ops[i]?=some ⟨some d,op,ty,pos,af,g⟩)(hg:GOK ops fr g)(h:QE P TT D fr op ty L s v)(hd:Nat.blt d n=true)(k:JA P TT D n ops Q K s0 fuel (listed.setIfInBounds i true) ((d,v)::fr) L s) :
  JB P TT D n ops Q K s0 fuel listed i fr L s:=
 qhw hi hg (fun ht ho dst pos af g ρ hρ=>⟨h ht dst pos af g ρ hρ L s ho (Le.refl _) (fun _ hx=>hx),ho⟩) (Le.refl _) (fun _ _ h=>h) hd k
theorem qqQ{i:Nat}{f:FuncId}{x:Operand}{xs:List Operand}{first captured vs:List Value}{ts:Array TypeId}{R:Value→Hl→World→Prop}(hi:ops[i]?=some ⟨some d,.call { callee:=.value x,args:=xs.toArray,argTypes:=ts },ty,pos,af,g⟩)(hg:GOK ops fr g)
  (hx:lk fr x=some (.func (.func f) first.toArray captured.toArray)) (hv:lks fr xs=some vs) (hd:Nat.blt d n=true) (h:AC P D f (first++vs++captured) L s R)
  (k:∀ v L' s',Le D s s'→R v L' s'→(∀ x∈K,x∈L→x∈L')∧JA P TT D n ops Q K s0 fuel (listed.setIfInBounds i true) ((d,v)::fr) L' s') :
  JB P TT D n ops Q K s0 fuel listed i fr L s:=fun hT a hf ho hl hK=>by
 obtain ⟨⟨fn,h1,h2,h3⟩,hc⟩:=h
 have hρ:∀ x v,lk fr x=some v→a.eval x=v:=fun x v hx=>hf.ev hx
 simp only [wpOp,hi,hg.wanted hf,if_true]
 refine .inl ?_
 have hrun:(execOp a.eval ⟨some d,.call { callee:=.value x,args:=xs.toArray,argTypes:=ts },ty,pos,af,g⟩).run P (fill L s)=.ok (.enter f (first++vs++captured).toArray) (fill L s):=by
  have h2':¬ fn.name = "runtime.NumGoroutine" := by simpa using h2
  have h3':¬ fn.body=none:=by intro e;simp [e] at h3
  simp [execOp,resolve,Deferred.ofValue,invoke,callFunc,hρ x _ hx,qdK hρ hv,h1,h2',h3']
 simp only [Oper.wp,hrun,Oper.upon]
 refine (hc ho).mono ?_
 rintro e w' ⟨v,L',s',rfl,rfl,h4,h5,h6⟩
 obtain ⟨k1,k2⟩:=k v L' s' h5 h6
 have hK2:∀ x∈K,x∈L':=fun x hx=>k1 x hx (hK x hx)
 exact ⟨⟨L',s',rfl,h4,hl.trans h5,hK2⟩,k2 hT _ (hf.put hd v) h4 (hl.trans h5) hK2⟩
theorem Jb{i:Nat}{f:FuncId}{x:Operand}{xs:List Operand}{vs:List Value}{ts:Array TypeId}{R:Value→Hl→World→Prop}(hi:ops[i]?=some ⟨some d,.call { callee:=.value x,args:=xs.toArray,argTypes:=ts },ty,pos,af,g⟩)(hg:GOK ops fr g)
  (hx:lk fr x=some (.func (.func f) ([]:List Value).toArray ([]:List Value).toArray)) (hv:lks fr xs=some vs) (hd:Nat.blt d n=true) (h:AC P D f (([]:List Value)++vs++[]) L s R)
  (k:∀ v L' s',Le D s s'→R v L' s'→(∀ x∈K,x∈L→x∈L')∧JA P TT D n ops Q K s0 fuel (listed.setIfInBounds i true) ((d,v)::fr) L' s') :
  JB P TT D n ops Q K s0 fuel listed i fr L s:=qqQ (first:=[]) (captured:=[]) hi hg hx hv hd h k
theorem qaL{i t:Nat}{ti:TI}(hi:ops[i]?=some ⟨some d,.alloc t,ty,pos,af,g⟩)(hg:GOK ops fr g)(ht:qaB TT t=some ti)(zs:List Value)(hz:ti.zeros=zs)(hd:Nat.blt d n=true)
  (k:∀ β s',Le D s s'→JA P TT D n ops Q K s0 fuel (listed.setIfInBounds i true) ((d,.pointer (some ⟨β,0,none⟩))::fr) ((β,cb zs t)::L) s'):JB P TT D n ops Q K s0 fuel listed i fr L s:=fun hT a hf ho hl hK=>by
 subst hz
 exact qhw hi hg (qgC ht ho) (qaH ho (cb ti.zeros t)).2.2 (fun x _ h=>List.mem_cons_of_mem _ h) hd (k _ _ (qaH ho (cb ti.zeros t)).2.2) hT a hf ho hl hK
theorem qf9{i0 t b off:Nat}{x y:Operand}{ti:TI}{t':Nat}{zs:List Value}(hi0:ops[i0]?=some ⟨none,.store t x y,ty,pos,af,g⟩)(hg:GOK ops fr g)(i:Nat)(zs':List Value){L':Hl}(hx:lk fr x=some (.pointer (some ⟨b,off,none⟩)))(hy:lk fr y=some v)(hi:L[i]?=some (b,cb zs t'))(ht:qaB TT t=some ti)
  (hl:(qa6 v).length=ti.size) (hle:Nat.ble (off+ti.size) zs.length=true) (h1:(qa6 v).all (·.oneCell')=true) (hs:qbN zs off (qa6 v)=zs') (hL:qdl L i (cb zs' t')=L') (hK':∀ x∈K,x∈L.eraseIdx i)
  (k:JA P TT D n ops Q K s0 fuel (listed.setIfInBounds i0 true) fr L' s):JB P TT D n ops Q K s0 fuel listed i0 fr L s:=by
 subst hL;exact qvo hi0 hg (qqN i zs' hx hy hi ht hl hle h1 hs) (Le.refl _) (fun x hx _=>qj7 (hK' x hx) _) k
theorem Wu{i0 t b off:Nat}{x y:Operand}{ti:TI}{t':Nat}{zs:List Value}(hi0:ops[i0]?=some ⟨none,.store t x y,ty,pos,af,g⟩)(hg:GOK ops fr g)(i:Nat)(zs':List Value){L':Hl}(hY:(lk fr x=some (.pointer (some ⟨b,off,none⟩)))∧(lk fr y=some v)∧(L[i]?=some (b,cb zs t'))∧(qaB TT t=some ti)∧((qa6 v).length=ti.size)∧(Nat.ble (off+ti.size) zs.length=true)∧((qa6 v).all (·.oneCell')=true)∧(qbN zs off (qa6 v)=zs')∧(qdl L i (cb zs' t')=L'))(hK':∀ x∈K,x∈L.eraseIdx i)
  (k:JA P TT D n ops Q K s0 fuel (listed.setIfInBounds i0 true) fr L' s):JB P TT D n ops Q K s0 fuel listed i0 fr L s:=qf9 hi0 hg i zs' hY.1 hY.2.1 hY.2.2.1 hY.2.2.2.1 hY.2.2.2.2.1 hY.2.2.2.2.2.1 hY.2.2.2.2.2.2.1 hY.2.2.2.2.2.2.2.1 hY.2.2.2.2.2.2.2.2 hK' k
theorem qa7{A B:Hl}(h:A.Perm B):∀ s,OKL D A s→fill A s=fill B s:=by
 induction h with
 | nil=>intro s _;rfl
 | cons x _ ih=>intro s ho;simp only [fill];rw [ih s ho.tail]
 | swap x y l=>
  intro s ho
  simp only [fill]
  have:=ho.nd
  simp only [List.map_cons,List.nodup_cons,List.mem_cons,not_or] at this
  exact qea _ _ (fun e=>this.1.1 e.symm)
 | trans h1 h2 ih1 ih2=>
  intro s ho
  rw [ih1 s ho,ih2 s ⟨(h1.map _).nodup_iff.1 ho.nd,fun x hx=>ho.dm x (h1.mem_iff.2 hx)⟩]
theorem OKL.perm{A B:Hl}(h:A.Perm B)(ho:OKL D A s):OKL D B s:=⟨(h.map _).nodup_iff.1 ho.nd,fun x hx=>ho.dm x (h.mem_iff.2 hx)⟩
def Mid{γ:Type}(S:γ→Fr)(H:γ→Hl)(I:γ→World→Prop):Fr→Hl→World→Prop:=fun fr' L' s'=>∃ g A,Keeps fr' (S g)∧L'.Perm (A++H g)∧I g s'
end
theorem w64{a:Int}(h1:-9223372036854775808≤a)(h2:a≤9223372036854775807):IntKind.i64.wrap a=a:=by
 rw [IntKind.wrap_i64];omega
def bld(places:List (Nat×Nat)):List Value→List (Nat×Value)→Option (List Value)
 | zs,[]=>some zs
 | zs,(i,v)::rest=>match places[i]? with
  | none=>none
  | some (off,size)=>bif (Nat.beq (qa6 v).length size && Nat.ble (off+size) zs.length) then bld places (qbN zs off (qa6 v)) rest else none
theorem qe6(vs:List Value)(off k:Nat)(zs:List Value)(h:off+k+vs.length≤zs.length) :
  (vs.zipIdx k).foldl (fun (cs:Array Value) (x:Value×Nat)=>cs.setIfInBounds (off+x.2) x.1) zs.toArray=(qbN zs (off+k) vs).toArray:=by
 induction vs generalizing k zs with
 | nil=>cases zs <;> simp [qbN]
 | cons v vs ih=>
  simp only [List.zipIdx_cons,List.foldl_cons]
  have h0:off+k < zs.length:=by simp at h;omega
  rw [List.setIfInBounds_toArray,ih (k+1) _ (by simp at h ⊢;omega)]
  congr 1
  rw [qdf _ _ _ (by simp at h ⊢;omega),qdf _ _ _ (by simpa using h)]
  simp only [List.length_cons]
  rw [show off+(k+1)=off+k+1 by omega]
  rw [List.take_succ_eq_append_getElem (by simpa using h0),List.take_set_of_le O,List.drop_set]
  simp [show ¬ (off+k+1+vs.length≤off+k) by omega,show off+k < off+k+1+vs.length by omega]
  congr 1
  omega
theorem qiV(places:List (Nat×Nat))(f:Nat→Option (Nat×Nat))(hf:∀ i,f i=places[i]?)(zs:List Value)(parts:List (Nat×Value)){vs:List Value}(h:bld places zs parts=some vs) :
    Instr.fill f zs.toArray parts=some vs.toArray:=by
  induction parts generalizing zs with
  | nil=>simp [bld] at h;subst h;rfl
  | cons p rest ih=>
    obtain ⟨i,v⟩:=p
    simp only [bld] at h
    simp only [Instr.fill,hf]
    cases hp:places[i]? with
    | none=>simp [hp] at h
    | some os=>
      obtain ⟨off,size⟩:=os
      simp only [hp,cond_eq_ite] at h
      by_cases hc:(Nat.beq (qa6 v).length size && Nat.ble (off+size) zs.length)=true
      · simp only [hc,if_true] at h
        simp only [Bool.and_eq_true] at hc
        have h1:(qa6 v).length=size:=Nat.eq_of_beq_eq_true hc.1
        have h2:off+size≤zs.length:=Nat.le_of_ble_eq_true hc.2
        have h3:=qe6 (qa6 v) off 0 zs O
        simp only [qc5,List.size_toArray,h1,ne_eq,not_true,decide_false,Bool.false_or,gt_iff_lt,decide_eq_true_eq,show ¬ zs.length < off+size by omega,if_false]
        have e:(qa6 v).toArray.zipIdx=((qa6 v).zipIdx 0).toArray:=by simp
        rw [e]
        simp only [List.foldl_toArray,Nat.add_zero] at h3 ⊢
        rw [h3]
        exact ih _ h
      · simp only [hc] at h;cases h
section
variable{P:Program}{TT:qaZ}{D n:Nat}{Q:qbD}{fr:Fr}{L L' K:Hl}{s s' s0:World}{ops:Array Oper}{rest:List Oper}{d ty:Nat}{op:Op}{pos:String}{af:Array Edge}{v:Value}
def lkp(fr:Fr):List (Nat×Operand)→Option (List (Nat×Value))
 | []=>some []
 | (i,x)::r=>match lk fr x with
  | some v=>match lkp fr r with
   | some vs=>some ((i,v)::vs)
   | none=>none
  | none=>none
theorem qlx{fr:Fr}{ρ:Operand→Value}(hρ:∀ x v,lk fr x=some v→ρ x=v){xs:List (Nat×Operand)}{vs:List (Nat×Value)}(h:lkp fr xs=some vs):xs.map (fun p=>(p.1,ρ p.2))=vs:=by
 induction xs generalizing vs with
 | nil=>simp [lkp] at h;subst h;rfl
 | cons p xs ih=>
  obtain ⟨i,x⟩:=p
  simp only [lkp] at h
  cases h1:lk fr x with
  | none=>simp [h1] at h
  | some v=>
   cases h2:lkp fr xs with
   | none=>simp [h1,h2] at h
   | some r=>simp [h1,h2] at h;subst h;simp [hρ x v h1,ih h2]
theorem qjY{fs:List Field}{l:List Nat}(h:fs.map (fun f=>P.cellsOf f.type)=l)(hp:fs.all (fun f=>decide (0 < P.cellsOf f.type))=true)(w:World) :
  (fs.mapM (m:=Sem) fun f=>do pure (f.offset,← sizeOf f.type)).run P w=.ok ((fs.map (·.offset)).zip l) w:=by
 induction fs generalizing l with
 | nil=>subst h;simp
 | cons f fs ih=>
  subst h
  simp only [List.all_cons,Bool.and_eq_true,decide_eq_true_eq] at hp
  have hsz:(sizeOf f.type).run P w=.ok (P.cellsOf f.type) w:=by
   have hpos:=hp.1
   unfold Program.cellsOf at hpos ⊢
   cases hi:P.info? f.type with
   | none=>simp [hi] at hpos
   | some i=>simp [sizeOf,typeInfo,hi]
  simp only [List.mapM_cons,Sem.run_bind,hsz,Result.andThen_ok,Sem.run_pure,ih rfl hp.2,List.map_cons,List.zip_cons_cons]
theorem qam{t:Nat}{ps:List (Nat×Operand)}{ti:TI}{os:List Nat}(vals:List (Nat×Value))(vs:List Value)(ht:qaB TT t=some ti)(hk:ti.kind=.st os)(hv:lkp fr ps=some vals){zs fz:List _}(hz:ti.zeros=zs)(hfz:ti.fsz=fz)
  (hb:bld (os.zip fz) zs vals=some vs):QE P TT D fr (.build t ps.toArray) ty K s0 (.agg vs.toArray):=
 QE.pure fun hT dst pos af g ρ hρ w=>by
  subst hz;subst hfz
  have hok:=hT.at_ ht
  have hok2:=hok
  obtain ⟨h1,h2,_,_,_,_,_,h8,h9⟩:=hok2
  rw [hk] at h2
  cases hd:ti.desc with
  | struct fs=>
   rw [hd] at h1 h2 h8 h9
   simp only [TK.fits] at h2
   have hpl:=qjY (P:=P) (w:=w) (fs:=fs.toList) (show fs.toList.map (fun f=>P.cellsOf f.type)=ti.fsz from h9) h8
   have hz:ti.zero.cells=ti.zeros.toArray:=qcD hok
   have hpl':(fs.mapM (m:=Sem) fun f=>do pure (f.offset,← sizeOf f.type)).run P w=.ok (os.zip ti.fsz).toArray w:=by
    rw [Array.mapM_eq_mapM_toList]
    simp only [map_eq_pure_bind,Sem.run_bind,hpl,Result.andThen_ok,Sem.run_pure,h2]
   have hfill:=qiV (os.zip ti.fsz) ((os.zip ti.fsz).toArray[·]?) (fun i=>by simp) ti.zeros vals hb
   have hm:(ps.toArray.map fun p=>(p.1,ρ p.2)).toList=vals:=by simpa using qlx hρ hv
   simp only [execOp,Instr.build,Sem.run_bind,qey hok,Result.andThen_ok,run_underlying h1,hpl',hz]
   have hm':(ps.toArray.map fun (x:Nat×Operand)=>match x with | (i,x)=>(i,ρ x)).toList=vals:=hm
   rw [hm',hfill]
   rfl
  | _=>rw [hd] at h2;simp [TK.fits] at h2
def qfr(L:Hl):List Nat→Hl
 | []=>L
 | i::r=>qfr (L.eraseIdx i) r
theorem qaY{L:Hl}{r:List Nat}{x:Nat×Obj}(h:x∈qfr L r):x∈L:=by
 induction r generalizing L with
 | nil=>exact h
 | cons i r ih=>exact List.mem_of_mem_eraseIdx (ih h)
theorem qbJ{id:Nat}{l:List Oper}(hm:P.follows .mixedOrders=true)(N:Nat)(hN:l.length=N)(r:List Nat)(hK:∀ x∈qfr L r,x∈L)
  (h:∀ s',Le D s s'→JA P TT D n l.toArray Q (qfr L r) s' N (Array.replicate N false) fr L s'):JC P TT D n Q (.region id l.toArray true) fr L s:=qay hm N hN _ hK h
theorem qna(zs:List Value)(len i:Nat)(h:i < len * zs.length):((List.replicate len zs).flatten)[i]?=zs[i % zs.length]?:=by
 induction len generalizing i with
 | zero=>simp at h
 | succ len ih=>
  rw [List.replicate_succ,List.flatten_cons]
  by_cases hi:i < zs.length
  · rw [List.getElem?_append_left hi,Nat.mod_eq_of_lt hi]
  · rw [List.getElem?_append_right O,ih (i - zs.length) (by rw [Nat.succ_mul] at h;omega),Nat.mod_eq_sub_mod (by omega:i≥zs.length)]
theorem qr0(zs:List Value)(len:Nat)(h:0 < zs.length):(Array.range (len * zs.length)).map (fun i=>zs.toArray[i % zs.toArray.size]!)=((List.replicate len zs).flatten).toArray:=by
  apply Array.ext_getElem?
  intro i
  by_cases hi:i < len * zs.length
  · have hm:i % zs.length < zs.length:=Nat.mod_lt _ h
    have:=qna zs len i hi
    simp only [List.getElem?_toArray,this]
    simp [hi,hm]
  · have hl:((List.replicate len zs).flatten).length=len * zs.length:=by simp
    rw [Array.getElem?_eq_none (by simp;omega),Array.getElem?_eq_none (by simp only [List.size_toArray,hl];omega)]
def qf3(size:Nat):Nat→Nat→List (Nat×Nat)
 | _,0=>[]
 | o,n+1=>(o,size)::qf3 size (o+size) n
theorem qk2(size o n i:Nat)(h:i < n):(qf3 size o n)[i]?=some (o+i * size,size):=by
 induction n generalizing o i with
 | zero=>omega
 | succ n ih=>
  cases i with
  | zero=>simp [qf3]
  | succ i=>simp only [qf3,List.getElem?_cons_succ];rw [ih (o+size) i O,Nat.succ_mul];congr 2;omega
theorem qnf(size len:Nat)(zs:List Value)(parts:List (Nat×Value)){vs:List Value}(hp:parts.all (fun x=>Nat.blt x.1 len)=true)(h:bld (qf3 size 0 len) zs parts=some vs) :
    Instr.fill (fun i=>some (i * size,size)) zs.toArray parts=some vs.toArray:=by
  induction parts generalizing zs with
  | nil=>simp [bld] at h;subst h;rfl
  | cons x rest ih=>
    obtain ⟨i,v⟩:=x
    simp only [List.all_cons,Bool.and_eq_true] at hp
    have hi:i < len:=Nat.le_of_ble_eq_true hp.1
    have hg:=qk2 size 0 len i hi
    rw [Nat.zero_add] at hg
    have h1:=qiV (qf3 size 0 len) ((qf3 size 0 len)[·]?) (fun _=>rfl) zs ((i,v)::rest) h
    simp only [bld,hg,cond_eq_ite] at h
    simp only [Instr.fill,hg] at h1 ⊢
    by_cases hc:(Nat.beq (qa6 v).length size && Nat.ble (i * size+size) zs.length)=true
    · simp only [hc,if_true] at h
      simp only [Bool.and_eq_true] at hc
      have e1:(qa6 v).length=size:=Nat.eq_of_beq_eq_true hc.1
      have e2:i * size+size≤zs.length:=Nat.le_of_ble_eq_true hc.2
      have h3:=qe6 (qa6 v) (i * size) 0 zs O
      simp only [qc5,List.size_toArray,e1,ne_eq,not_true,decide_false,Bool.false_or,gt_iff_lt,decide_eq_true_eq,show ¬ zs.length < i * size+size by omega,if_false]
      have e:(qa6 v).toArray.zipIdx=((qa6 v).zipIdx 0).toArray:=by simp
      rw [e]
      simp only [List.foldl_toArray,Nat.add_zero] at h3 ⊢
      rw [h3]
      exact ih _ hp.2 h
    · simp only [hc] at h;cases h
theorem qf7{t e len:Nat}{ti te:TI}(hti:ti.ok P t)(hk:ti.kind=.sl e)(hte:te.ok P e)(hsz:Nat.ble (len * te.size) 16777216=true)(hpos:0 < len)(vals:List (Nat×Value))(vs:List Value)(hp:vals.all (fun x=>Nat.blt x.1 len)=true)
  (hb:bld (qf3 te.size 0 len) (List.replicate len te.zeros).flatten vals=some vs) (w:World):(Instr.buildSlice t len vals.toArray).run P w=.ok (.slice (some ⟨w.heap.size,0,none⟩) len len) (w.alloc (cb vs e)):=by
 obtain ⟨k1,k2,_⟩:=hti
 rw [hk] at k2
 simp only [TK.fits] at k2
 rw [k2] at k1
 have hte2:=hte
 obtain ⟨_,_,_,z1,_,z3,_⟩:=hte2
 have hz:=qcD hte
 have hle:¬ (2 ^ 24 < len * te.size):=by have:=Nat.le_of_ble_eq_true hsz;omega
 have hne:¬ (len * te.size=0):=by
  intro h0
  have:=Nat.mul_pos hpos z3
  omega
 have hrow:=qr0 te.zeros len O
 rw [z1] at hrow
 have hfr:=qnf te.size len _ vals hp hb
 simp only [Instr.buildSlice,Sem.run_bind,run_underlying k1,Result.andThen_ok,qbH hte,gt_iff_lt,hle,if_false,Sem.run_pure,hne,qey hte,hz]
 rw [hrow,hfr]
 simp only [Sem.run_bind,qg4,Result.andThen_ok,Sem.run_pure]
 rfl
theorem qsM{t e len:Nat}{ti te:TI}{ps:List (Nat×Operand)}(vals:List (Nat×Value))(vs:List Value)(ht:qaB TT t=some ti)(hk:ti.kind=.sl e)(he:qaB TT e=some te)(hv:lkp fr ps=some vals)(hsz:Nat.ble (len * te.size) 16777216=true)(hpos:Nat.blt 0 len=true)(hp:vals.all (fun x=>Nat.blt x.1 len)=true)
  (hb:bld (qf3 te.size 0 len) (List.replicate len te.zeros).flatten vals=some vs) (ho:OKL D L s):Ev P TT D fr (.buildSlice t len ps.toArray) ty L s (.value (.slice (some ⟨s.heap.size,0,none⟩) len len)) ((s.heap.size,cb vs e)::L) (s.alloc (dum D)):=fun hT _ dst pos af g ρ hρ=>by
 obtain ⟨h1,h2,h3⟩:=qaH ho (cb vs e)
 refine ⟨?_,h2⟩
 have hm:(ps.toArray.map fun (x:Nat×Operand)=>match x with | (i,x)=>(i,ρ x))=vals.toArray:=by
  have:=qlx hρ hv
  rw [← this];simp
 have hpos':0 < len:=Nat.le_of_ble_eq_true hpos
 simp only [execOp,hm,Sem.run_bind,qf7 (hT.at_ ht) hk (hT.at_ he) hsz hpos' vals vs hp hb,Result.andThen_ok,Sem.run_pure,qaG]
 rw [← h1]
theorem qgd{b t:Nat}{vs:List Value}(ho:OKL D ((b,cb vs t)::L) s):CellsAt (fill [(b,cb vs t)] s) b 0 vs:=fun j v hj=>by
 have h1:OKL D [(b,cb vs t)] s:=⟨by simp,fun x hx=>ho.dm x (by simp at hx;subst hx;exact List.mem_cons_self ..)⟩
 rw [qcC h1 Mc,Nat.zero_add];exact hj
theorem qbk{t e len:Nat}{ti te:TI}{ps:List (Nat×Operand)}(vals:List (Nat×Value))(vs:List Value)(ht:qaB TT t=some ti)(hk:ti.kind=.sl e)(he:qaB TT e=some te)(hv:lkp fr ps=some vals)(hsz:Nat.ble (len * te.size) 16777216=true)(hpos:Nat.blt 0 len=true)(hp:vals.all (fun x=>Nat.blt x.1 len)=true)
  (hb:bld (qf3 te.size 0 len) (List.replicate len te.zeros).flatten vals=some vs) (hd:Nat.blt d n=true) (k:∀ β s',Le D s s'→CellsAt s' β 0 vs→JO P TT D n ops Q rest ((d,.slice (some ⟨β,0,none⟩) len len)::fr) L s') :
  JO P TT D n ops Q (⟨some d,.buildSlice t len ps.toArray,ty,pos,af,none⟩::rest) fr L s:=fun hT a hr ho=>by
 obtain ⟨h1,h2,h3⟩:=qaH ho (cb vs e)
 obtain ⟨d1,d2,d3⟩:=qbm (A:=[(s.heap.size,cb vs e)]) (B:=L) h2
 refine qf6 (L':=L) (s':=fill [(s.heap.size,cb vs e)] (s.alloc (dum D))) hd (fun hT _ dst pos af g ρ hρ=>⟨?_,d2⟩) (k _ _ (h3.trans d3) (qgd h2)) hT a hr ho
 rw [← d1]
 exact (qsM vals vs ht hk he hv hsz hpos hp hb ho hT ho dst pos af g ρ hρ).1
theorem qhX{i t e len:Nat}{g:Option (Nat×Bool)}{fuel:Nat}{listed:Array Bool}{ti te:TI}{ps:List (Nat×Operand)}(hi:ops[i]?=some ⟨some d,.buildSlice t len ps.toArray,ty,pos,af,g⟩)(hg:GOK ops fr g)(vals:List (Nat×Value))(vs:List Value)(ht:qaB TT t=some ti)(hk:ti.kind=.sl e)(he:qaB TT e=some te)(hv:lkp fr ps=some vals)(hsz:Nat.ble (len * te.size) 16777216=true)(hpos:Nat.blt 0 len=true)(hp:vals.all (fun x=>Nat.blt x.1 len)=true)
  (hb:bld (qf3 te.size 0 len) (List.replicate len te.zeros).flatten vals=some vs) (hd:Nat.blt d n=true) (k:∀ β s',Le D s s'→CellsAt s' β 0 vs→JA P TT D n ops Q K s0 fuel (listed.setIfInBounds i true) ((d,.slice (some ⟨β,0,none⟩) len len)::fr) L s') :
  JB P TT D n ops Q K s0 fuel listed i fr L s:=fun hT a hr ho hl hK=>by
 obtain ⟨h1,h2,h3⟩:=qaH ho (cb vs e)
 obtain ⟨d1,d2,d3⟩:=qbm (A:=[(s.heap.size,cb vs e)]) (B:=L) h2
 refine qhw (L':=L) (s':=fill [(s.heap.size,cb vs e)] (s.alloc (dum D))) hi hg (fun hT _ dst pos af g ρ hρ=>⟨?_,d2⟩) (h3.trans d3) (fun _ _ h=>h) hd (k _ _ (h3.trans d3) (qgd h2)) hT a hr ho hl hK
 rw [← d1]
 exact (qsM vals vs ht hk he hv hsz hpos hp hb ho hT ho dst pos af g ρ hρ).1
end
section
variable{P:Program}{TT:qaZ}{D n:Nat}{Q:qbD}{fr:Fr}{L L' K:Hl}{s s' s0:World}{ops:Array Oper}{rest:List Oper}{d ty:Nat}{op:Op}{pos:String}{af:Array Edge}{v:Value}
theorem qdX{ik:IntKind}{j y:Nat}{c:BoundsCode}(h:j≤y)(w:World):(Instr.sliceBound (.int ik (j:Int)) y c).run P w=.ok j w:=by
 have h0:(j:Int)≤(y:Int):=by omega
 simp [Instr.sliceBound,asIntOf,h0]
theorem qgK{t e:Nat}{x:Value}{lo hi mx:Option Value}{ti:TI}(h:ti.ok P t)(hk:ti.kind=.sl e):∀ w,(Instr.sliceAt t x lo hi mx).run P w=(Instr.slice t x lo hi mx).run P w:=by
 obtain ⟨k1,k2,_⟩:=h
 rw [hk] at k2
 simp only [TK.fits] at k2
 rw [k2] at k1
 intro w
 simp [Instr.sliceAt,run_underlying k1]
theorem qeW{t e:Nat}{A:Option Addr}{m c:Nat}{lo hi:Option Value}{ti te:TI}(h:ti.ok P t)(hk:ti.kind=.sl e)(he:te.ok P e){l u:Nat}(w:World)
  (hb:(Instr.sliceBounds true m c lo hi none).run P w=.ok (l,u,c) w):(Instr.sliceAt t (.slice A m c) lo hi none).run P w=.ok (.slice (if c=l then A else A.map (·.add (l * te.size))) (u - l) (c - l)) w:=by
 rw [qgK h hk]
 obtain ⟨k1,k2,_⟩:=h
 rw [hk] at k2
 simp only [TK.fits] at k2
 rw [k2] at k1
 simp [Instr.slice,run_underlying k1,hb,qbH he]
theorem add0(A:Option Addr)(k:Nat):A.map (·.add (0 * k))=A:=by cases A <;> simp [Addr.add]
theorem qji{t e:Nat}{x y:Operand}{ti te:TI}{ik:IntKind}{A:Option Addr}{m c j:Nat}(hx:lk fr x=some (.slice A m c))(hy:lk fr y=some (.int ik (j:Int)))(ht:qaB TT t=some ti)(hk:ti.kind=.sl e)(he:qaB TT e=some te)(hj:j≤c) :
  QE P TT D fr (.slice t x none (some y) none) ty K s0 (.slice A j c):=
 QE.pure fun hT dst pos af g ρ hρ w=>by
  have hb:(Instr.sliceBounds true m c none (some (.int ik (j:Int))) none).run P w=.ok (0,j,c) w:=by simp [Instr.sliceBounds,qdX hj]
  have hr:=qeW (A:=A) (hT.at_ ht) hk (hT.at_ he) w hb
  simp only [execOp,hρ x _ hx,Option.map_none,Option.map_some,hρ y _ hy,Sem.run_bind,hr,Result.andThen_ok,Sem.run_pure,add0]
  simp
theorem qpI{t e:Nat}{x y:Operand}{ti te:TI}{ik:IntKind}{A:Option Addr}{m c j:Nat}(hx:lk fr x=some (.slice A m c))(hy:lk fr y=some (.int ik (j:Int)))(ht:qaB TT t=some ti)(hk:ti.kind=.sl e)(he:qaB TT e=some te)(hj:j≤m) :
  QE P TT D fr (.slice t x (some y) none none) ty K s0 (.slice (if c=j then A else A.map (·.add (j * te.size))) (m - j) (c - j)):=
 QE.pure fun hT dst pos af g ρ hρ w=>by
  have hb:(Instr.sliceBounds true m c (some (.int ik (j:Int))) none none).run P w=.ok (j,m,c) w:=by simp [Instr.sliceBounds,qdX hj]
  have hr:=qeW (A:=A) (hT.at_ ht) hk (hT.at_ he) w hb
  simp only [execOp,hρ x _ hx,Option.map_none,Option.map_some,hρ y _ hy,Sem.run_bind,hr,Result.andThen_ok,Sem.run_pure]
theorem qhY(l:List UInt8)(lo hi:Nat)(h:lo≤hi):(⟨l.toArray⟩:ByteArray).extract lo hi=⟨((l.drop lo).take (hi - lo)).toArray⟩:=by
 apply ByteArray.ext
 simp [List.take_drop,Nat.add_sub_cancel' h]
theorem qeC{t:Nat}{l:List UInt8}{lo hi:Option Value}{ti:TI}(h:ti.ok P t)(hk:ti.desc=.string){a u:Nat}(hau:a≤u)(w:World)(hb:(Instr.sliceBounds false l.length l.length lo hi none).run P w=.ok (a,u,l.length) w) :
  (Instr.sliceAt t (St l) lo hi none).run P w=.ok (St ((l.drop a).take (u - a))) w:=by
 have k1:=h.1
 rw [hk] at k1
 have hsz:(⟨l.toArray⟩:ByteArray).size=l.length:=by simp [ByteArray.size]
 have hx:=qhY l a u hau
 simp only [Instr.sliceAt,Sem.run_bind,run_underlying k1,Result.andThen_ok,Instr.slice,Option.isSome_none,Bool.false_eq_true,if_false,hsz,hb,Sem.run_pure,hx]
theorem qty{t:Nat}{x y:Operand}{ti:TI}{ik:IntKind}{l:List UInt8}{a:Nat}(hx:lk fr x=some (St l))(hy:lk fr y=some (.int ik (a:Int)))(ht:qaB TT t=some ti)(hk:ti.desc=.string)(ha:a≤l.length) :
  QE P TT D fr (.slice t x (some y) none none) ty K s0 (St (l.drop a)):=
 QE.pure fun hT dst pos af g ρ hρ w=>by
  have hb:(Instr.sliceBounds false l.length l.length (some (.int ik (a:Int))) none none).run P w=.ok (a,l.length,l.length) w:=by simp [Instr.sliceBounds,qdX ha]
  have hr:=qeC (hT.at_ ht) hk ha w hb
  simp only [execOp,hρ x _ hx,Option.map_none,Option.map_some,hρ y _ hy,Sem.run_bind,hr,Result.andThen_ok,Sem.run_pure]
  have:(l.drop a).take (l.length - a)=l.drop a:=List.take_of_length_le (by simp)
  rw [this]
theorem qrh{t:Nat}{x y z:Operand}{ti:TI}{ik ik':IntKind}{l:List UInt8}{a u:Nat}(hx:lk fr x=some (St l))(hy:lk fr y=some (.int ik (a:Int)))(hz:lk fr z=some (.int ik' (u:Int)))(ht:qaB TT t=some ti)(hk:ti.desc=.string)(ha:a≤u)(hu:u≤l.length) :
  QE P TT D fr (.slice t x (some y) (some z) none) ty K s0 (St ((l.drop a).take (u - a))):=
 QE.pure fun hT dst pos af g ρ hρ w=>by
  have hb:(Instr.sliceBounds false l.length l.length (some (.int ik (a:Int))) (some (.int ik' (u:Int))) none).run P w=.ok (a,u,l.length) w:=by simp [Instr.sliceBounds,qdX ha,qdX hu]
  have hr:=qeC (hT.at_ ht) hk ha w hb
  simp only [execOp,hρ x _ hx,Option.map_none,Option.map_some,hρ y _ hy,hρ z _ hz,Sem.run_bind,hr,Result.andThen_ok,Sem.run_pure]
end
end Go.FL
namespace Go.Proofs.YtpdnijphccdiiaaGreatDoor
open Go Go.FL
structure Tm where
 kind:Int
 val:Int
 deriving DecidableEq
structure Ac where
 kind:Int
 tgt:Int
 x:Tm
 y:Tm
 deriving DecidableEq
def Sl{α:Type}(sz:Nat)(R:World→α→List Value→Prop)(s:World)(A:Option Addr)(n c:Nat)(l:List α):Prop:=
 n=l.length∧n≤c∧c≤9223372036854775807∧∀ i x,l[i]?=some x→∃ b off cs,A=some ⟨b,off,none⟩∧CellsAt s b (off+i * sz) cs∧cs.length=sz∧R s x cs
theorem Sl.le{α:Type}{sz:Nat}{R:World→α→List Value→Prop}{D:Nat}{s s':World}{A:Option Addr}{n c:Nat}{l:List α}(hR:∀ x cs,R s x cs→R s' x cs)(h:Sl sz R s A n c l)(hl:Le D s s'):Sl sz R s' A n c l:=
 ⟨h.1,h.2.1,h.2.2.1,fun i x hi=>by
  obtain ⟨b,off,cs,h1,h2,h3,h4⟩:=h.2.2.2 i x hi
  exact ⟨b,off,cs,h1,h2.le hl,h3,hR x cs h4⟩⟩
def U32(x:Int):Prop:=0≤x∧x < 4294967296
def Ac.cs(a:Ac):List Value:=[.int .i64 a.kind,.int .i64 a.tgt,.int .i64 a.x.kind,.int .u32 a.x.val,.int .i64 a.y.kind,.int .u32 a.y.val]
theorem Sl.take{α:Type}{sz:Nat}{R:World→α→List Value→Prop}{s:World}{A:Option Addr}{n c k:Nat}{l:List α}(h:Sl sz R s A n c l)(hk:k < n):Sl sz R s A k c (l.take k):=
 ⟨by have:=h.1;simp;omega,by have:=h.2.1;omega,h.2.2.1,fun i x hi=>h.2.2.2 i x (by
  rw [List.getElem?_take] at hi
  split at hi
  · exact hi
  · cases hi)⟩
def Wds(s:World)(A:Option Addr)(n c:Nat)(l:List Int):Prop:=Sl 1 (fun _ x cs=>cs=[.int .u32 x]∧U32 x) s A n c l
def Bts(s:World)(A:Option Addr)(n c:Nat)(l:List UInt8):Prop:=Sl 1 (fun _ x cs=>cs=[.int .u8 (x.toNat:Int)]) s A n c l
theorem Wds.le{D:Nat}{s s':World}{A:Option Addr}{n c:Nat}{l:List Int}(h:Wds s A n c l)(hl:Le D s s'):Wds s' A n c l:=Sl.le (fun _ _ h=>h) h hl
theorem Bts.le{D:Nat}{s s':World}{A:Option Addr}{n c:Nat}{l:List UInt8}(h:Bts s A n c l)(hl:Le D s s'):Bts s' A n c l:=Sl.le (fun _ _ h=>h) h hl
theorem Wds.at_{s:World}{A:Option Addr}{n c k:Nat}{l:List Int}(h:Wds s A n c l)(hk:k < n):∃ b off x,A=some ⟨b,off,none⟩∧l[k]?=some x∧CellsAt s b (off+k) [.int .u32 x]∧U32 x:=by
 have hl:k < l.length:=by rw [← h.1];exact hk
 obtain ⟨b,off,cs,h1,h2,_,rfl,h4⟩:=h.2.2.2 k l[k] (List.getElem?_eq_getElem hl)
 exact ⟨b,off,l[k],h1,List.getElem?_eq_getElem hl,by simpa using h2,h4⟩
theorem Bts.at_{s:World}{A:Option Addr}{n c k:Nat}{l:List UInt8}(h:Bts s A n c l)(hk:k < n):∃ b off x,A=some ⟨b,off,none⟩∧l[k]?=some x∧CellsAt s b (off+k) [.int .u8 (x.toNat:Int)]:=by
 have hl:k < l.length:=by rw [← h.1];exact hk
 obtain ⟨b,off,cs,h1,h2,_,rfl⟩:=h.2.2.2 k l[k] (List.getElem?_eq_getElem hl)
 exact ⟨b,off,l[k],h1,List.getElem?_eq_getElem hl,by simpa using h2⟩
theorem qbc{α:Type}{p:Nat→α→Prop}{l:List α}{k:Nat}{a:α}(h:∀ i b,i < k→l[i]?=some b→p i b)(hk:l[k]?=some a)(ha:p k a):∀ i b,i < k+1→l[i]?=some b→p i b:=by
 intro i b hi hb
 rcases Nat.lt_succ_iff_lt_or_eq.1 hi with h1 | rfl
 · exact h i b h1 hb
 · rw [hk] at hb;injection hb with hb;subst hb;exact ha
def qh0(c:UInt8):Bool:=decide (97≤c.toNat) && decide (c.toNat≤122)
def qj8(c:UInt8):Bool:=decide (48≤c.toNat) && decide (c.toNat≤57)
def qfg(i:Nat)(c:UInt8):Bool:=qh0 c || (qj8 c && decide (i≠0))
def qbq(i:Nat):List UInt8→Bool
 | []=>true
 | c::r=>qfg i c && qbq (i+1) r
theorem qew(l:List UInt8)(i:Nat):qbq i l=true↔∀ j c,l[j]?=some c→qfg (i+j) c=true:=by
  induction l generalizing i with
  | nil=>simp [qbq]
  | cons c r ih=>
    simp only [qbq,Bool.and_eq_true,ih]
    constructor
    · rintro ⟨h1,h2⟩ j d hj
      cases j with
      | zero=>simp at hj;subst hj;exact h1
      | succ j=>simp at hj;have:=h2 j d hj;rwa [Nat.add_assoc,Nat.add_comm 1 j] at this
    · intro h
      exact ⟨by simpa using h 0 c (by simp),fun j d hj=>by have:=h (j+1) d (by simpa using hj);rwa [Nat.add_assoc,Nat.add_comm 1 j]⟩
theorem qkj{l:List UInt8}(h:∀ i c,i < l.length→l[i]?=some c→qfg i c=true):qbq 0 l=true:=
 (qew l 0).2 fun j c hj=>by
  have hl:j < l.length:=(List.getElem?_eq_some_iff.1 hj).1
  simpa using h j c hl hj
theorem qes{l:List UInt8}{k:Nat}{c:UInt8}(hk:l[k]?=some c)(h:qfg k c=false):qbq 0 l=false:=by
 cases hb:qbq 0 l with
 | false=>rfl
 | true=>have:=(qew l 0).1 hb k c hk;simp at this;rw [this] at h;cases h
def qbb{α:Type}(p:α→Bool):List α→Nat→Int
 | [],_=>-1
 | x::r,k=>if p x then (k:Int) else qbb p r (k+1)
theorem qca{α:Type}{p:α→Bool}{l:List α}{k j:Nat}{a:α}(h:∀ i b,i < k→l[i]?=some b→p b=false)(hk:l[k]?=some a)(ha:p a=true):qbb p l j=(j+k:Nat):=by
 induction l generalizing k j with
 | nil=>simp at hk
 | cons b r ih=>
  cases k with
  | zero=>simp at hk;subst hk;simp [qbb,ha]
  | succ k=>
   have h0:=h 0 b O (by simp)
   simp only [qbb,h0,Bool.false_eq_true,if_false]
   rw [ih (k:=k) (fun i c hi hc=>h (i+1) c O (by simpa using hc)) (by simpa using hk)]
   congr 1;omega
theorem qcj{α:Type}{p:α→Bool}{l:List α}{j:Nat}(h:∀ i b,i < l.length→l[i]?=some b→p b=false):qbb p l j=-1:=by
 induction l generalizing j with
 | nil=>rfl
 | cons b r ih=>
  have h0:=h 0 b (by simp) (by simp)
  simp only [qbb,h0,Bool.false_eq_true,if_false]
  exact ih fun i c hi hc=>h (i+1) c (by simp;omega) (by simpa using hc)
theorem ql1{α:Type}(p:α→Bool)(l:List α)(j:Nat):decide (0≤qbb p l j)=l.any p:=by
 induction l generalizing j with
 | nil=>simp [qbb]
 | cons b r ih=>
  by_cases hb:p b=true
  · simp [qbb,hb]
  · simp only [qbb,hb];simpa [hb] using ih (j+1)
end Go.Proofs.YtpdnijphccdiiaaGreatDoor
namespace Go.FL
open Go Go.RowKit Go.Proofs.YtpdnijphccdiiaaGreatDoor
theorem qjW(l:List UInt8)(r:ByteArray):(l.map (fun x=>(x.toNat:Int))).foldl (fun r n=>r.push (UInt8.ofNat n.toNat)) r=⟨r.data++l.toArray⟩:=by
 induction l generalizing r with
 | nil=>cases r;simp
 | cons x l ih=>
  simp only [List.map_cons,List.foldl_cons,ih]
  apply ByteArray.ext
  simp [ByteArray.push]
theorem qi0{P:Program}{TT:qaZ}{D:Nat}{fr:Fr}{ty:Nat}{K:Hl}{s0:World}{x:Operand}{t t' e:Nat}{A:Option Addr}{n c:Nat}{l:List UInt8}{ti ti' te:TI}(hx:lk fr x=some (.slice A n c))(ht:qaB TT t=some ti)(hk:ti.kind=.sl e)(he:qaB TT e=some te)(hke:te.desc=.int .u8)
  (ht':qaB TT t'=some ti') (hk':ti'.desc=.string) (h:Bts s0 A n c l):QE P TT D fr (.convert t t' x) ty K s0 (St l):=fun hT dst pos af g ρ hρ L s ho hl _=>by
 obtain ⟨k1,k2,_⟩:=hT.at_ ht
 rw [hk] at k2
 simp only [TK.fits] at k2
 rw [k2] at k1
 have k3:=(hT.at_ he).1
 rw [hke] at k3
 have k4:=(hT.at_ ht').1
 rw [hk'] at k4
 have hc:=run_convert_bytes_string (P:=P) (fill L s) t t' e A n c k1 k3 k4
 simp only [execOp,hρ x _ hx,Sem.run_bind,hc]
 cases A with
 | none=>
  have:l=[]:=by
   cases l with
   | nil=>rfl
   | cons y l=>obtain ⟨b,off,cs,h1,_⟩:=h.2.2.2 0 y rfl;cases h1
  subst this
  simp [Conv.bytesToString]
  rfl
 | some a=>
  have hcells:∀ j v,(l.map (fun x=>Value.int .u8 (x.toNat:Int)))[j]?=some v→(fill L s).cell? (a.add j)=some v:=fun j v hj=>by
   rw [List.getElem?_map] at hj
   cases hx:l[j]? with
   | none=>simp [hx] at hj
   | some y=>
    simp [hx] at hj
    obtain ⟨b,off,cs,h1,h2,h3,rfl⟩:=h.2.2.2 j y hx
    injection h1 with h1;subst h1
    have:=h2 0 _ rfl
    rw [add_lit,← hj]
    simpa using qdJ ho (hl.cell this)
  have hload:=run_loadCells_list (P:=P) (fill L s) a (l.map (fun x=>Value.int .u8 (x.toNat:Int))) hcells
  rw [List.length_map,← h.1] at hload
  have hr:=run_bytesToString (P:=P) (fill L s) a n c (l.map (fun x=>(x.toNat:Int))) (by rw [hload,List.map_map];rfl)
  rw [hr,qjW]
  have he:(⟨ByteArray.empty.data++l.toArray⟩:ByteArray)=⟨l.toArray⟩:=by apply ByteArray.ext;exact Array.empty_append
  simp only [Result.andThen_ok,Sem.run_pure,he]
end Go.FL
namespace Go.Proofs.YtpdnijphccdiiaaGreatDoor
open Go Go.FL
end Go.Proofs.YtpdnijphccdiiaaGreatDoor
namespace Go.FL
open Go Go.RowKit
variable{D:Nat}
theorem qoT{L L':Hl}{s w':World}(h:OKL D L s)(hos:w'.os=s.os)(htp:w'.tape=s.tape)(hout:w'.output=s.output)(hsz:s.heap.size≤w'.heap.size)(hnd:(L'.map (·.1)).Nodup)
    (hin:∀ x∈L',w'.heap[x.1]?=some x.2) (hkeys:∀ x∈L',x.1∈L.map (·.1)∨s.heap.size≤x.1) (hold:∀ k,k < s.heap.size→k ∉ L.map (·.1)→w'.heap[k]?=s.heap[k]?) :
    w'=fill L' (qcq D L' w')∧OKL D L' (qcq D L' w')∧Le D s (qcq D L' w'):=by
  have hlt:∀ x∈L',x.1 < w'.heap.size:=fun x hx=>by
    have:=hin x hx
    rcases Nat.lt_or_ge x.1 w'.heap.size with h1 | h1
    · exact h1
    · rw [Array.getElem?_eq_none h1] at this;cases this
  have hok:OKL D L' (qcq D L' w'):=⟨hnd,fun x hx=>qhN hlt (List.mem_map.2 ⟨x,hx,rfl⟩)⟩
  refine ⟨qc3 (qc4 fun k=>?_) ?_ ?_ ?_ ?_,hok,⟨?_,?_,?_,by rw [qeI];exact hsz,fun k hk=>?_⟩⟩
  · by_cases hk:k∈L'.map (·.1)
    · obtain ⟨x,hx,rfl⟩:=List.mem_map.1 hk
      rw [qa8 hok hx,hin x hx]
    · rw [qbg hk,qcQ hk]
  · rw [qbQ,qdZ]
  · rw [qcF,qfz]
  · rw [qcO,qfq]
  · rw [qbr,qc0]
  · rw [qfq,hos]
  · rw [qdZ,htp]
  · rw [qc0,hout]
  · by_cases hd:s.heap[k]?=some (dum D)
    · exact .inl hd
    · have hk1:=qg6 h hd
      have hk2:k ∉ L'.map (·.1):=fun hm=>by
        obtain ⟨x,hx,rfl⟩:=List.mem_map.1 hm
        rcases hkeys x hx with h1 | h1
        · exact hk1 h1
        · omega
      exact .inr (by rw [qcQ hk2,hold k hk hk1])
inductive Own(e sz:Nat):Hl→Value→Nat→List Value→Prop
 | nil:FL.Own e sz [] (.slice none 0 0) 0 []
 | blk (b cap n:Nat) (xs ys:List Value) (hn:xs.length=n * sz) (hc:xs.length+ys.length=cap * sz) (hnc:n≤cap) (hm:cap≤9223372036854775807):FL.Own e sz [(b,cb (xs++ys) e)] (.slice (some ⟨b,0,none⟩) n cap) n xs
def Row(s:World)(A:Option Addr)(m sz:Nat)(news:List Value):Prop:=
 news.length=m * sz∧(∀ u∈news,u.oneCell'=true)∧∀ j u,news[j]?=some u→∃ b off,A=some ⟨b,off,none⟩∧s.cell? ⟨b,off+j,none⟩=some u
theorem Row.of_cells{s:World}{b off m sz:Nat}{news:List Value}(h:CellsAt s b off news)(hl:news.length=m * sz)(h1:news.all (·.oneCell')=true):Row s (some ⟨b,off,none⟩) m sz news:=
 ⟨hl,fun u hu=>List.all_eq_true.1 h1 u hu,fun j u hj=>⟨b,off,rfl,h j u hj⟩⟩
theorem Row.le{s s':World}{A:Option Addr}{m sz:Nat}{news:List Value}(h:Row s A m sz news)(hl:Le D s s'):Row s' A m sz news:=
 ⟨h.1,h.2.1,fun j u hj=>by obtain ⟨b,off,h1,h2⟩:=h.2.2 j u hj;exact ⟨b,off,h1,hl.cell h2⟩⟩
theorem Own.owns{e sz:Nat}{A:Hl}{v:Value}{n:Nat}{xs:List Value}(h:FL.Own e sz A v n xs){w:World}(hw:∀ x∈A,w.heap[x.1]?=some x.2):w.ownsRow 0 e sz v n xs:=by
 cases h with
 | nil=>exact World.ownsRow_nil w 0 e sz
 | blk b cap n xs ys hn hc hnc hm=>
  refine ⟨hn,.inr ⟨b,cap,(xs++ys).toArray,Z,Nat.zero_le _,hw _ Mc,hnc,by simpa [maxLen] using hm,by simpa using hc,?_⟩⟩
  rw [← hn];simp
theorem Own.key{e sz:Nat}{A:Hl}{v:Value}{n:Nat}{xs:List Value}(h:FL.Own e sz A v n xs)(k:Nat):k∈A.map (·.1)↔v.ownBlock=some k:=by
 cases h with
 | nil=>simp [Value.ownBlock]
 | blk b cap n xs ys=>simp [Value.ownBlock,eq_comm]
theorem Own.of_owns{e sz:Nat}{w:World}{v:Value}{n:Nat}{xs:List Value}(h:w.ownsRow 0 e sz v n xs):∃ A,FL.Own e sz A v n xs∧∀ x∈A,w.heap[x.1]?=some x.2:=by
  obtain ⟨h1,h2⟩:=h
  rcases h2 with ⟨rfl,rfl⟩ | ⟨g,cap,cur,rfl,_,hg,hnc,hcm,hcs,ht⟩
  · have:xs=[]:=List.eq_nil_of_length_eq_zero (by simpa using h1)
    subst this
    exact ⟨[],.nil,fun x hx=>by cases hx⟩
  · have he:cur=(xs++cur.toList.drop (n * sz)).toArray:=by
      rw [← ht,List.take_append_drop]
    have hcs':xs.length+(cur.toList.drop (n * sz)).length=cap * sz:=by
      rw [← hcs,← List.length_append]
      have:=congrArg Array.size he
      simpa using this.symm
    refine ⟨[(g,cb (xs++cur.toList.drop (n * sz)) e)],.blk g cap n xs _ h1 hcs' hnc (by simpa [maxLen] using hcm),fun x hx=>?_⟩
    simp only [List.mem_singleton] at hx
    subst hx
    rw [hg,cb,← he]
theorem mem_mid{B A L0:Hl}{x:Nat×Obj}:x∈B++(A++L0)↔x∈B∨x∈A∨x∈L0:=by simp
theorem qpw{B A A' L0:Hl}{s w':World}{e sz:Nat}{v v':Value}{n n':Nat}{xs xs':List Value}(h:OKL D (B++(A++L0)) s)(hO:FL.Own e sz A v n xs)(hO':FL.Own e sz A' v' n' xs')(hA':∀ x∈A',w'.heap[x.1]?=some x.2)
    (hg:(fill (B++(A++L0)) s).grownBy w' v.ownBlock) (hat:v'.ownBlock=v.ownBlock∨v'.ownBlock=some s.heap.size) :
    w'=fill (B++(A'++L0)) (qcq D (B++(A'++L0)) w')∧OKL D (B++(A'++L0)) (qcq D (B++(A'++L0)) w')∧Le D s (qcq D (B++(A'++L0)) w'):=by
  have hnd:=h.nd
  have hkA':∀ k,k∈A'.map (·.1)→k∈A.map (·.1)∨k=s.heap.size:=fun k hk=>by
    rw [hO'.key] at hk
    rcases hat with h1 | h1
    · exact .inl ((hO.key k).2 (h1▸hk))
    · rw [h1] at hk;injection hk with hk;exact .inr hk.symm
  have hsize:=hg.size
  rw [qaG] at hsize
  have hlt:∀ x∈B++(A++L0),x.1 < s.heap.size:=fun x hx=>h.lt hx
  simp only [List.map_append,List.nodup_append,List.mem_append] at hnd
  obtain ⟨nB,⟨nA,nL,dAL⟩,dB⟩:=hnd
  have hrest:∀ x,x∈B∨x∈L0→w'.heap[x.1]?=some x.2:=fun x hx=>by
    have hmem:x∈B++(A++L0):=mem_mid.2 (by rcases hx with h1 | h1;exact .inl h1;exact .inr (.inr h1))
    rw [hg.block x.1 (by rw [qaG];exact hlt x hmem),qa8 h hmem]
    intro he
    have hk:=(hO.key x.1).2 he.symm
    rcases hx with h1 | h1
    · exact dB _ (List.mem_map.2 ⟨x,h1,rfl⟩) _ (.inl hk) rfl
    · exact dAL _ hk _ (List.mem_map.2 ⟨x,h1,rfl⟩) rfl
  refine qoT h (hg.os.trans (qcO _ _)) (hg.tape.trans (qbQ _ _)) (hg.output.trans (qbr _ _)) hsize ?_ ?_ ?_ ?_
  · have nA':(A'.map (·.1)).Nodup:=by cases hO' <;> simp
    simp only [List.map_append,List.nodup_append,List.mem_append]
    refine ⟨nB,⟨nA',nL,fun a ha b hb he=>?_⟩,fun a ha b hb he=>?_⟩
    · subst he
      rcases hkA' a ha with h1 | h1
      · exact dAL _ h1 _ hb rfl
      · obtain ⟨x,hx,rfl⟩:=List.mem_map.1 hb
        have:=hlt x (mem_mid.2 (.inr (.inr hx)));omega
    · subst he
      rcases hb with hb | hb
      · rcases hkA' a hb with h1 | h1
        · exact dB _ ha _ (.inl h1) rfl
        · obtain ⟨x,hx,rfl⟩:=List.mem_map.1 ha
          have:=hlt x (mem_mid.2 (.inl hx));omega
      · exact dB _ ha _ (.inr hb) rfl
  · intro x hx
    rcases mem_mid.1 hx with h1 | h1 | h1
    · exact hrest x (.inl h1)
    · exact hA' x h1
    · exact hrest x (.inr h1)
  · intro x hx
    rcases mem_mid.1 hx with h1 | h1 | h1
    · exact .inl (List.mem_map.2 ⟨x,mem_mid.2 (.inl h1),rfl⟩)
    · rcases hkA' x.1 (List.mem_map.2 ⟨x,h1,rfl⟩) with h2 | h2
      · exact .inl (by rw [List.map_append,List.map_append];simp only [List.mem_append];exact .inr (.inl h2))
      · exact .inr O
    · exact .inl (List.mem_map.2 ⟨x,mem_mid.2 (.inr (.inr h1)),rfl⟩)
  · intro k hk hn
    rw [hg.block k (by rw [qaG];exact hk),qbg hn]
    intro he
    exact hn (by rw [List.map_append,List.map_append];simp only [List.mem_append];exact .inr (.inl ((hO.key k).2 he.symm)))
section
variable{P:Program}{TT:qaZ}{n:Nat}{Q:qbD}{fr:Fr}{L L' K:Hl}{s s' s0:World}{ops:Array Oper}{rest:List Oper}{d ty:Nat}{op:Op}{pos:String}{af:Array Edge}{v:Value}
theorem qpq{t e m c k sz:Nat}{x y:Operand}{ti te:TI}{A1:Option Addr}{news xs:List Value}(B A L0:Hl)(hT:TabOK P TT)(hx:lk fr x=some v)(hy:lk fr y=some (.slice A1 m c))(ht:qaB TT t=some ti)(hk:ti.kind=.sl e)(he:qaB TT e=some te)(hsz:te.size=sz)
    (hO:FL.Own e sz A v k xs) (hR:Row s A1 m sz news) (h63:(k+m) * te.bytes≤140737488355328∧k+m≤9223372036854775807) (ho:OKL D (B++(A++L0)) s) :
    ∃ v' A' s',Ev P TT D fr (.call { callee:=.builtin .append,args:=#[x,y],argTypes:=#[t,t] }) ty (B++(A++L0)) s (.value v') (B++(A'++L0)) s'∧Le D s s'∧FL.Own e sz A' v' (k+m) (xs++news):=by
  have hok:=hT.at_ ht
  obtain ⟨k1,k2,_⟩:=hok
  rw [hk] at k2
  simp only [TK.fits] at k2
  rw [k2] at k1
  have hte:=hT.at_ he
  obtain ⟨i,i1,i2,i3,i4⟩:=qdu hte
  have hpos:0 < te.size:=hte.2.2.2.2.2.1
  have hzs:te.zero.cells.size=te.size:=by rw [qcD hte];simpa using hte.2.2.2.1
  have hin:∀ x∈A,(fill (B++(A++L0)) s).heap[x.1]?=some x.2:=fun x hx=>qa8 ho (mem_mid.2 (.inr (.inl hx)))
  have hown:=hO.owns hin
  by_cases hm:m=0
  · subst hm
    have hn:news=[]:=List.eq_nil_of_length_eq_zero (by simpa using hR.1)
    subst hn
    refine ⟨v,A,s,fun hT ho dst pos af g ρ hρ=>⟨?_,ho⟩,Le.refl _,by simpa using hO⟩
    have hle:∀ (A2:Option Addr) (w:World),(Builtin.firstCells te.size 0 (.slice A2 0 c)).run P w=.ok #[] w:=fun A2 w=>by
      cases A2 <;> simp [Builtin.firstCells,loadCells,loadCellsFrom]
    cases hO with
    | nil=>simp [execOp,resolve,invoke,builtin,Builtin.append_,hρ x _ hx,hρ y _ hy,run_underlying k1,qbH hte,Builtin.lenOf,hle]
    | blk b cap n xs ys hn hc hnc hm=>simp [execOp,resolve,invoke,builtin,Builtin.append_,hρ x _ hx,hρ y _ hy,run_underlying k1,qbH hte,Builtin.lenOf,hle,hnc,storeCells]
  · have h0:∃ b off,A1=some ⟨b,off,none⟩∧CellsAt s b off news:=by
      have hl:0 < news.length:=by rw [hR.1,← hsz];exact Nat.mul_pos (Nat.pos_of_ne_zero hm) hpos
      obtain ⟨b,off,h1,_⟩:=hR.2.2 0 news[0] (List.getElem?_eq_getElem hl)
      refine ⟨b,off,h1,fun j u hj=>?_⟩
      obtain ⟨b',off',h1',h2⟩:=hR.2.2 j u hj
      rw [h1] at h1'
      injection h1' with h1';injection h1' with e1 e2;subst e1;subst e2
      exact h2
    obtain ⟨b,off,rfl,hcells⟩:=h0
    obtain ⟨v',w',hrun,hown',hgr,_,hat⟩:=run_append_own_at (P:=P) (fill (B++(A++L0)) s) 0 t ty e i te.zero sz te.bytes k1 i1 i4 (i2.trans hsz) i3 (by rw [hzs,hsz]) (by rw [← hsz];exact hpos) v k xs hown ⟨b,off,none⟩ m c news hR.1
      (fun j u hj=>by rw [add_lit];exact qdJ ho (hcells j u hj)) hR.2.1 (by simpa [maxLen] using h63.2) h63.1 (Nat.zero_le _)
    obtain ⟨A',hO',hA'⟩:=Own.of_owns hown'
    rw [qaG] at hat
    obtain ⟨r1,r2,r3⟩:=qpw (D:=D) ho hO hO' hA' hgr hat
    refine ⟨v',A',qcq D (B++(A'++L0)) w',fun hT ho dst pos af g ρ hρ=>⟨?_,r2⟩,r3,hO'⟩
    rw [← r1]
    simp only [execOp,resolve,invoke,builtin,Sem.run_bind,Sem.run_pure,Result.andThen_ok,List.map_toArray,List.map_cons,List.map_nil,hρ x _ hx,hρ y _ hy,hrun]
theorem qba{t e m c k sz:Nat}{x y:Operand}{ti te:TI}{A1:Option Addr}{news xs:List Value}(B A L0:Hl)(hL:L=B++(A++L0))(hx:lk fr x=some v)(hy:lk fr y=some (.slice A1 m c))(ht:qaB TT t=some ti)(hk:ti.kind=.sl e)(he:qaB TT e=some te)(hsz:te.size=sz)
  (hO:FL.Own e sz A v k xs) (hR:Row s A1 m sz news) (h63:(k+m) * te.bytes≤140737488355328∧k+m≤9223372036854775807) (hd:Nat.blt d n=true)
  (kk:∀ v' A' s',Le D s s'→FL.Own e sz A' v' (k+m) (xs++news)→JO P TT D n ops Q rest ((d,v')::fr) (B++(A'++L0)) s') :
  JO P TT D n ops Q (⟨some d,.call { callee:=.builtin .append,args:=#[x,y],argTypes:=#[t,t] },ty,pos,af,none⟩::rest) fr L s:=fun hT a hr ho=>by
 subst hL
 obtain ⟨v',A',s',h1,h2,h3⟩:=qpq (ty:=ty) B A L0 hT hx hy ht hk he hsz hO hR h63 ho
 exact qf6 hd h1 (kk v' A' s' h2 h3) hT a hr ho
theorem qe7{i0 t e m c k sz:Nat}{g:Option (Nat×Bool)}{fuel:Nat}{listed:Array Bool}{x y:Operand}{ti te:TI}{A1:Option Addr}{news xs:List Value}(hi0:ops[i0]?=some ⟨some d,.call { callee:=.builtin .append,args:=#[x,y],argTypes:=#[t,t] },ty,pos,af,g⟩)(hgk:GOK ops fr g)
  (B A L0:Hl) (hL:L=B++(A++L0)) (hx:lk fr x=some v) (hy:lk fr y=some (.slice A1 m c)) (ht:qaB TT t=some ti) (hk:ti.kind=.sl e) (he:qaB TT e=some te) (hsz:te.size=sz)
  (hO:FL.Own e sz A v k xs) (hR:Row s A1 m sz news) (h63:(k+m) * te.bytes≤140737488355328∧k+m≤9223372036854775807) (hd:Nat.blt d n=true) (hK:∀ A',∀ x∈K,x∈B++(A++L0)→x∈B++(A'++L0))
  (kk:∀ v' A' s',Le D s s'→FL.Own e sz A' v' (k+m) (xs++news)→JA P TT D n ops Q K s0 fuel (listed.setIfInBounds i0 true) ((d,v')::fr) (B++(A'++L0)) s') :
  JB P TT D n ops Q K s0 fuel listed i0 fr L s:=fun hT a hr ho hl hKL=>by
 subst hL
 obtain ⟨v',A',s',h1,h2,h3⟩:=qpq (ty:=ty) B A L0 hT hx hy ht hk he hsz hO hR h63 ho
 exact qhw hi0 hgk h1 h2 (hK A') hd (kk v' A' s' h2 h3) hT a hr ho hl hKL
theorem qtw{t e m:Nat}{x:Operand}{ti te:TI}{ik:IntKind}{z:Value}(hT:TabOK P TT)(hx:lk fr x=some (.int ik (m:Int)))(ht:qaB TT t=some ti)(hk:ti.kind=.sl e)(he:qaB TT e=some te)(hz:te.zeros=[z])(hb:te.bytes * m≤281474976710656)(hm:m≤9223372036854775807)(ho:OKL D L s) :
  Ev P TT D fr (.makeSlice t x x) ty L s (.value (.slice (some ⟨s.heap.size,0,none⟩) m m)) ((s.heap.size,cb (List.replicate m z) e)::L) (s.alloc (dum D)):=fun _ _ dst pos af g ρ hρ=>by
 obtain ⟨h1,h2,h3⟩:=qaH ho (cb (List.replicate m z) e)
 refine ⟨?_,h2⟩
 obtain ⟨k1,k2,_⟩:=hT.at_ ht
 rw [hk] at k2
 simp only [TK.fits] at k2
 rw [k2] at k1
 have hte:=hT.at_ he
 obtain ⟨i,i1,i2,i3,i4⟩:=qdu hte
 have hs1:te.size=1:=by rw [← hte.2.2.2.1,hz];rfl
 have hb':(i.bytes:Int) * (m:Int)≤281474976710656:=by
  have h:((te.bytes * m:Nat):Int)≤281474976710656:=by omega
  rwa [Int.natCast_mul,← i3] at h
 have hr:=run_make (P:=P) (fill L s) t e i te.zero k1 i1 i4 ik ik m m O O hb' O
 have hc:madeCells te.zero.cells ((m:Int).toNat * i.size)=(List.replicate m z).toArray:=by
  rw [i2,hs1,qcD hte,hz]
  apply Array.ext_getElem?
  intro j
  simp only [madeCells,Int.toNat_natCast,Nat.mul_one]
  by_cases hj:j < m
  · simp [hj,Nat.mod_one]
  · rw [Array.getElem?_eq_none (by simp;omega),Array.getElem?_eq_none (by simp;omega)]
 rw [hc] at hr
 simp only [execOp,hρ x _ hx,Sem.run_bind,hr,Result.andThen_ok,Sem.run_pure,qaG,Int.toNat_natCast]
 rw [← h1]
 rfl
theorem qsO{t e m:Nat}{x:Operand}{ti te:TI}{ik:IntKind}{z:Value}(hx:lk fr x=some (.int ik (m:Int)))(ht:qaB TT t=some ti)(hk:ti.kind=.sl e)(he:qaB TT e=some te)(hz:te.zeros=[z])(hb:te.bytes * m≤281474976710656)(hm:m≤9223372036854775807)(hd:Nat.blt d n=true)
  (k:∀ β s',Le D s s'→JO P TT D n ops Q rest ((d,.slice (some ⟨β,0,none⟩) m m)::fr) ((β,cb (List.replicate m z) e)::L) s'):JO P TT D n ops Q (⟨some d,.makeSlice t x x,ty,pos,af,none⟩::rest) fr L s:=fun hT a hr ho=>
 qf6 hd (qtw hT hx ht hk he hz hb hm ho) (k _ _ (qaH ho (cb (List.replicate m z) e)).2.2) hT a hr ho
theorem qlK{i0 t e m:Nat}{g:Option (Nat×Bool)}{fuel:Nat}{listed:Array Bool}{x:Operand}{ti te:TI}{ik:IntKind}{z:Value}(hi0:ops[i0]?=some ⟨some d,.makeSlice t x x,ty,pos,af,g⟩)(hgk:GOK ops fr g)(hx:lk fr x=some (.int ik (m:Int)))(ht:qaB TT t=some ti)(hk:ti.kind=.sl e)(he:qaB TT e=some te)(hz:te.zeros=[z])(hb:te.bytes * m≤281474976710656)(hm:m≤9223372036854775807)(hd:Nat.blt d n=true)
  (k:∀ β s',Le D s s'→JA P TT D n ops Q K s0 fuel (listed.setIfInBounds i0 true) ((d,.slice (some ⟨β,0,none⟩) m m)::fr) ((β,cb (List.replicate m z) e)::L) s'):JB P TT D n ops Q K s0 fuel listed i0 fr L s:=fun hT a hr ho hl hK=>
 qhw hi0 hgk (qtw hT hx ht hk he hz hb hm ho) (qaH ho (cb (List.replicate m z) e)).2.2 (fun x _ h=>List.mem_cons_of_mem _ h) hd (k _ _ (qaH ho (cb (List.replicate m z) e)).2.2) hT a hr ho hl hK
theorem qmk{t e t' b dl dc m c:Nat}{x y:Operand}{ti te:TI}{A1:Option Addr}{news zs:List Value}(i:Nat)(ho:OKL D L s)(hx:lk fr x=some (.slice (some ⟨b,0,none⟩) dl dc))(hy:lk fr y=some (.slice A1 m c))(ht:qaB TT t=some ti)(hk:ti.kind=.sl e)(he:qaB TT e=some te)(hsz:te.size=1)
    (hi:L[i]?=some (b,cb zs t')) (hR:Row s A1 m 1 news) (hm:m≤dl) (hdl:dl≤zs.length):Ev P TT D fr (.call { callee:=.builtin .copy,args:=#[x,y],argTypes:=#[t,t] }) ty L s (.value (.int .i64 (m:Int))) (qdl L i (cb (news++zs.drop m) t')) s:=fun hT _ dst pos af g ρ hρ=>by
  obtain ⟨k1,k2,_⟩:=hT.at_ ht
  rw [hk] at k2
  simp only [TK.fits] at k2
  rw [k2] at k1
  have hte:=hT.at_ he
  obtain ⟨inf,i1,i2,i3,i4⟩:=qdu hte
  have hg:=qa8 ho (List.mem_of_getElem? hi)
  have hnl:news.length=m:=by simpa using hR.1
  refine ⟨?_,qdQ ho _ _⟩
  rw [qcr ho hi]
  by_cases h0:m=0
  · subst h0
    have hn:news=[]:=List.eq_nil_of_length_eq_zero hnl
    subst hn
    have hself:qbn (fill L s) b (cb ([]++zs.drop 0) t')=fill L s:=by
      refine qc3 (qc4 fun j=>?_) Z Z Z Z
      by_cases hj:b=j
      · subst hj
        rw [qcL _ (by rcases Nat.lt_or_ge b (fill L s).heap.size with h1 | h1;exact h1;rw [Array.getElem?_eq_none h1] at hg;cases hg),hg];simp
      · rw [qbS _ hj]
    rw [hself]
    have hle:∀ (A2:Option Addr) (w:World),(Builtin.firstCells te.size 0 (.slice A2 0 c)).run P w=.ok #[] w:=fun A2 w=>by
      cases A2 <;> simp [Builtin.firstCells,loadCells,loadCellsFrom]
    simp [execOp,resolve,invoke,builtin,Builtin.copy_,hρ x _ hx,hρ y _ hy,run_underlying k1,qbH hte,Builtin.lenOf,hle,storeCells,goInt]
  · have h0:∃ b off,A1=some ⟨b,off,none⟩∧CellsAt s b off news:=by
      have hl:0 < news.length:=by omega
      obtain ⟨b,off,h1,_⟩:=hR.2.2 0 news[0] (List.getElem?_eq_getElem hl)
      refine ⟨b,off,h1,fun j u hj=>?_⟩
      obtain ⟨b',off',h1',h2⟩:=hR.2.2 j u hj
      rw [h1] at h1'
      injection h1' with h1';injection h1' with e1 e2;subst e1;subst e2
      exact h2
    obtain ⟨b1,off1,rfl,hcells⟩:=h0
    have hrun:=run_copy_row (P:=P) (fill L s) t t ty e b 0 dl dc ⟨b1,off1,none⟩ m c zs.toArray t' news k1 (by rw [i1];simp [i2,hsz]) hg (by rw [hnl];exact (Nat.min_eq_left hm).symm) (fun j u hj=>by rw [add_lit];exact qdJ ho (hcells j u hj)) (by simp;omega) hR.2.1
    simp only [execOp,resolve,invoke,builtin,Sem.run_bind,Sem.run_pure,Result.andThen_ok,List.map_toArray,List.map_cons,List.map_nil,hρ x _ hx,hρ y _ hy,hrun,goInt,hnl]
    rw [qeD hg]
    simp [cb]
theorem qrU{t e t' b dl dc m c:Nat}{x y:Operand}{ti te:TI}{A1:Option Addr}{news zs:List Value}(i:Nat){L':Hl}(hx:lk fr x=some (.slice (some ⟨b,0,none⟩) dl dc))(hy:lk fr y=some (.slice A1 m c))(ht:qaB TT t=some ti)(hk:ti.kind=.sl e)(he:qaB TT e=some te)(hsz:te.size=1)
  (hi:L[i]?=some (b,cb zs t')) (hR:Row s A1 m 1 news) (hm:m≤dl) (hdl:dl≤zs.length) (hL:qdl L i (cb (news++zs.drop m) t')=L') (hd:Nat.blt d n=true) (k:JO P TT D n ops Q rest ((d,.int .i64 (m:Int))::fr) L' s) :
  JO P TT D n ops Q (⟨some d,.call { callee:=.builtin .copy,args:=#[x,y],argTypes:=#[t,t] },ty,pos,af,none⟩::rest) fr L s:=fun hT a hr ho=>by
 subst hL;exact qf6 hd (qmk i ho hx hy ht hk he hsz hi hR hm hdl) k hT a hr ho
theorem qrd{i0:Nat}{g:Option (Nat×Bool)}{fuel:Nat}{listed:Array Bool}{t e t' b dl dc m c:Nat}{x y:Operand}{ti te:TI}{A1:Option Addr}{news zs:List Value}(hi0:ops[i0]?=some ⟨some d,.call { callee:=.builtin .copy,args:=#[x,y],argTypes:=#[t,t] },ty,pos,af,g⟩)(hgk:GOK ops fr g)(i:Nat){L':Hl}(hx:lk fr x=some (.slice (some ⟨b,0,none⟩) dl dc))(hy:lk fr y=some (.slice A1 m c))(ht:qaB TT t=some ti)(hk:ti.kind=.sl e)(he:qaB TT e=some te)(hsz:te.size=1)
  (hi:L[i]?=some (b,cb zs t')) (hR:Row s A1 m 1 news) (hm:m≤dl) (hdl:dl≤zs.length) (hL:qdl L i (cb (news++zs.drop m) t')=L') (hd:Nat.blt d n=true) (hK':∀ x∈K,x∈L→x∈L') (k:JA P TT D n ops Q K s0 fuel (listed.setIfInBounds i0 true) ((d,.int .i64 (m:Int))::fr) L' s) :
  JB P TT D n ops Q K s0 fuel listed i0 fr L s:=fun hT a hr ho hl hK=>by
 subst hL;exact qhw hi0 hgk (qmk i ho hx hy ht hk he hsz hi hR hm hdl) (Le.refl _) hK' hd k hT a hr ho hl hK
theorem AC.mid{f:FuncId}{args:List Value}{R:Value→Hl→World→Prop}(X M Y:Hl)(h:AC P D f args (M++(X++Y)) s (fun v L' s'=>∃ M',L'=M'++(X++Y)∧R v M' s')) :
  AC P D f args (X++(M++Y)) s (fun v L' s'=>∃ M',L'=X++(M'++Y)∧R v M' s'):=by
 have hp:∀ M':Hl,(X++(M'++Y)).Perm (M'++(X++Y)):=fun M'=>by
  rw [← List.append_assoc,← List.append_assoc]
  exact (List.perm_append_comm).append_right Y
 refine ⟨h.1,fun ho=>?_⟩
 rw [qa7 (hp M) _ ho]
 refine (h.2 (ho.perm (hp M))).mono ?_
 rintro e w' ⟨v,L',s',h1,rfl,h3,h4,M',rfl,h6⟩
 exact ⟨v,X++(M'++Y),s',h1,(qa7 (hp M').symm _ h3),h3.perm (hp M').symm,h4,M',rfl,h6⟩
end
structure KeyK(κ:Type) [DecidableEq κ] (d:TypeDesc) (kf:κ→Value):Prop where
 same:∀ a b,Instr.sameNow d (kf a) (kf b)=some (decide (a=b))
 bits:∀ a,Instr.sameBits 10000 (kf a) (kf a)=true
 check:∀ (P:Program) (w:World) (t:Nat) (e:Bool) (a:κ),P.underlying t=some d→(Instr.checkKey e 10000 t (kf a)).run P w=.ok () w
theorem qo4(a b:List UInt8):((⟨a.toArray⟩:ByteArray) == ⟨b.toArray⟩)=decide (a=b):=by
 have e:((⟨a.toArray⟩:ByteArray) == ⟨b.toArray⟩)=(a.toArray == b.toArray):=rfl
 rw [e]
 by_cases h:a=b <;> simp [h]
theorem KeyK.str:KeyK (List UInt8) .string (fun l=>St l):=
 ⟨fun a b=>by simp only [Instr.sameNow,qo4],fun a=>by simp [Instr.sameBits,qo4],fun P w t e a h=>by unfold Instr.checkKey;simp [run_underlying h]⟩
section
variable{κ:Type} [DecidableEq κ] {dk:TypeDesc} {kf:κ→Value}
def mp(kf:κ→Value)(es:List (κ×Value×Nat))(ck:Nat):Obj:=.map (es.map fun x=>⟨kf x.1,x.2.1,x.2.2⟩).toArray ck
def qce:List (κ×Value×Nat)→κ→Option Value
 | [],_=>none
 | x::r,k=>if k=x.1 then some x.2.1 else qce r k
def qj9(es:List (κ×Value×Nat))(k:κ)(v:Value)(ck:Nat):List (κ×Value×Nat):=match es with
 | []=>[(k,v,ck)]
 | x::r=>if k=x.1 then (x.1,v,x.2.2)::r else x::qj9 r k v ck
theorem qjQ(es:List (κ×Value×Nat))(k:κ)(v:Value)(ck:Nat)(j:κ):qce (qj9 es k v ck) j=if j=k then some v else qce es j:=by
  induction es with
  | nil=>simp [qj9,qce]
  | cons x r ih=>
    simp only [qj9]
    by_cases h:k=x.1
    · simp only [h,if_true,qce]
      by_cases hj:j=x.1 <;> simp [hj,h]
    · simp only [h,if_false,qce,ih]
      by_cases hj:j=x.1
      · have:¬ x.1=k:=fun e=>h e.symm
        simp [hj,this]
      · simp [hj]
theorem qeu(K:KeyK κ dk kf)(es:List (κ×Value×Nat))(k:κ)(i:Nat) :
    (qce es k=none∧Instr.findNow dk (kf k) (es.map fun x=>⟨kf x.1,x.2.1,x.2.2⟩) i=some none) ∨
    ∃ j v b,qce es k=some v∧es[j]?=some (k,v,b)∧(∀ v' ck,qj9 es k v' ck=es.set j (k,v',b))∧Instr.findNow dk (kf k) (es.map fun x=>⟨kf x.1,x.2.1,x.2.2⟩) i=some (some (i+j,v)):=by
  induction es generalizing i with
  | nil=>exact .inl ⟨rfl,rfl⟩
  | cons x r ih=>
    obtain ⟨a,v,b⟩:=x
    simp only [List.map_cons,Instr.findNow,K.same]
    by_cases h:k=a
    · subst h
      exact .inr ⟨0,v,b,by simp [qce],rfl,fun v' ck=>by simp [qj9],by simp⟩
    · rcases ih (i+1) with ⟨h1,h2⟩ | ⟨j,v',b',h1,h2,h3,h4⟩
      · exact .inl ⟨by simp [qce,h,h1],by simp [h,h2]⟩
      · exact .inr ⟨j+1,v',b',by simp [qce,h,h1],by simpa using h2,fun v'' ck=>by simp [qj9,h,h3],by simp [h,h4];omega⟩
variable{P:Program}{TT:qaZ}{D n:Nat}{Q:qbD}{fr:Fr}{L L' K:Hl}{s s' s0:World}{ops:Array Oper}{rest:List Oper}{d ty:Nat}{op:Op}{pos:String}{af:Array Edge}{v:Value}
def qlg(P:Program)(t:Nat)(dk:TypeDesc)(z:Value):Prop:=∃ kt et,P.underlying t=some (.map kt et)∧P.underlying kt=some dk∧∀ w,(zeroValue et).run P w=.ok z w
theorem qie(KK:KeyK κ dk kf){t b:Nat}{z:Value}(hm:qlg P t dk z){es:List (κ×Value×Nat)}{ck:Nat}{w:World}(hb:w.heap[b]?=some (mp kf es ck))(k:κ)(c:Bool) :
    (Instr.lookup t (.map (some b)) (kf k) c).run P w=.ok (if c then .tuple #[(qce es k).getD z,.bool (qce es k).isSome] else (qce es k).getD z) w:=by
  obtain ⟨kt,et,h1,h2,h3⟩:=hm
  rcases qeu KK es k 0 with ⟨a1,a2⟩ | ⟨j,v,bn,a1,_,_,a2⟩
  · simp only [Instr.lookup,Sem.run_bind,run_underlying h1,Result.andThen_ok,Go.MapKept.run_getObj_map hb,Sem.run_pure,KK.check P w kt _ k h2,Go.MapKept.run_findKey h2 a2,h3,a1]
    cases c <;> rfl
  · simp only [Instr.lookup,Sem.run_bind,run_underlying h1,Result.andThen_ok,Go.MapKept.run_getObj_map hb,Sem.run_pure,KK.check P w kt _ k h2,Go.MapKept.run_findKey h2 a2,a1]
    cases c <;> rfl
omit [DecidableEq κ] in
theorem qn2{t:Nat}(kf:κ→Value)(ho:OKL D L s):Ev P TT D fr (.makeMap t none) ty L s (.value (.map (some s.heap.size))) ((s.heap.size,mp kf [] 0)::L) (s.alloc (dum D)):=fun hT _ dst pos af g ρ _=>by
 obtain ⟨h1,h2,h3⟩:=qaH ho (mp kf [] 0)
 refine ⟨?_,h2⟩
 rw [← h1]
 simp [execOp,Instr.makeMap,qaG,mp]
omit [DecidableEq κ] in
theorem qoH{t:Nat}(kf:κ→Value)(hd:Nat.blt d n=true)(k:∀ β s',Le D s s'→JO P TT D n ops Q rest ((d,.map (some β))::fr) ((β,mp kf [] 0)::L) s') :
  JO P TT D n ops Q (⟨some d,.makeMap t none,ty,pos,af,none⟩::rest) fr L s:=fun hT a hr ho=>qf6 hd (qn2 kf ho) (k _ _ (qaH ho (mp kf [] 0)).2.2) hT a hr ho
theorem qpZ(KK:KeyK κ dk kf){t b:Nat}{x y z:Operand}{zv:Value}(i:Nat)(hm:qlg P t dk zv){es:List (κ×Value×Nat)}{ck:Nat}{k:κ}(hx:lk fr x=some (.map (some b)))(hy:lk fr y=some (kf k))(hz:lk fr z=some v)(hi:L[i]?=some (b,mp kf es ck)) :
    ∃ ck',Ev P TT D fr (.mapUpdate t x y z) ty L s .skip (qdl L i (mp kf (qj9 es k v ck) ck')) s:=by
  obtain ⟨kt,et,h1,h2,h3⟩:=hm
  rcases qeu KK es k 0 with ⟨a1,a2⟩ | ⟨j,v',bn,a1,a3,a4,a2⟩
  · refine ⟨ck+1,fun hT ho dst pos af g ρ hρ=>⟨?_,qdQ ho _ _⟩⟩
    have hb:=qa8 ho (List.mem_of_getElem? hi)
    have hms:qj9 es k v ck=es++[(k,v,ck)]:=by
      clear hi a2 hb
      induction es with
      | nil=>rfl
      | cons x r ih=>
        simp only [qce] at a1
        split at a1
        · cases a1
        · rename_i h;simp [qj9,h,ih a1]
    rw [qcr ho hi]
    simp only [execOp,hρ x _ hx,hρ y _ hy,hρ z _ hz,Instr.mapUpdate,Sem.run_bind,run_underlying h1,Result.andThen_ok,Go.MapKept.run_getObj_map hb,Sem.run_pure,KK.check P _ kt _ k h2,Go.MapKept.run_findKey h2 a2,Go.MapKept.run_setObj_map _ hb]
    simp [qbn,mp,hms]
  · refine ⟨ck,fun hT ho dst pos af g ρ hρ=>⟨?_,qdQ ho _ _⟩⟩
    have hb:=qa8 ho (List.mem_of_getElem? hi)
    rw [qcr ho hi]
    have hkey:((((es.map fun x=>(⟨kf x.1,x.2.1,x.2.2⟩:MapEntry)).toArray)[0+j]?.map (·.key)).getD (kf k))=kf k:=by simp [a3]
    simp only [execOp,hρ x _ hx,hρ y _ hy,hρ z _ hz,Instr.mapUpdate,Sem.run_bind,run_underlying h1,Result.andThen_ok,Go.MapKept.run_getObj_map hb,Sem.run_pure,KK.check P _ kt _ k h2,Go.MapKept.run_findKey h2 a2,hkey,Instr.keyThatStays,KK.bits,if_true,Go.MapKept.run_setObj_map _ hb,a4]
    have hmod:((es.map fun x=>(⟨kf x.1,x.2.1,x.2.2⟩:MapEntry)).toArray).modify (0+j) (fun e=>{ e with key:=kf k,val:=v })=((es.set j (k,v,bn)).map fun x=>(⟨kf x.1,x.2.1,x.2.2⟩:MapEntry)).toArray:=by
      apply Array.ext_getElem?
      intro q
      rw [Array.getElem?_modify]
      by_cases hq:0+j=q
      · have:j=q:=by omega
        subst this
        obtain ⟨hlt,_⟩:=List.getElem?_eq_some_iff.1 a3
        simp [hlt,a3]
        have:=List.getElem?_eq_some_iff.1 a3
        obtain ⟨_,e⟩:=this
        simp [e]
      · have hne:j≠q:=by omega
        simp [hq,hne]
    rw [hmod]
    rfl
theorem qkk(KK:KeyK κ dk kf){t b:Nat}{x y z:Operand}{zv:Value}(i:Nat)(hm:qlg P t dk zv){es:List (κ×Value×Nat)}{ck:Nat}{k:κ}(hx:lk fr x=some (.map (some b)))(hy:lk fr y=some (kf k))(hz:lk fr z=some v)(hi:L[i]?=some (b,mp kf es ck))
  (kk:∀ ck',JO P TT D n ops Q rest fr (qdl L i (mp kf (qj9 es k v ck) ck')) s):JO P TT D n ops Q (⟨none,.mapUpdate t x y z,ty,pos,af,none⟩::rest) fr L s:=by
 obtain ⟨ck',h⟩:=qpZ (TT:=TT) (D:=D) (s:=s) (ty:=ty) KK i hm hx hy hz hi
 exact qq3 h (kk ck')
end
section
variable{P:Program}{D:Nat}{L:Hl}{s:World}
theorem AC.pub{f:FuncId}{args:List Value}{R:Value→Hl→World→Prop}(h:AC P D f args L s (fun v L' s'=>∃ M',L'=M'++L∧R v M' s')) :
  AC P D f args L s (fun v L' s'=>L=L'∧∃ M' s1,R v M' s1∧Le D s1 s'∧∀ b zs t,(b,cb zs t)∈M'→CellsAt s' b 0 zs):=by
 refine ⟨h.1,fun ho=>(h.2 ho).mono ?_⟩
 rintro e w' ⟨v,L',s',h1,rfl,h3,h4,M',rfl,h6⟩
 obtain ⟨d1,d2,d3⟩:=qbm h3
 refine ⟨v,L,fill M' s',h1,d1,d2,h4.trans d3,Z,M',s',h6,d3,fun b zs t hm j u hj=>?_⟩
 rw [qcC h3.left hm,Nat.zero_add];exact hj
end
end Go.FL
namespace Go.Proofs.YtpdnijphccdiiaaGreatDoor
open Go Go.FL
def wv(l:List Int):List Value:=l.map (Value.int .u32)
def bv(l:List UInt8):List Value:=l.map fun x=>Value.int .u8 (x.toNat:Int)
def iv(l:List Int):List Value:=l.map (Value.int .i64)
def av(l:List Ac):List Value:=l.flatMap Ac.cs
theorem quv(l:List UInt8):(bv l).length=l.length:=by simp [bv]
theorem Wds.row{s:World}{A:Option Addr}{n c:Nat}{l:List Int}(h:Wds s A n c l):Row s A n 1 (wv l):=
 ⟨by simp [wv,h.1],fun u hu=>by simp [wv] at hu;obtain ⟨x,_,rfl⟩:=hu;rfl,fun j u hj=>by
  simp only [wv,List.getElem?_map] at hj
  cases hx:l[j]? with
  | none=>simp [hx] at hj
  | some x=>
   simp [hx] at hj;subst hj
   obtain ⟨b,off,cs,h1,h2,_,rfl,_⟩:=h.2.2.2 j x hx
   exact ⟨b,off,h1,by simpa using h2 0 _ rfl⟩⟩
theorem Bts.row{s:World}{A:Option Addr}{n c:Nat}{l:List UInt8}(h:Bts s A n c l):Row s A n 1 (bv l):=
 ⟨by simp [bv,h.1],fun u hu=>by simp [bv] at hu;obtain ⟨x,_,rfl⟩:=hu;rfl,fun j u hj=>by
  simp only [bv,List.getElem?_map] at hj
  cases hx:l[j]? with
  | none=>simp [hx] at hj
  | some x=>
   simp [hx] at hj;subst hj
   obtain ⟨b,off,cs,h1,h2,_,rfl⟩:=h.2.2.2 j x hx
   exact ⟨b,off,h1,by simpa using h2 0 _ rfl⟩⟩
theorem Bts.nil(s:World)(A:Option Addr)(c:Nat)(hc:c≤9223372036854775807):Bts s A 0 c []:=⟨rfl,Nat.zero_le _,hc,fun i x h=>by cases h⟩
theorem Wds.nil(s:World)(A:Option Addr)(c:Nat)(hc:c≤9223372036854775807):Wds s A 0 c []:=⟨rfl,Nat.zero_le _,hc,fun i x h=>by cases h⟩
theorem Own.slice{e sz:Nat}{A:Hl}{v:Value}{n:Nat}{xs:List Value}(h:FL.Own e sz A v n xs):∃ Ad c,v=.slice Ad n c∧n≤c∧c≤9223372036854775807:=by
 cases h with
 | nil=>exact ⟨none,0,rfl,Nat.le_refl _,by omega⟩
 | blk b cap n xs ys hn hc hnc hm=>exact ⟨_,cap,rfl,hnc,hm⟩
theorem Own.bts{e:Nat}{A:Hl}{Ad:Option Addr}{n c:Nat}{l:List UInt8}{s:World}(h:FL.Own e 1 A (.slice Ad n c) n (bv l))(hp:∀ b zs t,(b,cb zs t)∈A→CellsAt s b 0 zs):Bts s Ad n c l:=by
 generalize hv:Value.slice Ad n c=v at h
 generalize hx:bv l=xs at h
 cases h with
 | nil=>
  injection hv with e1 e2 e3
  have:l=[]:=by cases l with
   | nil=>rfl
   | cons y l=>simp [bv] at hx
  subst this;subst e3;exact Bts.nil s Ad 0 O
 | blk b cap n xs ys hn hc hnc hm=>
  injection hv with e1 e2 e3
  subst e1;subst e3;subst hx
  refine ⟨by simpa [bv] using hn.symm,hnc,hm,fun i x hi=>⟨b,0,[.int .u8 (x.toNat:Int)],Z,fun j u hj=>?_,Z,Z⟩⟩
  have hc:=hp b _ e Mc
  cases j with
  | zero=>
   simp at hj;subst hj
   have:=hc i (.int .u8 (x.toNat:Int)) (by rw [List.getElem?_append_left (by simp [bv];exact (List.getElem?_eq_some_iff.1 hi).1)];simp [bv,hi])
   simpa using this
  | succ j=>simp at hj
theorem Own.wds{e:Nat}{A:Hl}{Ad:Option Addr}{n c:Nat}{l:List Int}{s:World}(h:FL.Own e 1 A (.slice Ad n c) n (wv l))(hu:∀ x∈l,U32 x)(hp:∀ b zs t,(b,cb zs t)∈A→CellsAt s b 0 zs):Wds s Ad n c l:=by
 generalize hv:Value.slice Ad n c=v at h
 generalize hx:wv l=xs at h
 cases h with
 | nil=>
  injection hv with e1 e2 e3
  have:l=[]:=by cases l with
   | nil=>rfl
   | cons y l=>simp [wv] at hx
  subst this;subst e3;exact Wds.nil s Ad 0 O
 | blk b cap n xs ys hn hc hnc hm=>
  injection hv with e1 e2 e3
  subst e1;subst e3;subst hx
  refine ⟨by simpa [wv] using hn.symm,hnc,hm,fun i x hi=>⟨b,0,[.int .u32 x],Z,fun j u hj=>?_,Z,Z,hu x (List.mem_of_getElem? hi)⟩⟩
  have hc:=hp b _ e Mc
  cases j with
  | zero=>
   simp at hj;subst hj
   have:=hc i (.int .u32 x) (by rw [List.getElem?_append_left (by simp [wv];exact (List.getElem?_eq_some_iff.1 hi).1)];simp [wv,hi])
   simpa using this
  | succ j=>simp at hj
theorem Wds.u32{s:World}{A:Option Addr}{n c:Nat}{l:List Int}(h:Wds s A n c l):∀ x∈l,U32 x:=fun x hx=>by
 obtain ⟨i,hi⟩:=List.getElem?_of_mem hx
 obtain ⟨b,off,cs,h1,h2,_,rfl,h4⟩:=h.2.2.2 i x hi
 exact h4
theorem Bts.tail{s:World}{A:Option Addr}{n c:Nat}{x:UInt8}{l:List UInt8}(h:Bts s A n c (x::l)):Bts s (if c=1 then A else A.map (·.add (1 * 1))) (n - 1) (c - 1) l:=
 ⟨by have:=h.1;simp at this;omega,by have:=h.2.1;omega,by have:=h.2.2.1;omega,fun i y hi=>by
  obtain ⟨b,off,cs,h1,h2,h3,h4⟩:=h.2.2.2 (i+1) y (by simpa using hi)
  have hl:i < l.length:=(List.getElem?_eq_some_iff.1 hi).1
  have hn:=h.1
  simp at hn
  have hc:=h.2.1
  subst h1
  refine ⟨b,off+1,cs,?_,?_,h3,h4⟩
  · rw [if_neg O];simp [add_lit]
  · rw [show off+1+i * 1=off+(i+1) * 1 by omega];exact h2⟩
def w32(x:Int):Int:=x % 4294967296
def qh2(k x y:Int):Int:=
 if k=1 then w32 (x+y) else if k=2 then w32 (x - y) else if k=3 then w32 (x * y) else if k=4 then x / y else if k=5 then x % y
 else if k=6 then ((x.toNat &&& y.toNat:Nat):Int) else if k=7 then ((x.toNat ||| y.toNat:Nat):Int) else if k=8 then ((x.toNat ^^^ y.toNat:Nat):Int)
 else if k=9 then (((x.toNat <<< y.toNat) % 4294967296:Nat):Int) else if k=10 then ((x.toNat >>> y.toNat:Nat):Int)
 else if k=11 then (if x=y then 1 else 0) else if k=12 then (if x < y then 1 else 0) else x
end Go.Proofs.YtpdnijphccdiiaaGreatDoor
namespace Go.FL
open Go Go.RowKit
section
variable{P:Program}{TT:qaZ}{D n:Nat}{Q:qbD}{fr:Fr}{L:Hl}{s:World}
theorem qdY{γ:Type}{c:Code}(X:Hl)(S:γ→Fr)(H:γ→Hl)(I:γ→World→Prop)(μ:γ→Nat)(mono:∀ g s s',I g s→Le D s s'→I g s')(g0:γ)
  (hS:Keeps fr (S g0)) (hL:L=X++H g0) (hI:I g0 s)
  (round:∀ g s,I g s→JC P TT D n (qaJ (fun fr' L' s'=>∃ g' A,Keeps fr' (S g')∧L'=A++(X++H g')∧I g' s'∧μ g' < μ g) Q) c (S g) (X++H g) s) :
  JC P TT D n Q (.loop c) fr L s:=qav S (fun g=>X++H g) I μ mono g0 hS hL hI round
inductive Suf(fr:Fr):Fr→Prop
 | refl:Suf fr fr
 | push {d:Nat} {v:Value} {fr':Fr} (hd:(qa1 fr d).isNone=true) (h:Suf fr fr'):Suf fr ((d,v)::fr')
theorem Sb{p:Prop}(h:p:=by repeat (first | exact Suf.refl | refine Suf.push rfl ?_)):p:=h
theorem Suf.keeps{fr fr':Fr}(h:Suf fr fr'):Keeps fr' fr:=by
 induction h with
 | refl=>exact fun _ _ h=>h
 | @push d v fr' hd _ ih=>
  intro t u hu
  rw [qbo]
  by_cases he:d=t
  · subst he;rw [hu] at hd;cases hd
  · rw [if_neg he];exact ih t u hu
def MidB(D:Nat)(s:World)(fr:Fr)(L:Hl)(t:Nat)(p:Prop) [Decidable p]:Fr→Hl→World→Prop:=fun fr' L' s'=>Le D s s'∧L'=L∧Keeps fr' ((t,.bool (decide p))::fr)
theorem MidB.mk{t:Nat}{p:Prop} [Decidable p] {fr':Fr} {s':World} {b:Bool} (hl:Le D s s') (hS:Suf fr fr') (ht:qa1 fr' t=some (.bool b)) (hb:b=decide p):MidB D s fr L t p fr' L s':=by
 subst hb;exact ⟨hl,rfl,Keeps.cons ht hS.keeps⟩
theorem qaU{x y:Code}(t:Nat)(p:Prop) [Decidable p] (h1:JC P TT D n (qaJ (MidB D s fr L t p) Q) x fr L s)
  (h2:∀ s',Le D s s'→JC P TT D n Q y ((t,.bool (decide p))::fr) L s'):JC P TT D n Q (.seq x y) fr L s:=fun ht a hr ho=>
 wp_seq (wp_mono (h1 ht a hr ho) fun e a w ⟨fr',L',s',k1,k2,k3,k4⟩=>by
  cases e with
  | normal=>
   subst k3
   obtain ⟨j1,j2,j3⟩:=k4
   subst j2
   exact h2 s' j1 ht a (k1.sub j3) k2
  | _=>exact ⟨fr',L',s',k1,k2,k3,k4⟩)
def MidN{γ:Type}(D:Nat)(s:World)(fr:Fr)(L:Hl)(new:γ→Fr)(B:γ→Hl)(I:γ→World→Prop):Fr→Hl→World→Prop:=fun fr' L' s'=>∃ g A,Le D s s'∧L'.Perm (A++(B g++L))∧I g s'∧Keeps fr' (new g++fr)
theorem MidN.mk{γ:Type}{new:γ→Fr}{B:γ→Hl}{I:γ→World→Prop}{fr':Fr}{L':Hl}{s':World}(g:γ)(A:Hl)(hl:Le D s s')(hK:Keeps fr' (new g++fr))(hp:L'.Perm (A++(B g++L)))(hI:I g s'):MidN D s fr L new B I fr' L' s':=⟨g,A,hl,hp,hI,hK⟩
theorem qlS{γ:Type}{x y:Code}(new:γ→Fr)(B:γ→Hl)(I:γ→World→Prop)(mono:∀ g s s',I g s→Le D s s'→I g s')(h1:JC P TT D n (qaJ (MidN D s fr L new B I) Q) x fr L s)
  (h2:∀ g s',Le D s s'→I g s'→JC P TT D n Q y (new g++fr) (B g++L) s'):JC P TT D n Q (.seq x y) fr L s:=fun ht a hr ho=>
 wp_seq (wp_mono (h1 ht a hr ho) fun e a w ⟨fr',L',s',k1,k2,k3,k4⟩=>by
  cases e with
  | normal=>
   subst k3
   obtain ⟨g,A,j0,j2,j3,j1⟩:=k4
   rw [qa7 j2 _ k2]
   obtain ⟨e,d1,d2⟩:=qbm (k2.perm j2)
   rw [e]
   exact h2 g _ (j0.trans d2) (mono _ _ _ j3 d2) ht a (k1.sub j1) d1
  | _=>exact ⟨fr',L',s',k1,k2,k3,k4⟩)
def Pub(M:Hl)(s:World):Prop:=∀ b zs t,(b,cb zs t)∈M→CellsAt s b 0 zs
theorem Pub.tail{x:Nat×Obj}{M:Hl}{s:World}(h:Pub (x::M) s):Pub M s:=fun b zs t hm=>h b zs t (List.mem_cons_of_mem _ hm)
theorem Pub.le{D:Nat}{A:Hl}{s s':World}(h:Pub A s)(hl:Le D s s'):Pub A s':=fun b zs t hm=>(h b zs t hm).le hl
theorem AC.pubW{f:FuncId}{args:List Value}{R:Value→World→Prop}(h:AC P D f args L s (fun v L' s'=>∃ M',L'=M'++L∧∀ s2,Le D s' s2→Pub M' s2→R v s2)) :
  AC P D f args L s (fun v L' s'=>L=L'∧R v s'):=by
 refine ⟨h.1,fun ho=>(h.2 ho).mono ?_⟩
 rintro e w' ⟨v,L',s',h1,rfl,h3,h4,M',rfl,h6⟩
 obtain ⟨d1,d2,d3⟩:=qbm h3
 refine ⟨v,L,fill M' s',h1,d1,d2,h4.trans d3,Z,h6 _ d3 fun b zs t hm j u hj=>?_⟩
 rw [qcC h3.left hm,Nat.zero_add];exact hj
end
end Go.FL
namespace Go.Proofs.YtpdnijphccdiiaaGreatDoor
open Go Go.FL
inductive All2{α β:Type}(R:α→β→Prop):List α→List β→Prop
 | nil:All2 R [] []
 | cons {a:α} {b:β} {l:List α} {m:List β} (h:R a b) (k:All2 R l m):All2 R (a::l) (b::m)
theorem qpp{α:Type}{sz:Nat}{R:World→α→List Value→Prop}{s:World}{b:Nat}{l:List α}{css:List (List Value)}(h:All2 (fun x cs=>cs.length=sz∧R s x cs) l css) :
  ∀ off,CellsAt s b off css.flatten→∀ i x,l[i]?=some x→∃ cs,CellsAt s b (off+i * sz) cs∧cs.length=sz∧R s x cs:=by
 induction h with
 | nil=>intro off _ i x hi;cases hi
 | @cons a c l m h k ih=>
  intro off hc i x hi
  have h1:CellsAt s b off c:=fun j v hj=>hc j v (by rw [List.flatten_cons,List.getElem?_append_left (List.getElem?_eq_some_iff.1 hj).1];exact hj)
  have h2:CellsAt s b (off+sz) m.flatten:=fun j v hj=>by
   have:=hc (sz+j) v (by rw [List.flatten_cons,List.getElem?_append_right O,h.1];simpa using hj)
   rwa [← Nat.add_assoc] at this
  cases i with
  | zero=>simp at hi;subst hi;exact ⟨c,by simpa using h1,h.1,h.2⟩
  | succ i=>
   obtain ⟨cs,k1,k2⟩:=ih (off+sz) h2 i x (by simpa using hi)
   exact ⟨cs,by rw [Nat.succ_mul];rwa [show off+sz+i * sz=off+(i * sz+sz) by omega] at k1,k2⟩
theorem Sl.lit{α:Type}{sz:Nat}{R:World→α→List Value→Prop}{s:World}{b:Nat}{l:List α}(css:List (List Value)){zs:List Value}(hc:CellsAt s b 0 zs)(hz:css.flatten=zs)(h:All2 (fun x cs=>cs.length=sz∧R s x cs) l css)(n:Nat)(hn:n=l.length)(hm:n≤9223372036854775807):Sl sz R s (some ⟨b,0,none⟩) n n l:=
 ⟨hn,Nat.le_refl _,hm,fun i x hi=>by
  obtain ⟨cs,h1,h2⟩:=qpp h 0 (hz▸hc) i x hi
  exact ⟨b,0,cs,rfl,h1,h2⟩⟩
theorem qms{s:World}{b cc:Nat}{l:List UInt8}{yc:List Value}(hp:CellsAt s b 0 (bv l++yc))(h1:l.length+yc.length=cc)(h2:cc≤9223372036854775807):Bts s (some ⟨b,0,none⟩) l.length cc l:=
 Own.bts (e:=0) (A:=[(b,cb (bv l++yc) 0)]) (.blk b cc l.length (bv l) yc (by simp [bv]) (by rw [quv];omega) O h2) (fun b zs t hm=>by
  simp only [List.mem_singleton,Prod.mk.injEq,cb,Obj.cells.injEq] at hm
  obtain ⟨rfl,h,rfl,_⟩:=hm
  have e:zs=bv l++yc:=by simpa using h
  rw [e];exact hp)
end Go.Proofs.YtpdnijphccdiiaaGreatDoor
namespace Go.FL
open Go Go.RowKit
theorem qbC{P:Program}{TT:qaZ}{D n:Nat}{Q:qbD}{fr:Fr}{s:World}{c:Code}(X A Y:Hl)(h:∀ s',Le D s s'→Pub A s'→JC P TT D n Q c fr (X++Y) s'):JC P TT D n Q c fr (X++(A++Y)) s:=fun ht a hr ho=>by
 have hp:(X++(A++Y)).Perm (A++(X++Y)):=by
  rw [← List.append_assoc,← List.append_assoc]
  exact (List.perm_append_comm).append_right Y
 rw [qa7 hp _ ho]
 have ho2:=ho.perm hp
 obtain ⟨e,d1,d2⟩:=qbm ho2
 rw [e]
 refine h _ d2 (fun b zs t hm j u hj=>?_) ht a hr d1
 rw [qcC ho2.left hm,Nat.zero_add];exact hj
end Go.FL
namespace Go.Proofs.YtpdnijphccdiiaaGreatDoor
open Go Go.FL
theorem All2.mono{α β:Type}{R R':α→β→Prop}{l:List α}{m:List β}(h:All2 R l m)(hr:∀ a b,R a b→R' a b):All2 R' l m:=by
 induction h with
 | nil=>exact .nil
 | cons h _ ih=>exact .cons (hr _ _ h) ih
theorem All2.snoc{α β:Type}{R:α→β→Prop}{l:List α}{m:List β}{a:α}{b:β}(h:All2 R l m)(k:R a b):All2 R (l++[a]) (m++[b]):=by
 induction h with
 | nil=>exact .cons k .nil
 | cons h _ ih=>exact .cons h ih
theorem Own.rows{α:Type}{e sz:Nat}{A:Hl}{Ad:Option Addr}{n c:Nat}{css:List (List Value)}{l:List α}{R:World→α→List Value→Prop}{s:World}(h:FL.Own e sz A (.slice Ad n c) n css.flatten)(hp:Pub A s)(ha:All2 (fun x cs=>cs.length=sz∧R s x cs) l css)(hn:n=l.length):Sl sz R s Ad n c l:=by
 generalize hv:Value.slice Ad n c=v at h
 generalize hx:css.flatten=xs at h
 cases h with
 | nil=>
  injection hv with e1 e2 e3
  subst e1;subst e3
  have:l=[]:=List.eq_nil_of_length_eq_zero hn.symm
  subst this
  exact ⟨rfl,Nat.le_refl _,by omega,fun i x h=>by cases h⟩
 | blk b cap n xs ys h1 h2 h3 h4=>
  injection hv with e1 e2 e3
  subst e1;subst e3;subst hx
  have hc:CellsAt s b 0 css.flatten:=fun j v hj=>hp b _ e Mc j v (by rw [List.getElem?_append_left (List.getElem?_eq_some_iff.1 hj).1];exact hj)
  exact ⟨hn,h3,h4,fun i x hi=>by
   obtain ⟨cs,k1,k2⟩:=qpp ha 0 hc i x hi
   exact ⟨b,0,cs,rfl,k1,k2⟩⟩
def Strs(s:World)(A:Option Addr)(n c:Nat)(l:List (List UInt8)):Prop:=Sl 1 (fun _ x cs=>cs=[St x]∧x.length≤9223372036854775807) s A n c l
theorem Strs.le{D:Nat}{s s':World}{A:Option Addr}{n c:Nat}{l:List (List UInt8)}(h:Strs s A n c l)(hl:Le D s s'):Strs s' A n c l:=Sl.le (fun _ _ h=>h) h hl
theorem Strs.at_{s:World}{A:Option Addr}{n c k:Nat}{l:List (List UInt8)}(h:Strs s A n c l)(hk:k < n):∃ b off x,A=some ⟨b,off,none⟩∧l[k]?=some x∧CellsAt s b (off+k) [St x]∧x.length≤9223372036854775807:=by
 have hl:k < l.length:=by rw [← h.1];exact hk
 obtain ⟨b,off,cs,h1,h2,_,rfl,h4⟩:=h.2.2.2 k l[k] (List.getElem?_eq_getElem hl)
 exact ⟨b,off,l[k],h1,List.getElem?_eq_getElem hl,by simpa using h2,h4⟩
inductive Ex where
 | mk (kind op num:Int) (name:List UInt8) (args:List Ex)
inductive Stm where
 | mk (kind:Int) (name:List UInt8) (exprs:List Ex) (body els:List Stm)
def Ex.kind:Ex→Int | .mk k _ _ _ _=>k
def Ex.op:Ex→Int | .mk _ o _ _ _=>o
def Ex.num:Ex→Int | .mk _ _ n _ _=>n
def Ex.name:Ex→List UInt8 | .mk _ _ _ s _=>s
def Ex.args:Ex→List Ex | .mk _ _ _ _ l=>l
def Stm.kind:Stm→Int | .mk k _ _ _ _=>k
def Stm.name:Stm→List UInt8 | .mk _ s _ _ _=>s
def Stm.exprs:Stm→List Ex | .mk _ _ l _ _=>l
def Stm.body:Stm→List Stm | .mk _ _ _ b _=>b
def Stm.els:Stm→List Stm | .mk _ _ _ _ e=>e
structure Fnc where
 name:List UInt8
 params:List (List UInt8)
 locals:List (List UInt8)
 body:List Stm
structure Glo where
 kind:Int
 name:List UInt8
 num:Int
 init:List Int
structure Prg where
 globals:List Glo
 funcs:List Fnc
def ExR:Nat→World→Ex→List Value→Prop
 | 0,_,_,_=>False
 | d+1,s,x,cs=>∃ A n c,cs=[.int .i64 x.kind,.int .i64 x.op,.int .u32 x.num,St x.name,.slice A n c]∧Sl 5 (ExR d) s A n c x.args∧U32 x.num∧x.name.length≤9223372036854775807
def Exs(d:Nat)(s:World)(A:Option Addr)(n c:Nat)(l:List Ex):Prop:=Sl 5 (ExR d) s A n c l
def StR:Nat→World→Stm→List Value→Prop
 | 0,_,_,_=>False
 | d+1,s,x,cs=>∃ A1 n1 c1 A2 n2 c2 A3 n3 c3,cs=[.int .i64 x.kind,St x.name,.slice A1 n1 c1,.slice A2 n2 c2,.slice A3 n3 c3]∧Exs d s A1 n1 c1 x.exprs∧Sl 5 (StR d) s A2 n2 c2 x.body∧Sl 5 (StR d) s A3 n3 c3 x.els∧x.name.length≤9223372036854775807
def Stms(d:Nat)(s:World)(A:Option Addr)(n c:Nat)(l:List Stm):Prop:=Sl 5 (StR d) s A n c l
theorem ExR.le{D:Nat}{s s':World}(hl:Le D s s'):∀ {d:Nat} {x:Ex} {cs:List Value},ExR d s x cs→ExR d s' x cs
 | 0,_,_,h=>h
 | _+1,_,_,⟨A,n,c,h1,h2,h3⟩=>⟨A,n,c,h1,Sl.le (fun _ _ h=>ExR.le hl h) h2 hl,h3⟩
theorem Exs.le{D d:Nat}{s s':World}{A:Option Addr}{n c:Nat}{l:List Ex}(h:Exs d s A n c l)(hl:Le D s s'):Exs d s' A n c l:=Sl.le (fun _ _ h=>ExR.le hl h) h hl
theorem StR.le{D:Nat}{s s':World}(hl:Le D s s'):∀ {d:Nat} {x:Stm} {cs:List Value},StR d s x cs→StR d s' x cs
 | 0,_,_,h=>h
 | _+1,_,_,⟨A1,n1,c1,A2,n2,c2,A3,n3,c3,h1,h2,h3,h4,h5⟩=>⟨A1,n1,c1,A2,n2,c2,A3,n3,c3,h1,h2.le hl,Sl.le (fun _ _ h=>StR.le hl h) h3 hl,Sl.le (fun _ _ h=>StR.le hl h) h4 hl,h5⟩
theorem Stms.le{D d:Nat}{s s':World}{A:Option Addr}{n c:Nat}{l:List Stm}(h:Stms d s A n c l)(hl:Le D s s'):Stms d s' A n c l:=Sl.le (fun _ _ h=>StR.le hl h) h hl
theorem Sl.imp{α:Type}{sz:Nat}{R R':World→α→List Value→Prop}{s:World}{A:Option Addr}{n c:Nat}{l:List α}(hR:∀ x cs,R s x cs→R' s x cs)(h:Sl sz R s A n c l):Sl sz R' s A n c l:=
 ⟨h.1,h.2.1,h.2.2.1,fun i x hi=>by
  obtain ⟨b,off,cs,h1,h2,h3,h4⟩:=h.2.2.2 i x hi
  exact ⟨b,off,cs,h1,h2,h3,hR x cs h4⟩⟩
theorem ExR.up{s:World}:∀ {d e:Nat},d≤e→∀ {x:Ex} {cs:List Value},ExR d s x cs→ExR e s x cs
 | 0,_,_,_,_,h=>h.elim
 | d+1,0,h,_,_,_=>by omega
 | d+1,e+1,h,_,_,⟨A,n,c,h1,h2,h3⟩=>⟨A,n,c,h1,Sl.imp (fun _ _ k=>ExR.up O k) h2,h3⟩
theorem Exs.up{s:World}{d e:Nat}{A:Option Addr}{n c:Nat}{l:List Ex}(h:Exs d s A n c l)(he:d≤e):Exs e s A n c l:=Sl.imp (fun _ _ k=>ExR.up he k) h
theorem StR.up{s:World}:∀ {d e:Nat},d≤e→∀ {x:Stm} {cs:List Value},StR d s x cs→StR e s x cs
 | 0,_,_,_,_,h=>h.elim
 | d+1,0,h,_,_,_=>by omega
 | d+1,e+1,h,_,_,⟨A1,n1,c1,A2,n2,c2,A3,n3,c3,h1,h2,h3,h4,h5⟩=>⟨A1,n1,c1,A2,n2,c2,A3,n3,c3,h1,h2.up O,Sl.imp (fun _ _ k=>StR.up O k) h3,Sl.imp (fun _ _ k=>StR.up O k) h4,h5⟩
theorem Stms.up{s:World}{d e:Nat}{A:Option Addr}{n c:Nat}{l:List Stm}(h:Stms d s A n c l)(he:d≤e):Stms e s A n c l:=Sl.imp (fun _ _ k=>StR.up he k) h
theorem Exs.at_{d:Nat}{s:World}{A:Option Addr}{n c k:Nat}{l:List Ex}(h:Exs d s A n c l)(hk:k < n):∃ e b off x A' n' c',d=e+1∧A=some ⟨b,off,none⟩∧l[k]?=some x∧CellsAt s b (off+k * 5) [.int .i64 x.kind,.int .i64 x.op,.int .u32 x.num,St x.name,.slice A' n' c']∧Exs e s A' n' c' x.args∧U32 x.num∧x.name.length≤9223372036854775807:=by
 have hl:k < l.length:=by rw [← h.1];exact hk
 obtain ⟨b,off,cs,h1,h2,_,h4⟩:=h.2.2.2 k l[k] (List.getElem?_eq_getElem hl)
 cases d with
 | zero=>exact h4.elim
 | succ e=>
  obtain ⟨A',n',c',rfl,h5,h6,h7⟩:=h4
  exact ⟨e,b,off,l[k],A',n',c',rfl,h1,List.getElem?_eq_getElem hl,h2,h5,h6,h7⟩
theorem Stms.at_{d:Nat}{s:World}{A:Option Addr}{n c k:Nat}{l:List Stm}(h:Stms d s A n c l)(hk:k < n):∃ e b off x A1 n1 c1 A2 n2 c2 A3 n3 c3,d=e+1∧A=some ⟨b,off,none⟩∧l[k]?=some x∧CellsAt s b (off+k * 5) [.int .i64 x.kind,St x.name,.slice A1 n1 c1,.slice A2 n2 c2,.slice A3 n3 c3]∧Exs e s A1 n1 c1 x.exprs∧Stms e s A2 n2 c2 x.body∧Stms e s A3 n3 c3 x.els∧x.name.length≤9223372036854775807:=by
 have hl:k < l.length:=by rw [← h.1];exact hk
 obtain ⟨b,off,cs,h1,h2,_,h4⟩:=h.2.2.2 k l[k] (List.getElem?_eq_getElem hl)
 cases d with
 | zero=>exact h4.elim
 | succ e=>
  obtain ⟨A1,n1,c1,A2,n2,c2,A3,n3,c3,rfl,h5,h6,h7,h8⟩:=h4
  exact ⟨e,b,off,l[k],A1,n1,c1,A2,n2,c2,A3,n3,c3,rfl,h1,List.getElem?_eq_getElem hl,h2,h5,h6,h7,h8⟩
def FnR(d:Nat)(s:World)(x:Fnc)(cs:List Value):Prop:=∃ A1 n1 c1 A2 n2 c2 A3 n3 c3,cs=[St x.name,.slice A1 n1 c1,.slice A2 n2 c2,.slice A3 n3 c3]∧Strs s A1 n1 c1 x.params∧Strs s A2 n2 c2 x.locals∧Stms d s A3 n3 c3 x.body∧x.name.length≤9223372036854775807
def Fncs(d:Nat)(s:World)(A:Option Addr)(n c:Nat)(l:List Fnc):Prop:=Sl 4 (FnR d) s A n c l
def GlR(s:World)(x:Glo)(cs:List Value):Prop:=∃ A n c,cs=[.int .i64 x.kind,St x.name,.int .u32 x.num,.slice A n c]∧Wds s A n c x.init∧U32 x.num∧x.name.length≤9223372036854775807
def Glos(s:World)(A:Option Addr)(n c:Nat)(l:List Glo):Prop:=Sl 4 GlR s A n c l
theorem FnR.le{D d:Nat}{s s':World}{x:Fnc}{cs:List Value}(h:FnR d s x cs)(hl:Le D s s'):FnR d s' x cs:=by
 obtain ⟨A1,n1,c1,A2,n2,c2,A3,n3,c3,h1,h2,h3,h4,h5⟩:=h
 exact ⟨A1,n1,c1,A2,n2,c2,A3,n3,c3,h1,h2.le hl,h3.le hl,h4.le hl,h5⟩
theorem Fncs.le{D d:Nat}{s s':World}{A:Option Addr}{n c:Nat}{l:List Fnc}(h:Fncs d s A n c l)(hl:Le D s s'):Fncs d s' A n c l:=Sl.le (fun _ _ h=>h.le hl) h hl
theorem GlR.le{D:Nat}{s s':World}{x:Glo}{cs:List Value}(h:GlR s x cs)(hl:Le D s s'):GlR s' x cs:=by
 obtain ⟨A,n,c,h1,h2,h3⟩:=h
 exact ⟨A,n,c,h1,h2.le hl,h3⟩
theorem Glos.le{D:Nat}{s s':World}{A:Option Addr}{n c:Nat}{l:List Glo}(h:Glos s A n c l)(hl:Le D s s'):Glos s' A n c l:=Sl.le (fun _ _ h=>h.le hl) h hl
theorem Fncs.at_{d:Nat}{s:World}{A:Option Addr}{n c k:Nat}{l:List Fnc}(h:Fncs d s A n c l)(hk:k < n):∃ b off x A1 n1 c1 A2 n2 c2 A3 n3 c3,A=some ⟨b,off,none⟩∧l[k]?=some x∧CellsAt s b (off+k * 4) [St x.name,.slice A1 n1 c1,.slice A2 n2 c2,.slice A3 n3 c3]∧Strs s A1 n1 c1 x.params∧Strs s A2 n2 c2 x.locals∧Stms d s A3 n3 c3 x.body∧x.name.length≤9223372036854775807:=by
 have hl:k < l.length:=by rw [← h.1];exact hk
 obtain ⟨b,off,cs,h1,h2,_,A1,n1,c1,A2,n2,c2,A3,n3,c3,rfl,h5⟩:=h.2.2.2 k l[k] (List.getElem?_eq_getElem hl)
 exact ⟨b,off,l[k],A1,n1,c1,A2,n2,c2,A3,n3,c3,h1,List.getElem?_eq_getElem hl,h2,h5⟩
theorem Glos.at_{s:World}{A:Option Addr}{n c k:Nat}{l:List Glo}(h:Glos s A n c l)(hk:k < n):∃ b off x A' n' c',A=some ⟨b,off,none⟩∧l[k]?=some x∧CellsAt s b (off+k * 4) [.int .i64 x.kind,St x.name,.int .u32 x.num,.slice A' n' c']∧Wds s A' n' c' x.init∧U32 x.num∧x.name.length≤9223372036854775807:=by
 have hl:k < l.length:=by rw [← h.1];exact hk
 obtain ⟨b,off,cs,h1,h2,_,A',n',c',rfl,h5⟩:=h.2.2.2 k l[k] (List.getElem?_eq_getElem hl)
 exact ⟨b,off,l[k],A',n',c',h1,List.getElem?_eq_getElem hl,h2,h5⟩
def valD(acc:Nat)(l:List UInt8):Nat:=l.foldl (fun a c=>a * 10+(c.toNat - 48)) acc
attribute [local irreducible] valD
theorem qqu(k u:Nat)(h:u < 10 ^ (k+1)):Lib.nDigits u≤k+1:=by
 induction k generalizing u with
 | zero=>rw [Lib.nDigits_small (by simpa using h)];exact Nat.le_refl _
 | succ k ih=>
  by_cases h1:u < 10
  · rw [Lib.nDigits_small h1];omega
  · rw [Lib.nDigits_big h1];have:=ih (u / 10) (by rw [Nat.pow_succ] at h;omega);omega
theorem qic{u:Nat}(h:u < 4294967296):1≤(Lib.decDigits u).length∧(Lib.decDigits u).length≤10:=by
 rw [Lib.decDigits_length]
 exact ⟨Lib.nDigits_pos u,qqu 9 u O⟩
end Go.Proofs.YtpdnijphccdiiaaGreatDoor
namespace Go.Proofs.YtpdnijphccdiiaaGreatDoor
open Go Go.FL
abbrev Str:=List UInt8
def qvH(c:UInt8):Bool:=decide (c=32) || decide (c=10)
def qq0(w:Str):Prop:=w≠[]∧∀ c∈w,qvH c=false
def cutS(w sg:Str):Str:=w.take (w.length - sg.length)
def ends(w sg:Str):Bool:=decide (w=cutS w sg++sg)
def valC(c:UInt8):Int:=
 if 97≤c.toNat∧c.toNat≤122 then (c.toNat:Int) - 96 else if 65≤c.toNat∧c.toNat≤90 then (c.toNat:Int) - 38 else if 48≤c.toNat∧c.toNat≤57 then (c.toNat:Int)+5
 else if c=32 then 0 else if c=46 then 63 else if c=44 then 64 else if c=59 then 65 else if c=58 then 66 else -1
def okC(c:UInt8):Bool:=decide (0≤valC c)
def okT(l:Str):Bool:=l.all okC
def qtS:Str:=[67,104,101,99,107]
def qeB(n:Int):Str:=Lib.decDigits n.toNat
def okW(w:Str):Prop:=qq0 w∧okT w=true∧w≠qtS
instance (w:Str):Decidable (qq0 w):=by unfold qq0;infer_instance
instance (w:Str):Decidable (okW w):=by unfold okW;infer_instance
def kwords:List Str:=[[97,114,114,97,121],[98,114,101,97,107],[99,111,110,115,116],[99,111,110,116,105,110,117,101],[101,108,115,101],[102,117,110,99],[103,101,116],[105,102],[112,117,116],[114,101,116,117,114,110],[115,116,111,112],[118,97,114],[119,104,105,108,101]]
def kwB(s:Str):Bool:=kwords.any fun w=>decide (w=s)
def qaT(s:Str):Bool:=(decide (s≠[]) && decide ((s.length:Int)≤12) && qbq 0 s) && !kwB s
def qfc(g:Glo):Int:=if g.kind < 1∨3 < g.kind then 5 else if qaT g.name=false then 7 else if (g.kind≠3∧g.init≠[])∨(g.kind=2∧g.num≠0) then 6 else if g.kind=3∧(g.num < 1∨40000 < g.num) then 4 else if g.kind=3∧g.num < (g.init.length:Int) then 2 else 0
def qkg(k:Int):Bool:=decide (2≤k∧k≤4)
def qbG(k:Int):Nat:=if k=3∨k=6 then 1 else if k=7 then 2 else 0
def qcv(k:Int):Nat:=if k=3∨k=6 then 1 else if k=4 then 6 else if k=7 then 2 else 0
def exC(k o n:Int)(nm:Str)(na:Nat):Int:=if k < 1∨7 < k∨(k=6∧(o < 1∨3 < o))∨(k=7∧(o < 4∨21 < o)) then 5 else if qkg k=true∧qaT nm=false then 7 else if (qkg k=false∧nm≠[])∨(k≠1∧n≠0)∨(k < 6∧o≠0)∨na < qbG k∨qcv k < na then 6 else 0
def qcc(k:Int):Bool:=decide (k=1) || decide (k=2) || decide (k=5)
def qbO(k:Int):Nat:=if k=2 then 2 else if k=5∨8 < k then 0 else 1
def qcA(k:Int):Nat:=if k=2 then 2 else if k=5 then 6 else if 8 < k then 0 else 1
def stC(k:Int)(nm:Str)(ne nb nl:Nat):Int:=if k < 1∨10 < k then 5 else if qcc k=true∧qaT nm=false then 7 else if (qcc k=false∧nm≠[])∨ne < qbO k∨qcA k < ne∨(0 < nb∧k≠3∧k≠4)∨(0 < nl∧k≠3) then 6 else 0
mutual
def wkX:Ex→Nat→Nat→Nat×Int
 | .mk k o n nm az,lv,c=>if 16 < lv∨2000 < c+1 then (c+1,2) else if exC k o n nm az.length≠0 then (c+1,exC k o n nm az.length) else qco az (lv+1) (c+1)
def qco:List Ex→Nat→Nat→Nat×Int
 | [],_,c=>(c,0)
 | x::r,lv,c=>if (wkX x lv c).2≠0 then wkX x lv c else qco r lv (wkX x lv c).1
end
mutual
def wkS:Stm→Nat→Nat→Nat×Int
 | .mk k nm es b e,lv,c=>if 16 < lv∨2000 < c+1 then (c+1,2) else if stC k nm es.length b.length e.length≠0 then (c+1,stC k nm es.length b.length e.length)
  else if (qco es 1 (c+1)).2≠0 then qco es 1 (c+1) else if (qb3 b (lv+1) (qco es 1 (c+1)).1).2≠0 then qb3 b (lv+1) (qco es 1 (c+1)).1 else qb3 e (lv+1) (qb3 b (lv+1) (qco es 1 (c+1)).1).1
def qb3:List Stm→Nat→Nat→Nat×Int
 | [],_,c=>(c,0)
 | x::r,lv,c=>if (wkS x lv c).2≠0 then wkS x lv c else qb3 r lv (wkS x lv c).1
end
def fnC(x:Fnc)(c:Nat):Nat×Int:=if qaT x.name=false then (c,7) else if 6 < x.params.length∨12 < x.locals.length then (c,2) else if (x.params++x.locals).any (fun s=>!qaT s)=true then (c,7) else qb3 x.body 1 c
def qbB(o:Int):Int:=if o=21 then 1 else if o=20 then 2 else if 14≤o∧o≤19 then 3 else if 10≤o∧o≤13 then 4 else 5
def signL:List Str:=[[],[33],[45],[126],[42],[47],[37],[60,60],[62,62],[38],[43],[45],[124],[94],[61,61],[33,61],[60],[60,61],[62],[62,61],[38,38],[124,124]]
def qjO(o:Int):Str:=signL.getD o.toNat []
def qaV:List Str→Str
 | []=>[]
 | [x]=>x
 | x::y::r=>x++44::32::qaV (y::r)
def qeZ(k o:Int):List Int:=if k=6 then [9] else if k=7 then [qbB o,qbB o+1] else []
def exW(k o n:Int)(nm:Str)(az:List Str)(out:Int):Str:=if k=1 then qeB n else if k=2 then nm else if k=3 then nm++[91]++qaV az++[93] else if k=4 then nm++[40]++qaV az++[41] else if k=5 then [103,101,116] else if k=6 then qjO o++az.getD 0 []
 else if qbB o < out then [40]++(az.getD 0 []++[32]++qjO o++[32]++az.getD 1 [])++[41] else az.getD 0 []++[32]++qjO o++[32]++az.getD 1 []
mutual
def exT:Ex→Int→Str
 | .mk k o n nm az,out=>exW k o n nm (qdt az (qeZ k o)) out
def qdt:List Ex→List Int→List Str
 | [],_=>[]
 | x::r,os=>exT x (os.headD 0)::qdt r os.tail
end
def qaO:Nat→Str
 | 0=>[]
 | n+1=>qaO n++[32,32]
def qf5(k:Int)(nm:Str)(es:List Str):Str:=if k=1 then nm++[32,61,32]++es.getD 0 []++[59,10] else if k=2 then nm++[91]++es.getD 0 []++[93,32,61,32]++es.getD 1 []++[59,10] else if k=5 then nm++[40]++qaV es++[41,59,10]
 else (if k=6 then [114,101,116,117,114,110,32] else if k=7 then [112,117,116,32] else if k=8 then [115,116,111,112,32] else if k=9 then [98,114,101,97,107] else [99,111,110,116,105,110,117,101])++qaV es++[59,10]
def qmy:List Stm→Bool
 | [.mk k _ _ _ _]=>decide (k=3)
 | _=>false
mutual
def stT:Stm→Nat→Str
 | .mk k nm es b e,lv=>if k=3∨k=4 then
   (if k=3 then [105,102] else [119,104,105,108,101])++[32,40]++(qdt es []).getD 0 []++[41,32,123,10]++qdc b (lv+1)++qaO lv++[125] ++
    (if e.isEmpty=true then [10] else if qmy e=true then [32,101,108,115,101,32]++st1 e lv else [32,101,108,115,101,32,123,10]++qdc e (lv+1)++qaO lv++[125,10])
  else qf5 k nm (qdt es [])
def qdc:List Stm→Nat→Str
 | [],_=>[]
 | x::r,lv=>qaO lv++stT x lv++qdc r lv
def st1:List Stm→Nat→Str
 | [],_=>[]
 | x::_,lv=>stT x lv
end
def qdP(g:Glo):Str:=(if g.kind=1 then [99,111,110,115,116,32]++g.name++[32,61,32]++qeB g.num else if g.kind=2 then [118,97,114,32]++g.name
 else [97,114,114,97,121,32]++g.name++[91]++qeB g.num++[93]++(if g.init=[] then [] else [32,61,32]++qaV (g.init.map qeB)))++[59,10]
def qg8(x:Fnc):Str:=[102,117,110,99,32]++x.name++[40]++qaV x.params++[41,32,123,10]++(if x.locals=[] then [] else [32,32,118,97,114,32]++qaV x.locals++[59,10])++qdc x.body 1++[125,10]
def qkc(p:Prg):Str:=(p.globals.map qdP).flatten++(p.funcs.map qg8).flatten
def fnF:List Fnc→Nat→Nat→Int×Int
 | [],_,_=>(0,0)
 | x::r,i,c=>if (fnC x c).2≠0 then ((fnC x c).2,(i:Int)) else fnF r (i+1) (fnC x c).1
def glF:List Glo→Nat→Int×Int
 | [],_=>(0,0)
 | g::r,i=>if qfc g≠0 then (qfc g,(i:Int)) else glF r (i+1)
def qbj(p:Prg):Int×Int:=if 64 < p.globals.length∨64 < p.funcs.length then (2,-1) else if (glF p.globals 0).1≠0 then glF p.globals 0 else if 1000 < (p.globals.map fun g=>g.init.length).sum then (2,-1) else fnF p.funcs p.globals.length 0
def qeK(p:Prg):Int×Int:=if (qbj p).1≠0 then qbj p else if 12000 < (qkc p).length then (14,-1) else (0,0)
def smallP:Prg:=⟨[⟨1,[110],3,[]⟩],[⟨[109,97,105,110],[],[],[.mk 7 [] [.mk 7 10 0 [] [.mk 5 0 0 [] [],.mk 7 4 0 [] [.mk 2 0 0 [110] [],.mk 1 0 2 [] []]]] [] []]⟩]⟩
structure MS where
 glo:List Int
 arr:List (List Int)
 frm:List Int
 inp:Str
 left:Nat
 calls:Nat
 out:Str
inductive ER(α:Type) where
 | ok (a:α) (m:MS)
 | fin (m:MS) (st cd:Int)
 | out
def ER.and{α β:Type}:ER α→(α→MS→ER β)→ER β
 | .ok a m,k=>k a m
 | .fin m st cd,_=>.fin m st cd
 | .out,_=>.out
structure Sem where
 e:Fnc→Ex→MS→ER Int
 c:Nat→List Int→MS→ER Int
 t:Fnc→Stm→MS→ER (Int×Int)
 w:Fnc→Ex→List Stm→MS→ER (Int×Int)
def qgi(m:MS):ER Unit:=if m.left=0 then .fin m 0 0 else .ok () { m with left:=m.left - 1 }
def ex0:Ex:=.mk 0 0 0 [] []
def qbA(l:List Ex)(i:Nat):Ex:=l.getD i ex0
def qa4(f:Fnc)(nm:Str):Int:=if 0≤qbb (fun y=>decide (nm=y)) f.params 0 then qbb (fun y=>decide (nm=y)) f.params 0 else if 0≤qbb (fun y=>decide (nm=y)) f.locals 0 then (f.params.length:Int)+qbb (fun y=>decide (nm=y)) f.locals 0 else -1
def qdi(p:Prg)(nm:Str):Int:=qbb (fun g=>decide (g.name=nm)) p.globals 0
def qhx(p:Prg)(nm:Str):Int:=qbb (fun g=>decide (g.name=nm)) p.funcs 0
def gl0:Glo:=⟨0,[],0,[]⟩
def qgY(p:Prg)(f:Fnc)(nm:Str)(m:MS):Int:=
 if 0≤qa4 f nm then m.frm.getD (qa4 f nm).toNat 0
 else if (p.globals.getD (qdi p nm).toNat gl0).kind=1 then (p.globals.getD (qdi p nm).toNat gl0).num
 else m.glo.getD (qdi p nm).toNat 0
def qmz(p:Prg)(f:Fnc)(nm:Str)(v:Int)(m:MS):MS:=
 if 0≤qa4 f nm then { m with frm:=m.frm.set (qa4 f nm).toNat v } else { m with glo:=m.glo.set (qdi p nm).toNat v }
def qaD(E:Ex→MS→ER Int):List Ex→MS→ER (List Int)
 | [],m=>.ok [] m
 | x::r,m=>(E x m).and fun v m=>(qaD E r m).and fun vs m=>.ok (v::vs) m
def qbi(T:Stm→MS→ER (Int×Int)):List Stm→MS→ER (Int×Int)
 | [],m=>.ok (0,0) m
 | x::r,m=>(T x m).and fun y m=>if y.1=0 then qbi T r m else .ok y m
def qft(n:Nat)(l:List Int):List Int:=l.take n++List.replicate (n - l.length) 0
def qjD(m:MS):ER Int:=match m.inp with
 | []=>.ok 4294967295 m
 | c::r=>.ok (c.toNat:Int) { m with inp:=r }
section
variable(p:Prg)(OP:Int→Int→Int→Option Int)
def qd1(nm:Str)(m:MS):List Int:=m.arr.getD (qdi p nm).toNat []
def vX(S:Sem)(f:Fnc)(x:Ex)(m:MS):ER Int:=
 if x.kind=1 then .ok x.num m
 else if x.kind=2 then .ok (qgY p f x.name m) m
 else if x.kind=3 then (S.e f (qbA x.args 0) m).and fun i m=>if ((qd1 p x.name m).length:Int)≤i then .fin m 1 1 else .ok ((qd1 p x.name m).getD i.toNat 0) m
 else if x.kind=4 then (qaD (S.e f) x.args m).and fun vs m=>S.c (qhx p x.name).toNat vs m
 else if x.kind=5 then qjD m
 else if x.kind=6 then (S.e f (qbA x.args 0) m).and fun a m=>.ok ((OP x.op a 0).getD 0) m
 else (S.e f (qbA x.args 0) m).and fun a m=>if x.op=20∧a=0 then .ok 0 m else if x.op=21∧a≠0 then .ok 1 m
  else (S.e f (qbA x.args 1) m).and fun b m=>match OP x.op a b with | some v=>.ok v m | none=>.fin m 1 2
def sX(S:Sem)(f:Fnc)(x:Stm)(m:MS):ER (Int×Int):=
 if x.kind=1 then (S.e f (qbA x.exprs 0) m).and fun v m=>.ok (0,0) (qmz p f x.name v m)
 else if x.kind=2 then (S.e f (qbA x.exprs 0) m).and fun i m=>if ((qd1 p x.name m).length:Int)≤i then .fin m 1 1
  else (S.e f (qbA x.exprs 1) m).and fun v m=>.ok (0,0) { m with arr:=m.arr.set (qdi p x.name).toNat ((qd1 p x.name m).set i.toNat v) }
 else if x.kind=3 then (S.e f (qbA x.exprs 0) m).and fun v m=>if v≠0 then qbi (S.t f) x.body m else qbi (S.t f) x.els m
 else if x.kind=4 then S.w f (qbA x.exprs 0) x.body m
 else if x.kind=5 then (qaD (S.e f) x.exprs m).and fun vs m=>(S.c (qhx p x.name).toNat vs m).and fun _ m=>.ok (0,0) m
 else if x.kind=6 then (S.e f (qbA x.exprs 0) m).and fun v m=>.ok (3,v) m
 else if x.kind=7 then (S.e f (qbA x.exprs 0) m).and fun v m=>if 20000≤m.out.length then .fin m 5 0 else .ok (0,0) { m with out:=m.out++[UInt8.ofNat v.toNat] }
 else if x.kind=8 then (S.e f (qbA x.exprs 0) m).and fun v m=>.fin m 1 v
 else if x.kind=9 then .ok (1,0) m
 else .ok (2,0) m
def fn0:Fnc:=⟨[],[],[],[]⟩
def cX(S:Sem)(i:Nat)(vs:List Int)(m:MS):ER Int:=
 if m.calls=100 then .fin m 1 3
 else (qbi (S.t (p.funcs.getD i fn0)) (p.funcs.getD i fn0).body { m with frm:=qft ((p.funcs.getD i fn0).params.length+(p.funcs.getD i fn0).locals.length) vs,calls:=m.calls+1 }).and
  fun y m1=>.ok (if y.1=3 then y.2 else 0) { m1 with frm:=m.frm,calls:=m.calls }
def wX(S:Sem)(f:Fnc)(c:Ex)(b:List Stm)(m:MS):ER (Int×Int):=
 (S.e f c m).and fun v m=>if v=0 then .ok (0,0) m else (qbi (S.t f) b m).and fun y m=>if y.1=1 then .ok (0,0) m else if y.1=3 then .ok y m else S.w f c b m
def sem:Nat→Sem
 | 0=>⟨fun _ _ _=>.out,fun _ _ _=>.out,fun _ _ _=>.out,fun _ _ _ _=>.out⟩
 | n+1=>⟨fun f x m=>(qgi m).and fun _ m=>vX p OP (sem n) f x m,fun i vs m=>cX p (sem n) i vs m,fun f x m=>(qgi m).and fun _ m=>sX p (sem n) f x m,fun f c b m=>wX (sem n) f c b m⟩
def qei(inp:Str)(steps:Nat):MS:=⟨List.replicate p.globals.length 0,p.globals.map fun g=>if g.kind=3 then qft g.num.toNat g.init else [],[],inp,steps,0,[]⟩
def quI(steps:Nat):ER Int→Str×Int×Int×Nat
 | .ok _ m=>(m.out,1,0,steps - m.left)
 | .fin m st cd=>(m.out,st,cd,steps - m.left)
 | .out=>([],0,0,0)
def quH(n main:Nat)(inp:Str)(steps:Nat):ER Int:=(sem p OP n).c main [] (qei p inp steps)
end
-- what every part keeps: what was written stays, no step is given back
def addL(d:Nat)(m:MS):MS:={ m with left:=m.left+d }
def Aft(d:Nat)(m:MS){α:Type}:ER α→Prop
 | .ok _ m2=>m2.left≤d∧∃ w,m2.out=m.out++w
 | .fin m2 _ _=>m2.left≤d∧∃ w,m2.out=m.out++w
 | .out=>True
def Mo(d:Nat){α:Type}(r r':ER α):Prop:=match r with
 | .out=>True
 | .ok a m=>r'=.out∨r'=.ok a (addL d m)
 | .fin m st cd=>r'=.out∨(st≠0∧r'=.fin (addL d m) st cd)∨(st=0∧m.left=0∧Aft d m r')
section
variable{p:Prg}{OP:Int→Int→Int→Option Int}
def No{α:Type}(B:Nat)(r:ER α):Prop:=match r with
 | .out=>False
 | .ok _ m=>m.left≤B
 | .fin _ _ _=>True
theorem No.and{α β:Type}{B C:Nat}{r:ER α}{k:α→MS→ER β}(h:No B r)(hk:∀ a m,m.left≤B→No C (k a m)):No C (r.and k):=by
 cases r with
 | out=>exact h.elim
 | ok a m=>exact hk a m h
 | fin m st cd=>trivial
theorem No.up{α:Type}{B C:Nat}{r:ER α}(h:No B r)(hB:B≤C):No C r:=by
 cases r with
 | out=>exact h.elim
 | ok a m=>exact Nat.le_trans h hB
 | fin m st cd=>trivial
theorem qpE{B:Nat}{E:Ex→MS→ER Int}(hE:∀ x m,m.left≤B→No m.left (E x m)):∀ (l:List Ex) (m:MS),m.left≤B→No m.left (qaD E l m)
 | [],m,_=>by rw [qaD];exact Nat.le_refl _
 | x::r,m,h=>by
  rw [qaD]
  exact (hE x m h).and fun v m1 h1=>(qpE hE r m1 O).and fun _ m2 h2=>Nat.le_trans h2 h1
theorem qpb{B:Nat}{T:Stm→MS→ER (Int×Int)}(hT:∀ x m,m.left≤B→No m.left (T x m)):∀ (l:List Stm) (m:MS),m.left≤B→No m.left (qbi T l m)
 | [],m,_=>by rw [qbi];exact Nat.le_refl _
 | x::r,m,h=>by
  rw [qbi]
  refine (hT x m h).and fun y m1 h1=>?_
  split
  · exact (qpb hT r m1 O).up h1
  · exact h1
theorem qpe:∀ n,(∀ f x m,2 * m.left < n→No (m.left - 1) ((sem p OP n).e f x m))∧(∀ i vs m,2 * m.left+1 < n→No m.left ((sem p OP n).c i vs m))∧(∀ f x m,2 * m.left < n→No (m.left - 1) ((sem p OP n).t f x m))∧∀ f c b m,2 * m.left+1 < n→No m.left ((sem p OP n).w f c b m)
  | 0=>⟨fun _ _ _ h=>by omega,fun _ _ _ h=>by omega,fun _ _ _ h=>by omega,fun _ _ _ _ h=>by omega⟩
  | n+1=>by
    obtain ⟨hE,hC,hT,hW⟩:=qpe n
    have hE':∀ f x m,2 * m.left < n→No m.left ((sem p OP n).e f x m):=fun f x m h=>(hE f x m h).up O
    have hA:∀ f (l:List Ex) (m:MS),2 * m.left < n→No m.left (qaD ((sem p OP n).e f) l m):=fun f l m h=>qpE (B:=m.left) (fun x m1 h1=>hE' f x m1 O) l m (Nat.le_refl _)
    have hR:∀ f (l:List Stm) (m:MS),2 * m.left < n→No m.left (qbi ((sem p OP n).t f) l m):=fun f l m h=>qpb (B:=m.left) (fun x m1 h1=>(hT f x m1 O).up O) l m (Nat.le_refl _)
    have hS:∀ m:MS,2 * m.left < n+1→∀ {α:Type} {k:Unit→MS→ER α},(∀ a m1,m1.left=m.left - 1→2 * m1.left+1 < n→No m1.left (k a m1))→No (m.left - 1) ((qgi m).and k):=fun m h α k hk=>by
      unfold qgi
      split
      · trivial
      · rename_i h0
        exact hk () { m with left:=m.left - 1 } rfl (by show 2 * (m.left - 1)+1 < n;omega)
    refine ⟨fun f x m h=>hS m h fun _ m1 _ h1=>?_,fun i vs m h=>?_,fun f x m h=>hS m h fun _ m1 _ h1=>?_,fun f c b m h=>?_⟩
    · clear h
      unfold vX
      split
      · exact Nat.le_refl _
      split
      · exact Nat.le_refl _
      split
      · refine (hE' _ _ _ O).and fun i m h2=>?_
        split
        · trivial
        · exact h2
      split
      · exact (hA _ _ _ O).and fun vs m h2=>(hC _ _ _ O).up h2
      split
      · unfold qjD;split <;> exact Nat.le_refl _
      split
      · exact (hE' _ _ _ O).and fun a m h2=>h2
      · refine (hE' _ _ _ O).and fun a m h2=>?_
        split
        · exact h2
        split
        · exact h2
        · refine (hE' _ _ _ O).and fun b m h3=>?_
          split
          · exact Nat.le_trans h3 h2
          · trivial
    · show No m.left (cX p (sem p OP n) i vs m)
      unfold cX
      split
      · trivial
      · exact (hR _ _ { m with frm:=qft ((p.funcs.getD i fn0).params.length+(p.funcs.getD i fn0).locals.length) vs,calls:=m.calls+1 } (by show 2 * m.left < n;omega)).and fun y m1 h1=>h1
    · clear h
      unfold sX
      split
      · refine (hE' _ _ _ O).and fun v m h2=>?_
        unfold qmz;split <;> exact h2
      split
      · refine (hE' _ _ _ O).and fun i m h2=>?_
        split
        · trivial
        · exact (hE' _ _ _ O).and fun v m h3=>Nat.le_trans h3 h2
      split
      · refine (hE' _ _ _ O).and fun v m h2=>?_
        split
        · exact (hR _ _ _ O).up h2
        · exact (hR _ _ _ O).up h2
      split
      · exact hW _ _ _ _ O
      split
      · exact (hA _ _ _ O).and fun vs m h2=>(hC _ _ _ O).and fun _ m h3=>Nat.le_trans h3 h2
      split
      · exact (hE' _ _ _ O).and fun v m h2=>h2
      split
      · refine (hE' _ _ _ O).and fun v m h2=>?_
        split
        · trivial
        · exact h2
      split
      · exact (hE' _ _ _ O).and fun v m h2=>trivial
      split
      · exact Nat.le_refl _
      · exact Nat.le_refl _
    · show No m.left (wX (sem p OP n) f c b m)
      unfold wX
      rcases Nat.eq_zero_or_pos m.left with h0 | h0
      ·
        have:∀ v m1,(sem p OP n).e f c m=.ok v m1→False:=by
          intro v m1 he
          cases n with
          | zero=>cases he
          | succ n=>
            have e:(sem p OP (n+1)).e f c m=.fin m 0 0:=by show (qgi m).and _=_;rw [qgi,if_pos h0];rfl
            rw [e] at he;cases he
        have hn:=hE f c m O
        cases hr:(sem p OP n).e f c m with
        | out=>rw [hr] at hn;exact hn.elim
        | fin m1 st cd=>trivial
        | ok v m1=>exact (this v m1 hr).elim
      · refine (hE f c m O).and fun v m1 h1=>?_
        split
        · show m1.left≤m.left;omega
        · refine (hR f b m1 O).and fun y m2 h2=>?_
          split
          · show m2.left≤m.left;omega
          split
          · show m2.left≤m.left;omega
          · exact (hW f c b m2 O).up O
end
end Go.Proofs.YtpdnijphccdiiaaGreatDoor
