/- Part 1. -/
import Derived.Tactics
import Derived.Below
import Derived.Orders
import Derived.Laws.Rows
import Derived.WalkKit
import Derived.Deep.LoopGhost
import Derived.OrdersHeld
import Derived.IntWalk
import Derived.KernelRfl
import Derived.Test.YtjindleklapakaaGreatDoorProg
import Derived.Laws.StructEq
import Derived.Maps.AppendAt
import Derived.Laws.MakeOwn
import Derived.Laws.CopyRow
import Derived.MapKept
set_option linter.unusedVariables false
set_option linter.unusedSimpArgs false
set_option linter.unnecessarySimpa false
set_option maxRecDepth 100000
set_option maxHeartbeats 8000000
namespace Go.FL
open Go Go.RowKit
theorem cQ9{α:Type _}{a:α}{x y:List α}:a::x++y=a::(x++y):=rfl
theorem nQ9{α:Type _}{x:List α}:[]++x=x:=rfl
theorem _root_.Go.V{p:Prop}(h:p:=by kernel_rfl):p:=h
theorem _root_.Go.Tt:True:=True.intro
theorem _root_.Go.Oz{p:Prop}(h:p:=by simp only;omega):p:=h
theorem _root_.Go.Dc{p:Prop}(h:p:=by decide):p:=h
theorem _root_.Go.Pr{α:Type _}{l:List α}:l.Perm l:=List.Perm.refl l
theorem _root_.Go.Mc{α:Type _}{a:α}{l:List α}:a∈a::l:=List.mem_cons_self ..
theorem _root_.Go.O{p:Prop}(h:p:=by omega):p:=h
theorem _root_.Go.As{p:Prop}(h:p:=by assumption):p:=h
abbrev Hl:=List (Nat×Obj)
def dum(D:Nat):Obj:=.mapIter none D #[] 0
def qbi(w:World)(b:Nat)(o:Obj):World:={ w with heap:=w.heap.setIfInBounds b o }
def fill:Hl→World→World
 | [],s=>s
 | x::L,s=>qbi (fill L s) x.1 x.2
structure OKL(D:Nat)(L:Hl)(s:World):Prop where
 nd:(L.map (·.1)).Nodup
 dm:∀ x∈L,s.heap[x.1]?=some (dum D)
structure Le(D:Nat)(s s':World):Prop where
 os:s'.os=s.os
 tape:s'.tape=s.tape
 output:s'.output=s.output
 size:s.heap.size≤s'.heap.size
 block:∀ k,k < s.heap.size→s.heap[k]?=some (dum D)∨s'.heap[k]?=s.heap[k]?
variable{D:Nat}
theorem Le.refl(s:World):Le D s s:=⟨rfl,rfl,rfl,Nat.le_refl _,fun _ _=>.inr rfl⟩
theorem Lr(D:Nat){s:World}:Le D s s:=Le.refl s
theorem Z{α:Sort _}{a:α}:a=a:=rfl
theorem Y4{α0:Type _}{a0:α0}{α1:Type _}{a1:α1}{α2:Type _}{a2:α2}{α3:Type _}{a3:α3}:a0=a0∧a1=a1∧a2=a2∧a3=a3:=⟨rfl,rfl,rfl,rfl⟩
theorem Y5{α0:Type _}{a0:α0}{α1:Type _}{a1:α1}{α2:Type _}{a2:α2}{α3:Type _}{a3:α3}{α4:Type _}{a4:α4}:a0=a0∧a1=a1∧a2=a2∧a3=a3∧a4=a4:=⟨rfl,rfl,rfl,rfl,rfl⟩
theorem Y6{α0:Type _}{a0:α0}{α1:Type _}{a1:α1}{α2:Type _}{a2:α2}{α3:Type _}{a3:α3}{α4:Type _}{a4:α4}{α5:Type _}{a5:α5}:a0=a0∧a1=a1∧a2=a2∧a3=a3∧a4=a4∧a5=a5:=⟨rfl,rfl,rfl,rfl,rfl,rfl⟩
theorem Y9{α0:Type _}{a0:α0}{α1:Type _}{a1:α1}{α2:Type _}{a2:α2}{α3:Type _}{a3:α3}{α4:Type _}{a4:α4}{α5:Type _}{a5:α5}{α6:Type _}{a6:α6}{α7:Type _}{a7:α7}{α8:Type _}{a8:α8}:a0=a0∧a1=a1∧a2=a2∧a3=a3∧a4=a4∧a5=a5∧a6=a6∧a7=a7∧a8=a8:=⟨rfl,rfl,rfl,rfl,rfl,rfl,rfl,rfl,rfl⟩
theorem Le.trans{a b c:World}(h:Le D a b)(k:Le D b c):Le D a c:=
  ⟨k.os.trans h.os,k.tape.trans h.tape,k.output.trans h.output,Nat.le_trans h.size k.size,fun i hi=>by
    rcases h.block i hi with h1 | h1
    · exact .inl h1
    · rcases k.block i (Nat.lt_of_lt_of_le hi h.size) with h2 | h2
      · exact .inl (h1▸h2)
      · exact .inr (h2.trans h1)⟩
theorem Le.t{D:Nat}{a b c:World}(h:Le D a b)(k:Le D b c):Le D a c:=Le.trans h k
theorem qqs{w:World}{a:Addr}{u:Value}(h:w.cell? a=some u):a.block < w.heap.size:=World.block_lt_of_cell? w a h
theorem qfK{w:World}{a:Addr}{u:Value}(h:w.cell? a=some u):w.heap[a.block]?≠some (dum D):=by
 intro e;simp [World.cell?,e,dum] at h
theorem Le.cell{s s':World}(h:Le D s s'){a:Addr}{u:Value}(hc:s.cell? a=some u):s'.cell? a=some u:=by
 rcases h.block a.block (qqs hc) with h1 | h1
 · exact absurd h1 (qfK hc)
 · rw [← hc];exact World.cell?_of_block h1
@[simp] theorem setBlk_size (w:World) (b:Nat) (o:Obj):(qbi w b o).heap.size=w.heap.size:=by simp [qbi]
theorem qcx{w:World}{b:Nat}(o:Obj)(h:b < w.heap.size):(qbi w b o).heap[b]?=some o:=by
 simp [qbi,h]
theorem qbW{w:World}{b k:Nat}(o:Obj)(h:b≠k):(qbi w b o).heap[k]?=w.heap[k]?:=by
 simp [qbi,Array.getElem?_setIfInBounds_ne h]
theorem qaC(L:Hl)(s:World):(fill L s).heap.size=s.heap.size:=by
 induction L with
 | nil=>rfl
 | cons x L ih=>simp [fill,ih]
theorem qcM(L:Hl)(s:World):(fill L s).os=s.os:=by induction L with
 | nil=>rfl
 | cons x L ih=>exact ih
theorem qbI(L:Hl)(s:World):(fill L s).tape=s.tape:=by induction L with
 | nil=>rfl
 | cons x L ih=>exact ih
theorem qcX(L:Hl)(s:World):(fill L s).drawn=s.drawn:=by induction L with
 | nil=>rfl
 | cons x L ih=>exact ih
theorem qbh(L:Hl)(s:World):(fill L s).output=s.output:=by induction L with
 | nil=>rfl
 | cons x L ih=>exact ih
theorem qa4{L:Hl}{s:World}{k:Nat}(h:k ∉ L.map (·.1)):(fill L s).heap[k]?=s.heap[k]?:=by
 induction L with
 | nil=>rfl
 | cons x L ih=>
  simp only [List.map_cons,List.mem_cons,not_or] at h
  rw [fill,qbW _ (fun e=>h.1 e.symm),ih h.2]
theorem OKL.lt{L:Hl}{s:World}(h:OKL D L s){x:Nat×Obj}(hx:x∈L):x.1 < s.heap.size:=by
 have:=h.dm x hx
 rcases Nat.lt_or_ge x.1 s.heap.size with h1 | h1
 · exact h1
 · rw [Array.getElem?_eq_none h1] at this;cases this
theorem OKL.tail{x:Nat×Obj}{L:Hl}{s:World}(h:OKL D (x::L) s):OKL D L s:=
 ⟨by have:=h.nd;simp only [List.map_cons,List.nodup_cons] at this;exact this.2,fun y hy=>h.dm y (List.mem_cons_of_mem _ hy)⟩
theorem qa3{L:Hl}{s:World}(h:OKL D L s){b:Nat}{o:Obj}(hx:(b,o)∈L):(fill L s).heap[b]?=some o:=by
  induction L with
  | nil=>cases hx
  | cons x L ih=>
    have hnd:=h.nd
    simp only [List.map_cons,List.nodup_cons] at hnd
    rcases List.mem_cons.1 hx with rfl | hx
    · rw [fill];exact qcx _ (by rw [qaC];exact h.lt Mc)
    · rw [fill,qbW]
      · exact ih h.tail hx
      · intro e;exact hnd.1 (by rw [e];exact List.mem_map.2 ⟨_,hx,rfl⟩)
theorem qhC{L:Hl}{s:World}(h:OKL D L s){k:Nat}(hk:s.heap[k]?≠some (dum D)):k ∉ L.map (·.1):=by
 intro hm
 obtain ⟨x,hx,rfl⟩:=List.mem_map.1 hm
 exact hk (h.dm x hx)
theorem qc4{L:Hl}{s:World}(h:OKL D L s){a:Addr}{u:Value}(hc:s.cell? a=some u):(fill L s).cell? a=some u:=by
 rw [← hc];exact World.cell?_of_block (qa4 (qhC h (qfK hc)))
theorem qeK{L:Hl}{s:World}(h:OKL D L s):Le D s (fill L s):=
 ⟨qcM L s,qbI L s,qbh L s,by rw [qaC];exact Nat.le_refl _,fun k hk=>by
  by_cases hd:s.heap[k]?=some (dum D)
  · exact .inl hd
  · exact .inr (qa4 (qhC h hd))⟩
theorem qdu{w w':World}(h1:w.heap=w'.heap)(h2:w.tape=w'.tape)(h3:w.drawn=w'.drawn)(h4:w.os=w'.os)(h5:w.output=w'.output):w=w':=by
 cases w;cases w';simp_all
theorem qdr{a b:Array Obj}(h:∀ k:Nat,a[k]?=b[k]?):a=b:=Array.ext_getElem? h
theorem qeJ(A B:Hl)(s:World):fill (A++B) s=fill A (fill B s):=by
 induction A with
 | nil=>rfl
 | cons x A ih=>simp [fill,ih]
theorem qeP{w:World}{b c:Nat}(o p:Obj)(h:b≠c):qbi (qbi w b o) c p=qbi (qbi w c p) b o:=by
 unfold qbi;simp [Array.setIfInBounds_comm _ _ h]
theorem qjd{L:Hl}{s:World}{b:Nat}{o:Obj}(h:b ∉ L.map (·.1)):fill L (qbi s b o)=qbi (fill L s) b o:=by
 induction L with
 | nil=>rfl
 | cons x L ih=>
  simp only [List.map_cons,List.mem_cons,not_or] at h
  rw [fill,ih h.2,fill,qeP _ _ h.1]
theorem qmM{A B:Hl}{s:World}(h:((A++B).map (·.1)).Nodup):fill A (fill B s)=fill B (fill A s):=by
 induction A with
 | nil=>rfl
 | cons x A ih=>
  simp only [List.cons_append,List.map_cons,List.nodup_cons] at h
  rw [fill,ih h.2,fill,qjd]
  intro hb;exact h.1 (by rw [List.map_append];exact List.mem_append_right _ hb)
theorem OKL.left{A B:Hl}{s:World}(h:OKL D (A++B) s):OKL D A s:=
 ⟨by have:=h.nd;rw [List.map_append] at this;exact (List.nodup_append.1 this).1,fun x hx=>h.dm x (List.mem_append_left _ hx)⟩
theorem OKL.right{A B:Hl}{s:World}(h:OKL D (A++B) s):OKL D B s:=
 ⟨by have:=h.nd;rw [List.map_append] at this;exact (List.nodup_append.1 this).2.1,fun x hx=>h.dm x (List.mem_append_right _ hx)⟩
theorem qbx{A B:Hl}{s:World}(h:OKL D (A++B) s):fill (A++B) s=fill B (fill A s)∧OKL D B (fill A s)∧Le D s (fill A s):=by
  refine ⟨by rw [qeJ,qmM h.nd],⟨h.right.nd,fun x hx=>?_⟩,qeK h.left⟩
  rw [qa4]
  · exact h.right.dm x hx
  · intro hm
    have:=h.nd
    rw [List.map_append] at this
    exact (List.nodup_append.1 this).2.2 _ hm _ (List.mem_map.2 ⟨x,hx,rfl⟩) rfl
def qcB(D:Nat):Hl→World→World
 | [],w=>w
 | x::L,w=>qbi (qcB D L w) x.1 (dum D)
theorem qfH(L:Hl)(w:World):(qcB D L w).heap.size=w.heap.size:=by
 induction L with
 | nil=>rfl
 | cons x L ih=>simp [qcB,ih]
theorem qdb{L:Hl}{w:World}{k:Nat}(h:k ∉ L.map (·.1)):(qcB D L w).heap[k]?=w.heap[k]?:=by
 induction L with
 | nil=>rfl
 | cons x L ih=>
  simp only [List.map_cons,List.mem_cons,not_or] at h
  rw [qcB,qbW _ (fun e=>h.1 e.symm),ih h.2]
theorem qh0{L:Hl}{w:World}(hlt:∀ x∈L,x.1 < w.heap.size){k:Nat}(h:k∈L.map (·.1)):(qcB D L w).heap[k]?=some (dum D):=by
  induction L with
  | nil=>cases h
  | cons x L ih=>
    by_cases hk:x.1=k
    · subst hk;rw [qcB];exact qcx _ (by rw [qfH];exact hlt x Mc)
    · rw [qcB,qbW _ hk]
      simp only [List.map_cons,List.mem_cons] at h
      exact ih (fun y hy=>hlt y (List.mem_cons_of_mem _ hy)) (h.resolve_left (fun e=>hk e.symm))
theorem qfY(L:Hl)(s:World):(qcB D L s).os=s.os:=by induction L with
 | nil=>rfl
 | cons x L ih=>exact ih
theorem qer(L:Hl)(s:World):(qcB D L s).tape=s.tape:=by induction L with
 | nil=>rfl
 | cons x L ih=>exact ih
theorem qga(L:Hl)(s:World):(qcB D L s).drawn=s.drawn:=by induction L with
 | nil=>rfl
 | cons x L ih=>exact ih
theorem qdq(L:Hl)(s:World):(qcB D L s).output=s.output:=by induction L with
 | nil=>rfl
 | cons x L ih=>exact ih
theorem qst{L:Hl}{s w':World}(h:OKL D L s)(hb:Below (fill L s).heap.size (fill L s) w') :
    w'=fill L (qcB D L w')∧OKL D L (qcB D L w')∧Le D s (qcB D L w'):=by
  have hsz:s.heap.size≤w'.heap.size:=by have:=hb.size;rwa [qaC] at this
  have hlt:∀ x∈L,x.1 < w'.heap.size:=fun x hx=>Nat.lt_of_lt_of_le (h.lt hx) hsz
  have hok:OKL D L (qcB D L w'):=⟨h.nd,fun x hx=>qh0 hlt (List.mem_map.2 ⟨x,hx,rfl⟩)⟩
  refine ⟨qdu (qdr fun k=>?_) ?_ ?_ ?_ ?_,hok,⟨?_,?_,?_,by rw [qfH];exact hsz,fun k hk=>?_⟩⟩
  · by_cases hk:k∈L.map (·.1)
    · obtain ⟨x,hx,rfl⟩:=List.mem_map.1 hk
      rw [qa3 hok hx,hb.block x.1 (by rw [qaC];exact h.lt hx),qa3 h hx]
    · rw [qa4 hk,qdb hk]
  · rw [qbI,qer]
  · rw [qcX,qga]
  · rw [qcM,qfY]
  · rw [qbh,qdq]
  · rw [qfY,hb.os,qcM]
  · rw [qer,hb.tape,qbI]
  · rw [qdq,hb.output,qbh]
  · by_cases hd:s.heap[k]?=some (dum D)
    · exact .inl hd
    · have hk':=qhC h hd
      exact .inr (by rw [qdb hk',hb.block k (by rw [qaC];exact hk),qa4 hk'])
theorem qa2{L:Hl}{s:World}(h:OKL D L s)(o:Obj) :
    (fill L s).alloc o=fill ((s.heap.size,o)::L) (s.alloc (dum D))∧OKL D ((s.heap.size,o)::L) (s.alloc (dum D))∧Le D s (s.alloc (dum D)):=by
  have hold:∀ k,k < s.heap.size→(s.alloc (dum D)).heap[k]?=s.heap[k]?:=fun k hk=>Below.heap_alloc s _ k hk
  have hok:OKL D ((s.heap.size,o)::L) (s.alloc (dum D)):=by
    refine ⟨?_,?_⟩
    · simp only [List.map_cons,List.nodup_cons]
      refine ⟨fun hm=>?_,h.nd⟩
      obtain ⟨x,hx,he⟩:=List.mem_map.1 hm
      have:=h.lt hx
      omega
    · intro x hx
      rcases List.mem_cons.1 hx with rfl | hx
      · exact heap_alloc_new s _
      · rw [hold _ (h.lt hx)];exact h.dm x hx
  refine ⟨qdu (qdr fun k=>?_) ?_ ?_ ?_ ?_,hok,⟨Z,Z,Z,by simp,fun k hk=>.inr (hold k hk)⟩⟩
  · rcases Nat.lt_trichotomy k s.heap.size with hk | rfl | hk
    · rw [Below.heap_alloc _ _ _ (by rw [qaC];exact hk)]
      by_cases hm:k∈L.map (·.1)
      · obtain ⟨x,hx,rfl⟩:=List.mem_map.1 hm
        rw [qa3 h hx,qa3 hok (List.mem_cons_of_mem _ hx)]
      · rw [qa4 hm,qa4 (by simp only [List.map_cons,List.mem_cons,not_or];exact ⟨by omega,hm⟩),hold k hk]
    · rw [qa3 hok Mc,← qaC L s];exact heap_alloc_new _ _
    · rw [Array.getElem?_eq_none (by simp [qaC];omega),Array.getElem?_eq_none (by rw [qaC];simp;omega)]
  · show (fill L s).tape=_;rw [qbI,qbI];rfl
  · show (fill L s).drawn=_;rw [qcX,qcX];rfl
  · show (fill L s).os=_;rw [qcM,qcM];rfl
  · show (fill L s).output=_;rw [qbh,qbh];rfl
def qhN(L:Hl)(i:Nat)(o:Obj):Hl:=match L,i with
 | [],_=>[]
 | x::L,0=>(x.1,o)::L
 | x::L,i+1=>x::qhN L i o
theorem qiO(L:Hl)(i:Nat)(o:Obj):(qhN L i o).map (·.1)=L.map (·.1):=by
 induction L generalizing i with
 | nil=>cases i <;> rfl
 | cons x L ih=>cases i with
  | zero=>rfl
  | succ i=>simp [qhN,ih]
theorem qhw{L:Hl}{s:World}(h:OKL D L s)(i:Nat)(o:Obj):OKL D (qhN L i o) s:=by
 refine ⟨by rw [qiO];exact h.nd,fun x hx=>?_⟩
 have:x.1∈(qhN L i o).map (·.1):=List.mem_map.2 ⟨x,hx,rfl⟩
 rw [qiO] at this
 obtain ⟨y,hy,he⟩:=List.mem_map.1 this
 rw [← he];exact h.dm y hy
theorem qg9(w:World)(b:Nat)(o p:Obj):qbi (qbi w b o) b p=qbi w b p:=by
 unfold qbi;simp
theorem qfl{L:Hl}{s:World}(h:OKL D L s){i b:Nat}{p:Obj}(hi:L[i]?=some (b,p))(o:Obj):fill (qhN L i o) s=qbi (fill L s) b o:=by
 induction L generalizing i with
 | nil=>cases hi
 | cons x L ih=>
  cases i with
  | zero=>
   simp only [List.getElem?_cons_zero,Option.some.injEq] at hi
   subst hi
   simp only [qhN,fill]
   rw [qg9]
  | succ i=>
   simp only [List.getElem?_cons_succ] at hi
   have hnd:=h.nd
   simp only [List.map_cons,List.nodup_cons] at hnd
   simp only [qhN,fill]
   rw [ih h.tail hi,qeP]
   intro e
   exact hnd.1 (by rw [← e];exact List.mem_map.2 ⟨_,List.mem_of_getElem? hi,rfl⟩)
theorem qgp(L:Hl)(s:World):(fill L s).drew=fill L s.drew:=by
 induction L with
 | nil=>rfl
 | cons x L ih=>show qbi (fill L s).drew x.1 x.2=qbi (fill L s.drew) x.1 x.2;rw [ih]
theorem Le.drew(s:World):Le D s s.drew:=⟨rfl,rfl,rfl,Nat.le_refl _,fun _ _=>.inr rfl⟩
theorem OKL.drew{L:Hl}{s:World}(h:OKL D L s):OKL D L s.drew:=⟨h.nd,h.dm⟩
abbrev Fr:=List (Nat×Value)
def qaZ:Fr→Nat→Option Value
 | [],_=>none
 | (d,v)::r,t=>bif Nat.beq d t then some v else qaZ r t
def lk(fr:Fr):Operand→Option Value
 | .tmp t=>qaZ fr t
 | .const v=>some v
 | .global g=>some (.pointer (some ⟨g,0,none⟩))
 | .func f=>some (.func (.func f) #[] #[])
structure FrRel(n:Nat)(a:Act)(fr:Fr):Prop where
 size:a.tmps.size=n
 defers:a.defers=[]
 slot:∀ t,t < n→∀ v,qaZ fr t=some v→a.tmps[t]?=some v
 top:∀ t v,qaZ fr t=some v→t < n
theorem FrRel.ev{n:Nat}{a:Act}{fr:Fr}(h:FrRel n a fr){x:Operand}{v:Value}(hx:lk fr x=some v):a.eval x=v:=by
 cases x with
 | tmp t=>
  have:=h.slot t (h.top t v hx) v hx
  simp [Act.eval,this]
 | const u=>simpa [lk,Act.eval] using hx
 | global g=>simpa [lk,Act.eval] using hx
 | func f=>simpa [lk,Act.eval] using hx
theorem qa8(d:Nat)(v:Value)(fr:Fr)(t:Nat):qaZ ((d,v)::fr) t=if d=t then some v else qaZ fr t:=by
  simp only [qaZ,cond_eq_ite]
  by_cases h:d=t
  · subst h;simp
  · have:Nat.beq d t=false:=by
      cases hb:Nat.beq d t with
      | false=>rfl
      | true=>exact absurd (Nat.eq_of_beq_eq_true hb) h
    simp [h,this]
theorem FrRel.put{n:Nat}{a:Act}{fr:Fr}(h:FrRel n a fr){d:Nat}(hd:Nat.blt d n=true)(v:Value):FrRel n (a.put (some d) v) ((d,v)::fr):=by
  have hd':d < n:=Nat.le_of_ble_eq_true hd
  refine ⟨by simp [Act.put,h.size],by simp [Act.put,h.defers],fun t ht u hu=>?_,fun t u hu=>?_⟩
  · rw [qa8] at hu
    by_cases he:d=t
    · subst he;simp at hu;subst hu;simp [Act.put,h.size,hd']
    · simp only [he,if_false] at hu
      simp only [Act.put,Array.getElem?_setIfInBounds_ne he]
      exact h.slot t ht u hu
  · rw [qa8] at hu
    by_cases he:d=t
    · subst he;exact hd'
    · simp only [he,if_false] at hu;exact h.top t u hu
inductive TK where
 | sc                       -- one cell
 | sl (elem:Nat)          -- a slice
 | st (offs:List Nat)     -- a struct; the offsets of its fields
 | ar (len elem:Nat)      -- an array
def qex:TK→Bool
 | .sc=>true
 | .sl _=>true
 | _=>false
structure TI where
 kind:TK
 desc:TypeDesc
 size:Nat
 bytes:Nat
 zeros:List Value
 fsz:List Nat:=[]      -- a struct: the sizes of its fields
def TI.zero(x:TI):Value:=match x.kind with
 | .st _=>.agg x.zeros.toArray
 | .ar _ _=>.agg x.zeros.toArray
 | _=>x.zeros.headD undef
abbrev qbf:=List (Nat×TI)
def TK.fits:TK→TypeDesc→Prop
 | .sc,.struct _=>False
 | .sc,.array _ _=>False
 | .sc,_=>True
 | .sl e,d=>d=.slice e
 | .st offs,.struct fs=>fs.toList.map (·.offset)=offs
 | .st _,_=>False
 | .ar n e,d=>d=.array n e
def qma(P:Program):TypeDesc→Bool
 | .struct fs=>fs.toList.all (fun f=>decide (0 < P.cellsOf f.type))
 | _=>true
def qkI(P:Program):TypeDesc→List Nat
 | .struct fs=>fs.toList.map fun f=>P.cellsOf f.type
 | _=>[]
def TI.ok(P:Program)(t:Nat)(x:TI):Prop:=
 P.underlying t=some x.desc∧x.kind.fits x.desc∧(P.info? t).map (fun i=>(i.size,i.bytes,i.zero))=some (x.size,x.bytes,some x.zero)∧x.zeros.length=x.size∧x.zeros.all (·.oneCell')=true∧0 < x.size∧(qex x.kind=true→x.size=1) ∧
 qma P x.desc=true∧qkI P x.desc=x.fsz
def TabOK(P:Program)(TT:qbf):Prop:=∀ x∈TT,x.2.ok P x.1
def qaA:qbf→Nat→Option TI
 | [],_=>none
 | (d,v)::r,t=>bif Nat.beq d t then some v else qaA r t
theorem qmV{TT:qbf}{t:Nat}{x:TI}(h:qaA TT t=some x):(t,x)∈TT:=by
  induction TT with
  | nil=>cases h
  | cons y TT ih=>
    obtain ⟨d,v⟩:=y
    simp only [qaA,cond_eq_ite] at h
    by_cases he:Nat.beq d t=true
    · simp only [he,if_true,Option.some.injEq] at h
      have:d=t:=by simpa using he
      subst h;subst this;exact List.mem_cons_self ..
    · simp only [he] at h;exact List.mem_cons_of_mem _ (ih h)
theorem TabOK.at_{P:Program}{TT:qbf}(h:TabOK P TT){t:Nat}{x:TI}(hx:qaA TT t=some x):x.ok P t:=h _ (qmV hx)
abbrev qbF:=Exit→Fr→Hl→World→Prop
def conc(D n:Nat)(Q:qbF):Exit→Act→World→Prop:=fun e a w=>∃ fr L s,FrRel n a fr∧OKL D L s∧w=fill L s∧Q e fr L s
def JC(P:Program)(TT:qbf)(D n:Nat)(Q:qbF)(c:Code)(fr:Fr)(L:Hl)(s:World):Prop:=
 TabOK P TT→∀ a,FrRel n a fr→OKL D L s→c.wp P (conc D n Q) a (fill L s)
def JO(P:Program)(TT:qbf)(D n:Nat)(ops:Array Oper)(Q:qbF)(l:List Oper)(fr:Fr)(L:Hl)(s:World):Prop:=
 TabOK P TT→∀ a,FrRel n a fr→OKL D L s→wpList P ops (conc D n Q) l a (fill L s)
section control
variable{P:Program}{TT:qbf}{D n:Nat}{Q:qbF}{fr:Fr}{L:Hl}{s:World}
def qa7(J:Fr→Hl→World→Prop)(Q:qbF):qbF
 | .normal,fr,L,s=>J fr L s
 | e,fr,L,s=>Q e fr L s
def qaP(id:Nat)(Q:qbF):qbF
 | .exit i,fr,L,s=>if i=id then Q .normal fr L s else Q (.exit i) fr L s
 | e,fr,L,s=>Q e fr L s
theorem qp9(h:Q .normal fr L s):JC P TT D n Q .skip fr L s:=fun _ _ hr ho=>wp_skip ⟨fr,L,s,hr,ho,rfl,h⟩
theorem qq1{id:Nat}(h:Q (.exit id) fr L s):JC P TT D n Q (.exit id) fr L s:=fun _ _ hr ho=>wp_exit ⟨fr,L,s,hr,ho,rfl,h⟩
theorem qsP(h:Q .ret fr L s):JC P TT D n Q .ret fr L s:=fun _ _ hr ho=>wp_ret ⟨fr,L,s,hr,ho,rfl,h⟩
theorem qpD{x y:Code}(h:JC P TT D n (qa7 (JC P TT D n Q y) Q) x fr L s):JC P TT D n Q (.seq x y) fr L s:=fun ht a hr ho=>
 wp_seq (wp_mono (h ht a hr ho) fun e a w ⟨fr',L',s',h1,h2,h3,h4⟩=>by
  cases e with
  | normal=>subst h3;exact h4 ht a h1 h2
  | _=>exact ⟨fr',L',s',h1,h2,h3,h4⟩)
theorem qoy{id:Nat}{c:Code}(h:JC P TT D n (qaP id Q) c fr L s):JC P TT D n Q (.block id c) fr L s:=fun ht a hr ho=>
 wp_block (wp_mono (h ht a hr ho) fun e a w ⟨fr',L',s',h1,h2,h3,h4⟩=>by
  cases e with
  | exit i=>
   simp only [qaP] at h4
   simp only [Exit.inBlock]
   by_cases hi:i=id
   · simp only [hi,if_true] at h4 ⊢;exact ⟨fr',L',s',h1,h2,h3,h4⟩
   · simp only [hi,if_false] at h4 ⊢;exact ⟨fr',L',s',h1,h2,h3,h4⟩
  | _=>exact ⟨fr',L',s',h1,h2,h3,h4⟩)
theorem qcW{c:Operand}{x y:Code}{b:Bool}(hc:lk fr c=some (.bool b))(h1:b=true→JC P TT D n Q x fr L s)(h2:b=false→JC P TT D n Q y fr L s):JC P TT D n Q (.cond c x y) fr L s:=
 fun ht a hr ho=>wp_cond_split (hr.ev hc) (fun hb=>h1 hb ht a hr ho) (fun hb=>h2 hb ht a hr ho)
theorem qab{c:Operand}{x y:Code}{p:Prop} [Decidable p] (hc:lk fr c=some (.bool (decide p))) (h1:p→JC P TT D n Q x fr L s) (h2:¬ p→JC P TT D n Q y fr L s):JC P TT D n Q (.cond c x y) fr L s:=
 qcW hc (fun hb=>h1 (of_decide_eq_true hb)) (fun hb=>h2 (of_decide_eq_false hb))
theorem qbc{c:Operand}{x y:Code}{p:Prop} [Decidable p] (hc:lk fr c=some (.bool (!decide p))) (h1:¬ p→JC P TT D n Q x fr L s) (h2:p→JC P TT D n Q y fr L s):JC P TT D n Q (.cond c x y) fr L s:=
 qcW hc (fun hb=>h1 (by simpa using hb)) (fun hb=>h2 (by simpa using hb))
theorem qbU{c:Operand}{x y:Code}{b:Bool}(hc:lk fr c=some (.bool (!b)))(h1:b=false→JC P TT D n Q x fr L s)(h2:b=true→JC P TT D n Q y fr L s):JC P TT D n Q (.cond c x y) fr L s:=
 qcW hc (fun hb=>h1 (by simpa using hb)) (fun hb=>h2 (by simpa using hb))
theorem qsz{c:Operand}{x y:Code}(hc:lk fr c=some (.bool true))(h1:JC P TT D n Q x fr L s):JC P TT D n Q (.cond c x y) fr L s:=
 qcW hc (fun _=>h1) (fun hb=>by cases hb)
theorem qtj{c:Operand}{x y:Code}(hc:lk fr c=some (.bool false))(h2:JC P TT D n Q y fr L s):JC P TT D n Q (.cond c x y) fr L s:=
 qcW hc (fun hb=>by cases hb) (fun _=>h2)
theorem qiC{id:Nat}{l:List Oper}(h:JO P TT D n l.toArray Q l fr L s):JC P TT D n Q (.region id l.toArray false) fr L s:=
 fun ht a hr ho=>wp_region_lit (h ht a hr ho)
theorem qpF{ops:Array Oper}(h:Q .normal fr L s):JO P TT D n ops Q [] fr L s:=fun _ _ hr ho=>⟨fr,L,s,hr,ho,rfl,h⟩
theorem qiS{l fr:Fr}(t:Nat):qaZ (l++fr) t=(qaZ l t).or (qaZ fr t):=by
 induction l with
 | nil=>simp [qaZ]
 | cons x l ih=>
  obtain ⟨d,v⟩:=x
  rw [List.cons_append,qa8,qa8]
  by_cases h:d=t <;> simp [h,ih]
theorem FrRel.sub{n:Nat}{a:Act}{fr l:Fr}(h:FrRel n a fr)(hs:∀ t v,qaZ l t=some v→qaZ fr t=some v):FrRel n a l:=
 ⟨h.size,h.defers,fun t ht v hv=>h.slot t ht v (hs t v hv),fun t v hv=>h.top t v (hs t v hv)⟩
def Keeps(fr l:Fr):Prop:=∀ t v,qaZ l t=some v→qaZ fr t=some v
theorem Keeps.nil(fr:Fr):Keeps fr []:=fun _ _ h=>by cases h
theorem Keeps.cons{fr l:Fr}{d:Nat}{v:Value}(h1:qaZ fr d=some v)(h:Keeps fr l):Keeps fr ((d,v)::l):=fun t u hu=>by
 rw [qa8] at hu
 by_cases he:d=t
 · subst he;simp at hu;subst hu;exact h1
 · simp only [he,if_false] at hu;exact h t u hu
theorem Keeps.c6{fr l:Fr}{d0:Nat}{v0:Value}{d1:Nat}{v1:Value}{d2:Nat}{v2:Value}{d3:Nat}{v3:Value}{d4:Nat}{v4:Value}{d5:Nat}{v5:Value}(h0:qaZ fr d0=some v0)(h1:qaZ fr d1=some v1)(h2:qaZ fr d2=some v2)(h3:qaZ fr d3=some v3)(h4:qaZ fr d4=some v4)(h5:qaZ fr d5=some v5)(h:Keeps fr l):Keeps fr ((d0,v0)::(d1,v1)::(d2,v2)::(d3,v3)::(d4,v4)::(d5,v5)::l):=Keeps.cons h0 (Keeps.cons h1 (Keeps.cons h2 (Keeps.cons h3 (Keeps.cons h4 (Keeps.cons h5 (h))))))
theorem Keeps.c5{fr l:Fr}{d0:Nat}{v0:Value}{d1:Nat}{v1:Value}{d2:Nat}{v2:Value}{d3:Nat}{v3:Value}{d4:Nat}{v4:Value}(h0:qaZ fr d0=some v0)(h1:qaZ fr d1=some v1)(h2:qaZ fr d2=some v2)(h3:qaZ fr d3=some v3)(h4:qaZ fr d4=some v4)(h:Keeps fr l):Keeps fr ((d0,v0)::(d1,v1)::(d2,v2)::(d3,v3)::(d4,v4)::l):=Keeps.cons h0 (Keeps.cons h1 (Keeps.cons h2 (Keeps.cons h3 (Keeps.cons h4 (h)))))
theorem Keeps.c4{fr l:Fr}{d0:Nat}{v0:Value}{d1:Nat}{v1:Value}{d2:Nat}{v2:Value}{d3:Nat}{v3:Value}(h0:qaZ fr d0=some v0)(h1:qaZ fr d1=some v1)(h2:qaZ fr d2=some v2)(h3:qaZ fr d3=some v3)(h:Keeps fr l):Keeps fr ((d0,v0)::(d1,v1)::(d2,v2)::(d3,v3)::l):=Keeps.cons h0 (Keeps.cons h1 (Keeps.cons h2 (Keeps.cons h3 (h))))
theorem Keeps.c3{fr l:Fr}{d0:Nat}{v0:Value}{d1:Nat}{v1:Value}{d2:Nat}{v2:Value}(h0:qaZ fr d0=some v0)(h1:qaZ fr d1=some v1)(h2:qaZ fr d2=some v2)(h:Keeps fr l):Keeps fr ((d0,v0)::(d1,v1)::(d2,v2)::l):=Keeps.cons h0 (Keeps.cons h1 (Keeps.cons h2 (h)))
theorem Keeps.c2{fr l:Fr}{d0:Nat}{v0:Value}{d1:Nat}{v1:Value}(h0:qaZ fr d0=some v0)(h1:qaZ fr d1=some v1)(h:Keeps fr l):Keeps fr ((d0,v0)::(d1,v1)::l):=Keeps.cons h0 (Keeps.cons h1 (h))
theorem qaQ{γ:Type}{c:Code}(S:γ→Fr)(H:γ→Hl)(I:γ→World→Prop)(μ:γ→Nat)(mono:∀ g s s',I g s→Le D s s'→I g s')(g0:γ)
  (hS:Keeps fr (S g0)) (hL:L=H g0) (hI:I g0 s)
  (round:∀ g s,I g s→JC P TT D n (qa7 (fun fr' L' s'=>∃ g' A,Keeps fr' (S g')∧L'=A++H g'∧I g' s'∧μ g' < μ g) Q) c (S g) (H g) s) :
  JC P TT D n Q (.loop c) fr L s:=fun ht a hr ho=>by
 refine wp_loop_ghost (fun m a w=>∃ g s,μ g=m∧FrRel n a (S g)∧OKL D (H g) s∧w=fill (H g) s∧I g s) (μ g0) ⟨g0,s,Z,hr.sub hS,hL▸ho,hL▸Z,hI⟩ ?_
 rintro m a w ⟨g,s,rfl,h1,h2,rfl,h4⟩
 refine wp_mono (round g s h4 ht a h1 h2) ?_
 rintro e a' w' ⟨fr',L',s',k1,k2,rfl,k4⟩
 cases e with
 | normal=>
  obtain ⟨g',A,j1,rfl,j3,j4⟩:=k4
  obtain ⟨e,d1,d2⟩:=qbx k2
  exact ⟨μ g',j4,g',_,rfl,k1.sub j1,d1,e,mono _ _ _ j3 d2⟩
 | _=>exact ⟨fr',L',s',k1,k2,rfl,k4⟩
end control
def cb(zs:List Value)(t:Nat):Obj:=.cells zs.toArray t (0,0)
abbrev St(l:List UInt8):Value:=.string ⟨l.toArray⟩
def Ev(P:Program)(TT:qbf)(D:Nat)(fr:Fr)(op:Op)(ty:Nat)(L:Hl)(s:World)(r:Next)(L':Hl)(s':World):Prop:=
 TabOK P TT→OKL D L s→∀ (dst:Option Nat) (pos:String) (af:Array Edge) (g:Option (Nat×Bool)) (ρ:Operand→Value),(∀ x v,lk fr x=some v→ρ x=v)→(execOp ρ ⟨dst,op,ty,pos,af,g⟩).run P (fill L s)=.ok r (fill L' s')∧OKL D L' s'
def QE(P:Program)(TT:qbf)(D:Nat)(fr:Fr)(op:Op)(ty:Nat)(K:Hl)(s0:World)(v:Value):Prop:=
 TabOK P TT→∀ (dst:Option Nat) (pos:String) (af:Array Edge) (g:Option (Nat×Bool)) (ρ:Operand→Value),(∀ x v,lk fr x=some v→ρ x=v) →
  ∀ L s,OKL D L s→Le D s0 s→(∀ x∈K,x∈L)→(execOp ρ ⟨dst,op,ty,pos,af,g⟩).run P (fill L s)=.ok (.value v) (fill L s)
theorem QE.pure{P:Program}{TT:qbf}{D:Nat}{fr:Fr}{op:Op}{ty:Nat}{K:Hl}{s0:World}{v:Value}
  (h:TabOK P TT→∀ (dst:Option Nat) (pos:String) (af:Array Edge) (g:Option (Nat×Bool)) (ρ:Operand→Value),(∀ x v,lk fr x=some v→ρ x=v)→∀ w,(execOp ρ ⟨dst,op,ty,pos,af,g⟩).run P w=.ok (.value v) w):QE P TT D fr op ty K s0 v:=
 fun ht dst pos af g ρ hρ L s _ _ _=>h ht dst pos af g ρ hρ _
section
variable{P:Program}{TT:qbf}{D n:Nat}{Q:qbF}{fr:Fr}{L L':Hl}{s s':World}{ops:Array Oper}{rest:List Oper}{d ty:Nat}{op:Op}{pos:String}{af:Array Edge}{v:Value}
theorem qgf(hd:Nat.blt d n=true)(h:Ev P TT D fr op ty L s (.value v) L' s')(k:JO P TT D n ops Q rest ((d,v)::fr) L' s') :
  JO P TT D n ops Q (⟨some d,op,ty,pos,af,none⟩::rest) fr L s:=fun ht a hr ho=>by
 obtain ⟨h1,h2⟩:=h ht ho (some d) pos af none a.eval (fun x v hx=>hr.ev hx)
 simp only [wpList,Region.wanted,if_true]
 refine .inl ?_
 simp only [Oper.wp,h1,Oper.upon]
 exact k ht _ (hr.put hd v) h2
theorem qtQ(h:Ev P TT D fr op ty L s .skip L' s')(k:JO P TT D n ops Q rest fr L' s') :
  JO P TT D n ops Q (⟨none,op,ty,pos,af,none⟩::rest) fr L s:=fun ht a hr ho=>by
 obtain ⟨h1,h2⟩:=h ht ho none pos af none a.eval (fun x v hx=>hr.ev hx)
 simp only [wpList,Region.wanted,if_true]
 refine .inl ?_
 simp only [Oper.wp,h1,Oper.upon]
 exact k ht _ hr h2
theorem qae(h:QE P TT D fr op ty L s v)(hd:Nat.blt d n=true)(k:JO P TT D n ops Q rest ((d,v)::fr) L s):JO P TT D n ops Q (⟨some d,op,ty,pos,af,none⟩::rest) fr L s:=
 qgf hd (fun ht ho dst pos af g ρ hρ=>⟨h ht dst pos af g ρ hρ L s ho (Le.refl _) (fun _ hx=>hx),ho⟩) k
def qfU(ops:Array Oper)(j:Nat):Option Nat:=(ops[j]?).bind (·.dst)
theorem qua{dst:Option Nat}{j t:Nat}{w:Bool}(hj:qfU ops j=some t)(hv:qaZ fr t=some (.bool w))
  (k:JO P TT D n ops Q (⟨dst,op,ty,pos,af,none⟩::rest) fr L s):JO P TT D n ops Q (⟨dst,op,ty,pos,af,some (j,w)⟩::rest) fr L s:=fun ht a hr ho=>by
 have k1:=k ht a hr ho
 have hy:yielded ops a.tmps j=some w:=by
  have h1:=hr.slot t (hr.top _ _ hv) _ hv
  unfold qfU at hj
  simp [yielded,hj,h1]
 simp only [wpList,Region.wanted,if_true] at k1
 simp only [wpList,Region.wanted,hy,beq_self_eq_true,if_true]
 exact k1
theorem qtv{d:Nat}{j t:Nat}{w b:Bool}(hd:Nat.blt d n=true)(hj:qfU ops j=some t)(hv:qaZ fr t=some (.bool b))(hb:(b != w)=true)
  (k:JO P TT D n ops Q rest ((d,undef)::fr) L s):JO P TT D n ops Q (⟨some d,op,ty,pos,af,some (j,w)⟩::rest) fr L s:=fun ht a hr ho=>by
 have hy:yielded ops a.tmps j=some b:=by
  have h1:=hr.slot t (hr.top _ _ hv) _ hv
  unfold qfU at hj
  simp [yielded,hj,h1]
 have hne:(some b == some w)=false:=by cases b <;> cases w <;> simp_all
 simp only [wpList,Region.wanted,hy,hne,Bool.false_eq_true,if_false]
 exact k ht _ (hr.put hd undef) ho
theorem Wf{d:Nat}{j t:Nat}{w b:Bool}(hY:(Nat.blt d n=true)∧(qfU ops j=some t)∧(qaZ fr t=some (.bool b))∧((b != w)=true))
  (k:JO P TT D n ops Q rest ((d,undef)::fr) L s):JO P TT D n ops Q (⟨some d,op,ty,pos,af,some (j,w)⟩::rest) fr L s:=qtv hY.1 hY.2.1 hY.2.2.1 hY.2.2.2 k
theorem qt3{d:Nat}{j t:Nat}{w:Bool}(hd:Nat.blt d n=true)(hj:qfU ops j=some t)(hv:qaZ fr t=some undef)
  (k:JO P TT D n ops Q rest ((d,undef)::fr) L s):JO P TT D n ops Q (⟨some d,op,ty,pos,af,some (j,w)⟩::rest) fr L s:=fun ht a hr ho=>by
 have hy:yielded ops a.tmps j=none:=by
  have h1:=hr.slot t (hr.top _ _ hv) _ hv
  unfold qfU at hj
  simp [yielded,hj,h1,undef]
 simp only [wpList,Region.wanted,hy]
 exact k ht _ (hr.put hd undef) ho
theorem qfF{l:List Oper}{t:Nat}{b:Bool}(hv:qaZ fr t=some (.bool b))(h1:b=true→JO P TT D n ops Q l ((t,.bool true)::fr) L s)(h2:b=false→JO P TT D n ops Q l ((t,.bool false)::fr) L s) :
  JO P TT D n ops Q l fr L s:=fun ht a hr ho=>by
 cases b with
 | true=>exact h1 rfl ht a (hr.sub fun t' v' h=>by rw [qa8] at h;split at h <;> simp_all) ho
 | false=>exact h2 rfl ht a (hr.sub fun t' v' h=>by rw [qa8] at h;split at h <;> simp_all) ho
theorem qam{l:List Oper}{t:Nat}{p:Prop} [Decidable p] (hv:qaZ fr t=some (.bool (decide p))) (h1:p→JO P TT D n ops Q l ((t,.bool true)::fr) L s) (h2:¬ p→JO P TT D n ops Q l ((t,.bool false)::fr) L s) :
  JO P TT D n ops Q l fr L s:=qfF hv (fun h=>h1 (of_decide_eq_true h)) (fun h=>h2 (of_decide_eq_false h))
theorem qej{l:List Oper}{t:Nat}{b:Bool}(hv:qaZ fr t=some (.bool (!b)))(h1:b=false→JO P TT D n ops Q l ((t,.bool true)::fr) L s)(h2:b=true→JO P TT D n ops Q l ((t,.bool false)::fr) L s) :
  JO P TT D n ops Q l fr L s:=qfF hv (fun h=>h1 (by simpa using h)) (fun h=>h2 (by simpa using h))
theorem qb2{l:List Oper}{t:Nat}{p:Prop} [Decidable p] (hv:qaZ fr t=some (.bool (!decide p))) (h1:¬ p→JO P TT D n ops Q l ((t,.bool true)::fr) L s) (h2:p→JO P TT D n ops Q l ((t,.bool false)::fr) L s) :
  JO P TT D n ops Q l fr L s:=qfF hv (fun h=>h1 (by simpa using h)) (fun h=>h2 (by simpa using h))
end
section
variable{P:Program}{TT:qbf}{D:Nat}{fr:Fr}{ty:Nat}{v:Value}{K:Hl}{s0:World}
theorem qao{x:Operand}(hx:lk fr x=some v):QE P TT D fr (.move x) ty K s0 v:=QE.pure fun _ dst pos af g ρ hρ w=>by simp [execOp,hρ x v hx]
theorem qcq{x:Operand}(hx:lk fr x=some v):QE P TT D fr (.assign x) ty K s0 v:=QE.pure fun _ dst pos af g ρ hρ w=>by simp [execOp,hρ x v hx]
theorem qeq{c x y:Operand}(hc:lk fr c=some (.bool true))(hx:lk fr x=some v):QE P TT D fr (.pick c x y) ty K s0 v:=QE.pure fun _ dst pos af g ρ hρ w=>by simp [execOp,hρ x v hx,hρ c _ hc,asBool]
theorem qeo{c x y:Operand}(hc:lk fr c=some (.bool false))(hx:lk fr y=some v):QE P TT D fr (.pick c x y) ty K s0 v:=QE.pure fun _ dst pos af g ρ hρ w=>by simp [execOp,hρ y v hx,hρ c _ hc,asBool]
theorem qlb{x:Operand}{b:Bool}{t:Nat}(hx:lk fr x=some (.bool b)):QE P TT D fr (.unOp .not t x) ty K s0 (.bool (!b)):=QE.pure fun _ dst pos af g ρ hρ w=>by simp [execOp,hρ x _ hx,Op.unary]
theorem qqv{x:Operand}{t:Nat}(hx:lk fr x=some (.bool true)):QE P TT D fr (.unOp .not t x) ty K s0 (.bool false):=qlb hx
theorem qqp{x:Operand}{t:Nat}(hx:lk fr x=some (.bool false)):QE P TT D fr (.unOp .not t x) ty K s0 (.bool true):=qlb hx
def nth:List Value→Nat→Option Value
 | [],_=>none
 | x::_,0=>some x
 | _::r,k+1=>nth r k
theorem qeg(l:List Value)(i:Nat):nth l i=l[i]?:=by
 induction l generalizing i with
 | nil=>rfl
 | cons x l ih=>cases i <;> simp [nth,ih]
theorem qiw{x:Operand}{i:Nat}{vs:List Value}(hx:lk fr x=some (.tuple vs.toArray))(hi:nth vs i=some v):QE P TT D fr (.extract x i) ty K s0 v:=
 QE.pure fun _ dst pos af g ρ hρ w=>by rw [qeg] at hi;simp [execOp,hρ x _ hx,Instr.extract,hi]
theorem qau{x:Operand}{a:Addr}(hx:lk fr x=some (.pointer (some a))):QE P TT D fr (.nilCheck x) ty K s0 (.pointer (some a)):=QE.pure fun _ dst pos af g ρ hρ w=>by simp [execOp,hρ x _ hx]
theorem qil{x y:Operand}{ik:IntKind}{a b:Int}{t t':Nat}(hx:lk fr x=some (.int ik a))(hy:lk fr y=some (.int ik b)):QE P TT D fr (.binOp .eql t x y t') ty K s0 (.bool (decide (a=b))):=
 QE.pure fun _ dst pos af g ρ hρ w=>by simp [execOp,hρ x _ hx,hρ y _ hy,eqGuard,binOp,Op.intCmp];rfl
theorem qhh{x y:Operand}{ik:IntKind}{a b:Int}{t t':Nat}(hx:lk fr x=some (.int ik a))(hy:lk fr y=some (.int ik b)):QE P TT D fr (.binOp .neq t x y t') ty K s0 (.bool (!decide (a=b))):=
 QE.pure fun _ dst pos af g ρ hρ w=>by simp [execOp,hρ x _ hx,hρ y _ hy,eqGuard,binOp,Op.intCmp];rfl
theorem qfr{x y:Operand}{ik:IntKind}{a b:Int}{t t':Nat}(hx:lk fr x=some (.int ik a))(hy:lk fr y=some (.int ik b)):QE P TT D fr (.binOp .lss t x y t') ty K s0 (.bool (decide (a < b))):=
 QE.pure fun _ dst pos af g ρ hρ w=>by simp [execOp,hρ x _ hx,hρ y _ hy,eqGuard,binOp,Op.intCmp]
theorem qoU{x y:Operand}{ik:IntKind}{a b:Int}{t t':Nat}(hx:lk fr x=some (.int ik a))(hy:lk fr y=some (.int ik b)):QE P TT D fr (.binOp .leq t x y t') ty K s0 (.bool (decide (a≤b))):=
 QE.pure fun _ dst pos af g ρ hρ w=>by simp [execOp,hρ x _ hx,hρ y _ hy,eqGuard,binOp,Op.intCmp]
theorem qtS{x y:Operand}{ik:IntKind}{a b:Int}{t t':Nat}(hx:lk fr x=some (.int ik a))(hy:lk fr y=some (.int ik b)):QE P TT D fr (.binOp .gtr t x y t') ty K s0 (.bool (decide (b < a))):=
 QE.pure fun _ dst pos af g ρ hρ w=>by simp [execOp,hρ x _ hx,hρ y _ hy,eqGuard,binOp,Op.intCmp]
theorem qo9{x y:Operand}{ik:IntKind}{a b:Int}{t t':Nat}(hx:lk fr x=some (.int ik a))(hy:lk fr y=some (.int ik b)):QE P TT D fr (.binOp .geq t x y t') ty K s0 (.bool (decide (b≤a))):=
 QE.pure fun _ dst pos af g ρ hρ w=>by simp [execOp,hρ x _ hx,hρ y _ hy,eqGuard,binOp,Op.intCmp]
theorem qdt{x y:Operand}{ik:IntKind}{a b:Int}{t t':Nat}(hx:lk fr x=some (.int ik a))(hy:lk fr y=some (.int ik b)):QE P TT D fr (.binOp .add t x y t') ty K s0 (.int ik (ik.wrap (a+b))):=
 QE.pure fun _ dst pos af g ρ hρ w=>by simp [execOp,hρ x _ hx,hρ y _ hy,eqGuard,binOp,Op.intArith]
theorem qby{x y:Operand}{ik:IntKind}{a b c:Int}{t t':Nat}(hx:lk fr x=some (.int ik a))(hy:lk fr y=some (.int ik b))(hc:ik.wrap (a+b)=c):QE P TT D fr (.binOp .add t x y t') ty K s0 (.int ik c):=hc▸qdt hx hy
theorem qeG{x y:Operand}{ik:IntKind}{a b:Int}{t t':Nat}(hx:lk fr x=some (.int ik a))(hy:lk fr y=some (.int ik b)):QE P TT D fr (.binOp .sub t x y t') ty K s0 (.int ik (ik.wrap (a - b))):=
 QE.pure fun _ dst pos af g ρ hρ w=>by simp [execOp,hρ x _ hx,hρ y _ hy,eqGuard,binOp,Op.intArith]
theorem qgn{x y:Operand}{ik:IntKind}{a b c:Int}{t t':Nat}(hx:lk fr x=some (.int ik a))(hy:lk fr y=some (.int ik b))(hc:ik.wrap (a - b)=c):QE P TT D fr (.binOp .sub t x y t') ty K s0 (.int ik c):=hc▸qeG hx hy
theorem qfL{x y:Operand}{ik:IntKind}{a b:Int}{t t':Nat}(hx:lk fr x=some (.int ik a))(hy:lk fr y=some (.int ik b)):QE P TT D fr (.binOp .mul t x y t') ty K s0 (.int ik (ik.wrap (a * b))):=
 QE.pure fun _ dst pos af g ρ hρ w=>by simp [execOp,hρ x _ hx,hρ y _ hy,eqGuard,binOp,Op.intArith]
theorem qrr{x y:Operand}{ik:IntKind}{a b c:Int}{t t':Nat}(hx:lk fr x=some (.int ik a))(hy:lk fr y=some (.int ik b))(hc:ik.wrap (a * b)=c):QE P TT D fr (.binOp .mul t x y t') ty K s0 (.int ik c):=hc▸qfL hx hy
theorem qed{x y:Operand}{ik:IntKind}{a b:Int}{t t':Nat}(hx:lk fr x=some (.int ik a))(hy:lk fr y=some (.int ik b))(hb:b≠0):QE P TT D fr (.binOp .quo t x y t') ty K s0 (.int ik (ik.wrap (a.tdiv b))):=
 QE.pure fun _ dst pos af g ρ hρ w=>by simp [execOp,hρ x _ hx,hρ y _ hy,eqGuard,binOp,Op.intDiv,hb]
theorem qgY{x y:Operand}{ik:IntKind}{a b:Int}{t t':Nat}(hx:lk fr x=some (.int ik a))(hy:lk fr y=some (.int ik b))(hb:b≠0):QE P TT D fr (.binOp .rem t x y t') ty K s0 (.int ik (a.tmod b)):=
 QE.pure fun _ dst pos af g ρ hρ w=>by simp [execOp,hρ x _ hx,hρ y _ hy,eqGuard,binOp,Op.intDiv,hb]
theorem qeB{x y:Operand}{ik jk:IntKind}{a b:Int}{t t':Nat}{bo:BinOp}(hx:lk fr x=some (.int ik a))(hy:lk fr y=some (.int jk b))(hne:bo≠.eql∧bo≠.neq)(h:∀ w,(binOp bo t (.int ik a) (.int jk b)).run P w=.ok v w):QE P TT D fr (.binOp bo t x y t') ty K s0 v:=
 QE.pure fun _ dst pos af g ρ hρ w=>by
  obtain ⟨h1,h2⟩:=hne
  have hg:(eqGuard bo t x y (.int ik a) (.int jk b)).run P w=.ok () w:=by cases bo <;> simp_all [eqGuard]
  simp [execOp,hρ x _ hx,hρ y _ hy,hg,h w]
theorem qlY{x y:Operand}{a b:List UInt8}{t t':Nat}(hx:lk fr x=some (St a))(hy:lk fr y=some (St b)):QE P TT D fr (.binOp .eql t x y t') ty K s0 (.bool (decide (a=b))):=
 QE.pure fun _ dst pos af g ρ hρ w=>by simp [execOp,hρ x _ hx,hρ y _ hy,eqGuard,binOp,Op.stringOp];by_cases h:a=b <;> simp [h]
theorem qtx{x y:Operand}{a b:List UInt8}{t t':Nat}(hx:lk fr x=some (St a))(hy:lk fr y=some (St b)):QE P TT D fr (.binOp .neq t x y t') ty K s0 (.bool (!decide (a=b))):=
 QE.pure fun _ dst pos af g ρ hρ w=>by simp [execOp,hρ x _ hx,hρ y _ hy,eqGuard,binOp,Op.stringOp];by_cases h:a=b <;> simp [h]
theorem qiD{P:Program}{t:Nat}(h:P.underlying t=some .bool)(a b:Bool)(w:World):(Op.equal t (.bool a) (.bool b)).run P w=.ok (decide (a=b)) w:=by
 rw [run_equal_bool w t a b h]
 cases a <;> cases b <;> rfl
def EqA(P:Program)(t:Nat)(xs ys:List Value)(b:Bool):Prop:=P.eqGuardType P.depth t=false∧∀ w,(Op.equal t (.agg xs.toArray) (.agg ys.toArray)).run P w=.ok b w
theorem qte{x y:Operand}{xs ys:List Value}{b:Bool}{t t':Nat}(hx:lk fr x=some (.agg xs.toArray))(hy:lk fr y=some (.agg ys.toArray))(hE:EqA P t xs ys b):QE P TT D fr (.binOp .eql t x y t') ty K s0 (.bool b):=
 QE.pure fun ht dst pos af g ρ hρ w=>by simp [execOp,hρ x _ hx,hρ y _ hy,eqGuard,binOp,hE.1,hE.2 w]
theorem qef{x y:Operand}{xs ys:List Value}{b:Bool}{t t':Nat}(hx:lk fr x=some (.agg xs.toArray))(hy:lk fr y=some (.agg ys.toArray))(hE:EqA P t xs ys b):QE P TT D fr (.binOp .neq t x y t') ty K s0 (.bool (!b)):=
 QE.pure fun ht dst pos af g ρ hρ w=>by simp [execOp,hρ x _ hx,hρ y _ hy,eqGuard,binOp,hE.1,hE.2 w]
theorem qpp{x y:Operand}{a b:Bool}{t t':Nat}{ti:TI}(hx:lk fr x=some (.bool a))(hy:lk fr y=some (.bool b))(hu:qaA TT t=some ti)(hu':ti.desc=.bool):QE P TT D fr (.binOp .neq t x y t') ty K s0 (.bool (!decide (a=b))):=
 QE.pure fun ht dst pos af g ρ hρ w=>by
  have h1:=(ht.at_ hu).1;rw [hu'] at h1
  simp [execOp,hρ x _ hx,hρ y _ hy,eqGuard,binOp,qiD h1]
end
def CellsAt(s:World)(b off:Nat)(vs:List Value):Prop:=∀ j v,vs[j]?=some v→s.cell? ⟨b,off+j,none⟩=some v
theorem CellsAt.le{D:Nat}{s s':World}{b off:Nat}{vs:List Value}(h:CellsAt s b off vs)(hl:Le D s s'):CellsAt s' b off vs:=fun j v hj=>hl.cell (h j v hj)
theorem CellsAt.one{s:World}{b off:Nat}{v:Value}(h:s.cell? ⟨b,off,none⟩=some v):CellsAt s b off [v]:=fun j u hj=>by
 cases j with
 | zero=>simp at hj;subst hj;exact h
 | succ j=>simp at hj
theorem add_lit(b off j:Nat):(⟨b,off,none⟩:Addr).add j=⟨b,off+j,none⟩:=by unfold Addr.add;split <;> simp_all
section
variable{P:Program}{TT:qbf}{D:Nat}
theorem qiv{t:Nat}{ti:TI}(h:ti.ok P t)(hk:ti.kind=.sc)(w:World):(isAgg t).run P w=.ok false w:=by
 obtain ⟨h1,h2,_⟩:=h
 rw [hk] at h2
 unfold isAgg
 simp only [Sem.run_bind,run_underlying h1,Result.andThen_ok]
 generalize ti.desc=dd at h2
 cases dd <;> simp_all [TK.fits]
theorem qiU{t e:Nat}{ti:TI}(h:ti.ok P t)(hk:ti.kind=.sl e)(w:World):(isAgg t).run P w=.ok false w:=by
 obtain ⟨h1,h2,_⟩:=h
 rw [hk] at h2
 unfold isAgg
 simp only [TK.fits] at h2
 simp [run_underlying h1,h2]
theorem qh7{t:Nat}{os:List Nat}{ti:TI}(h:ti.ok P t)(hk:ti.kind=.st os)(w:World):(isAgg t).run P w=.ok true w:=by
 obtain ⟨h1,h2,_⟩:=h
 rw [hk] at h2
 unfold isAgg
 simp only [Sem.run_bind,run_underlying h1,Result.andThen_ok]
 generalize ti.desc=dd at h2
 cases dd <;> simp_all [TK.fits]
theorem qiu{t m e:Nat}{ti:TI}(h:ti.ok P t)(hk:ti.kind=.ar m e)(w:World):(isAgg t).run P w=.ok true w:=by
 obtain ⟨h1,h2,_⟩:=h
 rw [hk] at h2
 unfold isAgg
 simp only [TK.fits] at h2
 simp [run_underlying h1,h2]
theorem qdC{t:Nat}{ti:TI}(h:ti.ok P t):∃ i,P.info? t=some i∧i.size=ti.size∧i.bytes=ti.bytes∧i.zero=some ti.zero:=by
 obtain ⟨_,_,h3,_⟩:=h
 cases hi:P.info? t with
 | none=>simp [hi] at h3
 | some i=>simp [hi] at h3;exact ⟨i,rfl,h3.1,h3.2.1,h3.2.2⟩
theorem qbm{t:Nat}{ti:TI}(h:ti.ok P t)(w:World):(sizeOf t).run P w=.ok ti.size w:=by
 obtain ⟨i,h1,h2,_,_⟩:=qdC h
 simp [sizeOf,typeInfo,h1,h2]
theorem qee{t:Nat}{ti:TI}(h:ti.ok P t)(w:World):(zeroValue t).run P w=.ok ti.zero w:=by
 obtain ⟨i,h1,_,_,h2⟩:=qdC h
 simp [zeroValue,typeInfo,h1,h2]
theorem qfy{t:Nat}{ti:TI}(h:ti.ok P t)(w:World):(isAgg t).run P w=.ok (!qex ti.kind) w:=by
 cases hk:ti.kind with
 | sc=>exact qiv h hk w
 | sl e=>exact qiU h hk w
 | st os=>exact qh7 h hk w
 | ar m e=>exact qiu h hk w
theorem qcD{t:Nat}{ti:TI}(h:ti.ok P t):ti.zero.cells=ti.zeros.toArray:=by
 obtain ⟨h1,h2,h3,h4,h5,h6,h7,_⟩:=h
 unfold TI.zero
 cases hk:ti.kind with
 | st os=>rfl
 | ar m e=>rfl
 | sc=>
  have hl:ti.zeros.length=1:=by rw [h4];exact h7 (by rw [hk];rfl)
  match hz:ti.zeros,hl with
  | [z],_=>rw [hz] at h5;simp at h5;simp only [List.headD];cases z <;> simp_all [Value.oneCell',Value.cells]
 | sl e=>
  have hl:ti.zeros.length=1:=by rw [h4];exact h7 (by rw [hk];rfl)
  match hz:ti.zeros,hl with
  | [z],_=>rw [hz] at h5;simp at h5;simp only [List.headD];cases z <;> simp_all [Value.oneCell',Value.cells]
theorem qg3(t:TypeId)(cs:Array Value)(w:World):(newRow t cs).run P w=.ok ⟨w.heap.size,0,none⟩ (w.alloc (.cells cs t)):=by
 simp [newRow]
def qbb:Value→List Value
 | .agg cs=>cs.toList
 | v=>[v]
theorem qdp(v:Value):v.cells=(qbb v).toArray:=by cases v <;> simp [Value.cells,qbb]
theorem qc7{t:Nat}{ti:TI}(h:ti.ok P t)(hk:qex ti.kind=true){w:World}{a:Addr}{v:Value}(hc:w.cell? a=some v):(loadVar t a).run P w=.ok v w:=by
 simp [loadVar,qfy h,hk,hc]
theorem qda{t:Nat}{ti:TI}(h:ti.ok P t)(hk:qex ti.kind=false){w:World}{b off:Nat}{vs:List Value}(hl:vs.length=ti.size)
  (hc:∀ j v,vs[j]?=some v→w.cell? ⟨b,off+j,none⟩=some v):(loadVar t ⟨b,off,none⟩).run P w=.ok (.agg vs.toArray) w:=by
 have h1:=run_loadCells_list (P:=P) w ⟨b,off,none⟩ vs (fun j v hj=>by rw [add_lit];exact hc j v hj)
 simp [loadVar,qfy h,hk,qbm h,← hl,h1]
theorem qlR{L:Hl}{s:World}(ho:OKL D L s){i b t:Nat}{zs:List Value}(hi:L[i]?=some (b,cb zs t))(j:Nat):(fill L s).cell? ⟨b,j,none⟩=zs[j]?:=by
 have:=qa3 ho (List.mem_of_getElem? hi)
 simp [World.cell?,this,cb]
def cut(zs:List Value)(off:Nat):Nat→Option (List Value)
 | 0=>some []
 | n+1=>match nth zs off with
  | some v=>match cut zs (off+1) n with
   | some r=>some (v::r)
   | none=>none
  | none=>none
theorem qhy{zs:List Value}{off n:Nat}{vs:List Value}(h:cut zs off n=some vs):vs.length=n∧∀ j v,vs[j]?=some v→zs[off+j]?=some v:=by
 induction n generalizing off vs with
 | zero=>simp [cut] at h;subst h;simp
 | succ n ih=>
  simp only [cut] at h
  cases h1:nth zs off with
  | none=>simp [h1] at h
  | some x=>
   cases h2:cut zs (off+1) n with
   | none=>simp [h1,h2] at h
   | some r=>
    simp [h1,h2] at h
    subst h
    obtain ⟨k1,k2⟩:=ih h2
    refine ⟨by simp [k1],fun j v hj=>?_⟩
    cases j with
    | zero=>simp at hj;subst hj;rw [qeg] at h1;exact h1
    | succ j=>simp at hj;have:=k2 j v hj;rwa [Nat.add_right_comm,Nat.add_assoc] at this
end
section
variable{P:Program}{TT:qbf}{D n:Nat}{Q:qbF}{fr:Fr}{L L' K:Hl}{s s' s0:World}{ops:Array Oper}{rest:List Oper}{d ty:Nat}{op:Op}{pos:String}{af:Array Edge}{v:Value}
theorem qj2{t:Nat}{ti:TI}(ht:qaA TT t=some ti)(ho:OKL D L s):Ev P TT D fr (.alloc t) ty L s (.value (.pointer (some ⟨s.heap.size,0,none⟩))) ((s.heap.size,cb ti.zeros t)::L) (s.alloc (dum D)):=fun hT _ dst pos af g ρ _=>by
 obtain ⟨h1,h2,h3⟩:=qa2 ho (cb ti.zeros t)
 refine ⟨?_,h2⟩
 have hz:=qcD (hT.at_ ht)
 simp only [execOp,Instr.alloc,Sem.run_bind,qee (hT.at_ ht),Result.andThen_ok,newVar,qg3,hz,Sem.run_pure,qaC]
 rw [← h1];rfl
theorem qs8{t:Nat}{x:Operand}{zs:List Value}(hx:lk fr x=some v)(hz:qbb v=zs)(ho:OKL D L s):Ev P TT D fr (.box t x) ty L s (.value (.pointer (some ⟨s.heap.size,0,none⟩))) ((s.heap.size,cb zs t)::L) (s.alloc (dum D)):=fun hT _ dst pos af g ρ hρ=>by
 obtain ⟨h1,h2,h3⟩:=qa2 ho (cb zs t)
 refine ⟨?_,h2⟩
 simp only [execOp,Instr.box,Sem.run_bind,Result.andThen_ok,newVar,qg3,Sem.run_pure,qaC,hρ x v hx,qdp,hz]
 rw [← h1];rfl
theorem qo8{t:Nat}{ti:TI}(ht:qaA TT t=some ti)(hd:Nat.blt d n=true)
  (k:∀ β s',Le D s s'→JO P TT D n ops Q rest ((d,.pointer (some ⟨β,0,none⟩))::fr) ((β,cb ti.zeros t)::L) s'):JO P TT D n ops Q (⟨some d,.alloc t,ty,pos,af,none⟩::rest) fr L s:=fun hT a hr ho=>
 qgf hd (qj2 ht ho) (k _ _ (qa2 ho (cb ti.zeros t)).2.2) hT a hr ho
theorem qag{t:Nat}{ti:TI}(ht:qaA TT t=some ti)(zs:List Value)(hz:ti.zeros=zs)(hd:Nat.blt d n=true)
  (k:∀ β s',Le D s s'→JO P TT D n ops Q rest ((d,.pointer (some ⟨β,0,none⟩))::fr) ((β,cb zs t)::L) s'):JO P TT D n ops Q (⟨some d,.alloc t,ty,pos,af,none⟩::rest) fr L s:=by subst hz;exact qo8 ht hd k
theorem qjE{t:Nat}{x:Operand}{zs:List Value}(hx:lk fr x=some v)(hz:qbb v=zs)(hd:Nat.blt d n=true)
  (k:∀ β s',Le D s s'→JO P TT D n ops Q rest ((d,.pointer (some ⟨β,0,none⟩))::fr) ((β,cb zs t)::L) s'):JO P TT D n ops Q (⟨some d,.box t x,ty,pos,af,none⟩::rest) fr L s:=fun hT a hr ho=>
 qgf hd (qs8 hx hz ho) (k _ _ (qa2 ho (cb zs t)).2.2) hT a hr ho
theorem qaL{t:Nat}{x:Operand}{zs:List Value}(hx:lk fr x=some (.agg zs.toArray))(hd:Nat.blt d n=true)
  (k:∀ β s',Le D s s'→JO P TT D n ops Q rest ((d,.pointer (some ⟨β,0,none⟩))::fr) ((β,cb zs t)::L) s'):JO P TT D n ops Q (⟨some d,.box t x,ty,pos,af,none⟩::rest) fr L s:=
 qjE hx (by simp [qbb]) hd k
theorem qcF{zs:List Value}{b t j:Nat}(ho:OKL D L s)(hi:(b,cb zs t)∈L):(fill L s).cell? ⟨b,j,none⟩=zs[j]?:=by
 have:=qa3 ho hi
 simp [World.cell?,this,cb]
theorem qbL{t b off:Nat}{x:Operand}{ti:TI}{t':Nat}{zs:List Value}(i:Nat)(hx:lk fr x=some (.pointer (some ⟨b,off,none⟩)))(hi:K[i]?=some (b,cb zs t'))(ht:qaA TT t=some ti)(hk:qex ti.kind=true)
  (hv:nth zs off=some v):QE P TT D fr (.load t x) ty K s0 v:=fun hT dst pos af g ρ hρ L s ho _ hK=>by
 have hc:(fill L s).cell? ⟨b,off,none⟩=some v:=by rw [qcF ho (hK _ (List.mem_of_getElem? hi)),← qeg];exact hv
 simp [execOp,hρ x _ hx,Instr.loadAt,Instr.sureAddr,qc7 (hT.at_ ht) hk hc]
theorem Wd{t b off:Nat}{x:Operand}{ti:TI}{t':Nat}{zs:List Value}(i:Nat)(hY:(lk fr x=some (.pointer (some ⟨b,off,none⟩)))∧(K[i]?=some (b,cb zs t'))∧(qaA TT t=some ti)∧(qex ti.kind=true)∧(nth zs off=some v)):QE P TT D fr (.load t x) ty K s0 v:=qbL i hY.1 hY.2.1 hY.2.2.1 hY.2.2.2.1 hY.2.2.2.2
theorem qad{t b off:Nat}{x:Operand}{ti:TI}{t':Nat}{zs:List Value}(i:Nat)(vs:List Value)(hx:lk fr x=some (.pointer (some ⟨b,off,none⟩)))(hi:K[i]?=some (b,cb zs t'))(ht:qaA TT t=some ti)(hk:qex ti.kind=false)
  (hv:cut zs off ti.size=some vs):QE P TT D fr (.load t x) ty K s0 (.agg vs.toArray):=fun hT dst pos af g ρ hρ L s ho _ hK=>by
 obtain ⟨h1,h2⟩:=qhy hv
 have hc:∀ j v,vs[j]?=some v→(fill L s).cell? ⟨b,off+j,none⟩=some v:=fun j v hj=>by rw [qcF ho (hK _ (List.mem_of_getElem? hi))];exact h2 j v hj
 simp [execOp,hρ x _ hx,Instr.loadAt,Instr.sureAddr,qda (hT.at_ ht) hk h1 hc]
theorem qpB{t b off:Nat}{x:Operand}{ti:TI}(hx:lk fr x=some (.pointer (some ⟨b,off,none⟩)))(ht:qaA TT t=some ti)(hk:qex ti.kind=true)
  (hv:s0.cell? ⟨b,off,none⟩=some v):QE P TT D fr (.load t x) ty K s0 v:=fun hT dst pos af g ρ hρ L s ho hl _=>by
 simp [execOp,hρ x _ hx,Instr.loadAt,Instr.sureAddr,qc7 (hT.at_ ht) hk (qc4 ho (hl.cell hv))]
theorem qbG{t b off:Nat}{x:Operand}{ti:TI}{vs:List Value}(hx:lk fr x=some (.pointer (some ⟨b,off,none⟩)))(ht:qaA TT t=some ti)(hk:qex ti.kind=false)
  (hv:CellsAt s0 b off vs) (hl:vs.length=ti.size):QE P TT D fr (.load t x) ty K s0 (.agg vs.toArray):=fun hT dst pos af g ρ hρ L s ho hle _=>by
 simp [execOp,hρ x _ hx,Instr.loadAt,Instr.sureAddr,qda (hT.at_ ht) hk hl (fun j v hj=>qc4 ho (hle.cell (hv j v hj)))]
theorem qcK{t b off:Nat}{x:Operand}{ti:TI}{vs:List Value}(j:Nat)(hx:lk fr x=some (.pointer (some ⟨b,off+j,none⟩)))(ht:qaA TT t=some ti)(hk:qex ti.kind=true)
  (hv:CellsAt s0 b off vs) (hj:nth vs j=some v):QE P TT D fr (.load t x) ty K s0 v:=qpB hx ht hk (hv j v (by rw [← qeg];exact hj))
theorem qaq{t b off:Nat}{x:Operand}{ti:TI}{vs:List Value}(hx:lk fr x=some (.pointer (some ⟨b,off,none⟩)))(ht:qaA TT t=some ti)(hk:qex ti.kind=true)
  (hv:CellsAt s0 b off vs) (hj:nth vs 0=some v):QE P TT D fr (.load t x) ty K s0 v:=qpB hx ht hk (hv 0 v (by rw [← qeg];exact hj))
def qbz(zs:List Value)(off:Nat)(vs:List Value):List Value:=match vs with
 | []=>zs
 | v::vs=>match zs,off with
  | [],_=>[]
  | _::zs,0=>v::qbz zs 0 vs
  | z::zs,o+1=>z::qbz zs o (v::vs)
theorem qdN(zs:List Value)(off:Nat)(vs:List Value)(h:off+vs.length≤zs.length):qbz zs off vs=zs.take off++vs++zs.drop (off+vs.length):=by
 induction zs generalizing off vs with
 | nil=>cases vs <;> simp_all [qbz]
 | cons z zs ih=>
  cases vs with
  | nil=>simp [qbz]
  | cons v vs=>
   cases off with
   | zero=>simp only [qbz];rw [ih 0 vs (by simp at h ⊢;omega)];simp
   | succ o=>simp only [qbz];rw [ih o (v::vs) (by simp at h ⊢;omega)];simp;rw [show o+1+(vs.length+1)=(o+(vs.length+1))+1 by omega];rfl
theorem qe4{w:World}{b t:Nat}{cs:Array Value}{fz:Nat×Nat}(h:w.heap[b]?=some (.cells cs t fz))(ds:Array Value):w.setRow b ds=qbi w b (.cells ds t fz):=by
  refine qdu (qdr fun k=>?_) Z Z Z Z
  by_cases hk:k=b
  · subst hk
    rw [setRow_heap w k cs ds t fz h,qcx]
    rcases Nat.lt_or_ge k w.heap.size with h1 | h1
    · exact h1
    · rw [Array.getElem?_eq_none h1] at h;cases h
  · rw [setRow_other w b k ds hk,qbW _ (fun e=>hk e.symm)]
theorem qs5{t b off:Nat}{x y:Operand}{ti:TI}{t':Nat}{zs:List Value}(i:Nat)(zs':List Value)(hx:lk fr x=some (.pointer (some ⟨b,off,none⟩)))(hy:lk fr y=some v)(hi:L[i]?=some (b,cb zs t'))(ht:qaA TT t=some ti)
  (hl:(qbb v).length=ti.size) (hle:Nat.ble (off+ti.size) zs.length=true) (h1:(qbb v).all (·.oneCell')=true) (hs:qbz zs off (qbb v)=zs'):Ev P TT D fr (.store t x y) ty L s .skip (qhN L i (cb zs' t')) s:=fun hT ho dst pos af g ρ hρ=>⟨by
  have hg:=qa3 ho (List.mem_of_getElem? hi)
  have hle':off+ti.size≤zs.length:=Nat.le_of_ble_eq_true hle
  have hst:=run_storeCells_at (P:=P) b off t' (qbb v) 0 zs.toArray (fill L s) hg (by simp [hl];omega) (by simpa using h1)
  rw [qfl ho hi,← hs,qdN zs off (qbb v) (by rw [hl];exact hle'),cb,← qe4 hg]
  simp only [Nat.add_zero,List.toList_toArray] at hst
  have hsz:(qbb v).toArray.size=ti.size:=by simpa using hl
  simp only [execOp,hρ x _ hx,hρ y _ hy,Instr.storeAt,Instr.sureAddr,storeVar,qdp,Sem.run_bind,Sem.run_pure,Result.andThen_ok,qbm (hT.at_ ht),hsz,ne_eq,not_true,if_false,hst,List.toList_toArray],qhw ho _ _⟩
theorem qdc{t b off:Nat}{x y:Operand}{ti:TI}{t':Nat}{zs:List Value}(i:Nat)(zs':List Value){L':Hl}(hx:lk fr x=some (.pointer (some ⟨b,off,none⟩)))(hy:lk fr y=some v)(hi:L[i]?=some (b,cb zs t'))(ht:qaA TT t=some ti)
  (hl:(qbb v).length=ti.size) (hle:Nat.ble (off+ti.size) zs.length=true) (h1:(qbb v).all (·.oneCell')=true) (hs:qbz zs off (qbb v)=zs') (hL:qhN L i (cb zs' t')=L')
  (k:JO P TT D n ops Q rest fr L' s):JO P TT D n ops Q (⟨none,.store t x y,ty,pos,af,none⟩::rest) fr L s:=by
 subst hL;exact qtQ (qs5 i zs' hx hy hi ht hl hle h1 hs) k
theorem Wt{t b off:Nat}{x y:Operand}{ti:TI}{t':Nat}{zs:List Value}(i:Nat)(zs':List Value){L':Hl}(hY:(lk fr x=some (.pointer (some ⟨b,off,none⟩)))∧(lk fr y=some v)∧(L[i]?=some (b,cb zs t'))∧(qaA TT t=some ti)∧((qbb v).length=ti.size)∧(Nat.ble (off+ti.size) zs.length=true)∧((qbb v).all (·.oneCell')=true)∧(qbz zs off (qbb v)=zs')∧(qhN L i (cb zs' t')=L'))
  (k:JO P TT D n ops Q rest fr L' s):JO P TT D n ops Q (⟨none,.store t x y,ty,pos,af,none⟩::rest) fr L s:=qdc i zs' hY.1 hY.2.1 hY.2.2.1 hY.2.2.2.1 hY.2.2.2.2.1 hY.2.2.2.2.2.1 hY.2.2.2.2.2.2.1 hY.2.2.2.2.2.2.2.1 hY.2.2.2.2.2.2.2.2 k
end
section
variable{P:Program}{TT:qbf}{D n:Nat}{Q:qbF}{fr:Fr}{L L' K:Hl}{s s' s0:World}{ops:Array Oper}{rest:List Oper}{d ty:Nat}{op:Op}{pos:String}{af:Array Edge}{v:Value}
def qkX:List Nat→Nat→Option Nat
 | [],_=>none
 | x::_,0=>some x
 | _::r,k+1=>qkX r k
theorem qqn(l:List Nat)(i:Nat):qkX l i=l[i]?:=by
 induction l generalizing i with
 | nil=>rfl
 | cons x l ih=>cases i <;> simp [qkX,ih]
theorem qiY{t f fo b off:Nat}{ti:TI}{os:List Nat}(h:ti.ok P t)(hk:ti.kind=.st os)(hf:qkX os f=some fo)(w:World) :
  (Instr.fieldAt t (.pointer (some ⟨b,off,none⟩)) f).run P w=.ok (.pointer (some ⟨b,off+fo,none⟩)) w:=by
 obtain ⟨h1,h2,_,_,_,_,_,h8,_⟩:=h
 rw [hk] at h2
 cases hd:ti.desc with
 | struct fs=>
  rw [hd] at h1 h2 h8
  simp only [TK.fits] at h2
  rw [qqn,← h2,List.getElem?_map] at hf
  cases hff:fs.toList[f]? with
  | none=>simp [hff] at hf
  | some fld=>
   simp [hff] at hf
   have hpos:0 < P.cellsOf fld.type:=by
    have:=List.all_eq_true.1 (show fs.toList.all (fun f=>decide (0 < P.cellsOf f.type))=true from h8) fld (List.mem_of_getElem? hff)
    simpa using this
   have hff':fs[f]?=some fld:=by simpa using hff
   have hsz:∀ w,(sizeOf fld.type).run P w=.ok (P.cellsOf fld.type) w:=by
    intro w
    unfold Program.cellsOf at hpos ⊢
    cases hi:P.info? fld.type with
    | none=>simp [hi] at hpos
    | some i=>simp [sizeOf,typeInfo,hi]
   simp [Instr.fieldAt,run_underlying h1,hff',Instr.sureAddr,fieldPlace,hsz,Nat.pos_iff_ne_zero.1 hpos,add_lit,hf]
 | _=>rw [hd] at h2;simp [TK.fits] at h2
theorem qdh{t f fo b off:Nat}{x:Operand}{ti:TI}{os:List Nat}(hx:lk fr x=some (.pointer (some ⟨b,off,none⟩)))(ht:qaA TT t=some ti)(hk:ti.kind=.st os)(hf:qkX os f=some fo):QE P TT D fr (.fieldAddr t x f) ty K s0 (.pointer (some ⟨b,off+fo,none⟩)):=
 QE.pure fun hT dst pos af g ρ hρ w=>by simp [execOp,hρ x _ hx,qiY (hT.at_ ht) hk hf]
theorem qaw{t f b off:Nat}{x:Operand}{ti:TI}{os:List Nat}(hx:lk fr x=some (.pointer (some ⟨b,off,none⟩)))(ht:qaA TT t=some ti)(hk:ti.kind=.st os)(hf:qkX os f=some 0):QE P TT D fr (.fieldAddr t x f) ty K s0 (.pointer (some ⟨b,off,none⟩)):=qdh hx ht hk hf
theorem qpz{t f fo b:Nat}{x:Operand}{ti:TI}{os:List Nat}(hx:lk fr x=some (.pointer (some ⟨b,0,none⟩)))(ht:qaA TT t=some ti)(hk:ti.kind=.st os)(hf:qkX os f=some fo):QE P TT D fr (.fieldAddr t x f) ty K s0 (.pointer (some ⟨b,fo,none⟩)):=by
 have:=qdh (P:=P) (D:=D) (ty:=ty) (K:=K) (s0:=s0) hx ht hk hf
 simpa using this
theorem We{t f fo b:Nat}{x:Operand}{ti:TI}{os:List Nat}(hY:(lk fr x=some (.pointer (some ⟨b,0,none⟩)))∧(qaA TT t=some ti)∧(ti.kind=.st os)∧(qkX os f=some fo)):QE P TT D fr (.fieldAddr t x f) ty K s0 (.pointer (some ⟨b,fo,none⟩)):=qpz hY.1 hY.2.1 hY.2.2.1 hY.2.2.2
theorem qfz{t e b off len cap:Nat}{ti te:TI}{ik:IntKind}{i:Int}(h:ti.ok P t)(hk:ti.kind=.sl e)(he:te.ok P e)(h0:0≤i)(h1:i < len)(w:World) :
  (Instr.indexAt t (.slice (some ⟨b,off,none⟩) len cap) (.int ik i)).run P w=.ok (.pointer (some ⟨b,off+i.toNat * te.size,none⟩)) w:=by
 obtain ⟨k1,k2,_⟩:=h
 rw [hk] at k2
 simp only [TK.fits] at k2
 rw [k2] at k1
 simp [Instr.indexAt,asIntOf,run_underlying k1,h0,h1,qbm he,add_lit]
theorem qt5{t e b off len cap:Nat}{x y:Operand}{ti te:TI}{ik:IntKind}{i:Int}(hx:lk fr x=some (.slice (some ⟨b,off,none⟩) len cap))(hy:lk fr y=some (.int ik i))(ht:qaA TT t=some ti)(hk:ti.kind=.sl e)(he:qaA TT e=some te)
  (h0:0≤i) (h1:i < len):QE P TT D fr (.indexAddr t x y) ty K s0 (.pointer (some ⟨b,off+i.toNat * te.size,none⟩)):=
 QE.pure fun hT dst pos af g ρ hρ w=>by simp [execOp,hρ x _ hx,hρ y _ hy,qfz (hT.at_ ht) hk (hT.at_ he) h0 h1]
theorem qbw{t e b off len cap:Nat}{x y:Operand}{ti te:TI}{ik:IntKind}{j sz:Nat}(hx:lk fr x=some (.slice (some ⟨b,off,none⟩) len cap))(hy:lk fr y=some (.int ik (j:Int)))(ht:qaA TT t=some ti)(hk:ti.kind=.sl e)(he:qaA TT e=some te)
  (hs:te.size=sz) (h1:j < len):QE P TT D fr (.indexAddr t x y) ty K s0 (.pointer (some ⟨b,off+j * sz,none⟩)):=by
 have:=qt5 (P:=P) (D:=D) (ty:=ty) (K:=K) (s0:=s0) hx hy ht hk he (Int.natCast_nonneg _) O
 rwa [Int.toNat_natCast,hs] at this
theorem qaX{t e b off len cap:Nat}{x y:Operand}{ti te:TI}{ik:IntKind}{j:Nat}(hx:lk fr x=some (.slice (some ⟨b,off,none⟩) len cap))(hy:lk fr y=some (.int ik (j:Int)))(ht:qaA TT t=some ti)(hk:ti.kind=.sl e)(he:qaA TT e=some te)
  (hs:te.size=1) (h1:j < len):QE P TT D fr (.indexAddr t x y) ty K s0 (.pointer (some ⟨b,off+j,none⟩)):=by
 have:=qbw (P:=P) (D:=D) (ty:=ty) (K:=K) (s0:=s0) hx hy ht hk he hs h1
 rwa [Nat.mul_one] at this
theorem qps{t e b off len:Nat}{x y:Operand}{ti te:TI}{ik:IntKind}{j sz:Nat}(hx:lk fr x=some (.pointer (some ⟨b,off,none⟩)))(hy:lk fr y=some (.int ik (j:Int)))(ht:qaA TT t=some ti)(hk:ti.kind=.ar len e)(he:qaA TT e=some te)
  (hs:te.size=sz) (h1:j < len):QE P TT D fr (.indexAddr t x y) ty K s0 (.pointer (some ⟨b,off+j * sz,none⟩)):=
 QE.pure fun hT dst pos af g ρ hρ w=>by
  obtain ⟨k1,k2,_⟩:=hT.at_ ht
  rw [hk] at k2
  simp only [TK.fits] at k2
  rw [k2] at k1
  simp [execOp,hρ x _ hx,hρ y _ hy,Instr.indexAt,asIntOf,run_underlying k1,Instr.sureAddr,h1,qbm (hT.at_ he),add_lit,hs]
theorem qdx{t:Nat}{x y:Operand}{ti:TI}{ik:IntKind}{j:Nat}{l:List UInt8}{c:UInt8}(hx:lk fr x=some (St l))(hy:lk fr y=some (.int ik (j:Int)))(ht:qaA TT t=some ti)(hk:ti.desc=.string)(hc:l[j]?=some c):QE P TT D fr (.index t x y) ty K s0 (.int .u8 (c.toNat:Int)):=
 QE.pure fun hT dst pos af g ρ hρ w=>by
  have k1:=(hT.at_ ht).1
  rw [hk] at k1
  have hb:(⟨l.toArray⟩:ByteArray)[j]?=some c:=by
   obtain ⟨hlt,hv⟩:=List.getElem?_eq_some_iff.1 hc
   have hlt':j < (⟨l.toArray⟩:ByteArray).size:=by simpa [ByteArray.size] using hlt
   rw [getElem?_pos (⟨l.toArray⟩:ByteArray) j hlt']
   simp only [ByteArray.getElem_eq_getElem_data,List.getElem_toArray,hv]
  simp [execOp,hρ x _ hx,hρ y _ hy,Instr.index,asIntOf,run_underlying k1,hb]
theorem qdw{x:Operand}{t:Nat}{A:Option Addr}{m c:Nat}{ti:TI}{e:Nat}(hx:lk fr x=some (.slice A m c))(ht:qaA TT t=some ti)(hk:ti.kind=.sl e):QE P TT D fr (.call { callee:=.builtin .len,args:=#[x],argTypes:=#[t] }) ty K s0 (.int .i64 (m:Int)):=
 QE.pure fun hT dst pos af g ρ hρ w=>by
  obtain ⟨k1,k2,_⟩:=hT.at_ ht
  rw [hk] at k2
  simp only [TK.fits] at k2
  rw [k2] at k1
  simp [execOp,resolve,invoke,builtin,hρ x _ hx,Builtin.len_,run_underlying k1,goInt]
theorem qho{x:Operand}{t:Nat}{l:List UInt8}{ti:TI}(hx:lk fr x=some (St l))(ht:qaA TT t=some ti)(hk:ti.desc=.string):QE P TT D fr (.call { callee:=.builtin .len,args:=#[x],argTypes:=#[t] }) ty K s0 (.int .i64 (l.length:Int)):=
 QE.pure fun hT dst pos af g ρ hρ w=>by
  have k1:=(hT.at_ ht).1
  rw [hk] at k1
  have hsz:(⟨l.toArray⟩:ByteArray).size=l.length:=by simp [ByteArray.size]
  simp [execOp,resolve,invoke,builtin,hρ x _ hx,Builtin.len_,run_underlying k1,goInt,hsz]
theorem qb9{x:Operand}{t t':Nat}{ik ik':IntKind}{a:Int}{ti ti':TI}(hx:lk fr x=some (.int ik a))(ht:qaA TT t=some ti)(ht':qaA TT t'=some ti')(hk:ti.desc=.int ik)(hk':ti'.desc=.int ik'):QE P TT D fr (.convert t t' x) ty K s0 (.int ik' (ik'.wrap a)):=
 QE.pure fun hT dst pos af g ρ hρ w=>by
  have k1:=(hT.at_ ht).1
  have k2:=(hT.at_ ht').1
  rw [hk] at k1;rw [hk'] at k2
  simp [execOp,hρ x _ hx,convert,run_underlying k1,run_underlying k2,Conv.intToInt]
theorem qaH{x:Operand}{t t':Nat}{ik ik':IntKind}{a c:Int}{ti ti':TI}(hx:lk fr x=some (.int ik a))(ht:qaA TT t=some ti)(ht':qaA TT t'=some ti')(hk:ti.desc=.int ik)(hk':ti'.desc=.int ik')(hc:ik'.wrap a=c):QE P TT D fr (.convert t t' x) ty K s0 (.int ik' c):=hc▸qb9 hx ht ht' hk hk'
def lks(fr:Fr):List Operand→Option (List Value)
 | []=>some []
 | x::r=>match lk fr x with
  | some v=>match lks fr r with
   | some vs=>some (v::vs)
   | none=>none
  | none=>none
theorem qg4{fr:Fr}{ρ:Operand→Value}(hρ:∀ x v,lk fr x=some v→ρ x=v){xs:List Operand}{vs:List Value}(h:lks fr xs=some vs):xs.map ρ=vs:=by
 induction xs generalizing vs with
 | nil=>simp [lks] at h;subst h;rfl
 | cons x xs ih=>
  simp only [lks] at h
  cases h1:lk fr x with
  | none=>simp [h1] at h
  | some v=>
   cases h2:lks fr xs with
   | none=>simp [h1,h2] at h
   | some r=>simp [h1,h2] at h;subst h;simp [hρ x v h1,ih h2]
theorem qfx{f:FuncId}{xs:List Operand}{vs:List Value}(hv:lks fr xs=some vs):QE P TT D fr (.makeFunc (.func f) #[] xs.toArray) ty K s0 (.func (.func f) #[] vs.toArray):=
 QE.pure fun hT dst pos af g ρ hρ w=>by simp [execOp,Instr.makeFunc,qg4 hρ hv]
def qj7(P:Program)(f:FuncId):Prop:=∃ fn,P.funcs[f]?=some fn∧(fn.name == "runtime.NumGoroutine")=false∧fn.body.isNone=false
def AC(P:Program)(D:Nat)(f:FuncId)(args:List Value)(L:Hl)(s:World)(R:Value→Hl→World→Prop):Prop:=
 qj7 P f∧(OKL D L s→Calls P f args.toArray (fill L s) fun e w'=>∃ v L' s',e=.returned v∧w'=fill L' s'∧OKL D L' s'∧Le D s s'∧R v L' s')
theorem AC.mono{f:FuncId}{args:List Value}{R R':Value→Hl→World→Prop}(h:AC P D f args L s R)(hr:∀ v L' s',Le D s s'→R v L' s'→R' v L' s'):AC P D f args L s R':=
 ⟨h.1,fun ho=>(h.2 ho).mono fun _ _ ⟨v,L',s',h1,h2,h3,h4,h5⟩=>⟨v,L',s',h1,h2,h3,h4,hr _ _ _ h4 h5⟩⟩
theorem qaz{f:FuncId}{x:Operand}{xs:List Operand}{first captured vs:List Value}{ts:Array TypeId}{R:Value→Hl→World→Prop}(hx:lk fr x=some (.func (.func f) first.toArray captured.toArray))(hv:lks fr xs=some vs)
  (hd:Nat.blt d n=true) (h:AC P D f (first++vs++captured) L s R) (k:∀ v L' s',Le D s s'→R v L' s'→JO P TT D n ops Q rest ((d,v)::fr) L' s') :
  JO P TT D n ops Q (⟨some d,.call { callee:=.value x,args:=xs.toArray,argTypes:=ts },ty,pos,af,none⟩::rest) fr L s:=fun hT a hr ho=>by
 obtain ⟨⟨fn,h1,h2,h3⟩,hc⟩:=h
 have hρ:∀ x v,lk fr x=some v→a.eval x=v:=fun x v hx=>hr.ev hx
 simp only [wpList,Region.wanted,if_true]
 refine .inl ?_
 have hrun:(execOp a.eval ⟨some d,.call { callee:=.value x,args:=xs.toArray,argTypes:=ts },ty,pos,af,none⟩).run P (fill L s)=.ok (.enter f (first++vs++captured).toArray) (fill L s):=by
  have h2':¬ fn.name = "runtime.NumGoroutine" := by simpa using h2
  have h3':¬ fn.body=none:=by intro e;simp [e] at h3
  simp [execOp,resolve,Deferred.ofValue,invoke,callFunc,hρ x _ hx,qg4 hρ hv,h1,h2',h3']
 simp only [Oper.wp,hrun,Oper.upon]
 refine (hc ho).mono ?_
 rintro e w' ⟨v,L',s',rfl,rfl,h4,h5,h6⟩
 exact k v L' s' h5 h6 hT _ (hr.put hd v) h4
theorem Jc{f:FuncId}{x:Operand}{xs:List Operand}{vs:List Value}{ts:Array TypeId}{R:Value→Hl→World→Prop}(hx:lk fr x=some (.func (.func f) ([]:List Value).toArray ([]:List Value).toArray))(hv:lks fr xs=some vs)
  (hd:Nat.blt d n=true) (h:AC P D f (([]:List Value)++vs++[]) L s R) (k:∀ v L' s',Le D s s'→R v L' s'→JO P TT D n ops Q rest ((d,v)::fr) L' s') :
  JO P TT D n ops Q (⟨some d,.call { callee:=.value x,args:=xs.toArray,argTypes:=ts },ty,pos,af,none⟩::rest) fr L s:=qaz (first:=[]) (captured:=[]) hx hv hd h k
inductive Res(TT:qbf)(fr:Fr)(L:Hl):List ResultVar→List Value→Prop
 | nil:Res TT fr L [] []
 | tmp {t:Nat} {v:Value} {rs vs} (h:qaZ fr t=some v) (k:Res TT fr L rs vs):Res TT fr L (.tmp t::rs) (v::vs)
 | one {a t t' b:Nat} {ti:TI} {zs:List Value} {v:Value} {rs vs} (i:Nat) (h:qaZ fr a=some (.pointer (some ⟨b,0,none⟩))) (hi:L[i]?=some (b,cb zs t')) (ht:qaA TT t=some ti) (hk:qex ti.kind=true) (hv:nth zs 0=some v) (k:Res TT fr L rs vs):Res TT fr L (.cell a t::rs) (v::vs)
 | agg {a t t' b:Nat} {ti:TI} {zs us:List Value} {rs vs} (i:Nat) (h:qaZ fr a=some (.pointer (some ⟨b,0,none⟩))) (hi:L[i]?=some (b,cb zs t')) (ht:qaA TT t=some ti) (hk:qex ti.kind=false) (hv:cut zs 0 ti.size=some us) (k:Res TT fr L rs vs):Res TT fr L (.cell a t::rs) (.agg us.toArray::vs)
theorem Res.t1{TT:qbf}{fr:Fr}{L:Hl}{t:Nat}{v:Value}(h:qaZ fr t=some v):Res TT fr L [.tmp t] [v]:=.tmp h .nil
def qaF:List Value→Value
 | [v]=>v
 | vs=>.tuple vs.toArray
def qsk(tmps:Array Value):ResultVar→Sem Value
 | .tmp t=>pure (tmps.getD t undef)
 | .cell a t=>do loadVar t (← asAddr (tmps.getD a undef))
theorem qkE(fn:Func)(tmps:Array Value):results fn tmps=(do let vs ← fn.results.mapM (qsk tmps);pure (if h:vs.size=1 then vs[0] else .tuple vs)):=by
 unfold results
 congr 1
theorem Res.run(hT:TabOK P TT){a:Act}(hr:FrRel n a fr)(ho:OKL D L s){rs:List ResultVar}{vs:List Value}(h:Res TT fr L rs vs) :
  (rs.mapM (qsk a.tmps)).run P (fill L s)=.ok vs (fill L s):=by
 have hs:∀ t v,qaZ fr t=some v→a.tmps.getD t undef=v:=fun t v hv=>by
  have:=hr.slot t (hr.top t v hv) v hv
  simp [this]
 induction h with
 | nil=>simp
 | tmp h k ih=>simp only [List.mapM_cons,qsk,hs _ _ h,Sem.run_bind,Sem.run_pure,Result.andThen_ok,ih]
 | one i h hi ht hk hv k ih=>
  rename_i b _ zs v _ _
  have hc:(fill L s).cell? ⟨b,0,none⟩=some v:=by rw [qlR ho hi,← qeg];exact hv
  simp only [List.mapM_cons,qsk,hs _ _ h,asAddr,Sem.run_bind,Sem.run_pure,Result.andThen_ok,qc7 (hT.at_ ht) hk hc,ih]
 | agg i h hi ht hk hv k ih=>
  rename_i b _ zs us _ _
  obtain ⟨h1,h2⟩:=qhy hv
  have hc:∀ j v,us[j]?=some v→(fill L s).cell? ⟨b,0+j,none⟩=some v:=fun j v hj=>by rw [qlR ho hi];exact h2 j v hj
  simp only [List.mapM_cons,qsk,hs _ _ h,asAddr,Sem.run_bind,Sem.run_pure,Result.andThen_ok,qda (hT.at_ ht) hk h1 hc,ih]
def qdj(TT:qbf)(D:Nat)(rs:List ResultVar)(s0:World)(R:Value→Hl→World→Prop):qbF:=fun e fr L s=>
 (e=.normal∨e=.ret)∧∃ vs A L',Res TT fr L rs vs∧L=A++L'∧Le D s0 s∧∀ s',Le D s s'→R (qaF vs) L' s'
def qkO(k:Nat):List Value→Fr
 | []=>[]
 | v::vs=>(k,v)::qkO (k+1) vs
theorem qgr(vs:List Value)(k t:Nat):qaZ (qkO k vs) t=if k≤t then vs[t - k]? else none:=by
  induction vs generalizing k with
  | nil=>simp [qkO,qaZ]
  | cons v vs ih=>
    rw [qkO,qa8,ih]
    by_cases h:k=t
    · subst h;simp
    · by_cases h2:k+1≤t
      · have:t - k=(t - (k+1))+1:=by omega
        simp [h,h2,show k≤t by omega,this]
      · simp [h,h2,show ¬ k≤t by omega]
theorem qai{f:FuncId}{fn:Func}{c:Code}{args:List Value}{R:Value→Hl→World→Prop}(hT:TabOK P TT)(hf:P.funcs[f]?=some fn)(hn:(fn.name == "runtime.NumGoroutine")=false)(hb:fn.body=some c)(hnt:fn.ntmps=n)(hle:Nat.ble args.length n=true){rs:List ResultVar}(hrs:fn.results.toList=rs)(fr0:Fr)(hfr:qkO 0 args=fr0)
    (h:JC P TT D n (qdj TT D rs s R) c fr0 L s):AC P D f args L s R:=by
  subst hfr;subst hrs
  refine ⟨⟨fn,hf,hn,by simp [hb]⟩,fun ho=>calls_of_wp hf hb ?_⟩
  have hle':args.length≤n:=Nat.le_of_ble_eq_true hle
  have hr:FrRel n { tmps:=args.toArray++Array.replicate (fn.ntmps - args.toArray.size) undef,defers:=[] } (qkO 0 args):=by
    refine ⟨by simp [hnt];omega,Z,fun t ht v hv=>?_,fun t v hv=>?_⟩
    · rw [qgr] at hv
      simp at hv
      obtain ⟨hlt,_⟩:=List.getElem?_eq_some_iff.1 hv
      simp [Array.getElem?_append,hlt]
      exact (List.getElem?_eq_some_iff.1 hv).2
    · rw [qgr] at hv
      simp at hv
      obtain ⟨hlt,_⟩:=List.getElem?_eq_some_iff.1 hv
      omega
  refine wp_mono (h hT _ hr ho) ?_
  rintro e a w ⟨fr',L1,s1,k1,k2,rfl,he,vs,A,L',hres,rfl,hle1,hR⟩
  obtain ⟨d1,d2,d3⟩:=qbx k2
  have hrun:(results fn a.tmps).run P (fill (A++L') s1)=.ok (qaF vs) (fill (A++L') s1):=by
    have h1:=Res.run hT k1 k2 hres
    have h2:(fn.results.mapM (qsk a.tmps)).run P (fill (A++L') s1)=.ok vs.toArray (fill (A++L') s1):=by
      rw [Array.mapM_eq_mapM_toList]
      simp only [map_eq_pure_bind,Sem.run_bind,h1,Result.andThen_ok,Sem.run_pure]
    rw [qkE]
    simp only [Sem.run_bind,h2,Result.andThen_ok,Sem.run_pure]
    congr 1
    match vs with
    | []=>rfl
    | [v]=>rfl
    | v::u::r=>simp [qaF]
  have hpost:∃ v,(results fn a.tmps).run P (fill (A++L') s1)=.ok v (fill (A++L') s1)∧∃ v_1 L'_1 s',Ending.returned v=.returned v_1∧fill (A++L') s1=fill L'_1 s'∧OKL D L'_1 s'∧Le D s s'∧R v_1 L'_1 s':=
    ⟨_,hrun,_,L',fill A s1,rfl,d1,d2,hle1.trans d3,hR _ d3⟩
  rcases he with rfl | rfl
  · exact ⟨k1.defers,hpost⟩
  · exact ⟨k1.defers,hpost⟩
theorem qaa{J:Fr→Hl→World→Prop}(h:J fr L s):qa7 J Q .normal fr L s:=h
theorem qq7{J:Fr→Hl→World→Prop}(h:Q .ret fr L s):qa7 J Q .ret fr L s:=h
theorem qrj{J:Fr→Hl→World→Prop}{i:Nat}(h:Q (.exit i) fr L s):qa7 J Q (.exit i) fr L s:=h
theorem qnM{id:Nat}(h:Q .normal fr L s):qaP id Q .normal fr L s:=h
theorem qoM{id:Nat}(h:Q .ret fr L s):qaP id Q .ret fr L s:=h
theorem qoo{id:Nat}(h:Q .normal fr L s):qaP id Q (.exit id) fr L s:=by simpa [qaP] using h
theorem qmx{id i:Nat}(hi:Nat.beq i id=false)(h:Q (.exit i) fr L s):qaP id Q (.exit i) fr L s:=by
 have:i≠id:=fun e=>by subst e;simp at hi
 simpa [qaP,this] using h
theorem qat{rs:List ResultVar}{s0:World}{R:Value→Hl→World→Prop}{e:Exit}{vs:List Value}(A L':Hl)(he:e=.normal∨e=.ret)(h:Res TT fr L rs vs)(hL:L=A++L')(hl:Le D s0 s)(hR:∀ s',Le D s s'→R (qaF vs) L' s'):qdj TT D rs s0 R e fr L s:=
 ⟨he,vs,A,L',h,hL,hl,hR⟩
theorem rR{rs:List ResultVar}{s0:World}{R:Value→Hl→World→Prop}{vs:List Value}(A L':Hl)(h:Res TT fr L rs vs)(hL:L=A++L')(hl:Le D s0 s)(hR:∀ s',Le D s s'→R (qaF vs) L' s'):qdj TT D rs s0 R .ret fr L s:=qat A L' (.inr rfl) h hL hl hR
end
def SH(D:Nat)(K:Hl)(s0:World):World→Prop:=fun w=>∃ L s,w=fill L s∧OKL D L s∧Le D s0 s∧∀ x∈K,x∈L
def noPan(Q:Exit→Act→World→Prop):Exit→Act→World→Prop
 | .panic _,_,_=>False
 | e,a,w=>Q e a w
def qpR(D n:Nat)(Q:qbF):Exit→Act→World→Prop
 | .panic ch,a,w=>FrRel n a []∧∃ L s,OKL D L s∧w=fill L s∧∀ fr,Q (.panic ch) fr L s
 | e,a,w=>conc D n Q e a w
theorem FrRel.unput{n:Nat}{a:Act}{d:Option Nat}{v:Value}(h:FrRel n (a.put d v) []):FrRel n a []:=by
  refine ⟨?_,?_,fun t ht v hv=>by simp [qaZ] at hv,fun t v hv=>by simp [qaZ] at hv⟩
  · have:=h.size
    cases d <;> simpa [Act.put] using this
  · have:=h.defers
    cases d <;> simpa [Act.put] using this
def JA(P:Program)(TT:qbf)(D n:Nat)(ops:Array Oper)(Q:qbF)(K:Hl)(s0:World)(fuel:Nat)(listed:Array Bool)(fr:Fr)(L:Hl)(s:World):Prop:=
 TabOK P TT→∀ a,FrRel n a fr→OKL D L s→Le D s0 s→(∀ x∈K,x∈L)→wpAnyH P .any ops (qpR D n Q) (SH D K s0) fuel listed a (fill L s)
def JB(P:Program)(TT:qbf)(D n:Nat)(ops:Array Oper)(Q:qbF)(K:Hl)(s0:World)(fuel:Nat)(listed:Array Bool)(i:Nat)(fr:Fr)(L:Hl)(s:World):Prop:=
 TabOK P TT→∀ a,FrRel n a fr→OKL D L s→Le D s0 s→(∀ x∈K,x∈L) →
  wpOp P ops (qpR D n Q) i (fun a' w'=>SH D K s0 w'∧wpAnyH P .any ops (qpR D n Q) (SH D K s0) fuel (listed.setIfInBounds i true) a' w') a (fill L s)
def GOK(ops:Array Oper)(fr:Fr):Option (Nat×Bool)→Prop
 | none=>True
 | some (j,w)=>∃ t,qfU ops j=some t∧qaZ fr t=some (.bool w)
section
variable{P:Program}{TT:qbf}{D n:Nat}{Q:qbF}{fr:Fr}{L L' K:Hl}{s s' s0:World}{ops:Array Oper}{d ty:Nat}{op:Op}{pos:String}{af:Array Edge}{g:Option (Nat×Bool)}{v:Value}{fuel:Nat}{listed:Array Bool}
theorem GOK.wanted{dst:Option Nat}{a:Act}(hr:FrRel n a fr)(h:GOK ops fr g):Region.wanted ⟨dst,op,ty,pos,af,g⟩ (yielded ops a.tmps)=true:=by
 cases g with
 | none=>rfl
 | some jw=>
  obtain ⟨j,w⟩:=jw
  obtain ⟨t,h1,h2⟩:=h
  have h3:=hr.slot t (hr.top _ _ h2) _ h2
  unfold qfU at h1
  simp [Region.wanted,yielded,h1,h3]
theorem qgT{L:Hl}{i:Nat}{x:Nat×Obj}(h:x∈L.eraseIdx i)(o:Obj):x∈qhN L i o:=by
 induction L generalizing i with
 | nil=>simp at h
 | cons y L ih=>
  cases i with
  | zero=>exact List.mem_cons_of_mem _ (by simpa using h)
  | succ i=>
   simp only [List.eraseIdx_cons_succ,List.mem_cons] at h
   rcases h with rfl | h
   · exact List.mem_cons_self ..
   · exact List.mem_cons_of_mem _ (ih h)
theorem sbY{α:Type}{a b:List α}{x:α}(h:a.Sublist b):(x::a).Sublist (x::b):=List.cons_sublist_cons.2 h
theorem sbN{α:Type}{a b:List α}{x:α}(h:a.Sublist b):a.Sublist (x::b):=List.Sublist.cons _ h
theorem sbn2{α:Type}{a b:List α}{x0 x1:α}(h:a.Sublist b):(a).Sublist (x0::x1::b):=sbN (sbN (h))
theorem sbn3{α:Type}{a b:List α}{x0 x1 x2:α}(h:a.Sublist b):(a).Sublist (x0::x1::x2::b):=sbN (sbN (sbN (h)))
theorem sbn4{α:Type}{a b:List α}{x0 x1 x2 x3:α}(h:a.Sublist b):(a).Sublist (x0::x1::x2::x3::b):=sbN (sbN (sbN (sbN (h))))
theorem qew{α:Type}{a b:List α}{x0 x1:α}(h:a.Sublist b):(x0::x1::a).Sublist (x0::x1::b):=sbY (sbY (h))
theorem sby3{α:Type}{a b:List α}{x0 x1 x2:α}(h:a.Sublist b):(x0::x1::x2::a).Sublist (x0::x1::x2::b):=sbY (sbY (sbY (h)))
theorem qaI{α:Type}{a b:List α}{x0 x1 x2 x3:α}(h:a.Sublist b):(x0::x1::x2::x3::a).Sublist (x0::x1::x2::x3::b):=sbY (sbY (sbY (sbY (h))))
theorem sbE{α:Type}(a:List α):a.Sublist a:=List.Sublist.refl a
theorem sb0{α:Type}(a:List α):([]:List α).Sublist a:=List.nil_sublist a
theorem qaK{α:Type}{a b:List α}{x:α}(h:a.Sublist b)(hx:x∈a):x∈b:=h.subset hx
theorem sM{α:Type}{a b:List α}(h:a.Sublist b):∀ x∈a,x∈b:=fun _ hx=>h.subset hx
theorem qbH{id:Nat}{l:List Oper}(hm:P.follows .mixedOrders=true)(N:Nat)(hN:l.length=N)(K:Hl)(hK:∀ x∈K,x∈L)
  (h:∀ s',Le D s s'→JA P TT D n l.toArray Q K s' N (Array.replicate N false) fr L s'):JC P TT D n Q (.region id l.toArray true) fr L s:=fun ht a hr ho=>by
 subst hN
 have h1:=h s.drew (Le.drew s) ht a hr ho.drew (Le.refl _) hK
 refine wp_mono (wp_region_held (Q:=qpR D n Q) (S:=SH D K s.drew) hm ?_) (fun e a w hq=>by
  cases e with
  | panic ch=>obtain ⟨h1,L1,s1,h2,h3,h4⟩:=hq;exact ⟨[],L1,s1,h1,h2,h3,h4 []⟩
  | _=>exact hq)
 rw [← qgp] at h1
 simpa using h1
theorem qac(hr:Region.ready .any ops listed=[])(h:Q .normal fr L s):JA P TT D n ops Q K s0 fuel listed fr L s:=fun _ a hf ho _ _=>
 wpAnyH_done hr ⟨fr,L,s,hf,ho,rfl,h⟩ fuel
theorem JA_q(i:Nat)(hi:ops[i]?=some ⟨some d,op,ty,pos,af,g⟩)(hs:Region.noSelect ops=true)(hf:Region.free .any ops listed i=true)(hr:(Region.ready .any ops listed).contains i=true)(hg:GOK ops fr g)
  (hq:QE P TT D fr op ty K s0 v) (hd:Nat.blt d n=true) (k:JA P TT D n ops Q K s0 fuel (listed.setIfInBounds i true) ((d,v)::fr) L s):JA P TT D n ops Q K s0 (fuel+1) listed fr L s:=fun ht a hfr ho hl hK=>by
 refine wpAnyH_take hi hs hf hr (fun _ _ _ h=>⟨h.1.unput,h.2⟩) (v:=v) (.inl ⟨hg.wanted hfr,?_⟩) ⟨L,s,Z,ho,hl,hK⟩ (k ht _ (hfr.put hd v) ho hl hK)
 rintro w ⟨L2,s2,rfl,h1,h2,h3⟩
 exact hq ht _ _ _ _ _ (fun x v hx=>hfr.ev hx) L2 s2 h1 h2 h3
theorem qt0(i:Nat){j t:Nat}{w b:Bool}(hi:ops[i]?=some ⟨some d,op,ty,pos,af,some (j,w)⟩)(hs:Region.noSelect ops=true)(hf:Region.free .any ops listed i=true)(hr:(Region.ready .any ops listed).contains i=true)
  (hj:qfU ops j=some t) (hv:qaZ fr t=some (.bool b)) (hb:(b != w)=true) (hd:Nat.blt d n=true) (k:JA P TT D n ops Q K s0 fuel (listed.setIfInBounds i true) ((d,undef)::fr) L s):JA P TT D n ops Q K s0 (fuel+1) listed fr L s:=fun ht a hfr ho hl hK=>by
 refine wpAnyH_take hi hs hf hr (fun _ _ _ h=>⟨h.1.unput,h.2⟩) (v:=undef) (.inr ⟨?_,Z⟩) ⟨L,s,Z,ho,hl,hK⟩ (k ht _ (hfr.put hd undef) ho hl hK)
 have h3:=hfr.slot t (hfr.top _ _ hv) _ hv
 unfold qfU at hj
 have hne:(some b == some w)=false:=by cases b <;> cases w <;> simp_all
 simp [Region.wanted,yielded,hj,h3,hne]
theorem qrB{t:Nat}{b:Bool}(hv:qaZ fr t=some (.bool b))(h1:b=true→JA P TT D n ops Q K s0 fuel listed ((t,.bool true)::fr) L s)(h2:b=false→JA P TT D n ops Q K s0 fuel listed ((t,.bool false)::fr) L s) :
  JA P TT D n ops Q K s0 fuel listed fr L s:=fun ht a hr ho hl hK=>by
 cases b with
 | true=>exact h1 rfl ht a (hr.sub fun t' v' h=>by rw [qa8] at h;split at h <;> simp_all) ho hl hK
 | false=>exact h2 rfl ht a (hr.sub fun t' v' h=>by rw [qa8] at h;split at h <;> simp_all) ho hl hK
theorem qf3{t:Nat}{p:Prop} [Decidable p] (hv:qaZ fr t=some (.bool (decide p))) (h1:p→JA P TT D n ops Q K s0 fuel listed ((t,.bool true)::fr) L s) (h2:¬ p→JA P TT D n ops Q K s0 fuel listed ((t,.bool false)::fr) L s) :
  JA P TT D n ops Q K s0 fuel listed fr L s:=qrB hv (fun h=>h1 (of_decide_eq_true h)) (fun h=>h2 (of_decide_eq_false h))
theorem qlT{rs:List Nat}(hr:Region.ready .any ops listed=rs)(hne:rs≠[])(h:∀ i∈rs,JB P TT D n ops Q K s0 fuel listed i fr L s):JA P TT D n ops Q K s0 (fuel+1) listed fr L s:=fun ht a hf ho hl hK=>
 wpAnyH_all hr hne fun i hi=>h i hi ht a hf ho hl hK
theorem qah(i:Nat)(hr:Region.ready .any ops listed=[i])(h:JB P TT D n ops Q K s0 fuel listed i fr L s):JA P TT D n ops Q K s0 (fuel+1) listed fr L s:=
 qlT hr (by simp) (by simpa using h)
theorem qcg(i j:Nat)(hr:Region.ready .any ops listed=[i,j])(h:JB P TT D n ops Q K s0 fuel listed i fr L s)(h':JB P TT D n ops Q K s0 fuel listed j fr L s):JA P TT D n ops Q K s0 (fuel+1) listed fr L s:=
 qlT hr (by simp) (by simpa using ⟨h,h'⟩)
theorem qsl(i j m:Nat)(hr:Region.ready .any ops listed=[i,j,m])(h:JB P TT D n ops Q K s0 fuel listed i fr L s)(h':JB P TT D n ops Q K s0 fuel listed j fr L s)(h'':JB P TT D n ops Q K s0 fuel listed m fr L s):JA P TT D n ops Q K s0 (fuel+1) listed fr L s:=
 qlT hr (by simp) (by simpa using ⟨h,h',h''⟩)
theorem qju{i:Nat}(hi:ops[i]?=some ⟨some d,op,ty,pos,af,g⟩)(hg:GOK ops fr g)(h:Ev P TT D fr op ty L s (.value v) L' s')(hle:Le D s s')(hK':∀ x∈K,x∈L→x∈L')(hd:Nat.blt d n=true)(k:JA P TT D n ops Q K s0 fuel (listed.setIfInBounds i true) ((d,v)::fr) L' s') :
  JB P TT D n ops Q K s0 fuel listed i fr L s:=fun ht a hf ho hl hK=>by
 obtain ⟨h1,h2⟩:=h ht ho (some d) pos af g a.eval (fun x v hx=>hf.ev hx)
 simp only [wpOp,hi,hg.wanted hf,if_true]
 refine .inl ?_
 simp only [Oper.wp,h1,Oper.upon]
 have hK2:∀ x∈K,x∈L':=fun x hx=>hK' x hx (hK x hx)
 exact ⟨⟨L',s',rfl,h2,hl.trans hle,hK2⟩,k ht _ (hf.put hd v) h2 (hl.trans hle) hK2⟩
theorem qtb{i:Nat}(hi:ops[i]?=some ⟨none,op,ty,pos,af,g⟩)(hg:GOK ops fr g)(h:Ev P TT D fr op ty L s .skip L' s')(hle:Le D s s')(hK':∀ x∈K,x∈L→x∈L')(k:JA P TT D n ops Q K s0 fuel (listed.setIfInBounds i true) fr L' s') :
  JB P TT D n ops Q K s0 fuel listed i fr L s:=fun ht a hf ho hl hK=>by
 obtain ⟨h1,h2⟩:=h ht ho none pos af g a.eval (fun x v hx=>hf.ev hx)
 simp only [wpOp,hi,hg.wanted hf,if_true]
 refine .inl ?_
 simp only [Oper.wp,h1,Oper.upon]
 have hK2:∀ x∈K,x∈L':=fun x hx=>hK' x hx (hK x hx)
 exact ⟨⟨L',s',rfl,h2,hl.trans hle,hK2⟩,k ht _ hf h2 (hl.trans hle) hK2⟩
theorem qb1{i:Nat}(hi:ops[i]?=some ⟨some d,op,ty,pos,af,g⟩)(hg:GOK ops fr g)(h:QE P TT D fr op ty L s v)(hd:Nat.blt d n=true)(k:JA P TT D n ops Q K s0 fuel (listed.setIfInBounds i true) ((d,v)::fr) L s) :
  JB P TT D n ops Q K s0 fuel listed i fr L s:=
 qju hi hg (fun ht ho dst pos af g ρ hρ=>⟨h ht dst pos af g ρ hρ L s ho (Le.refl _) (fun _ hx=>hx),ho⟩) (Le.refl _) (fun _ _ h=>h) hd k
theorem qaO{i:Nat}{f:FuncId}{x:Operand}{xs:List Operand}{first captured vs:List Value}{ts:Array TypeId}{R:Value→Hl→World→Prop}(hi:ops[i]?=some ⟨some d,.call { callee:=.value x,args:=xs.toArray,argTypes:=ts },ty,pos,af,g⟩)(hg:GOK ops fr g)
  (hx:lk fr x=some (.func (.func f) first.toArray captured.toArray)) (hv:lks fr xs=some vs) (hd:Nat.blt d n=true) (h:AC P D f (first++vs++captured) L s R)
  (k:∀ v L' s',Le D s s'→R v L' s'→(∀ x∈K,x∈L→x∈L')∧JA P TT D n ops Q K s0 fuel (listed.setIfInBounds i true) ((d,v)::fr) L' s') :
  JB P TT D n ops Q K s0 fuel listed i fr L s:=fun hT a hf ho hl hK=>by
 obtain ⟨⟨fn,h1,h2,h3⟩,hc⟩:=h
 have hρ:∀ x v,lk fr x=some v→a.eval x=v:=fun x v hx=>hf.ev hx
 simp only [wpOp,hi,hg.wanted hf,if_true]
 refine .inl ?_
 have hrun:(execOp a.eval ⟨some d,.call { callee:=.value x,args:=xs.toArray,argTypes:=ts },ty,pos,af,g⟩).run P (fill L s)=.ok (.enter f (first++vs++captured).toArray) (fill L s):=by
  have h2':¬ fn.name = "runtime.NumGoroutine" := by simpa using h2
  have h3':¬ fn.body=none:=by intro e;simp [e] at h3
  simp [execOp,resolve,Deferred.ofValue,invoke,callFunc,hρ x _ hx,qg4 hρ hv,h1,h2',h3']
 simp only [Oper.wp,hrun,Oper.upon]
 refine (hc ho).mono ?_
 rintro e w' ⟨v,L',s',rfl,rfl,h4,h5,h6⟩
 obtain ⟨k1,k2⟩:=k v L' s' h5 h6
 have hK2:∀ x∈K,x∈L':=fun x hx=>k1 x hx (hK x hx)
 exact ⟨⟨L',s',rfl,h4,hl.trans h5,hK2⟩,k2 hT _ (hf.put hd v) h4 (hl.trans h5) hK2⟩
theorem Jb{i:Nat}{f:FuncId}{x:Operand}{xs:List Operand}{vs:List Value}{ts:Array TypeId}{R:Value→Hl→World→Prop}(hi:ops[i]?=some ⟨some d,.call { callee:=.value x,args:=xs.toArray,argTypes:=ts },ty,pos,af,g⟩)(hg:GOK ops fr g)
  (hx:lk fr x=some (.func (.func f) ([]:List Value).toArray ([]:List Value).toArray)) (hv:lks fr xs=some vs) (hd:Nat.blt d n=true) (h:AC P D f (([]:List Value)++vs++[]) L s R)
  (k:∀ v L' s',Le D s s'→R v L' s'→(∀ x∈K,x∈L→x∈L')∧JA P TT D n ops Q K s0 fuel (listed.setIfInBounds i true) ((d,v)::fr) L' s') :
  JB P TT D n ops Q K s0 fuel listed i fr L s:=qaO (first:=[]) (captured:=[]) hi hg hx hv hd h k
theorem qaY{i t:Nat}{ti:TI}(hi:ops[i]?=some ⟨some d,.alloc t,ty,pos,af,g⟩)(hg:GOK ops fr g)(ht:qaA TT t=some ti)(zs:List Value)(hz:ti.zeros=zs)(hd:Nat.blt d n=true)
  (k:∀ β s',Le D s s'→JA P TT D n ops Q K s0 fuel (listed.setIfInBounds i true) ((d,.pointer (some ⟨β,0,none⟩))::fr) ((β,cb zs t)::L) s'):JB P TT D n ops Q K s0 fuel listed i fr L s:=fun hT a hf ho hl hK=>by
 subst hz
 exact qju hi hg (qj2 ht ho) (qa2 ho (cb ti.zeros t)).2.2 (fun x _ h=>List.mem_cons_of_mem _ h) hd (k _ _ (qa2 ho (cb ti.zeros t)).2.2) hT a hf ho hl hK
theorem qa9{i0 t b off:Nat}{x y:Operand}{ti:TI}{t':Nat}{zs:List Value}(hi0:ops[i0]?=some ⟨none,.store t x y,ty,pos,af,g⟩)(hg:GOK ops fr g)(i:Nat)(zs':List Value){L':Hl}(hx:lk fr x=some (.pointer (some ⟨b,off,none⟩)))(hy:lk fr y=some v)(hi:L[i]?=some (b,cb zs t'))(ht:qaA TT t=some ti)
  (hl:(qbb v).length=ti.size) (hle:Nat.ble (off+ti.size) zs.length=true) (h1:(qbb v).all (·.oneCell')=true) (hs:qbz zs off (qbb v)=zs') (hL:qhN L i (cb zs' t')=L') (hK':∀ x∈K,x∈L.eraseIdx i)
  (k:JA P TT D n ops Q K s0 fuel (listed.setIfInBounds i0 true) fr L' s):JB P TT D n ops Q K s0 fuel listed i0 fr L s:=by
 subst hL;exact qtb hi0 hg (qs5 i zs' hx hy hi ht hl hle h1 hs) (Le.refl _) (fun x hx _=>qgT (hK' x hx) _) k
theorem Wu{i0 t b off:Nat}{x y:Operand}{ti:TI}{t':Nat}{zs:List Value}(hi0:ops[i0]?=some ⟨none,.store t x y,ty,pos,af,g⟩)(hg:GOK ops fr g)(i:Nat)(zs':List Value){L':Hl}(hY:(lk fr x=some (.pointer (some ⟨b,off,none⟩)))∧(lk fr y=some v)∧(L[i]?=some (b,cb zs t'))∧(qaA TT t=some ti)∧((qbb v).length=ti.size)∧(Nat.ble (off+ti.size) zs.length=true)∧((qbb v).all (·.oneCell')=true)∧(qbz zs off (qbb v)=zs')∧(qhN L i (cb zs' t')=L'))(hK':∀ x∈K,x∈L.eraseIdx i)
  (k:JA P TT D n ops Q K s0 fuel (listed.setIfInBounds i0 true) fr L' s):JB P TT D n ops Q K s0 fuel listed i0 fr L s:=qa9 hi0 hg i zs' hY.1 hY.2.1 hY.2.2.1 hY.2.2.2.1 hY.2.2.2.2.1 hY.2.2.2.2.2.1 hY.2.2.2.2.2.2.1 hY.2.2.2.2.2.2.2.1 hY.2.2.2.2.2.2.2.2 hK' k
theorem qbn{A B:Hl}(h:A.Perm B):∀ s,OKL D A s→fill A s=fill B s:=by
 induction h with
 | nil=>intro s _;rfl
 | cons x _ ih=>intro s ho;simp only [fill];rw [ih s ho.tail]
 | swap x y l=>
  intro s ho
  simp only [fill]
  have:=ho.nd
  simp only [List.map_cons,List.nodup_cons,List.mem_cons,not_or] at this
  exact qeP _ _ (fun e=>this.1.1 e.symm)
 | trans h1 h2 ih1 ih2=>
  intro s ho
  rw [ih1 s ho,ih2 s ⟨(h1.map _).nodup_iff.1 ho.nd,fun x hx=>ho.dm x (h1.mem_iff.2 hx)⟩]
theorem OKL.perm{A B:Hl}(h:A.Perm B)(ho:OKL D A s):OKL D B s:=⟨(h.map _).nodup_iff.1 ho.nd,fun x hx=>ho.dm x (h.mem_iff.2 hx)⟩
def Mid{γ:Type}(S:γ→Fr)(H:γ→Hl)(I:γ→World→Prop):Fr→Hl→World→Prop:=fun fr' L' s'=>∃ g A,Keeps fr' (S g)∧L'.Perm (A++H g)∧I g s'
theorem Mid.mk{γ:Type}{S:γ→Fr}{H:γ→Hl}{I:γ→World→Prop}(g:γ)(A:Hl)(h1:Keeps fr (S g))(h2:L.Perm (A++H g))(h3:I g s):Mid S H I fr L s:=⟨g,A,h1,h2,h3⟩
theorem qpo{γ:Type}{x y:Code}(S:γ→Fr)(H:γ→Hl)(I:γ→World→Prop)(mono:∀ g s s',I g s→Le D s s'→I g s')(h1:JC P TT D n (qa7 (Mid S H I) Q) x fr L s)
  (h2:∀ g s',I g s'→JC P TT D n Q y (S g) (H g) s'):JC P TT D n Q (.seq x y) fr L s:=fun ht a hr ho=>
 wp_seq (wp_mono (h1 ht a hr ho) fun e a w ⟨fr',L',s',k1,k2,k3,k4⟩=>by
  cases e with
  | normal=>
   subst k3
   obtain ⟨g,A,j1,j2,j3⟩:=k4
   rw [qbn j2 _ k2]
   obtain ⟨e,d1,d2⟩:=qbx (k2.perm j2)
   rw [e]
   exact h2 g _ (mono _ _ _ j3 d2) ht a (k1.sub j1) d1
  | _=>exact ⟨fr',L',s',k1,k2,k3,k4⟩)
end
theorem w64{a:Int}(h1:-9223372036854775808≤a)(h2:a≤9223372036854775807):IntKind.i64.wrap a=a:=by
 rw [IntKind.wrap_i64];omega
def bld(places:List (Nat×Nat)):List Value→List (Nat×Value)→Option (List Value)
 | zs,[]=>some zs
 | zs,(i,v)::rest=>match places[i]? with
  | none=>none
  | some (off,size)=>bif (Nat.beq (qbb v).length size && Nat.ble (off+size) zs.length) then bld places (qbz zs off (qbb v)) rest else none
theorem qfS(vs:List Value)(off k:Nat)(zs:List Value)(h:off+k+vs.length≤zs.length) :
  (vs.zipIdx k).foldl (fun (cs:Array Value) (x:Value×Nat)=>cs.setIfInBounds (off+x.2) x.1) zs.toArray=(qbz zs (off+k) vs).toArray:=by
 induction vs generalizing k zs with
 | nil=>cases zs <;> simp [qbz]
 | cons v vs ih=>
  simp only [List.zipIdx_cons,List.foldl_cons]
  have h0:off+k < zs.length:=by simp at h;omega
  rw [List.setIfInBounds_toArray,ih (k+1) _ (by simp at h ⊢;omega)]
  congr 1
  rw [qdN _ _ _ (by simp at h ⊢;omega),qdN _ _ _ (by simpa using h)]
  simp only [List.length_cons]
  rw [show off+(k+1)=off+k+1 by omega]
  rw [List.take_succ_eq_append_getElem (by simpa using h0),List.take_set_of_le O,List.drop_set]
  simp [show ¬ (off+k+1+vs.length≤off+k) by omega,show off+k < off+k+1+vs.length by omega]
  congr 1
  omega
theorem qjW(places:List (Nat×Nat))(f:Nat→Option (Nat×Nat))(hf:∀ i,f i=places[i]?)(zs:List Value)(parts:List (Nat×Value)){vs:List Value}(h:bld places zs parts=some vs) :
    Instr.fill f zs.toArray parts=some vs.toArray:=by
  induction parts generalizing zs with
  | nil=>simp [bld] at h;subst h;rfl
  | cons p rest ih=>
    obtain ⟨i,v⟩:=p
    simp only [bld] at h
    simp only [Instr.fill,hf]
    cases hp:places[i]? with
    | none=>simp [hp] at h
    | some os=>
      obtain ⟨off,size⟩:=os
      simp only [hp,cond_eq_ite] at h
      by_cases hc:(Nat.beq (qbb v).length size && Nat.ble (off+size) zs.length)=true
      · simp only [hc,if_true] at h
        simp only [Bool.and_eq_true] at hc
        have h1:(qbb v).length=size:=Nat.eq_of_beq_eq_true hc.1
        have h2:off+size≤zs.length:=Nat.le_of_ble_eq_true hc.2
        have h3:=qfS (qbb v) off 0 zs O
        simp only [qdp,List.size_toArray,h1,ne_eq,not_true,decide_false,Bool.false_or,gt_iff_lt,decide_eq_true_eq,show ¬ zs.length < off+size by omega,if_false]
        have e:(qbb v).toArray.zipIdx=((qbb v).zipIdx 0).toArray:=by simp
        rw [e]
        simp only [List.foldl_toArray,Nat.add_zero] at h3 ⊢
        rw [h3]
        exact ih _ h
      · simp only [hc] at h;cases h
section
variable{P:Program}{TT:qbf}{D n:Nat}{Q:qbF}{fr:Fr}{L L' K:Hl}{s s' s0:World}{ops:Array Oper}{rest:List Oper}{d ty:Nat}{op:Op}{pos:String}{af:Array Edge}{v:Value}
def lkp(fr:Fr):List (Nat×Operand)→Option (List (Nat×Value))
 | []=>some []
 | (i,x)::r=>match lk fr x with
  | some v=>match lkp fr r with
   | some vs=>some ((i,v)::vs)
   | none=>none
  | none=>none
theorem qlJ{fr:Fr}{ρ:Operand→Value}(hρ:∀ x v,lk fr x=some v→ρ x=v){xs:List (Nat×Operand)}{vs:List (Nat×Value)}(h:lkp fr xs=some vs):xs.map (fun p=>(p.1,ρ p.2))=vs:=by
 induction xs generalizing vs with
 | nil=>simp [lkp] at h;subst h;rfl
 | cons p xs ih=>
  obtain ⟨i,x⟩:=p
  simp only [lkp] at h
  cases h1:lk fr x with
  | none=>simp [h1] at h
  | some v=>
   cases h2:lkp fr xs with
   | none=>simp [h1,h2] at h
   | some r=>simp [h1,h2] at h;subst h;simp [hρ x v h1,ih h2]
theorem qkp{fs:List Field}{l:List Nat}(h:fs.map (fun f=>P.cellsOf f.type)=l)(hp:fs.all (fun f=>decide (0 < P.cellsOf f.type))=true)(w:World) :
  (fs.mapM (m:=Sem) fun f=>do pure (f.offset,← sizeOf f.type)).run P w=.ok ((fs.map (·.offset)).zip l) w:=by
 induction fs generalizing l with
 | nil=>subst h;simp
 | cons f fs ih=>
  subst h
  simp only [List.all_cons,Bool.and_eq_true,decide_eq_true_eq] at hp
  have hsz:(sizeOf f.type).run P w=.ok (P.cellsOf f.type) w:=by
   have hpos:=hp.1
   unfold Program.cellsOf at hpos ⊢
   cases hi:P.info? f.type with
   | none=>simp [hi] at hpos
   | some i=>simp [sizeOf,typeInfo,hi]
  simp only [List.mapM_cons,Sem.run_bind,hsz,Result.andThen_ok,Sem.run_pure,ih rfl hp.2,List.map_cons,List.zip_cons_cons]
theorem qal{t:Nat}{ps:List (Nat×Operand)}{ti:TI}{os:List Nat}(vals:List (Nat×Value))(vs:List Value)(ht:qaA TT t=some ti)(hk:ti.kind=.st os)(hv:lkp fr ps=some vals){zs fz:List _}(hz:ti.zeros=zs)(hfz:ti.fsz=fz)
  (hb:bld (os.zip fz) zs vals=some vs):QE P TT D fr (.build t ps.toArray) ty K s0 (.agg vs.toArray):=
 QE.pure fun hT dst pos af g ρ hρ w=>by
  subst hz;subst hfz
  have hok:=hT.at_ ht
  have hok2:=hok
  obtain ⟨h1,h2,_,_,_,_,_,h8,h9⟩:=hok2
  rw [hk] at h2
  cases hd:ti.desc with
  | struct fs=>
   rw [hd] at h1 h2 h8 h9
   simp only [TK.fits] at h2
   have hpl:=qkp (P:=P) (w:=w) (fs:=fs.toList) (show fs.toList.map (fun f=>P.cellsOf f.type)=ti.fsz from h9) h8
   have hz:ti.zero.cells=ti.zeros.toArray:=qcD hok
   have hpl':(fs.mapM (m:=Sem) fun f=>do pure (f.offset,← sizeOf f.type)).run P w=.ok (os.zip ti.fsz).toArray w:=by
    rw [Array.mapM_eq_mapM_toList]
    simp only [map_eq_pure_bind,Sem.run_bind,hpl,Result.andThen_ok,Sem.run_pure,h2]
   have hfill:=qjW (os.zip ti.fsz) ((os.zip ti.fsz).toArray[·]?) (fun i=>by simp) ti.zeros vals hb
   have hm:(ps.toArray.map fun p=>(p.1,ρ p.2)).toList=vals:=by simpa using qlJ hρ hv
   simp only [execOp,Instr.build,Sem.run_bind,qee hok,Result.andThen_ok,run_underlying h1,hpl',hz]
   have hm':(ps.toArray.map fun (x:Nat×Operand)=>match x with | (i,x)=>(i,ρ x)).toList=vals:=hm
   rw [hm',hfill]
   rfl
  | _=>rw [hd] at h2;simp [TK.fits] at h2
theorem qeA{t e b off len:Nat}{x y:Operand}{ti te:TI}{ik:IntKind}(j:Nat){sz:Nat}(hx:lk fr x=some (.pointer (some ⟨b,off,none⟩)))(hy:lk fr y=some (.int ik (Int.ofNat j)))(ht:qaA TT t=some ti)(hk:ti.kind=.ar len e)(he:qaA TT e=some te)
  (hs:te.size=1) (h1:j < len):QE P TT D fr (.indexAddr t x y) ty K s0 (.pointer (some ⟨b,off+j,none⟩)):=by
 have:=qps (P:=P) (D:=D) (ty:=ty) (K:=K) (s0:=s0) (j:=j) hx hy ht hk he hs h1
 rwa [Nat.mul_one] at this
def qf1(L:Hl):List Nat→Hl
 | []=>L
 | i::r=>qf1 (L.eraseIdx i) r
theorem qan{L:Hl}{r:List Nat}{x:Nat×Obj}(h:x∈qf1 L r):x∈L:=by
 induction r generalizing L with
 | nil=>exact h
 | cons i r ih=>exact List.mem_of_mem_eraseIdx (ih h)
theorem qaD{id:Nat}{l:List Oper}(hm:P.follows .mixedOrders=true)(N:Nat)(hN:l.length=N)(r:List Nat)(hK:∀ x∈qf1 L r,x∈L)
  (h:∀ s',Le D s s'→JA P TT D n l.toArray Q (qf1 L r) s' N (Array.replicate N false) fr L s'):JC P TT D n Q (.region id l.toArray true) fr L s:=qbH hm N hN _ hK h
theorem qn2(zs:List Value)(len i:Nat)(h:i < len * zs.length):((List.replicate len zs).flatten)[i]?=zs[i % zs.length]?:=by
 induction len generalizing i with
 | zero=>simp at h
 | succ len ih=>
  rw [List.replicate_succ,List.flatten_cons]
  by_cases hi:i < zs.length
  · rw [List.getElem?_append_left hi,Nat.mod_eq_of_lt hi]
  · rw [List.getElem?_append_right O,ih (i - zs.length) (by rw [Nat.succ_mul] at h;omega),Nat.mod_eq_sub_mod (by omega:i≥zs.length)]
theorem qrA(zs:List Value)(len:Nat)(h:0 < zs.length):(Array.range (len * zs.length)).map (fun i=>zs.toArray[i % zs.toArray.size]!)=((List.replicate len zs).flatten).toArray:=by
  apply Array.ext_getElem?
  intro i
  by_cases hi:i < len * zs.length
  · have hm:i % zs.length < zs.length:=Nat.mod_lt _ h
    have:=qn2 zs len i hi
    simp only [List.getElem?_toArray,this]
    simp [hi,hm]
  · have hl:((List.replicate len zs).flatten).length=len * zs.length:=by simp
    rw [Array.getElem?_eq_none (by simp;omega),Array.getElem?_eq_none (by simp only [List.size_toArray,hl];omega)]
def qfV(size:Nat):Nat→Nat→List (Nat×Nat)
 | _,0=>[]
 | o,n+1=>(o,size)::qfV size (o+size) n
theorem qmv(size o n i:Nat)(h:i < n):(qfV size o n)[i]?=some (o+i * size,size):=by
 induction n generalizing o i with
 | zero=>omega
 | succ n ih=>
  cases i with
  | zero=>simp [qfV]
  | succ i=>simp only [qfV,List.getElem?_cons_succ];rw [ih (o+size) i O,Nat.succ_mul];congr 2;omega
theorem qoW(size len:Nat)(zs:List Value)(parts:List (Nat×Value)){vs:List Value}(hp:parts.all (fun x=>Nat.blt x.1 len)=true)(h:bld (qfV size 0 len) zs parts=some vs) :
    Instr.fill (fun i=>some (i * size,size)) zs.toArray parts=some vs.toArray:=by
  induction parts generalizing zs with
  | nil=>simp [bld] at h;subst h;rfl
  | cons x rest ih=>
    obtain ⟨i,v⟩:=x
    simp only [List.all_cons,Bool.and_eq_true] at hp
    have hi:i < len:=Nat.le_of_ble_eq_true hp.1
    have hg:=qmv size 0 len i hi
    rw [Nat.zero_add] at hg
    have h1:=qjW (qfV size 0 len) ((qfV size 0 len)[·]?) (fun _=>rfl) zs ((i,v)::rest) h
    simp only [bld,hg,cond_eq_ite] at h
    simp only [Instr.fill,hg] at h1 ⊢
    by_cases hc:(Nat.beq (qbb v).length size && Nat.ble (i * size+size) zs.length)=true
    · simp only [hc,if_true] at h
      simp only [Bool.and_eq_true] at hc
      have e1:(qbb v).length=size:=Nat.eq_of_beq_eq_true hc.1
      have e2:i * size+size≤zs.length:=Nat.le_of_ble_eq_true hc.2
      have h3:=qfS (qbb v) (i * size) 0 zs O
      simp only [qdp,List.size_toArray,e1,ne_eq,not_true,decide_false,Bool.false_or,gt_iff_lt,decide_eq_true_eq,show ¬ zs.length < i * size+size by omega,if_false]
      have e:(qbb v).toArray.zipIdx=((qbb v).zipIdx 0).toArray:=by simp
      rw [e]
      simp only [List.foldl_toArray,Nat.add_zero] at h3 ⊢
      rw [h3]
      exact ih _ hp.2 h
    · simp only [hc] at h;cases h
theorem qgD{t e len:Nat}{ti te:TI}(hti:ti.ok P t)(hk:ti.kind=.sl e)(hte:te.ok P e)(hsz:Nat.ble (len * te.size) 16777216=true)(hpos:0 < len)(vals:List (Nat×Value))(vs:List Value)(hp:vals.all (fun x=>Nat.blt x.1 len)=true)
  (hb:bld (qfV te.size 0 len) (List.replicate len te.zeros).flatten vals=some vs) (w:World):(Instr.buildSlice t len vals.toArray).run P w=.ok (.slice (some ⟨w.heap.size,0,none⟩) len len) (w.alloc (cb vs e)):=by
 obtain ⟨k1,k2,_⟩:=hti
 rw [hk] at k2
 simp only [TK.fits] at k2
 rw [k2] at k1
 have hte2:=hte
 obtain ⟨_,_,_,z1,_,z3,_⟩:=hte2
 have hz:=qcD hte
 have hle:¬ (2 ^ 24 < len * te.size):=by have:=Nat.le_of_ble_eq_true hsz;omega
 have hne:¬ (len * te.size=0):=by
  intro h0
  have:=Nat.mul_pos hpos z3
  omega
 have hrow:=qrA te.zeros len O
 rw [z1] at hrow
 have hfr:=qoW te.size len _ vals hp hb
 simp only [Instr.buildSlice,Sem.run_bind,run_underlying k1,Result.andThen_ok,qbm hte,gt_iff_lt,hle,if_false,Sem.run_pure,hne,qee hte,hz]
 rw [hrow,hfr]
 simp only [Sem.run_bind,qg3,Result.andThen_ok,Sem.run_pure]
 rfl
theorem qrt{t e len:Nat}{ti te:TI}{ps:List (Nat×Operand)}(vals:List (Nat×Value))(vs:List Value)(ht:qaA TT t=some ti)(hk:ti.kind=.sl e)(he:qaA TT e=some te)(hv:lkp fr ps=some vals)(hsz:Nat.ble (len * te.size) 16777216=true)(hpos:Nat.blt 0 len=true)(hp:vals.all (fun x=>Nat.blt x.1 len)=true)
  (hb:bld (qfV te.size 0 len) (List.replicate len te.zeros).flatten vals=some vs) (ho:OKL D L s):Ev P TT D fr (.buildSlice t len ps.toArray) ty L s (.value (.slice (some ⟨s.heap.size,0,none⟩) len len)) ((s.heap.size,cb vs e)::L) (s.alloc (dum D)):=fun hT _ dst pos af g ρ hρ=>by
 obtain ⟨h1,h2,h3⟩:=qa2 ho (cb vs e)
 refine ⟨?_,h2⟩
 have hm:(ps.toArray.map fun (x:Nat×Operand)=>match x with | (i,x)=>(i,ρ x))=vals.toArray:=by
  have:=qlJ hρ hv
  rw [← this];simp
 have hpos':0 < len:=Nat.le_of_ble_eq_true hpos
 simp only [execOp,hm,Sem.run_bind,qgD (hT.at_ ht) hk (hT.at_ he) hsz hpos' vals vs hp hb,Result.andThen_ok,Sem.run_pure,qaC]
 rw [← h1]
theorem qfo{b t:Nat}{vs:List Value}(ho:OKL D ((b,cb vs t)::L) s):CellsAt (fill [(b,cb vs t)] s) b 0 vs:=fun j v hj=>by
 have h1:OKL D [(b,cb vs t)] s:=⟨by simp,fun x hx=>ho.dm x (by simp at hx;subst hx;exact List.mem_cons_self ..)⟩
 rw [qcF h1 Mc,Nat.zero_add];exact hj
theorem qa0{t e len:Nat}{ti te:TI}{ps:List (Nat×Operand)}(vals:List (Nat×Value))(vs:List Value)(ht:qaA TT t=some ti)(hk:ti.kind=.sl e)(he:qaA TT e=some te)(hv:lkp fr ps=some vals)(hsz:Nat.ble (len * te.size) 16777216=true)(hpos:Nat.blt 0 len=true)(hp:vals.all (fun x=>Nat.blt x.1 len)=true)
  (hb:bld (qfV te.size 0 len) (List.replicate len te.zeros).flatten vals=some vs) (hd:Nat.blt d n=true) (k:∀ β s',Le D s s'→CellsAt s' β 0 vs→JO P TT D n ops Q rest ((d,.slice (some ⟨β,0,none⟩) len len)::fr) L s') :
  JO P TT D n ops Q (⟨some d,.buildSlice t len ps.toArray,ty,pos,af,none⟩::rest) fr L s:=fun hT a hr ho=>by
 obtain ⟨h1,h2,h3⟩:=qa2 ho (cb vs e)
 obtain ⟨d1,d2,d3⟩:=qbx (A:=[(s.heap.size,cb vs e)]) (B:=L) h2
 refine qgf (L':=L) (s':=fill [(s.heap.size,cb vs e)] (s.alloc (dum D))) hd (fun hT _ dst pos af g ρ hρ=>⟨?_,d2⟩) (k _ _ (h3.trans d3) (qfo h2)) hT a hr ho
 rw [← d1]
 exact (qrt vals vs ht hk he hv hsz hpos hp hb ho hT ho dst pos af g ρ hρ).1
theorem qas{i t e len:Nat}{g:Option (Nat×Bool)}{fuel:Nat}{listed:Array Bool}{ti te:TI}{ps:List (Nat×Operand)}(hi:ops[i]?=some ⟨some d,.buildSlice t len ps.toArray,ty,pos,af,g⟩)(hg:GOK ops fr g)(vals:List (Nat×Value))(vs:List Value)(ht:qaA TT t=some ti)(hk:ti.kind=.sl e)(he:qaA TT e=some te)(hv:lkp fr ps=some vals)(hsz:Nat.ble (len * te.size) 16777216=true)(hpos:Nat.blt 0 len=true)(hp:vals.all (fun x=>Nat.blt x.1 len)=true)
  (hb:bld (qfV te.size 0 len) (List.replicate len te.zeros).flatten vals=some vs) (hd:Nat.blt d n=true) (k:∀ β s',Le D s s'→CellsAt s' β 0 vs→JA P TT D n ops Q K s0 fuel (listed.setIfInBounds i true) ((d,.slice (some ⟨β,0,none⟩) len len)::fr) L s') :
  JB P TT D n ops Q K s0 fuel listed i fr L s:=fun hT a hr ho hl hK=>by
 obtain ⟨h1,h2,h3⟩:=qa2 ho (cb vs e)
 obtain ⟨d1,d2,d3⟩:=qbx (A:=[(s.heap.size,cb vs e)]) (B:=L) h2
 refine qju (L':=L) (s':=fill [(s.heap.size,cb vs e)] (s.alloc (dum D))) hi hg (fun hT _ dst pos af g ρ hρ=>⟨?_,d2⟩) (h3.trans d3) (fun _ _ h=>h) hd (k _ _ (h3.trans d3) (qfo h2)) hT a hr ho hl hK
 rw [← d1]
 exact (qrt vals vs ht hk he hv hsz hpos hp hb ho hT ho dst pos af g ρ hρ).1
end
section
variable{P:Program}{TT:qbf}{D n:Nat}{Q:qbF}{fr:Fr}{L L' K:Hl}{s s' s0:World}{ops:Array Oper}{rest:List Oper}{d ty:Nat}{op:Op}{pos:String}{af:Array Edge}{v:Value}
theorem qdW{ik:IntKind}{j y:Nat}{c:BoundsCode}(h:j≤y)(w:World):(Instr.sliceBound (.int ik (j:Int)) y c).run P w=.ok j w:=by
 have h0:(j:Int)≤(y:Int):=by omega
 simp [Instr.sliceBound,asIntOf,h0]
theorem qhP{t e:Nat}{x:Value}{lo hi mx:Option Value}{ti:TI}(h:ti.ok P t)(hk:ti.kind=.sl e):∀ w,(Instr.sliceAt t x lo hi mx).run P w=(Instr.slice t x lo hi mx).run P w:=by
 obtain ⟨k1,k2,_⟩:=h
 rw [hk] at k2
 simp only [TK.fits] at k2
 rw [k2] at k1
 intro w
 simp [Instr.sliceAt,run_underlying k1]
theorem qfM{t e:Nat}{A:Option Addr}{m c:Nat}{lo hi:Option Value}{ti te:TI}(h:ti.ok P t)(hk:ti.kind=.sl e)(he:te.ok P e){l u:Nat}(w:World)
  (hb:(Instr.sliceBounds true m c lo hi none).run P w=.ok (l,u,c) w):(Instr.sliceAt t (.slice A m c) lo hi none).run P w=.ok (.slice (if c=l then A else A.map (·.add (l * te.size))) (u - l) (c - l)) w:=by
 rw [qhP h hk]
 obtain ⟨k1,k2,_⟩:=h
 rw [hk] at k2
 simp only [TK.fits] at k2
 rw [k2] at k1
 simp [Instr.slice,run_underlying k1,hb,qbm he]
theorem add0(A:Option Addr)(k:Nat):A.map (·.add (0 * k))=A:=by cases A <;> simp [Addr.add]
theorem qpH{t e:Nat}{x y:Operand}{ti te:TI}{ik:IntKind}{A:Option Addr}{m c j:Nat}(hx:lk fr x=some (.slice A m c))(hy:lk fr y=some (.int ik (j:Int)))(ht:qaA TT t=some ti)(hk:ti.kind=.sl e)(he:qaA TT e=some te)(hj:j≤c) :
  QE P TT D fr (.slice t x none (some y) none) ty K s0 (.slice A j c):=
 QE.pure fun hT dst pos af g ρ hρ w=>by
  have hb:(Instr.sliceBounds true m c none (some (.int ik (j:Int))) none).run P w=.ok (0,j,c) w:=by simp [Instr.sliceBounds,qdW hj]
  have hr:=qfM (A:=A) (hT.at_ ht) hk (hT.at_ he) w hb
  simp only [execOp,hρ x _ hx,Option.map_none,Option.map_some,hρ y _ hy,Sem.run_bind,hr,Result.andThen_ok,Sem.run_pure,add0]
  simp
theorem qgP{t e:Nat}{x y:Operand}{ti te:TI}{ik:IntKind}{A:Option Addr}{m c j:Nat}(hx:lk fr x=some (.slice A m c))(hy:lk fr y=some (.int ik (j:Int)))(ht:qaA TT t=some ti)(hk:ti.kind=.sl e)(he:qaA TT e=some te)(hj:j≤m) :
  QE P TT D fr (.slice t x (some y) none none) ty K s0 (.slice (if c=j then A else A.map (·.add (j * te.size))) (m - j) (c - j)):=
 QE.pure fun hT dst pos af g ρ hρ w=>by
  have hb:(Instr.sliceBounds true m c (some (.int ik (j:Int))) none none).run P w=.ok (j,m,c) w:=by simp [Instr.sliceBounds,qdW hj]
  have hr:=qfM (A:=A) (hT.at_ ht) hk (hT.at_ he) w hb
  simp only [execOp,hρ x _ hx,Option.map_none,Option.map_some,hρ y _ hy,Sem.run_bind,hr,Result.andThen_ok,Sem.run_pure]
theorem qiy(l:List UInt8)(lo hi:Nat)(h:lo≤hi):(⟨l.toArray⟩:ByteArray).extract lo hi=⟨((l.drop lo).take (hi - lo)).toArray⟩:=by
 apply ByteArray.ext
 simp [List.take_drop,Nat.add_sub_cancel' h]
theorem qdU{t:Nat}{l:List UInt8}{lo hi:Option Value}{ti:TI}(h:ti.ok P t)(hk:ti.desc=.string){a u:Nat}(hau:a≤u)(w:World)(hb:(Instr.sliceBounds false l.length l.length lo hi none).run P w=.ok (a,u,l.length) w) :
  (Instr.sliceAt t (St l) lo hi none).run P w=.ok (St ((l.drop a).take (u - a))) w:=by
 have k1:=h.1
 rw [hk] at k1
 have hsz:(⟨l.toArray⟩:ByteArray).size=l.length:=by simp [ByteArray.size]
 have hx:=qiy l a u hau
 simp only [Instr.sliceAt,Sem.run_bind,run_underlying k1,Result.andThen_ok,Instr.slice,Option.isSome_none,Bool.false_eq_true,if_false,hsz,hb,Sem.run_pure,hx]
theorem qhT{t:Nat}{x y:Operand}{ti:TI}{ik:IntKind}{l:List UInt8}{u:Nat}(hx:lk fr x=some (St l))(hy:lk fr y=some (.int ik (u:Int)))(ht:qaA TT t=some ti)(hk:ti.desc=.string)(hu:u≤l.length) :
  QE P TT D fr (.slice t x none (some y) none) ty K s0 (St (l.take u)):=
 QE.pure fun hT dst pos af g ρ hρ w=>by
  have hb:(Instr.sliceBounds false l.length l.length none (some (.int ik (u:Int))) none).run P w=.ok (0,u,l.length) w:=by simp [Instr.sliceBounds,qdW hu]
  have hr:=qdU (hT.at_ ht) hk (Nat.zero_le u) w hb
  simp only [execOp,hρ x _ hx,Option.map_none,Option.map_some,hρ y _ hy,Sem.run_bind,hr,Result.andThen_ok,Sem.run_pure]
  simp
theorem qjB{t:Nat}{x y:Operand}{ti:TI}{ik:IntKind}{l:List UInt8}{a:Nat}(hx:lk fr x=some (St l))(hy:lk fr y=some (.int ik (a:Int)))(ht:qaA TT t=some ti)(hk:ti.desc=.string)(ha:a≤l.length) :
  QE P TT D fr (.slice t x (some y) none none) ty K s0 (St (l.drop a)):=
 QE.pure fun hT dst pos af g ρ hρ w=>by
  have hb:(Instr.sliceBounds false l.length l.length (some (.int ik (a:Int))) none none).run P w=.ok (a,l.length,l.length) w:=by simp [Instr.sliceBounds,qdW ha]
  have hr:=qdU (hT.at_ ht) hk ha w hb
  simp only [execOp,hρ x _ hx,Option.map_none,Option.map_some,hρ y _ hy,Sem.run_bind,hr,Result.andThen_ok,Sem.run_pure]
  have:(l.drop a).take (l.length - a)=l.drop a:=List.take_of_length_le (by simp)
  rw [this]
theorem qpT{t:Nat}{x y z:Operand}{ti:TI}{ik ik':IntKind}{l:List UInt8}{a u:Nat}(hx:lk fr x=some (St l))(hy:lk fr y=some (.int ik (a:Int)))(hz:lk fr z=some (.int ik' (u:Int)))(ht:qaA TT t=some ti)(hk:ti.desc=.string)(ha:a≤u)(hu:u≤l.length) :
  QE P TT D fr (.slice t x (some y) (some z) none) ty K s0 (St ((l.drop a).take (u - a))):=
 QE.pure fun hT dst pos af g ρ hρ w=>by
  have hb:(Instr.sliceBounds false l.length l.length (some (.int ik (a:Int))) (some (.int ik' (u:Int))) none).run P w=.ok (a,u,l.length) w:=by simp [Instr.sliceBounds,qdW ha,qdW hu]
  have hr:=qdU (hT.at_ ht) hk ha w hb
  simp only [execOp,hρ x _ hx,Option.map_none,Option.map_some,hρ y _ hy,hρ z _ hz,Sem.run_bind,hr,Result.andThen_ok,Sem.run_pure]
end
open Go Go.Proofs
theorem TabOK.nil{P:Program}:TabOK P []:=fun _ h=>by cases h
theorem TabOK.cons{P:Program}{x:Nat×TI}{r:qbf}(h:x.2.ok P x.1)(k:TabOK P r):TabOK P (x::r):=fun y hy=>by
 rcases List.mem_cons.1 hy with rfl | hy
 · exact h
 · exact k y hy
abbrev fD9(n:String)(t o:Nat)(p:String)(b:Nat):Field:={ name:=n,type:=t,offset:=o,embedded:=false,tag := "", pkgPath:=p,byteOffset:=b }
def ti2:TI:={ kind:=.sc,desc:=.int .i64,size:=1,bytes:=8,zeros:=[.int .i64 0] }
theorem qsA:ti2.ok Tryz.prog 2:=⟨Tryz.underlying2,trivial,by kernel_rfl,rfl,rfl,by decide,fun _=>rfl,by kernel_rfl,by kernel_rfl⟩
def ti3:TI:={ kind:=.sc,desc:=.int .i64,size:=1,bytes:=8,zeros:=[.int .i64 0] }
theorem qjX:ti3.ok Tryz.prog 3:=⟨Tryz.underlying3,trivial,by kernel_rfl,rfl,rfl,by decide,fun _=>rfl,by kernel_rfl,by kernel_rfl⟩
def ti4:TI:={ kind:=.sc,desc:=.bool,size:=1,bytes:=1,zeros:=[.bool false] }
theorem qtH:ti4.ok Tryz.prog 4:=⟨Tryz.underlying4,trivial,by kernel_rfl,rfl,rfl,by decide,fun _=>rfl,by kernel_rfl,by kernel_rfl⟩
def ti5:TI:={ kind:=.sc,desc:=.int .u8,size:=1,bytes:=1,zeros:=[.int .u8 0] }
theorem qs1:ti5.ok Tryz.prog 5:=⟨Tryz.underlying5,trivial,by kernel_rfl,rfl,rfl,by decide,fun _=>rfl,by kernel_rfl,by kernel_rfl⟩
def ti6:TI:={ kind:=.sc,desc:=.int .u8,size:=1,bytes:=1,zeros:=[.int .u8 0] }
theorem qsD:ti6.ok Tryz.prog 6:=⟨Tryz.underlying6,trivial,by kernel_rfl,rfl,rfl,by decide,fun _=>rfl,by kernel_rfl,by kernel_rfl⟩
def ti7:TI:={ kind:=.st [0,1,2,3],desc:=.struct #[fD9 "x" 2 0 "runtime" 0,fD9 "y" 3 1 "runtime" 8,fD9 "signed" 4 2 "runtime" 16,fD9 "code" 6 3 "runtime" 17],size:=4,bytes:=24,zeros:=[.int .i64 0,.int .i64 0,.bool false,.int .u8 0],fsz:=[1,1,1,1] }
theorem qtk:ti7.ok Tryz.prog 7:=⟨Tryz.underlying7,rfl,by kernel_rfl,rfl,rfl,by decide,(fun h=>by cases h),by kernel_rfl,by kernel_rfl⟩
def ti8:TI:={ kind:=.st [0,1,2,3],desc:=.struct #[fD9 "x" 2 0 "runtime" 0,fD9 "y" 3 1 "runtime" 8,fD9 "signed" 4 2 "runtime" 16,fD9 "code" 6 3 "runtime" 17],size:=4,bytes:=24,zeros:=[.int .i64 0,.int .i64 0,.bool false,.int .u8 0],fsz:=[1,1,1,1] }
theorem qsX:ti8.ok Tryz.prog 8:=⟨Tryz.underlying8,rfl,by kernel_rfl,rfl,rfl,by decide,(fun h=>by cases h),by kernel_rfl,by kernel_rfl⟩
def ti9:TI:={ kind:=.sc,desc:=.string,size:=1,bytes:=16,zeros:=[St []] }
theorem qpu:ti9.ok Tryz.prog 9:=⟨Tryz.underlying9,trivial,by kernel_rfl,rfl,rfl,by decide,fun _=>rfl,by kernel_rfl,by kernel_rfl⟩
def ti10:TI:={ kind:=.sc,desc:=.string,size:=1,bytes:=16,zeros:=[St []] }
theorem qpS:ti10.ok Tryz.prog 10:=⟨Tryz.underlying10,trivial,by kernel_rfl,rfl,rfl,by decide,fun _=>rfl,by kernel_rfl,by kernel_rfl⟩
def ti11:TI:={ kind:=.sc,desc:=.string,size:=1,bytes:=16,zeros:=[St []] }
theorem qq6:ti11.ok Tryz.prog 11:=⟨Tryz.underlying11,trivial,by kernel_rfl,rfl,rfl,by decide,fun _=>rfl,by kernel_rfl,by kernel_rfl⟩
def ti12:TI:={ kind:=.sc,desc:=.int .u64,size:=1,bytes:=8,zeros:=[.int .u64 0] }
theorem qr7:ti12.ok Tryz.prog 12:=⟨Tryz.underlying12,trivial,by kernel_rfl,rfl,rfl,by decide,fun _=>rfl,by kernel_rfl,by kernel_rfl⟩
def ti13:TI:={ kind:=.st [0,1],desc:=.struct #[fD9 "msg" 9 0 "runtime" 0,fD9 "addr" 12 1 "runtime" 16],size:=2,bytes:=24,zeros:=[St [],.int .u64 0],fsz:=[1,1] }
theorem qp5:ti13.ok Tryz.prog 13:=⟨Tryz.underlying13,rfl,by kernel_rfl,rfl,rfl,by decide,(fun h=>by cases h),by kernel_rfl,by kernel_rfl⟩
def ti14:TI:={ kind:=.st [0,1],desc:=.struct #[fD9 "msg" 9 0 "runtime" 0,fD9 "addr" 12 1 "runtime" 16],size:=2,bytes:=24,zeros:=[St [],.int .u64 0],fsz:=[1,1] }
theorem qp2:ti14.ok Tryz.prog 14:=⟨Tryz.underlying14,rfl,by kernel_rfl,rfl,rfl,by decide,(fun h=>by cases h),by kernel_rfl,by kernel_rfl⟩
def ti15:TI:={ kind:=.sc,desc:=.pointer 233,size:=1,bytes:=8,zeros:=[.pointer none] }
theorem qrC:ti15.ok Tryz.prog 15:=⟨Tryz.underlying15,trivial,by kernel_rfl,rfl,rfl,by decide,fun _=>rfl,by kernel_rfl,by kernel_rfl⟩
def ti16:TI:={ kind:=.sc,desc:=.pointer 236,size:=1,bytes:=8,zeros:=[.pointer none] }
theorem qqd:ti16.ok Tryz.prog 16:=⟨Tryz.underlying16,trivial,by kernel_rfl,rfl,rfl,by decide,fun _=>rfl,by kernel_rfl,by kernel_rfl⟩
def ti17:TI:={ kind:=.sc,desc:=.pointer 243,size:=1,bytes:=8,zeros:=[.pointer none] }
theorem qrU:ti17.ok Tryz.prog 17:=⟨Tryz.underlying17,trivial,by kernel_rfl,rfl,rfl,by decide,fun _=>rfl,by kernel_rfl,by kernel_rfl⟩
def ti18:TI:={ kind:=.st [0],desc:=.struct #[fD9 "typ" 17 0 "internal/runtime/maps" 0],size:=1,bytes:=8,zeros:=[.pointer none],fsz:=[1] }
theorem qrZ:ti18.ok Tryz.prog 18:=⟨Tryz.underlying18,rfl,by kernel_rfl,rfl,rfl,by decide,(fun h=>by cases h),by kernel_rfl,by kernel_rfl⟩
def ti19:TI:={ kind:=.st [0],desc:=.struct #[fD9 "typ" 17 0 "internal/runtime/maps" 0],size:=1,bytes:=8,zeros:=[.pointer none],fsz:=[1] }
theorem qpK:ti19.ok Tryz.prog 19:=⟨Tryz.underlying19,rfl,by kernel_rfl,rfl,rfl,by decide,(fun h=>by cases h),by kernel_rfl,by kernel_rfl⟩
def ti21:TI:={ kind:=.sc,desc:=.int .i32,size:=1,bytes:=4,zeros:=[.int .i32 0] }
theorem qrq:ti21.ok Tryz.prog 21:=⟨Tryz.underlying21,trivial,by kernel_rfl,rfl,rfl,by decide,fun _=>rfl,by kernel_rfl,by kernel_rfl⟩
def ti22:TI:={ kind:=.sl 66,desc:=.slice 66,size:=1,bytes:=24,zeros:=[.slice none 0 0] }
theorem qpL:ti22.ok Tryz.prog 22:=⟨Tryz.underlying22,rfl,by kernel_rfl,rfl,rfl,by decide,fun _=>rfl,by kernel_rfl,by kernel_rfl⟩
def ti23:TI:={ kind:=.st [0,1],desc:=.struct #[fD9 "Cells" 3 0 "" 0,fD9 "Instructions" 22 1 "" 8],size:=2,bytes:=32,zeros:=[.int .i64 0,.slice none 0 0],fsz:=[1,1] }
theorem qq3:ti23.ok Tryz.prog 23:=⟨Tryz.underlying23,rfl,by kernel_rfl,rfl,rfl,by decide,(fun h=>by cases h),by kernel_rfl,by kernel_rfl⟩
def ti24:TI:={ kind:=.st [0,1],desc:=.struct #[fD9 "Cells" 3 0 "" 0,fD9 "Instructions" 22 1 "" 8],size:=2,bytes:=32,zeros:=[.int .i64 0,.slice none 0 0],fsz:=[1,1] }
theorem qr1:ti24.ok Tryz.prog 24:=⟨Tryz.underlying24,rfl,by kernel_rfl,rfl,rfl,by decide,(fun h=>by cases h),by kernel_rfl,by kernel_rfl⟩
def ti25:TI:={ kind:=.sl 38,desc:=.slice 38,size:=1,bytes:=24,zeros:=[.slice none 0 0] }
theorem qrV:ti25.ok Tryz.prog 25:=⟨Tryz.underlying25,rfl,by kernel_rfl,rfl,rfl,by decide,fun _=>rfl,by kernel_rfl,by kernel_rfl⟩
def ti26:TI:={ kind:=.sl 5,desc:=.slice 5,size:=1,bytes:=24,zeros:=[.slice none 0 0] }
theorem qqI:ti26.ok Tryz.prog 26:=⟨Tryz.underlying26,rfl,by kernel_rfl,rfl,rfl,by decide,fun _=>rfl,by kernel_rfl,by kernel_rfl⟩
def ti28:TI:={ kind:=.st [0,1],desc:=.struct #[fD9 "Code" 3 0 "" 0,fD9 "Index" 3 1 "" 8],size:=2,bytes:=16,zeros:=[.int .i64 0,.int .i64 0],fsz:=[1,1] }
theorem qp0:ti28.ok Tryz.prog 28:=⟨Tryz.underlying28,rfl,by kernel_rfl,rfl,rfl,by decide,(fun h=>by cases h),by kernel_rfl,by kernel_rfl⟩
def ti29:TI:={ kind:=.st [0,1],desc:=.struct #[fD9 "Code" 3 0 "" 0,fD9 "Index" 3 1 "" 8],size:=2,bytes:=16,zeros:=[.int .i64 0,.int .i64 0],fsz:=[1,1] }
theorem qry:ti29.ok Tryz.prog 29:=⟨Tryz.underlying29,rfl,by kernel_rfl,rfl,rfl,by decide,(fun h=>by cases h),by kernel_rfl,by kernel_rfl⟩
def ti36:TI:={ kind:=.sl 4,desc:=.slice 4,size:=1,bytes:=24,zeros:=[.slice none 0 0] }
theorem qq8:ti36.ok Tryz.prog 36:=⟨Tryz.underlying36,rfl,by kernel_rfl,rfl,rfl,by decide,fun _=>rfl,by kernel_rfl,by kernel_rfl⟩
def ti38:TI:={ kind:=.sc,desc:=.int .u32,size:=1,bytes:=4,zeros:=[.int .u32 0] }
theorem qhb:ti38.ok Tryz.prog 38:=⟨Tryz.underlying38,trivial,by kernel_rfl,rfl,rfl,by decide,fun _=>rfl,by kernel_rfl,by kernel_rfl⟩
def ti39:TI:={ kind:=.st [0,1,2,3],desc:=.struct #[fD9 "Output" 26 0 "" 0,fD9 "Stop" 3 1 "" 24,fD9 "Code" 38 2 "" 32,fD9 "Steps" 3 3 "" 40],size:=4,bytes:=48,zeros:=[.slice none 0 0,.int .i64 0,.int .u32 0,.int .i64 0],fsz:=[1,1,1,1] }
theorem qqz:ti39.ok Tryz.prog 39:=⟨Tryz.underlying39,rfl,by kernel_rfl,rfl,rfl,by decide,(fun h=>by cases h),by kernel_rfl,by kernel_rfl⟩
def ti40:TI:={ kind:=.st [0,1,2,3],desc:=.struct #[fD9 "Output" 26 0 "" 0,fD9 "Stop" 3 1 "" 24,fD9 "Code" 38 2 "" 32,fD9 "Steps" 3 3 "" 40],size:=4,bytes:=48,zeros:=[.slice none 0 0,.int .i64 0,.int .u32 0,.int .i64 0],fsz:=[1,1,1,1] }
theorem qqk:ti40.ok Tryz.prog 40:=⟨Tryz.underlying40,rfl,by kernel_rfl,rfl,rfl,by decide,(fun h=>by cases h),by kernel_rfl,by kernel_rfl⟩
def ti46:TI:={ kind:=.sl 60,desc:=.slice 60,size:=1,bytes:=24,zeros:=[.slice none 0 0] }
theorem qrM:ti46.ok Tryz.prog 46:=⟨Tryz.underlying46,rfl,by kernel_rfl,rfl,rfl,by decide,fun _=>rfl,by kernel_rfl,by kernel_rfl⟩
def ti59:TI:={ kind:=.st [0,1],desc:=.struct #[fD9 "Name" 9 0 "" 0,fD9 "Address" 38 1 "" 16],size:=2,bytes:=24,zeros:=[St [],.int .u32 0],fsz:=[1,1] }
theorem qrP:ti59.ok Tryz.prog 59:=⟨Tryz.underlying59,rfl,by kernel_rfl,rfl,rfl,by decide,(fun h=>by cases h),by kernel_rfl,by kernel_rfl⟩
def ti60:TI:={ kind:=.st [0,1],desc:=.struct #[fD9 "Name" 9 0 "" 0,fD9 "Address" 38 1 "" 16],size:=2,bytes:=24,zeros:=[St [],.int .u32 0],fsz:=[1,1] }
theorem qrf:ti60.ok Tryz.prog 60:=⟨Tryz.underlying60,rfl,by kernel_rfl,rfl,rfl,by decide,(fun h=>by cases h),by kernel_rfl,by kernel_rfl⟩
def ti64:TI:={ kind:=.sl 72,desc:=.slice 72,size:=1,bytes:=24,zeros:=[.slice none 0 0] }
theorem qr6:ti64.ok Tryz.prog 64:=⟨Tryz.underlying64,rfl,by kernel_rfl,rfl,rfl,by decide,fun _=>rfl,by kernel_rfl,by kernel_rfl⟩
def ti65:TI:={ kind:=.st [0,1,2,3],desc:=.struct #[fD9 "Name" 9 0 "" 0,fD9 "Code" 38 1 "" 16,fD9 "Operand" 4 2 "" 20,fD9 "Actions" 64 3 "" 24],size:=4,bytes:=48,zeros:=[St [],.int .u32 0,.bool false,.slice none 0 0],fsz:=[1,1,1,1] }
theorem qrR:ti65.ok Tryz.prog 65:=⟨Tryz.underlying65,rfl,by kernel_rfl,rfl,rfl,by decide,(fun h=>by cases h),by kernel_rfl,by kernel_rfl⟩
def ti66:TI:={ kind:=.st [0,1,2,3],desc:=.struct #[fD9 "Name" 9 0 "" 0,fD9 "Code" 38 1 "" 16,fD9 "Operand" 4 2 "" 20,fD9 "Actions" 64 3 "" 24],size:=4,bytes:=48,zeros:=[St [],.int .u32 0,.bool false,.slice none 0 0],fsz:=[1,1,1,1] }
theorem qpY:ti66.ok Tryz.prog 66:=⟨Tryz.underlying66,rfl,by kernel_rfl,rfl,rfl,by decide,(fun h=>by cases h),by kernel_rfl,by kernel_rfl⟩
def ti69:TI:={ kind:=.st [0,1],desc:=.struct #[fD9 "Kind" 3 0 "" 0,fD9 "Value" 38 1 "" 8],size:=2,bytes:=16,zeros:=[.int .i64 0,.int .u32 0],fsz:=[1,1] }
theorem qrY:ti69.ok Tryz.prog 69:=⟨Tryz.underlying69,rfl,by kernel_rfl,rfl,rfl,by decide,(fun h=>by cases h),by kernel_rfl,by kernel_rfl⟩
def ti70:TI:={ kind:=.st [0,1],desc:=.struct #[fD9 "Kind" 3 0 "" 0,fD9 "Value" 38 1 "" 8],size:=2,bytes:=16,zeros:=[.int .i64 0,.int .u32 0],fsz:=[1,1] }
theorem qse:ti70.ok Tryz.prog 70:=⟨Tryz.underlying70,rfl,by kernel_rfl,rfl,rfl,by decide,(fun h=>by cases h),by kernel_rfl,by kernel_rfl⟩
def ti71:TI:={ kind:=.st [0,1,2,4],desc:=.struct #[fD9 "Kind" 3 0 "" 0,fD9 "To" 3 1 "" 8,fD9 "X" 70 2 "" 16,fD9 "Y" 70 4 "" 32],size:=6,bytes:=48,zeros:=[.int .i64 0,.int .i64 0,.int .i64 0,.int .u32 0,.int .i64 0,.int .u32 0],fsz:=[1,1,2,2] }
theorem qrw:ti71.ok Tryz.prog 71:=⟨Tryz.underlying71,rfl,by kernel_rfl,rfl,rfl,by decide,(fun h=>by cases h),by kernel_rfl,by kernel_rfl⟩
def ti72:TI:={ kind:=.st [0,1,2,4],desc:=.struct #[fD9 "Kind" 3 0 "" 0,fD9 "To" 3 1 "" 8,fD9 "X" 70 2 "" 16,fD9 "Y" 70 4 "" 32],size:=6,bytes:=48,zeros:=[.int .i64 0,.int .i64 0,.int .i64 0,.int .u32 0,.int .i64 0,.int .u32 0],fsz:=[1,1,2,2] }
theorem qqU:ti72.ok Tryz.prog 72:=⟨Tryz.underlying72,rfl,by kernel_rfl,rfl,rfl,by decide,(fun h=>by cases h),by kernel_rfl,by kernel_rfl⟩
def ti73:TI:={ kind:=.sc,desc:=.pointer 79,size:=1,bytes:=8,zeros:=[.pointer none] }
theorem qqj:ti73.ok Tryz.prog 73:=⟨Tryz.underlying73,trivial,by kernel_rfl,rfl,rfl,by decide,fun _=>rfl,by kernel_rfl,by kernel_rfl⟩
def ti76:TI:={ kind:=.sc,desc:=.map 9 38,size:=1,bytes:=8,zeros:=[.map none] }
theorem qr4:ti76.ok Tryz.prog 76:=⟨Tryz.underlying76,trivial,by kernel_rfl,rfl,rfl,by decide,fun _=>rfl,by kernel_rfl,by kernel_rfl⟩
def ti77:TI:={ kind:=.sl 127,desc:=.slice 127,size:=1,bytes:=24,zeros:=[.slice none 0 0] }
theorem qro:ti77.ok Tryz.prog 77:=⟨Tryz.underlying77,rfl,by kernel_rfl,rfl,rfl,by decide,fun _=>rfl,by kernel_rfl,by kernel_rfl⟩
def ti78:TI:={ kind:=.st [0,2,3,4,5],desc:=.struct #[fD9 "table" 24 0 "scriptorium/asm" 0,fD9 "words" 25 2 "scriptorium/asm" 32,fD9 "labels" 46 3 "scriptorium/asm" 56,fD9 "addresses" 76 4 "scriptorium/asm" 80,fD9 "references" 77 5 "scriptorium/asm" 88],size:=6,bytes:=112,zeros:=[.int .i64 0,.slice none 0 0,.slice none 0 0,.slice none 0 0,.map none,.slice none 0 0],fsz:=[2,1,1,1,1] }
theorem qp7:ti78.ok Tryz.prog 78:=⟨Tryz.underlying78,rfl,by kernel_rfl,rfl,rfl,by decide,(fun h=>by cases h),by kernel_rfl,by kernel_rfl⟩
def ti79:TI:={ kind:=.st [0,2,3,4,5],desc:=.struct #[fD9 "table" 24 0 "scriptorium/asm" 0,fD9 "words" 25 2 "scriptorium/asm" 32,fD9 "labels" 46 3 "scriptorium/asm" 56,fD9 "addresses" 76 4 "scriptorium/asm" 80,fD9 "references" 77 5 "scriptorium/asm" 88],size:=6,bytes:=112,zeros:=[.int .i64 0,.slice none 0 0,.slice none 0 0,.slice none 0 0,.map none,.slice none 0 0],fsz:=[2,1,1,1,1] }
theorem qrO:ti79.ok Tryz.prog 79:=⟨Tryz.underlying79,rfl,by kernel_rfl,rfl,rfl,by decide,(fun h=>by cases h),by kernel_rfl,by kernel_rfl⟩
def ti80:TI:={ kind:=.ar 5 38,desc:=.array 5 38,size:=5,bytes:=20,zeros:=[.int .u32 0,.int .u32 0,.int .u32 0,.int .u32 0,.int .u32 0] }
theorem qrx:ti80.ok Tryz.prog 80:=⟨Tryz.underlying80,rfl,by kernel_rfl,rfl,rfl,by decide,(fun h=>by cases h),by kernel_rfl,by kernel_rfl⟩
def ti81:TI:={ kind:=.st [0,1,6,7,8,9],desc:=.struct #[fD9 "Cells" 25 0 "" 0,fD9 "Regs" 80 1 "" 24,fD9 "Input" 26 6 "" 48,fD9 "Output" 26 7 "" 72,fD9 "Stop" 3 8 "" 96,fD9 "Code" 38 9 "" 104],size:=10,bytes:=112,zeros:=[.slice none 0 0,.int .u32 0,.int .u32 0,.int .u32 0,.int .u32 0,.int .u32 0,.slice none 0 0,.slice none 0 0,.int .i64 0,.int .u32 0],fsz:=[1,5,1,1,1,1] }
theorem qpP:ti81.ok Tryz.prog 81:=⟨Tryz.underlying81,rfl,by kernel_rfl,rfl,rfl,by decide,(fun h=>by cases h),by kernel_rfl,by kernel_rfl⟩
def ti82:TI:={ kind:=.st [0,1,6,7,8,9],desc:=.struct #[fD9 "Cells" 25 0 "" 0,fD9 "Regs" 80 1 "" 24,fD9 "Input" 26 6 "" 48,fD9 "Output" 26 7 "" 72,fD9 "Stop" 3 8 "" 96,fD9 "Code" 38 9 "" 104],size:=10,bytes:=112,zeros:=[.slice none 0 0,.int .u32 0,.int .u32 0,.int .u32 0,.int .u32 0,.int .u32 0,.slice none 0 0,.slice none 0 0,.int .i64 0,.int .u32 0],fsz:=[1,5,1,1,1,1] }
theorem qqJ:ti82.ok Tryz.prog 82:=⟨Tryz.underlying82,rfl,by kernel_rfl,rfl,rfl,by decide,(fun h=>by cases h),by kernel_rfl,by kernel_rfl⟩
def ti86:TI:={ kind:=.sl 90,desc:=.slice 90,size:=1,bytes:=24,zeros:=[.slice none 0 0] }
theorem qqG:ti86.ok Tryz.prog 86:=⟨Tryz.underlying86,rfl,by kernel_rfl,rfl,rfl,by decide,fun _=>rfl,by kernel_rfl,by kernel_rfl⟩
def ti89:TI:={ kind:=.st [0,1,2,3,4,5],desc:=.struct #[fD9 "Ok" 4 0 "" 0,fD9 "Label" 9 1 "" 8,fD9 "Op" 9 2 "" 24,fD9 "Given" 4 3 "" 40,fD9 "Name" 9 4 "" 48,fD9 "Number" 38 5 "" 64],size:=6,bytes:=72,zeros:=[.bool false,St [],St [],.bool false,St [],.int .u32 0],fsz:=[1,1,1,1,1,1] }
theorem qp4:ti89.ok Tryz.prog 89:=⟨Tryz.underlying89,rfl,by kernel_rfl,rfl,rfl,by decide,(fun h=>by cases h),by kernel_rfl,by kernel_rfl⟩
def ti90:TI:={ kind:=.st [0,1,2,3,4,5],desc:=.struct #[fD9 "Ok" 4 0 "" 0,fD9 "Label" 9 1 "" 8,fD9 "Op" 9 2 "" 24,fD9 "Given" 4 3 "" 40,fD9 "Name" 9 4 "" 48,fD9 "Number" 38 5 "" 64],size:=6,bytes:=72,zeros:=[.bool false,St [],St [],.bool false,St [],.int .u32 0],fsz:=[1,1,1,1,1,1] }
theorem qqa:ti90.ok Tryz.prog 90:=⟨Tryz.underlying90,rfl,by kernel_rfl,rfl,rfl,by decide,(fun h=>by cases h),by kernel_rfl,by kernel_rfl⟩
def ti97:TI:={ kind:=.sl 70,desc:=.slice 70,size:=1,bytes:=24,zeros:=[.slice none 0 0] }
theorem qqw:ti97.ok Tryz.prog 97:=⟨Tryz.underlying97,rfl,by kernel_rfl,rfl,rfl,by decide,fun _=>rfl,by kernel_rfl,by kernel_rfl⟩
def ti100:TI:={ kind:=.sc,desc:=.pointer 66,size:=1,bytes:=8,zeros:=[.pointer none] }
theorem qo7:ti100.ok Tryz.prog 100:=⟨Tryz.underlying100,trivial,by kernel_rfl,rfl,rfl,by decide,fun _=>rfl,by kernel_rfl,by kernel_rfl⟩
def ti102:TI:={ kind:=.sc,desc:=.pointer 104,size:=1,bytes:=8,zeros:=[.pointer none] }
theorem qnW:ti102.ok Tryz.prog 102:=⟨Tryz.underlying102,trivial,by kernel_rfl,rfl,rfl,by decide,fun _=>rfl,by kernel_rfl,by kernel_rfl⟩
def ti103:TI:={ kind:=.st [0,1],desc:=.struct #[fD9 "addr" 102 0 "strings" 0,fD9 "buf" 26 1 "strings" 8],size:=2,bytes:=32,zeros:=[.pointer none,.slice none 0 0],fsz:=[1,1] }
theorem qpe:ti103.ok Tryz.prog 103:=⟨Tryz.underlying103,rfl,by kernel_rfl,rfl,rfl,by decide,(fun h=>by cases h),by kernel_rfl,by kernel_rfl⟩
def ti104:TI:={ kind:=.st [0,1],desc:=.struct #[fD9 "addr" 102 0 "strings" 0,fD9 "buf" 26 1 "strings" 8],size:=2,bytes:=32,zeros:=[.pointer none,.slice none 0 0],fsz:=[1,1] }
theorem qo3:ti104.ok Tryz.prog 104:=⟨Tryz.underlying104,rfl,by kernel_rfl,rfl,rfl,by decide,(fun h=>by cases h),by kernel_rfl,by kernel_rfl⟩
def ti115:TI:={ kind:=.sc,desc:=.int .u64,size:=1,bytes:=8,zeros:=[.int .u64 0] }
theorem qn8:ti115.ok Tryz.prog 115:=⟨Tryz.underlying115,trivial,by kernel_rfl,rfl,rfl,by decide,fun _=>rfl,by kernel_rfl,by kernel_rfl⟩
def ti116:TI:={ kind:=.sc,desc:=.int .u64,size:=1,bytes:=8,zeros:=[.int .u64 0] }
theorem qo4:ti116.ok Tryz.prog 116:=⟨Tryz.underlying116,trivial,by kernel_rfl,rfl,rfl,by decide,fun _=>rfl,by kernel_rfl,by kernel_rfl⟩
def ti121:TI:={ kind:=.sl 9,desc:=.slice 9,size:=1,bytes:=24,zeros:=[.slice none 0 0] }
theorem qpg:ti121.ok Tryz.prog 121:=⟨Tryz.underlying121,rfl,by kernel_rfl,rfl,rfl,by decide,fun _=>rfl,by kernel_rfl,by kernel_rfl⟩
def ti124:TI:={ kind:=.st [0,1],desc:=.struct #[fD9 "name" 9 0 "scriptorium/asm" 0,fD9 "number" 38 1 "scriptorium/asm" 16],size:=2,bytes:=24,zeros:=[St [],.int .u32 0],fsz:=[1,1] }
theorem qnD:ti124.ok Tryz.prog 124:=⟨Tryz.underlying124,rfl,by kernel_rfl,rfl,rfl,by decide,(fun h=>by cases h),by kernel_rfl,by kernel_rfl⟩
def ti125:TI:={ kind:=.st [0,1],desc:=.struct #[fD9 "name" 9 0 "scriptorium/asm" 0,fD9 "number" 38 1 "scriptorium/asm" 16],size:=2,bytes:=24,zeros:=[St [],.int .u32 0],fsz:=[1,1] }
theorem qol:ti125.ok Tryz.prog 125:=⟨Tryz.underlying125,rfl,by kernel_rfl,rfl,rfl,by decide,(fun h=>by cases h),by kernel_rfl,by kernel_rfl⟩
def ti126:TI:={ kind:=.st [0,1,2],desc:=.struct #[fD9 "line" 3 0 "scriptorium/asm" 0,fD9 "at" 3 1 "scriptorium/asm" 8,fD9 "operand" 125 2 "scriptorium/asm" 16],size:=4,bytes:=40,zeros:=[.int .i64 0,.int .i64 0,St [],.int .u32 0],fsz:=[1,1,2] }
theorem qno:ti126.ok Tryz.prog 126:=⟨Tryz.underlying126,rfl,by kernel_rfl,rfl,rfl,by decide,(fun h=>by cases h),by kernel_rfl,by kernel_rfl⟩
def ti127:TI:={ kind:=.st [0,1,2],desc:=.struct #[fD9 "line" 3 0 "scriptorium/asm" 0,fD9 "at" 3 1 "scriptorium/asm" 8,fD9 "operand" 125 2 "scriptorium/asm" 16],size:=4,bytes:=40,zeros:=[.int .i64 0,.int .i64 0,St [],.int .u32 0],fsz:=[1,1,2] }
theorem qod:ti127.ok Tryz.prog 127:=⟨Tryz.underlying127,rfl,by kernel_rfl,rfl,rfl,by decide,(fun h=>by cases h),by kernel_rfl,by kernel_rfl⟩
def ti135:TI:={ kind:=.sc,desc:=.pointer 140,size:=1,bytes:=8,zeros:=[.pointer none] }
theorem qnE:ti135.ok Tryz.prog 135:=⟨Tryz.underlying135,trivial,by kernel_rfl,rfl,rfl,by decide,fun _=>rfl,by kernel_rfl,by kernel_rfl⟩
def ti137:TI:={ kind:=.ar 256 3,desc:=.array 256 3,size:=256,bytes:=2048,zeros:=[.int .i64 0,.int .i64 0,.int .i64 0,.int .i64 0,.int .i64 0,.int .i64 0,.int .i64 0,.int .i64 0,.int .i64 0,.int .i64 0,.int .i64 0,.int .i64 0,.int .i64 0,.int .i64 0,.int .i64 0,.int .i64 0,.int .i64 0,.int .i64 0,.int .i64 0,.int .i64 0,.int .i64 0,.int .i64 0,.int .i64 0,.int .i64 0,.int .i64 0,.int .i64 0,.int .i64 0,.int .i64 0,.int .i64 0,.int .i64 0,.int .i64 0,.int .i64 0,.int .i64 0,.int .i64 0,.int .i64 0,.int .i64 0,.int .i64 0,.int .i64 0,.int .i64 0,.int .i64 0,.int .i64 0,.int .i64 0,.int .i64 0,.int .i64 0,.int .i64 0,.int .i64 0,.int .i64 0,.int .i64 0,.int .i64 0,.int .i64 0,.int .i64 0,.int .i64 0,.int .i64 0,.int .i64 0,.int .i64 0,.int .i64 0,.int .i64 0,.int .i64 0,.int .i64 0,.int .i64 0,.int .i64 0,.int .i64 0,.int .i64 0,.int .i64 0,.int .i64 0,.int .i64 0,.int .i64 0,.int .i64 0,.int .i64 0,.int .i64 0,.int .i64 0,.int .i64 0,.int .i64 0,.int .i64 0,.int .i64 0,.int .i64 0,.int .i64 0,.int .i64 0,.int .i64 0,.int .i64 0,.int .i64 0,.int .i64 0,.int .i64 0,.int .i64 0,.int .i64 0,.int .i64 0,.int .i64 0,.int .i64 0,.int .i64 0,.int .i64 0,.int .i64 0,.int .i64 0,.int .i64 0,.int .i64 0,.int .i64 0,.int .i64 0,.int .i64 0,.int .i64 0,.int .i64 0,.int .i64 0,.int .i64 0,.int .i64 0,.int .i64 0,.int .i64 0,.int .i64 0,.int .i64 0,.int .i64 0,.int .i64 0,.int .i64 0,.int .i64 0,.int .i64 0,.int .i64 0,.int .i64 0,.int .i64 0,.int .i64 0,.int .i64 0,.int .i64 0,.int .i64 0,.int .i64 0,.int .i64 0,.int .i64 0,.int .i64 0,.int .i64 0,.int .i64 0,.int .i64 0,.int .i64 0,.int .i64 0,.int .i64 0,.int .i64 0,.int .i64 0,.int .i64 0,.int .i64 0,.int .i64 0,.int .i64 0,.int .i64 0,.int .i64 0,.int .i64 0,.int .i64 0,.int .i64 0,.int .i64 0,.int .i64 0,.int .i64 0,.int .i64 0,.int .i64 0,.int .i64 0,.int .i64 0,.int .i64 0,.int .i64 0,.int .i64 0,.int .i64 0,.int .i64 0,.int .i64 0,.int .i64 0,.int .i64 0,.int .i64 0,.int .i64 0,.int .i64 0,.int .i64 0,.int .i64 0,.int .i64 0,.int .i64 0,.int .i64 0,.int .i64 0,.int .i64 0,.int .i64 0,.int .i64 0,.int .i64 0,.int .i64 0,.int .i64 0,.int .i64 0,.int .i64 0,.int .i64 0,.int .i64 0,.int .i64 0,.int .i64 0,.int .i64 0,.int .i64 0,.int .i64 0,.int .i64 0,.int .i64 0,.int .i64 0,.int .i64 0,.int .i64 0,.int .i64 0,.int .i64 0,.int .i64 0,.int .i64 0,.int .i64 0,.int .i64 0,.int .i64 0,.int .i64 0,.int .i64 0,.int .i64 0,.int .i64 0,.int .i64 0,.int .i64 0,.int .i64 0,.int .i64 0,.int .i64 0,.int .i64 0,.int .i64 0,.int .i64 0,.int .i64 0,.int .i64 0,.int .i64 0,.int .i64 0,.int .i64 0,.int .i64 0,.int .i64 0,.int .i64 0,.int .i64 0,.int .i64 0,.int .i64 0,.int .i64 0,.int .i64 0,.int .i64 0,.int .i64 0,.int .i64 0,.int .i64 0,.int .i64 0,.int .i64 0,.int .i64 0,.int .i64 0,.int .i64 0,.int .i64 0,.int .i64 0,.int .i64 0,.int .i64 0,.int .i64 0,.int .i64 0,.int .i64 0,.int .i64 0,.int .i64 0,.int .i64 0,.int .i64 0,.int .i64 0,.int .i64 0,.int .i64 0,.int .i64 0,.int .i64 0,.int .i64 0,.int .i64 0,.int .i64 0,.int .i64 0,.int .i64 0,.int .i64 0,.int .i64 0,.int .i64 0,.int .i64 0,.int .i64 0,.int .i64 0,.int .i64 0,.int .i64 0,.int .i64 0,.int .i64 0,.int .i64 0] }
theorem qop:ti137.ok Tryz.prog 137:=⟨Tryz.underlying137,rfl,by kernel_rfl,by kernel_rfl,by kernel_rfl,by decide,(fun h=>by cases h),by kernel_rfl,by kernel_rfl⟩
def ti138:TI:={ kind:=.sc,desc:=.map 38 3,size:=1,bytes:=8,zeros:=[.map none] }
theorem qnO:ti138.ok Tryz.prog 138:=⟨Tryz.underlying138,trivial,by kernel_rfl,rfl,rfl,by decide,fun _=>rfl,by kernel_rfl,by kernel_rfl⟩
def ti139:TI:={ kind:=.st [0,10,11,267,268],desc:=.struct #[{ name := "State", type:=82,offset:=0,embedded:=true,tag := "", pkgPath := "", byteOffset:=0 },fD9 "instructions" 22 10 "scriptorium/tiny" 112,fD9 "small" 137 11 "scriptorium/tiny" 136,fD9 "others" 138 267 "scriptorium/tiny" 2184,fD9 "operand" 38 268 "scriptorium/tiny" 2192],size:=269,bytes:=2200,zeros:=[.slice none 0 0,.int .u32 0,.int .u32 0,.int .u32 0,.int .u32 0,.int .u32 0,.slice none 0 0,.slice none 0 0,.int .i64 0,.int .u32 0,.slice none 0 0,.int .i64 0,.int .i64 0,.int .i64 0,.int .i64 0,.int .i64 0,.int .i64 0,.int .i64 0,.int .i64 0,.int .i64 0,.int .i64 0,.int .i64 0,.int .i64 0,.int .i64 0,.int .i64 0,.int .i64 0,.int .i64 0,.int .i64 0,.int .i64 0,.int .i64 0,.int .i64 0,.int .i64 0,.int .i64 0,.int .i64 0,.int .i64 0,.int .i64 0,.int .i64 0,.int .i64 0,.int .i64 0,.int .i64 0,.int .i64 0,.int .i64 0,.int .i64 0,.int .i64 0,.int .i64 0,.int .i64 0,.int .i64 0,.int .i64 0,.int .i64 0,.int .i64 0,.int .i64 0,.int .i64 0,.int .i64 0,.int .i64 0,.int .i64 0,.int .i64 0,.int .i64 0,.int .i64 0,.int .i64 0,.int .i64 0,.int .i64 0,.int .i64 0,.int .i64 0,.int .i64 0,.int .i64 0,.int .i64 0,.int .i64 0,.int .i64 0,.int .i64 0,.int .i64 0,.int .i64 0,.int .i64 0,.int .i64 0,.int .i64 0,.int .i64 0,.int .i64 0,.int .i64 0,.int .i64 0,.int .i64 0,.int .i64 0,.int .i64 0,.int .i64 0,.int .i64 0,.int .i64 0,.int .i64 0,.int .i64 0,.int .i64 0,.int .i64 0,.int .i64 0,.int .i64 0,.int .i64 0,.int .i64 0,.int .i64 0,.int .i64 0,.int .i64 0,.int .i64 0,.int .i64 0,.int .i64 0,.int .i64 0,.int .i64 0,.int .i64 0,.int .i64 0,.int .i64 0,.int .i64 0,.int .i64 0,.int .i64 0,.int .i64 0,.int .i64 0,.int .i64 0,.int .i64 0,.int .i64 0,.int .i64 0,.int .i64 0,.int .i64 0,.int .i64 0,.int .i64 0,.int .i64 0,.int .i64 0,.int .i64 0,.int .i64 0,.int .i64 0,.int .i64 0,.int .i64 0,.int .i64 0,.int .i64 0,.int .i64 0,.int .i64 0,.int .i64 0,.int .i64 0,.int .i64 0,.int .i64 0,.int .i64 0,.int .i64 0,.int .i64 0,.int .i64 0,.int .i64 0,.int .i64 0,.int .i64 0,.int .i64 0,.int .i64 0,.int .i64 0,.int .i64 0,.int .i64 0,.int .i64 0,.int .i64 0,.int .i64 0,.int .i64 0,.int .i64 0,.int .i64 0,.int .i64 0,.int .i64 0,.int .i64 0,.int .i64 0,.int .i64 0,.int .i64 0,.int .i64 0,.int .i64 0,.int .i64 0,.int .i64 0,.int .i64 0,.int .i64 0,.int .i64 0,.int .i64 0,.int .i64 0,.int .i64 0,.int .i64 0,.int .i64 0,.int .i64 0,.int .i64 0,.int .i64 0,.int .i64 0,.int .i64 0,.int .i64 0,.int .i64 0,.int .i64 0,.int .i64 0,.int .i64 0,.int .i64 0,.int .i64 0,.int .i64 0,.int .i64 0,.int .i64 0,.int .i64 0,.int .i64 0,.int .i64 0,.int .i64 0,.int .i64 0,.int .i64 0,.int .i64 0,.int .i64 0,.int .i64 0,.int .i64 0,.int .i64 0,.int .i64 0,.int .i64 0,.int .i64 0,.int .i64 0,.int .i64 0,.int .i64 0,.int .i64 0,.int .i64 0,.int .i64 0,.int .i64 0,.int .i64 0,.int .i64 0,.int .i64 0,.int .i64 0,.int .i64 0,.int .i64 0,.int .i64 0,.int .i64 0,.int .i64 0,.int .i64 0,.int .i64 0,.int .i64 0,.int .i64 0,.int .i64 0,.int .i64 0,.int .i64 0,.int .i64 0,.int .i64 0,.int .i64 0,.int .i64 0,.int .i64 0,.int .i64 0,.int .i64 0,.int .i64 0,.int .i64 0,.int .i64 0,.int .i64 0,.int .i64 0,.int .i64 0,.int .i64 0,.int .i64 0,.int .i64 0,.int .i64 0,.int .i64 0,.int .i64 0,.int .i64 0,.int .i64 0,.int .i64 0,.int .i64 0,.int .i64 0,.int .i64 0,.int .i64 0,.int .i64 0,.int .i64 0,.int .i64 0,.int .i64 0,.int .i64 0,.int .i64 0,.int .i64 0,.int .i64 0,.int .i64 0,.int .i64 0,.int .i64 0,.int .i64 0,.int .i64 0,.int .i64 0,.int .i64 0,.int .i64 0,.int .i64 0,.int .i64 0,.int .i64 0,.int .i64 0,.int .i64 0,.int .i64 0,.map none,.int .u32 0],fsz:=[10,1,256,1,1] }
theorem qnx:ti139.ok Tryz.prog 139:=⟨Tryz.underlying139,rfl,by kernel_rfl,by kernel_rfl,by kernel_rfl,by decide,(fun h=>by cases h),by kernel_rfl,by kernel_rfl⟩
def ti140:TI:={ kind:=.st [0,10,11,267,268],desc:=.struct #[{ name := "State", type:=82,offset:=0,embedded:=true,tag := "", pkgPath := "", byteOffset:=0 },fD9 "instructions" 22 10 "scriptorium/tiny" 112,fD9 "small" 137 11 "scriptorium/tiny" 136,fD9 "others" 138 267 "scriptorium/tiny" 2184,fD9 "operand" 38 268 "scriptorium/tiny" 2192],size:=269,bytes:=2200,zeros:=[.slice none 0 0,.int .u32 0,.int .u32 0,.int .u32 0,.int .u32 0,.int .u32 0,.slice none 0 0,.slice none 0 0,.int .i64 0,.int .u32 0,.slice none 0 0,.int .i64 0,.int .i64 0,.int .i64 0,.int .i64 0,.int .i64 0,.int .i64 0,.int .i64 0,.int .i64 0,.int .i64 0,.int .i64 0,.int .i64 0,.int .i64 0,.int .i64 0,.int .i64 0,.int .i64 0,.int .i64 0,.int .i64 0,.int .i64 0,.int .i64 0,.int .i64 0,.int .i64 0,.int .i64 0,.int .i64 0,.int .i64 0,.int .i64 0,.int .i64 0,.int .i64 0,.int .i64 0,.int .i64 0,.int .i64 0,.int .i64 0,.int .i64 0,.int .i64 0,.int .i64 0,.int .i64 0,.int .i64 0,.int .i64 0,.int .i64 0,.int .i64 0,.int .i64 0,.int .i64 0,.int .i64 0,.int .i64 0,.int .i64 0,.int .i64 0,.int .i64 0,.int .i64 0,.int .i64 0,.int .i64 0,.int .i64 0,.int .i64 0,.int .i64 0,.int .i64 0,.int .i64 0,.int .i64 0,.int .i64 0,.int .i64 0,.int .i64 0,.int .i64 0,.int .i64 0,.int .i64 0,.int .i64 0,.int .i64 0,.int .i64 0,.int .i64 0,.int .i64 0,.int .i64 0,.int .i64 0,.int .i64 0,.int .i64 0,.int .i64 0,.int .i64 0,.int .i64 0,.int .i64 0,.int .i64 0,.int .i64 0,.int .i64 0,.int .i64 0,.int .i64 0,.int .i64 0,.int .i64 0,.int .i64 0,.int .i64 0,.int .i64 0,.int .i64 0,.int .i64 0,.int .i64 0,.int .i64 0,.int .i64 0,.int .i64 0,.int .i64 0,.int .i64 0,.int .i64 0,.int .i64 0,.int .i64 0,.int .i64 0,.int .i64 0,.int .i64 0,.int .i64 0,.int .i64 0,.int .i64 0,.int .i64 0,.int .i64 0,.int .i64 0,.int .i64 0,.int .i64 0,.int .i64 0,.int .i64 0,.int .i64 0,.int .i64 0,.int .i64 0,.int .i64 0,.int .i64 0,.int .i64 0,.int .i64 0,.int .i64 0,.int .i64 0,.int .i64 0,.int .i64 0,.int .i64 0,.int .i64 0,.int .i64 0,.int .i64 0,.int .i64 0,.int .i64 0,.int .i64 0,.int .i64 0,.int .i64 0,.int .i64 0,.int .i64 0,.int .i64 0,.int .i64 0,.int .i64 0,.int .i64 0,.int .i64 0,.int .i64 0,.int .i64 0,.int .i64 0,.int .i64 0,.int .i64 0,.int .i64 0,.int .i64 0,.int .i64 0,.int .i64 0,.int .i64 0,.int .i64 0,.int .i64 0,.int .i64 0,.int .i64 0,.int .i64 0,.int .i64 0,.int .i64 0,.int .i64 0,.int .i64 0,.int .i64 0,.int .i64 0,.int .i64 0,.int .i64 0,.int .i64 0,.int .i64 0,.int .i64 0,.int .i64 0,.int .i64 0,.int .i64 0,.int .i64 0,.int .i64 0,.int .i64 0,.int .i64 0,.int .i64 0,.int .i64 0,.int .i64 0,.int .i64 0,.int .i64 0,.int .i64 0,.int .i64 0,.int .i64 0,.int .i64 0,.int .i64 0,.int .i64 0,.int .i64 0,.int .i64 0,.int .i64 0,.int .i64 0,.int .i64 0,.int .i64 0,.int .i64 0,.int .i64 0,.int .i64 0,.int .i64 0,.int .i64 0,.int .i64 0,.int .i64 0,.int .i64 0,.int .i64 0,.int .i64 0,.int .i64 0,.int .i64 0,.int .i64 0,.int .i64 0,.int .i64 0,.int .i64 0,.int .i64 0,.int .i64 0,.int .i64 0,.int .i64 0,.int .i64 0,.int .i64 0,.int .i64 0,.int .i64 0,.int .i64 0,.int .i64 0,.int .i64 0,.int .i64 0,.int .i64 0,.int .i64 0,.int .i64 0,.int .i64 0,.int .i64 0,.int .i64 0,.int .i64 0,.int .i64 0,.int .i64 0,.int .i64 0,.int .i64 0,.int .i64 0,.int .i64 0,.int .i64 0,.int .i64 0,.int .i64 0,.int .i64 0,.int .i64 0,.int .i64 0,.int .i64 0,.int .i64 0,.int .i64 0,.int .i64 0,.int .i64 0,.int .i64 0,.int .i64 0,.int .i64 0,.int .i64 0,.int .i64 0,.int .i64 0,.int .i64 0,.int .i64 0,.int .i64 0,.int .i64 0,.int .i64 0,.int .i64 0,.int .i64 0,.int .i64 0,.int .i64 0,.int .i64 0,.int .i64 0,.int .i64 0,.int .i64 0,.map none,.int .u32 0],fsz:=[10,1,256,1,1] }
theorem qnX:ti140.ok Tryz.prog 140:=⟨Tryz.underlying140,rfl,by kernel_rfl,by kernel_rfl,by kernel_rfl,by decide,(fun h=>by cases h),by kernel_rfl,by kernel_rfl⟩
def ti142:TI:={ kind:=.sc,desc:=.pointer 5,size:=1,bytes:=8,zeros:=[.pointer none] }
theorem qnw:ti142.ok Tryz.prog 142:=⟨Tryz.underlying142,trivial,by kernel_rfl,rfl,rfl,by decide,fun _=>rfl,by kernel_rfl,by kernel_rfl⟩
def ti148:TI:={ kind:=.st [0,1,2,3],desc:=.struct #[fD9 "label" 9 0 "scriptorium/asm" 0,fD9 "operation" 9 1 "scriptorium/asm" 16,fD9 "has" 4 2 "scriptorium/asm" 32,fD9 "operand" 125 3 "scriptorium/asm" 40],size:=5,bytes:=64,zeros:=[St [],St [],.bool false,St [],.int .u32 0],fsz:=[1,1,1,2] }
theorem qoj:ti148.ok Tryz.prog 148:=⟨Tryz.underlying148,rfl,by kernel_rfl,rfl,rfl,by decide,(fun h=>by cases h),by kernel_rfl,by kernel_rfl⟩
def ti149:TI:={ kind:=.st [0,1,2,3],desc:=.struct #[fD9 "label" 9 0 "scriptorium/asm" 0,fD9 "operation" 9 1 "scriptorium/asm" 16,fD9 "has" 4 2 "scriptorium/asm" 32,fD9 "operand" 125 3 "scriptorium/asm" 40],size:=5,bytes:=64,zeros:=[St [],St [],.bool false,St [],.int .u32 0],fsz:=[1,1,1,2] }
theorem qpf:ti149.ok Tryz.prog 149:=⟨Tryz.underlying149,rfl,by kernel_rfl,rfl,rfl,by decide,(fun h=>by cases h),by kernel_rfl,by kernel_rfl⟩
def ti164:TI:={ kind:=.sc,desc:=.pointer 72,size:=1,bytes:=8,zeros:=[.pointer none] }
theorem qnB:ti164.ok Tryz.prog 164:=⟨Tryz.underlying164,trivial,by kernel_rfl,rfl,rfl,by decide,fun _=>rfl,by kernel_rfl,by kernel_rfl⟩
def ti187:TI:={ kind:=.ar 24 5,desc:=.array 24 5,size:=24,bytes:=24,zeros:=(List.replicate 24 (.int .u8 0)) }
theorem qoE:ti187.ok Tryz.prog 187:=⟨Tryz.underlying187,rfl,by kernel_rfl,rfl,rfl,by decide,(fun h=>by cases h),by kernel_rfl,by kernel_rfl⟩
def ti196:TI:={ kind:=.sl 198,desc:=.slice 198,size:=1,bytes:=24,zeros:=[.slice none 0 0] }
theorem qow:ti196.ok Tryz.prog 196:=⟨Tryz.underlying196,rfl,by kernel_rfl,rfl,rfl,by decide,fun _=>rfl,by kernel_rfl,by kernel_rfl⟩
def ti197:TI:={ kind:=.st [0,1],desc:=.struct #[fD9 "start" 3 0 "strings" 0,fD9 "end" 3 1 "strings" 8],size:=2,bytes:=16,zeros:=[.int .i64 0,.int .i64 0],fsz:=[1,1] }
theorem qoL:ti197.ok Tryz.prog 197:=⟨Tryz.underlying197,rfl,by kernel_rfl,rfl,rfl,by decide,(fun h=>by cases h),by kernel_rfl,by kernel_rfl⟩
def ti198:TI:={ kind:=.st [0,1],desc:=.struct #[fD9 "start" 3 0 "strings" 0,fD9 "end" 3 1 "strings" 8],size:=2,bytes:=16,zeros:=[.int .i64 0,.int .i64 0],fsz:=[1,1] }
theorem qn3:ti198.ok Tryz.prog 198:=⟨Tryz.underlying198,rfl,by kernel_rfl,rfl,rfl,by decide,(fun h=>by cases h),by kernel_rfl,by kernel_rfl⟩
def ti202:TI:={ kind:=.ar 20 116,desc:=.array 20 116,size:=20,bytes:=160,zeros:=(List.replicate 20 (.int .u64 0)) }
theorem qn6:ti202.ok Tryz.prog 202:=⟨Tryz.underlying202,rfl,by kernel_rfl,rfl,rfl,by decide,(fun h=>by cases h),by kernel_rfl,by kernel_rfl⟩
def ti203:TI:={ kind:=.ar 65 5,desc:=.array 65 5,size:=65,bytes:=65,zeros:=(List.replicate 65 (.int .u8 0)) }
theorem qoT:ti203.ok Tryz.prog 203:=⟨Tryz.underlying203,rfl,by kernel_rfl,by kernel_rfl,by kernel_rfl,by decide,(fun h=>by cases h),by kernel_rfl,by kernel_rfl⟩
def ti211:TI:={ kind:=.ar 256 5,desc:=.array 256 5,size:=256,bytes:=256,zeros:=(List.replicate 256 (.int .u8 0)) }
theorem qns:ti211.ok Tryz.prog 211:=⟨Tryz.underlying211,rfl,by kernel_rfl,by kernel_rfl,by kernel_rfl,by decide,(fun h=>by cases h),by kernel_rfl,by kernel_rfl⟩
def ti212:TI:={ kind:=.st [0,1],desc:=.struct #[fD9 "lo" 5 0 "unicode/utf8" 0,fD9 "hi" 5 1 "unicode/utf8" 1],size:=2,bytes:=2,zeros:=[.int .u8 0,.int .u8 0],fsz:=[1,1] }
theorem qni:ti212.ok Tryz.prog 212:=⟨Tryz.underlying212,rfl,by kernel_rfl,rfl,rfl,by decide,(fun h=>by cases h),by kernel_rfl,by kernel_rfl⟩
def ti213:TI:={ kind:=.st [0,1],desc:=.struct #[fD9 "lo" 5 0 "unicode/utf8" 0,fD9 "hi" 5 1 "unicode/utf8" 1],size:=2,bytes:=2,zeros:=[.int .u8 0,.int .u8 0],fsz:=[1,1] }
theorem qnb:ti213.ok Tryz.prog 213:=⟨Tryz.underlying213,rfl,by kernel_rfl,rfl,rfl,by decide,(fun h=>by cases h),by kernel_rfl,by kernel_rfl⟩
def ti214:TI:={ kind:=.ar 16 213,desc:=.array 16 213,size:=32,bytes:=32,zeros:=(List.replicate 32 (.int .u8 0)) }
theorem qnS:ti214.ok Tryz.prog 214:=⟨Tryz.underlying214,rfl,by kernel_rfl,rfl,rfl,by decide,(fun h=>by cases h),by kernel_rfl,by kernel_rfl⟩
def ti218:TI:={ kind:=.ar 32 5,desc:=.array 32 5,size:=32,bytes:=32,zeros:=(List.replicate 32 (.int .u8 0)) }
theorem qnz:ti218.ok Tryz.prog 218:=⟨Tryz.underlying218,rfl,by kernel_rfl,rfl,rfl,by decide,(fun h=>by cases h),by kernel_rfl,by kernel_rfl⟩
def ti219:TI:={ kind:=.ar 64 5,desc:=.array 64 5,size:=64,bytes:=64,zeros:=(List.replicate 64 (.int .u8 0)) }
theorem qnA:ti219.ok Tryz.prog 219:=⟨Tryz.underlying219,rfl,by kernel_rfl,by kernel_rfl,by kernel_rfl,by decide,(fun h=>by cases h),by kernel_rfl,by kernel_rfl⟩
def ti220:TI:={ kind:=.sc,desc:=.int .i64,size:=1,bytes:=8,zeros:=[.int .i64 0] }
theorem qoI:ti220.ok Tryz.prog 220:=⟨Tryz.underlying220,trivial,by kernel_rfl,rfl,rfl,by decide,fun _=>rfl,by kernel_rfl,by kernel_rfl⟩
def ti222:TI:={ kind:=.sc,desc:=.pointer 227,size:=1,bytes:=8,zeros:=[.pointer none] }
theorem qnk:ti222.ok Tryz.prog 222:=⟨Tryz.underlying222,trivial,by kernel_rfl,rfl,rfl,by decide,fun _=>rfl,by kernel_rfl,by kernel_rfl⟩
def ti226:TI:={ kind:=.st [0,1,2],desc:=.struct #[fD9 "Func" 9 0 "" 0,fD9 "Num" 9 1 "" 16,fD9 "Err" 106 2 "" 32],size:=3,bytes:=48,zeros:=[St [],St [],.nilIface],fsz:=[1,1,1] }
theorem qnL:ti226.ok Tryz.prog 226:=⟨Tryz.underlying226,rfl,by kernel_rfl,rfl,rfl,by decide,(fun h=>by cases h),by kernel_rfl,by kernel_rfl⟩
def ti227:TI:={ kind:=.st [0,1,2],desc:=.struct #[fD9 "Func" 9 0 "" 0,fD9 "Num" 9 1 "" 16,fD9 "Err" 106 2 "" 32],size:=3,bytes:=48,zeros:=[St [],St [],.nilIface],fsz:=[1,1,1] }
theorem qm7:ti227.ok Tryz.prog 227:=⟨Tryz.underlying227,rfl,by kernel_rfl,rfl,rfl,by decide,(fun h=>by cases h),by kernel_rfl,by kernel_rfl⟩
def ti229:TI:={ kind:=.sc,desc:=.pointer 231,size:=1,bytes:=8,zeros:=[.pointer none] }
theorem qoA:ti229.ok Tryz.prog 229:=⟨Tryz.underlying229,trivial,by kernel_rfl,rfl,rfl,by decide,fun _=>rfl,by kernel_rfl,by kernel_rfl⟩
def ti230:TI:={ kind:=.st [0],desc:=.struct #[fD9 "s" 9 0 "errors" 0],size:=1,bytes:=16,zeros:=[St []],fsz:=[1] }
theorem qnt:ti230.ok Tryz.prog 230:=⟨Tryz.underlying230,rfl,by kernel_rfl,rfl,rfl,by decide,(fun h=>by cases h),by kernel_rfl,by kernel_rfl⟩
def ti231:TI:={ kind:=.st [0],desc:=.struct #[fD9 "s" 9 0 "errors" 0],size:=1,bytes:=16,zeros:=[St []],fsz:=[1] }
theorem qoN:ti231.ok Tryz.prog 231:=⟨Tryz.underlying231,rfl,by kernel_rfl,rfl,rfl,by decide,(fun h=>by cases h),by kernel_rfl,by kernel_rfl⟩
def ti232:TI:={ kind:=.st [0,1,2,3],desc:=.struct #[fD9 "_interface" 17 0 "runtime" 0,fD9 "concrete" 17 1 "runtime" 8,fD9 "asserted" 17 2 "runtime" 16,fD9 "missingMethod" 9 3 "runtime" 24],size:=4,bytes:=40,zeros:=[.pointer none,.pointer none,.pointer none,St []],fsz:=[1,1,1,1] }
theorem qo5:ti232.ok Tryz.prog 232:=⟨Tryz.underlying232,rfl,by kernel_rfl,rfl,rfl,by decide,(fun h=>by cases h),by kernel_rfl,by kernel_rfl⟩
def ti233:TI:={ kind:=.st [0,1,2,3],desc:=.struct #[fD9 "_interface" 17 0 "runtime" 0,fD9 "concrete" 17 1 "runtime" 8,fD9 "asserted" 17 2 "runtime" 16,fD9 "missingMethod" 9 3 "runtime" 24],size:=4,bytes:=40,zeros:=[.pointer none,.pointer none,.pointer none,St []],fsz:=[1,1,1,1] }
theorem qnc:ti233.ok Tryz.prog 233:=⟨Tryz.underlying233,rfl,by kernel_rfl,rfl,rfl,by decide,(fun h=>by cases h),by kernel_rfl,by kernel_rfl⟩
def ti237:TI:={ kind:=.sc,desc:=.int .u8,size:=1,bytes:=1,zeros:=[.int .u8 0] }
theorem qnU:ti237.ok Tryz.prog 237:=⟨Tryz.underlying237,trivial,by kernel_rfl,rfl,rfl,by decide,fun _=>rfl,by kernel_rfl,by kernel_rfl⟩
def ti238:TI:={ kind:=.sc,desc:=.int .u8,size:=1,bytes:=1,zeros:=[.int .u8 0] }
theorem qn7:ti238.ok Tryz.prog 238:=⟨Tryz.underlying238,trivial,by kernel_rfl,rfl,rfl,by decide,fun _=>rfl,by kernel_rfl,by kernel_rfl⟩
def ti240:TI:={ kind:=.sc,desc:=.int .i32,size:=1,bytes:=4,zeros:=[.int .i32 0] }
theorem qnJ:ti240.ok Tryz.prog 240:=⟨Tryz.underlying240,trivial,by kernel_rfl,rfl,rfl,by decide,fun _=>rfl,by kernel_rfl,by kernel_rfl⟩
def ti241:TI:={ kind:=.sc,desc:=.int .i32,size:=1,bytes:=4,zeros:=[.int .i32 0] }
theorem qm9:ti241.ok Tryz.prog 241:=⟨Tryz.underlying241,trivial,by kernel_rfl,rfl,rfl,by decide,fun _=>rfl,by kernel_rfl,by kernel_rfl⟩
def ti242:TI:={ kind:=.st [0,1,2,3,4,5,6,7,8,9,10],desc:=.struct #[fD9 "Size_" 12 0 "" 0,fD9 "PtrBytes" 12 1 "" 8,fD9 "Hash" 38 2 "" 16,fD9 "TFlag" 237 3 "" 20,fD9 "Align_" 5 4 "" 21,fD9 "FieldAlign_" 5 5 "" 22,fD9 "Kind_" 238 6 "" 23,fD9 "Equal" 239 7 "" 24,fD9 "GCData" 142 8 "" 32,fD9 "Str" 240 9 "" 40,fD9 "PtrToThis" 241 10 "" 44],size:=11,bytes:=48,zeros:=[.int .u64 0,.int .u64 0,.int .u32 0,.int .u8 0,.int .u8 0,.int .u8 0,.int .u8 0,.nilFunc,.pointer none,.int .i32 0,.int .i32 0],fsz:=[1,1,1,1,1,1,1,1,1,1,1] }
theorem qpb:ti242.ok Tryz.prog 242:=⟨Tryz.underlying242,rfl,by kernel_rfl,rfl,rfl,by decide,(fun h=>by cases h),by kernel_rfl,by kernel_rfl⟩
def ti243:TI:={ kind:=.st [0,1,2,3,4,5,6,7,8,9,10],desc:=.struct #[fD9 "Size_" 12 0 "" 0,fD9 "PtrBytes" 12 1 "" 8,fD9 "Hash" 38 2 "" 16,fD9 "TFlag" 237 3 "" 20,fD9 "Align_" 5 4 "" 21,fD9 "FieldAlign_" 5 5 "" 22,fD9 "Kind_" 238 6 "" 23,fD9 "Equal" 239 7 "" 24,fD9 "GCData" 142 8 "" 32,fD9 "Str" 240 9 "" 40,fD9 "PtrToThis" 241 10 "" 44],size:=11,bytes:=48,zeros:=[.int .u64 0,.int .u64 0,.int .u32 0,.int .u8 0,.int .u8 0,.int .u8 0,.int .u8 0,.nilFunc,.pointer none,.int .i32 0,.int .i32 0],fsz:=[1,1,1,1,1,1,1,1,1,1,1] }
theorem qoR:ti243.ok Tryz.prog 243:=⟨Tryz.underlying243,rfl,by kernel_rfl,rfl,rfl,by decide,(fun h=>by cases h),by kernel_rfl,by kernel_rfl⟩
def TT:qbf:=[(2,ti2),(3,ti3),(4,ti4),(5,ti5),(6,ti6),(7,ti7),(8,ti8),(9,ti9),(10,ti10),(11,ti11),(12,ti12),(13,ti13),(14,ti14),(15,ti15),(16,ti16),(17,ti17),(18,ti18),(19,ti19),(21,ti21),(22,ti22),(23,ti23),(24,ti24),(25,ti25),(26,ti26),(28,ti28),(29,ti29),(36,ti36),(38,ti38),(39,ti39),(40,ti40),(46,ti46),(59,ti59),(60,ti60),(64,ti64),(65,ti65),(66,ti66),(69,ti69),(70,ti70),(71,ti71),(72,ti72),(73,ti73),(76,ti76),(77,ti77),(78,ti78),(79,ti79),(80,ti80),(81,ti81),(82,ti82),(86,ti86),(89,ti89),(90,ti90),(97,ti97),(100,ti100),(102,ti102),(103,ti103),(104,ti104),(115,ti115),(116,ti116),(121,ti121),(124,ti124),(125,ti125),(126,ti126),(127,ti127),(135,ti135),(137,ti137),(138,ti138),(139,ti139),(140,ti140),(142,ti142),(148,ti148),(149,ti149),(164,ti164),(187,ti187),(196,ti196),(197,ti197),(198,ti198),(202,ti202),(203,ti203),(211,ti211),(212,ti212),(213,ti213),(214,ti214),(218,ti218),(219,ti219),(220,ti220),(222,ti222),(226,ti226),(227,ti227),(229,ti229),(230,ti230),(231,ti231),(232,ti232),(233,ti233),(237,ti237),(238,ti238),(240,ti240),(241,ti241),(242,ti242),(243,ti243)]
theorem qaG:TabOK Tryz.prog TT:=TabOK.cons qsA (TabOK.cons qjX (TabOK.cons qtH (TabOK.cons qs1 (TabOK.cons qsD (TabOK.cons qtk (TabOK.cons qsX (TabOK.cons qpu (TabOK.cons qpS (TabOK.cons qq6 (TabOK.cons qr7 (TabOK.cons qp5 (TabOK.cons qp2 (TabOK.cons qrC (TabOK.cons qqd (TabOK.cons qrU (TabOK.cons qrZ (TabOK.cons qpK (TabOK.cons qrq (TabOK.cons qpL (TabOK.cons qq3 (TabOK.cons qr1 (TabOK.cons qrV (TabOK.cons qqI (TabOK.cons qp0 (TabOK.cons qry (TabOK.cons qq8 (TabOK.cons qhb (TabOK.cons qqz (TabOK.cons qqk (TabOK.cons qrM (TabOK.cons qrP (TabOK.cons qrf (TabOK.cons qr6 (TabOK.cons qrR (TabOK.cons qpY (TabOK.cons qrY (TabOK.cons qse (TabOK.cons qrw (TabOK.cons qqU (TabOK.cons qqj (TabOK.cons qr4 (TabOK.cons qro (TabOK.cons qp7 (TabOK.cons qrO (TabOK.cons qrx (TabOK.cons qpP (TabOK.cons qqJ (TabOK.cons qqG (TabOK.cons qp4 (TabOK.cons qqa (TabOK.cons qqw (TabOK.cons qo7 (TabOK.cons qnW (TabOK.cons qpe (TabOK.cons qo3 (TabOK.cons qn8 (TabOK.cons qo4 (TabOK.cons qpg (TabOK.cons qnD (TabOK.cons qol (TabOK.cons qno (TabOK.cons qod (TabOK.cons qnE (TabOK.cons qop (TabOK.cons qnO (TabOK.cons qnx (TabOK.cons qnX (TabOK.cons qnw (TabOK.cons qoj (TabOK.cons qpf (TabOK.cons qnB (TabOK.cons qoE (TabOK.cons qow (TabOK.cons qoL (TabOK.cons qn3 (TabOK.cons qn6 (TabOK.cons qoT (TabOK.cons qns (TabOK.cons qni (TabOK.cons qnb (TabOK.cons qnS (TabOK.cons qnz (TabOK.cons qnA (TabOK.cons qoI (TabOK.cons qnk (TabOK.cons qnL (TabOK.cons qm7 (TabOK.cons qoA (TabOK.cons qnt (TabOK.cons qoN (TabOK.cons qo5 (TabOK.cons qnc (TabOK.cons qnU (TabOK.cons qn7 (TabOK.cons qnJ (TabOK.cons qm9 (TabOK.cons qpb (TabOK.cons qoR ( TabOK.nil)))))))))))))))))))))))))))))))))))))))))))))))))))))))))))))))))))))))))))))))))))))))))))))))))))
theorem qaf:Tryz.prog.follows .mixedOrders=true:=by kernel_rfl
end Go.FL
namespace Go.Proofs.YtjindleklapakaaGreatDoor
open Go Go.FL
structure Tm where
 kind:Int
 val:Int
 deriving DecidableEq
structure Ac where
 kind:Int
 tgt:Int
 x:Tm
 y:Tm
 deriving DecidableEq
structure Ins where
 name:List UInt8
 code:Int
 operand:Bool
 acts:List Ac
 deriving DecidableEq
structure Tab where
 cells:Int
 ins:List Ins
 deriving DecidableEq
def Sl{α:Type}(sz:Nat)(R:World→α→List Value→Prop)(s:World)(A:Option Addr)(n c:Nat)(l:List α):Prop:=
 n=l.length∧n≤c∧c≤9223372036854775807∧∀ i x,l[i]?=some x→∃ b off cs,A=some ⟨b,off,none⟩∧CellsAt s b (off+i * sz) cs∧cs.length=sz∧R s x cs
theorem Sl.le{α:Type}{sz:Nat}{R:World→α→List Value→Prop}{D:Nat}{s s':World}{A:Option Addr}{n c:Nat}{l:List α}(hR:∀ x cs,R s x cs→R s' x cs)(h:Sl sz R s A n c l)(hl:Le D s s'):Sl sz R s' A n c l:=
 ⟨h.1,h.2.1,h.2.2.1,fun i x hi=>by
  obtain ⟨b,off,cs,h1,h2,h3,h4⟩:=h.2.2.2 i x hi
  exact ⟨b,off,cs,h1,h2.le hl,h3,hR x cs h4⟩⟩
def U32(x:Int):Prop:=0≤x∧x < 4294967296
def Ac.cs(a:Ac):List Value:=[.int .i64 a.kind,.int .i64 a.tgt,.int .i64 a.x.kind,.int .u32 a.x.val,.int .i64 a.y.kind,.int .u32 a.y.val]
def Acs(s:World)(A:Option Addr)(n c:Nat)(l:List Ac):Prop:=Sl 6 (fun _ a cs=>cs=a.cs∧U32 a.x.val∧U32 a.y.val) s A n c l
theorem Acs.le{D:Nat}{s s':World}{A:Option Addr}{n c:Nat}{l:List Ac}(h:Acs s A n c l)(hl:Le D s s'):Acs s' A n c l:=Sl.le (fun _ _ h=>h) h hl
def InsR(s:World)(x:Ins)(cs:List Value):Prop:=∃ A n c,cs=[St x.name,.int .u32 x.code,.bool x.operand,.slice A n c]∧Acs s A n c x.acts∧x.name.length≤9223372036854775807∧U32 x.code
def Inss(s:World)(A:Option Addr)(n c:Nat)(l:List Ins):Prop:=Sl 4 InsR s A n c l
theorem InsR.le{D:Nat}{s s':World}{x:Ins}{cs:List Value}(h:InsR s x cs)(hl:Le D s s'):InsR s' x cs:=by
 obtain ⟨A,n,c,h1,h2,h3⟩:=h
 exact ⟨A,n,c,h1,h2.le hl,h3⟩
theorem Inss.le{D:Nat}{s s':World}{A:Option Addr}{n c:Nat}{l:List Ins}(h:Inss s A n c l)(hl:Le D s s'):Inss s' A n c l:=Sl.le (fun _ _ h=>h.le hl) h hl
theorem Acs.at_{s:World}{A:Option Addr}{n c k:Nat}{l:List Ac}(h:Acs s A n c l)(hk:k < n):∃ b off a,A=some ⟨b,off,none⟩∧l[k]?=some a ∧
  CellsAt s b (off+k * 6) [.int .i64 a.kind,.int .i64 a.tgt,.int .i64 a.x.kind,.int .u32 a.x.val,.int .i64 a.y.kind,.int .u32 a.y.val]∧U32 a.x.val∧U32 a.y.val:=by
 have hl:k < l.length:=by rw [← h.1];exact hk
 obtain ⟨b,off,cs,h1,h2,_,rfl,h5⟩:=h.2.2.2 k l[k] (List.getElem?_eq_getElem hl)
 exact ⟨b,off,l[k],h1,List.getElem?_eq_getElem hl,h2,h5⟩
theorem Inss.at_{s:World}{A:Option Addr}{n c k:Nat}{l:List Ins}(h:Inss s A n c l)(hk:k < n):∃ b off x A' n' c',A=some ⟨b,off,none⟩∧l[k]?=some x ∧
  CellsAt s b (off+k * 4) [St x.name,.int .u32 x.code,.bool x.operand,.slice A' n' c']∧Acs s A' n' c' x.acts∧x.name.length≤9223372036854775807∧U32 x.code:=by
 have hl:k < l.length:=by rw [← h.1];exact hk
 obtain ⟨b,off,cs,h1,h2,_,A',n',c',rfl,h5,h6⟩:=h.2.2.2 k l[k] (List.getElem?_eq_getElem hl)
 exact ⟨b,off,l[k],A',n',c',h1,List.getElem?_eq_getElem hl,h2,h5,h6⟩
theorem Sl.take{α:Type}{sz:Nat}{R:World→α→List Value→Prop}{s:World}{A:Option Addr}{n c k:Nat}{l:List α}(h:Sl sz R s A n c l)(hk:k < n):Sl sz R s A k c (l.take k):=
 ⟨by have:=h.1;simp;omega,by have:=h.2.1;omega,h.2.2.1,fun i x hi=>h.2.2.2 i x (by
  rw [List.getElem?_take] at hi
  split at hi
  · exact hi
  · cases hi)⟩
theorem Inss.take{s:World}{A:Option Addr}{n c k:Nat}{l:List Ins}(h:Inss s A n c l)(hk:k < n):Inss s A k c (l.take k):=Sl.take h hk
def Wds(s:World)(A:Option Addr)(n c:Nat)(l:List Int):Prop:=Sl 1 (fun _ x cs=>cs=[.int .u32 x]∧U32 x) s A n c l
def Bts(s:World)(A:Option Addr)(n c:Nat)(l:List UInt8):Prop:=Sl 1 (fun _ x cs=>cs=[.int .u8 (x.toNat:Int)]) s A n c l
theorem Wds.le{D:Nat}{s s':World}{A:Option Addr}{n c:Nat}{l:List Int}(h:Wds s A n c l)(hl:Le D s s'):Wds s' A n c l:=Sl.le (fun _ _ h=>h) h hl
theorem Bts.le{D:Nat}{s s':World}{A:Option Addr}{n c:Nat}{l:List UInt8}(h:Bts s A n c l)(hl:Le D s s'):Bts s' A n c l:=Sl.le (fun _ _ h=>h) h hl
theorem Wds.at_{s:World}{A:Option Addr}{n c k:Nat}{l:List Int}(h:Wds s A n c l)(hk:k < n):∃ b off x,A=some ⟨b,off,none⟩∧l[k]?=some x∧CellsAt s b (off+k) [.int .u32 x]∧U32 x:=by
 have hl:k < l.length:=by rw [← h.1];exact hk
 obtain ⟨b,off,cs,h1,h2,_,rfl,h4⟩:=h.2.2.2 k l[k] (List.getElem?_eq_getElem hl)
 exact ⟨b,off,l[k],h1,List.getElem?_eq_getElem hl,by simpa using h2,h4⟩
theorem Bts.at_{s:World}{A:Option Addr}{n c k:Nat}{l:List UInt8}(h:Bts s A n c l)(hk:k < n):∃ b off x,A=some ⟨b,off,none⟩∧l[k]?=some x∧CellsAt s b (off+k) [.int .u8 (x.toNat:Int)]:=by
 have hl:k < l.length:=by rw [← h.1];exact hk
 obtain ⟨b,off,cs,h1,h2,_,rfl⟩:=h.2.2.2 k l[k] (List.getElem?_eq_getElem hl)
 exact ⟨b,off,l[k],h1,List.getElem?_eq_getElem hl,by simpa using h2⟩
structure Mst where
 cells:List Int
 r0:Int
 r1:Int
 r2:Int
 r3:Int
 r4:Int
 input:List UInt8
 output:List UInt8
 stop:Int
 code:Int
 deriving DecidableEq
theorem qaS{α:Type}{p:Nat→α→Prop}{l:List α}{k:Nat}{a:α}(h:∀ i b,i < k→l[i]?=some b→p i b)(hk:l[k]?=some a)(ha:p k a):∀ i b,i < k+1→l[i]?=some b→p i b:=by
 intro i b hi hb
 rcases Nat.lt_succ_iff_lt_or_eq.1 hi with h1 | rfl
 · exact h i b h1 hb
 · rw [hk] at hb;injection hb with hb;subst hb;exact ha
def qft(c:UInt8):Bool:=decide (97≤c.toNat) && decide (c.toNat≤122)
def qdk(c:UInt8):Bool:=decide (48≤c.toNat) && decide (c.toNat≤57)
def qdi(i:Nat)(c:UInt8):Bool:=qft c || (qdk c && decide (i≠0))
def qbB(i:Nat):List UInt8→Bool
 | []=>true
 | c::r=>qdi i c && qbB (i+1) r
theorem qfk(l:List UInt8)(i:Nat):qbB i l=true↔∀ j c,l[j]?=some c→qdi (i+j) c=true:=by
  induction l generalizing i with
  | nil=>simp [qbB]
  | cons c r ih=>
    simp only [qbB,Bool.and_eq_true,ih]
    constructor
    · rintro ⟨h1,h2⟩ j d hj
      cases j with
      | zero=>simp at hj;subst hj;exact h1
      | succ j=>simp at hj;have:=h2 j d hj;rwa [Nat.add_assoc,Nat.add_comm 1 j] at this
    · intro h
      exact ⟨by simpa using h 0 c (by simp),fun j d hj=>by have:=h (j+1) d (by simpa using hj);rwa [Nat.add_assoc,Nat.add_comm 1 j]⟩
theorem qiM{l:List UInt8}(h:∀ i c,i < l.length→l[i]?=some c→qdi i c=true):qbB 0 l=true:=
 (qfk l 0).2 fun j c hj=>by
  have hl:j < l.length:=(List.getElem?_eq_some_iff.1 hj).1
  simpa using h j c hl hj
theorem qcd{l:List UInt8}{k:Nat}{c:UInt8}(hk:l[k]?=some c)(h:qdi k c=false):qbB 0 l=false:=by
 cases hb:qbB 0 l with
 | false=>rfl
 | true=>have:=(qfk l 0).1 hb k c hk;simp at this;rw [this] at h;cases h
def qaE(l:List UInt8):Bool:=decide (l≠[]) && decide (l.length≤6) && qbB 0 l
def qez(l:List UInt8):Bool:=qaE l && decide (l≠[119,111,114,100]) && decide (l≠[115,112,97,99,101])
def qdY:List Int→Int
 | []=>0
 | c::r=>if c≠0 then c else qdY r
theorem qi1{α:Type}{f:α→Int}{l:List α}{k:Nat}{a:α}(h:∀ i b,i < k→l[i]?=some b→f b=0)(hk:l[k]?=some a)(ha:f a≠0):qdY (l.map f)=f a:=by
 induction l generalizing k with
 | nil=>simp at hk
 | cons b r ih=>
  cases k with
  | zero=>simp at hk;subst hk;simp [qdY,ha]
  | succ k=>
   have h0:=h 0 b O (by simp)
   simp only [List.map_cons,qdY,h0,ne_eq,not_true,if_false]
   exact ih (k:=k) (fun i c hi hc=>h (i+1) c O (by simpa using hc)) (by simpa using hk)
theorem qiT{α:Type}{f:α→Int}{l:List α}(h:∀ i b,i < l.length→l[i]?=some b→f b=0):qdY (l.map f)=0:=by
 induction l with
 | nil=>rfl
 | cons b r ih=>
  have h0:=h 0 b (by simp) (by simp)
  simp only [List.map_cons,qdY,h0,ne_eq,not_true,if_false]
  exact ih fun i c hi hc=>h (i+1) c (by simp;omega) (by simpa using hc)
def qb3(f:Nat→Int):Nat→Nat→Int×Int
 | 0,_=>(0,0)
 | m+1,k=>if f k≠0 then (f k,(k:Int)) else qb3 f m (k+1)
theorem qd6{f:Nat→Int}{m k j:Nat}(h:∀ i,j≤i→i < k→f i=0)(hj:j≤k)(hk:f k≠0)(hm:k < j+m):qb3 f m j=(f k,(k:Int)):=by
  induction m generalizing j with
  | zero=>omega
  | succ m ih=>
    by_cases he:j=k
    · subst he;simp [qb3,hk]
    · have h0:=h j (Nat.le_refl _) O
      simp only [qb3,h0,ne_eq,not_true,if_false]
      exact ih (fun i h1 h2=>h i O h2) O O
theorem qdQ{f:Nat→Int}{m j:Nat}(h:∀ i,j≤i→i < j+m→f i=0):qb3 f m j=(0,0):=by
 induction m generalizing j with
 | zero=>rfl
 | succ m ih=>
  have h0:=h j (Nat.le_refl _) O
  simp only [qb3,h0,ne_eq,not_true,if_false]
  exact ih fun i h1 h2=>h i O O
def qcp(k:Int):Bool:=!(decide (k=14) || decide (k=18) || decide (k=16) || decide (k=17))
def qcr(k:Int):Bool:=!(decide (k=15))
def qco(k:Int):Bool:=!(decide (k=16) || decide (k=17) || decide (k=15) || decide (k=0) || decide (k=13))
def qgw(t:Tm)(u o:Bool):Bool:=if u then (decide (t.kind=0) || decide (t.kind=1) && decide (t.val≤4) || decide (t.kind=2) && decide (t.val=0) && o) else decide (t.kind=0) && decide (t.val=0)
def qbT(a:Ac)(o:Bool):Int:=
 if a.kind < 0∨20≤a.kind then 5 else if a.tgt < 0∨4 < a.tgt then 4
 else if (!qcp a.kind && decide (a.tgt≠0)) || !qgw a.x (qcr a.kind) o || !qgw a.y (qco a.kind) o then 6 else 0
def qb8(x:Ins):Int:=if qez x.name=false then 7 else if 8 < x.acts.length then 2 else qdY (x.acts.map fun a=>qbT a x.operand)
def qdz(x y:Ins):Bool:=decide (x.name=y.name) || decide (x.code=y.code)
def qce{α:Type}(p:α→Bool):List α→Nat→Int
 | [],_=>-1
 | x::r,k=>if p x then (k:Int) else qce p r (k+1)
theorem qe9{α:Type}{p:α→Bool}{l:List α}{k j:Nat}{a:α}(h:∀ i b,i < k→l[i]?=some b→p b=false)(hk:l[k]?=some a)(ha:p a=true):qce p l j=(j+k:Nat):=by
 induction l generalizing k j with
 | nil=>simp at hk
 | cons b r ih=>
  cases k with
  | zero=>simp at hk;subst hk;simp [qce,ha]
  | succ k=>
   have h0:=h 0 b O (by simp)
   simp only [qce,h0,Bool.false_eq_true,if_false]
   rw [ih (k:=k) (fun i c hi hc=>h (i+1) c O (by simpa using hc)) (by simpa using hk)]
   congr 1;omega
theorem qeu{α:Type}{p:α→Bool}{l:List α}{j:Nat}(h:∀ i b,i < l.length→l[i]?=some b→p b=false):qce p l j=-1:=by
 induction l generalizing j with
 | nil=>rfl
 | cons b r ih=>
  have h0:=h 0 b (by simp) (by simp)
  simp only [qce,h0,Bool.false_eq_true,if_false]
  exact ih fun i c hi hc=>h (i+1) c (by simp;omega) (by simpa using hc)
theorem qih{α:Type}(p:α→Bool)(l:List α)(j:Nat):decide (0≤qce p l j)=l.any p:=by
 induction l generalizing j with
 | nil=>simp [qce]
 | cons b r ih=>
  by_cases hb:p b=true
  · simp [qce,hb]
  · simp only [qce,hb];simpa [hb] using ih (j+1)
def qbR(l:List Ins)(k:Nat):Int:=match l[k]? with
 | none=>0
 | some x=>if qb8 x≠0 then qb8 x else if (l.take k).any (qdz x) then 8 else 0
def qak(t:Tab):Int×Int:=
 if t.cells < 1∨65536 < t.cells then (4,-1) else if 64 < t.ins.length then (2,-1) else qb3 (qbR t.ins) t.ins.length 0
theorem qot{t:Tab}(h0:1≤t.cells∧t.cells≤65536)(h1:t.ins.length≤64)(hI:∀ i,i < t.ins.length→qbR t.ins i=0):qak t=(0,0):=by
 have hb:=qdQ (f:=qbR t.ins) (m:=t.ins.length) (j:=0) (fun i _ hi=>hI i O)
 unfold qak
 rw [if_neg O,if_neg O,hb]
theorem qoH{α:Type}{l:List α}{p:α→Bool}{m k:Nat}{y:α}(hy:l[m]?=some y)(hm:m < k)(h:p y=true):(l.take k).any p=true:=by
 rw [List.any_eq_true]
 exact ⟨y,List.mem_of_getElem? (i:=m) (by rw [List.getElem?_take,if_pos hm];exact hy),h⟩
open Go.Proofs.Tryz
theorem qit{P:Program}{t:Nat}{ti:TI}(h:ti.ok P t)(hk:qex ti.kind=true)(w:World):(isAgg t).run P w=.ok false w:=by rw [qfy h,hk];rfl
theorem qph(d:Nat)(a b c e:Int)(w:World):(Op.equalIn (d+2) 70 (.agg #[.int .i64 a,.int .u32 b]) (.agg #[.int .i64 c,.int .u32 e])).run prog w=.ok (decide (a=c) && decide (b=e)) w:=by
 rw [run_equalIn_agg w (d+1) 70 _ _ V V]
 simp only [Program.fieldsOf,underlying70,Op.eqFields,part]
 simp [qit qjX rfl,qit qhb rfl,run_equalIn_int w d 3 .i64 .i64 _ _ underlying3,run_equalIn_int w d 38 .u32 .u32 _ _ underlying38]
 by_cases h1:a=c <;> by_cases h2:b=e <;> simp [h1,h2]
theorem qtA(a b c d:Int):EqA prog 70 [.int .i64 a,.int .u32 b] [.int .i64 c,.int .u32 d] (decide (a=c) && decide (b=d)):=⟨by kernel_rfl,fun w=>qph 9998 a b c d w⟩
theorem qdD(a b c d:Int):EqA prog 29 [.int .i64 a,.int .i64 b] [.int .i64 c,.int .i64 d] (decide (a=c∧b=d)):=⟨by kernel_rfl,fun w=>by
 show (Op.equalIn (9998+2) 29 _ _).run prog w=_
 rw [run_equalIn_agg w 9999 29 _ _ V V]
 simp only [Program.fieldsOf,underlying29,Op.eqFields,part]
 simp [qit qjX rfl,run_equalIn_int w 9998 3 .i64 .i64 _ _ underlying3]
 by_cases h1:a=c <;> by_cases h2:b=d <;> simp [h1,h2]⟩
end Go.Proofs.YtjindleklapakaaGreatDoor
namespace Go.FL
open Go Go.RowKit
variable{D:Nat}
theorem qj6{L L':Hl}{s w':World}(h:OKL D L s)(hos:w'.os=s.os)(htp:w'.tape=s.tape)(hout:w'.output=s.output)(hsz:s.heap.size≤w'.heap.size)(hnd:(L'.map (·.1)).Nodup)
    (hin:∀ x∈L',w'.heap[x.1]?=some x.2) (hkeys:∀ x∈L',x.1∈L.map (·.1)∨s.heap.size≤x.1) (hold:∀ k,k < s.heap.size→k ∉ L.map (·.1)→w'.heap[k]?=s.heap[k]?) :
    w'=fill L' (qcB D L' w')∧OKL D L' (qcB D L' w')∧Le D s (qcB D L' w'):=by
  have hlt:∀ x∈L',x.1 < w'.heap.size:=fun x hx=>by
    have:=hin x hx
    rcases Nat.lt_or_ge x.1 w'.heap.size with h1 | h1
    · exact h1
    · rw [Array.getElem?_eq_none h1] at this;cases this
  have hok:OKL D L' (qcB D L' w'):=⟨hnd,fun x hx=>qh0 hlt (List.mem_map.2 ⟨x,hx,rfl⟩)⟩
  refine ⟨qdu (qdr fun k=>?_) ?_ ?_ ?_ ?_,hok,⟨?_,?_,?_,by rw [qfH];exact hsz,fun k hk=>?_⟩⟩
  · by_cases hk:k∈L'.map (·.1)
    · obtain ⟨x,hx,rfl⟩:=List.mem_map.1 hk
      rw [qa3 hok hx,hin x hx]
    · rw [qa4 hk,qdb hk]
  · rw [qbI,qer]
  · rw [qcX,qga]
  · rw [qcM,qfY]
  · rw [qbh,qdq]
  · rw [qfY,hos]
  · rw [qer,htp]
  · rw [qdq,hout]
  · by_cases hd:s.heap[k]?=some (dum D)
    · exact .inl hd
    · have hk1:=qhC h hd
      have hk2:k ∉ L'.map (·.1):=fun hm=>by
        obtain ⟨x,hx,rfl⟩:=List.mem_map.1 hm
        rcases hkeys x hx with h1 | h1
        · exact hk1 h1
        · omega
      exact .inr (by rw [qdb hk2,hold k hk hk1])
inductive Own(e sz:Nat):Hl→Value→Nat→List Value→Prop
 | nil:FL.Own e sz [] (.slice none 0 0) 0 []
 | blk (b cap n:Nat) (xs ys:List Value) (hn:xs.length=n * sz) (hc:xs.length+ys.length=cap * sz) (hnc:n≤cap) (hm:cap≤9223372036854775807):FL.Own e sz [(b,cb (xs++ys) e)] (.slice (some ⟨b,0,none⟩) n cap) n xs
def Row(s:World)(A:Option Addr)(m sz:Nat)(news:List Value):Prop:=
 news.length=m * sz∧(∀ u∈news,u.oneCell'=true)∧∀ j u,news[j]?=some u→∃ b off,A=some ⟨b,off,none⟩∧s.cell? ⟨b,off+j,none⟩=some u
theorem Row.of_cells{s:World}{b off m sz:Nat}{news:List Value}(h:CellsAt s b off news)(hl:news.length=m * sz)(h1:news.all (·.oneCell')=true):Row s (some ⟨b,off,none⟩) m sz news:=
 ⟨hl,fun u hu=>List.all_eq_true.1 h1 u hu,fun j u hj=>⟨b,off,rfl,h j u hj⟩⟩
theorem Row.le{s s':World}{A:Option Addr}{m sz:Nat}{news:List Value}(h:Row s A m sz news)(hl:Le D s s'):Row s' A m sz news:=
 ⟨h.1,h.2.1,fun j u hj=>by obtain ⟨b,off,h1,h2⟩:=h.2.2 j u hj;exact ⟨b,off,h1,hl.cell h2⟩⟩
theorem Own.owns{e sz:Nat}{A:Hl}{v:Value}{n:Nat}{xs:List Value}(h:FL.Own e sz A v n xs){w:World}(hw:∀ x∈A,w.heap[x.1]?=some x.2):w.ownsRow 0 e sz v n xs:=by
 cases h with
 | nil=>exact World.ownsRow_nil w 0 e sz
 | blk b cap n xs ys hn hc hnc hm=>
  refine ⟨hn,.inr ⟨b,cap,(xs++ys).toArray,Z,Nat.zero_le _,hw _ Mc,hnc,by simpa [maxLen] using hm,by simpa using hc,?_⟩⟩
  rw [← hn];simp
theorem Own.key{e sz:Nat}{A:Hl}{v:Value}{n:Nat}{xs:List Value}(h:FL.Own e sz A v n xs)(k:Nat):k∈A.map (·.1)↔v.ownBlock=some k:=by
 cases h with
 | nil=>simp [Value.ownBlock]
 | blk b cap n xs ys=>simp [Value.ownBlock,eq_comm]
theorem Own.of_owns{e sz:Nat}{w:World}{v:Value}{n:Nat}{xs:List Value}(h:w.ownsRow 0 e sz v n xs):∃ A,FL.Own e sz A v n xs∧∀ x∈A,w.heap[x.1]?=some x.2:=by
  obtain ⟨h1,h2⟩:=h
  rcases h2 with ⟨rfl,rfl⟩ | ⟨g,cap,cur,rfl,_,hg,hnc,hcm,hcs,ht⟩
  · have:xs=[]:=List.eq_nil_of_length_eq_zero (by simpa using h1)
    subst this
    exact ⟨[],.nil,fun x hx=>by cases hx⟩
  · have he:cur=(xs++cur.toList.drop (n * sz)).toArray:=by
      rw [← ht,List.take_append_drop]
    have hcs':xs.length+(cur.toList.drop (n * sz)).length=cap * sz:=by
      rw [← hcs,← List.length_append]
      have:=congrArg Array.size he
      simpa using this.symm
    refine ⟨[(g,cb (xs++cur.toList.drop (n * sz)) e)],.blk g cap n xs _ h1 hcs' hnc (by simpa [maxLen] using hcm),fun x hx=>?_⟩
    simp only [List.mem_singleton] at hx
    subst hx
    rw [hg,cb,← he]
theorem mem_mid{B A L0:Hl}{x:Nat×Obj}:x∈B++(A++L0)↔x∈B∨x∈A∨x∈L0:=by simp
theorem qlM{B A A' L0:Hl}{s w':World}{e sz:Nat}{v v':Value}{n n':Nat}{xs xs':List Value}(h:OKL D (B++(A++L0)) s)(hO:FL.Own e sz A v n xs)(hO':FL.Own e sz A' v' n' xs')(hA':∀ x∈A',w'.heap[x.1]?=some x.2)
    (hg:(fill (B++(A++L0)) s).grownBy w' v.ownBlock) (hat:v'.ownBlock=v.ownBlock∨v'.ownBlock=some s.heap.size) :
    w'=fill (B++(A'++L0)) (qcB D (B++(A'++L0)) w')∧OKL D (B++(A'++L0)) (qcB D (B++(A'++L0)) w')∧Le D s (qcB D (B++(A'++L0)) w'):=by
  have hnd:=h.nd
  have hkA':∀ k,k∈A'.map (·.1)→k∈A.map (·.1)∨k=s.heap.size:=fun k hk=>by
    rw [hO'.key] at hk
    rcases hat with h1 | h1
    · exact .inl ((hO.key k).2 (h1▸hk))
    · rw [h1] at hk;injection hk with hk;exact .inr hk.symm
  have hsize:=hg.size
  rw [qaC] at hsize
  have hlt:∀ x∈B++(A++L0),x.1 < s.heap.size:=fun x hx=>h.lt hx
  simp only [List.map_append,List.nodup_append,List.mem_append] at hnd
  obtain ⟨nB,⟨nA,nL,dAL⟩,dB⟩:=hnd
  have hrest:∀ x,x∈B∨x∈L0→w'.heap[x.1]?=some x.2:=fun x hx=>by
    have hmem:x∈B++(A++L0):=mem_mid.2 (by rcases hx with h1 | h1;exact .inl h1;exact .inr (.inr h1))
    rw [hg.block x.1 (by rw [qaC];exact hlt x hmem),qa3 h hmem]
    intro he
    have hk:=(hO.key x.1).2 he.symm
    rcases hx with h1 | h1
    · exact dB _ (List.mem_map.2 ⟨x,h1,rfl⟩) _ (.inl hk) rfl
    · exact dAL _ hk _ (List.mem_map.2 ⟨x,h1,rfl⟩) rfl
  refine qj6 h (hg.os.trans (qcM _ _)) (hg.tape.trans (qbI _ _)) (hg.output.trans (qbh _ _)) hsize ?_ ?_ ?_ ?_
  · have nA':(A'.map (·.1)).Nodup:=by cases hO' <;> simp
    simp only [List.map_append,List.nodup_append,List.mem_append]
    refine ⟨nB,⟨nA',nL,fun a ha b hb he=>?_⟩,fun a ha b hb he=>?_⟩
    · subst he
      rcases hkA' a ha with h1 | h1
      · exact dAL _ h1 _ hb rfl
      · obtain ⟨x,hx,rfl⟩:=List.mem_map.1 hb
        have:=hlt x (mem_mid.2 (.inr (.inr hx)));omega
    · subst he
      rcases hb with hb | hb
      · rcases hkA' a hb with h1 | h1
        · exact dB _ ha _ (.inl h1) rfl
        · obtain ⟨x,hx,rfl⟩:=List.mem_map.1 ha
          have:=hlt x (mem_mid.2 (.inl hx));omega
      · exact dB _ ha _ (.inr hb) rfl
  · intro x hx
    rcases mem_mid.1 hx with h1 | h1 | h1
    · exact hrest x (.inl h1)
    · exact hA' x h1
    · exact hrest x (.inr h1)
  · intro x hx
    rcases mem_mid.1 hx with h1 | h1 | h1
    · exact .inl (List.mem_map.2 ⟨x,mem_mid.2 (.inl h1),rfl⟩)
    · rcases hkA' x.1 (List.mem_map.2 ⟨x,h1,rfl⟩) with h2 | h2
      · exact .inl (by rw [List.map_append,List.map_append];simp only [List.mem_append];exact .inr (.inl h2))
      · exact .inr O
    · exact .inl (List.mem_map.2 ⟨x,mem_mid.2 (.inr (.inr h1)),rfl⟩)
  · intro k hk hn
    rw [hg.block k (by rw [qaC];exact hk),qa4 hn]
    intro he
    exact hn (by rw [List.map_append,List.map_append];simp only [List.mem_append];exact .inr (.inl ((hO.key k).2 he.symm)))
section
variable{P:Program}{TT:qbf}{n:Nat}{Q:qbF}{fr:Fr}{L L' K:Hl}{s s' s0:World}{ops:Array Oper}{rest:List Oper}{d ty:Nat}{op:Op}{pos:String}{af:Array Edge}{v:Value}
theorem qmo{t e m c k sz:Nat}{x y:Operand}{ti te:TI}{A1:Option Addr}{news xs:List Value}(B A L0:Hl)(hT:TabOK P TT)(hx:lk fr x=some v)(hy:lk fr y=some (.slice A1 m c))(ht:qaA TT t=some ti)(hk:ti.kind=.sl e)(he:qaA TT e=some te)(hsz:te.size=sz)
    (hO:FL.Own e sz A v k xs) (hR:Row s A1 m sz news) (h63:(k+m) * te.bytes≤140737488355328∧k+m≤9223372036854775807) (ho:OKL D (B++(A++L0)) s) :
    ∃ v' A' s',Ev P TT D fr (.call { callee:=.builtin .append,args:=#[x,y],argTypes:=#[t,t] }) ty (B++(A++L0)) s (.value v') (B++(A'++L0)) s'∧Le D s s'∧FL.Own e sz A' v' (k+m) (xs++news):=by
  have hok:=hT.at_ ht
  obtain ⟨k1,k2,_⟩:=hok
  rw [hk] at k2
  simp only [TK.fits] at k2
  rw [k2] at k1
  have hte:=hT.at_ he
  obtain ⟨i,i1,i2,i3,i4⟩:=qdC hte
  have hpos:0 < te.size:=hte.2.2.2.2.2.1
  have hzs:te.zero.cells.size=te.size:=by rw [qcD hte];simpa using hte.2.2.2.1
  have hin:∀ x∈A,(fill (B++(A++L0)) s).heap[x.1]?=some x.2:=fun x hx=>qa3 ho (mem_mid.2 (.inr (.inl hx)))
  have hown:=hO.owns hin
  by_cases hm:m=0
  · subst hm
    have hn:news=[]:=List.eq_nil_of_length_eq_zero (by simpa using hR.1)
    subst hn
    refine ⟨v,A,s,fun hT ho dst pos af g ρ hρ=>⟨?_,ho⟩,Le.refl _,by simpa using hO⟩
    have hle:∀ (A2:Option Addr) (w:World),(Builtin.firstCells te.size 0 (.slice A2 0 c)).run P w=.ok #[] w:=fun A2 w=>by
      cases A2 <;> simp [Builtin.firstCells,loadCells,loadCellsFrom]
    cases hO with
    | nil=>simp [execOp,resolve,invoke,builtin,Builtin.append_,hρ x _ hx,hρ y _ hy,run_underlying k1,qbm hte,Builtin.lenOf,hle]
    | blk b cap n xs ys hn hc hnc hm=>simp [execOp,resolve,invoke,builtin,Builtin.append_,hρ x _ hx,hρ y _ hy,run_underlying k1,qbm hte,Builtin.lenOf,hle,hnc,storeCells]
  · have h0:∃ b off,A1=some ⟨b,off,none⟩∧CellsAt s b off news:=by
      have hl:0 < news.length:=by rw [hR.1,← hsz];exact Nat.mul_pos (Nat.pos_of_ne_zero hm) hpos
      obtain ⟨b,off,h1,_⟩:=hR.2.2 0 news[0] (List.getElem?_eq_getElem hl)
      refine ⟨b,off,h1,fun j u hj=>?_⟩
      obtain ⟨b',off',h1',h2⟩:=hR.2.2 j u hj
      rw [h1] at h1'
      injection h1' with h1';injection h1' with e1 e2;subst e1;subst e2
      exact h2
    obtain ⟨b,off,rfl,hcells⟩:=h0
    obtain ⟨v',w',hrun,hown',hgr,_,hat⟩:=run_append_own_at (P:=P) (fill (B++(A++L0)) s) 0 t ty e i te.zero sz te.bytes k1 i1 i4 (i2.trans hsz) i3 (by rw [hzs,hsz]) (by rw [← hsz];exact hpos) v k xs hown ⟨b,off,none⟩ m c news hR.1
      (fun j u hj=>by rw [add_lit];exact qc4 ho (hcells j u hj)) hR.2.1 (by simpa [maxLen] using h63.2) h63.1 (Nat.zero_le _)
    obtain ⟨A',hO',hA'⟩:=Own.of_owns hown'
    rw [qaC] at hat
    obtain ⟨r1,r2,r3⟩:=qlM (D:=D) ho hO hO' hA' hgr hat
    refine ⟨v',A',qcB D (B++(A'++L0)) w',fun hT ho dst pos af g ρ hρ=>⟨?_,r2⟩,r3,hO'⟩
    rw [← r1]
    simp only [execOp,resolve,invoke,builtin,Sem.run_bind,Sem.run_pure,Result.andThen_ok,List.map_toArray,List.map_cons,List.map_nil,hρ x _ hx,hρ y _ hy,hrun]
theorem qbO{t e m c k sz:Nat}{x y:Operand}{ti te:TI}{A1:Option Addr}{news xs:List Value}(B A L0:Hl)(hL:L=B++(A++L0))(hx:lk fr x=some v)(hy:lk fr y=some (.slice A1 m c))(ht:qaA TT t=some ti)(hk:ti.kind=.sl e)(he:qaA TT e=some te)(hsz:te.size=sz)
  (hO:FL.Own e sz A v k xs) (hR:Row s A1 m sz news) (h63:(k+m) * te.bytes≤140737488355328∧k+m≤9223372036854775807) (hd:Nat.blt d n=true)
  (kk:∀ v' A' s',Le D s s'→FL.Own e sz A' v' (k+m) (xs++news)→JO P TT D n ops Q rest ((d,v')::fr) (B++(A'++L0)) s') :
  JO P TT D n ops Q (⟨some d,.call { callee:=.builtin .append,args:=#[x,y],argTypes:=#[t,t] },ty,pos,af,none⟩::rest) fr L s:=fun hT a hr ho=>by
 subst hL
 obtain ⟨v',A',s',h1,h2,h3⟩:=qmo (ty:=ty) B A L0 hT hx hy ht hk he hsz hO hR h63 ho
 exact qgf hd h1 (kk v' A' s' h2 h3) hT a hr ho
theorem qbM{i0 t e m c k sz:Nat}{g:Option (Nat×Bool)}{fuel:Nat}{listed:Array Bool}{x y:Operand}{ti te:TI}{A1:Option Addr}{news xs:List Value}(hi0:ops[i0]?=some ⟨some d,.call { callee:=.builtin .append,args:=#[x,y],argTypes:=#[t,t] },ty,pos,af,g⟩)(hgk:GOK ops fr g)
  (B A L0:Hl) (hL:L=B++(A++L0)) (hx:lk fr x=some v) (hy:lk fr y=some (.slice A1 m c)) (ht:qaA TT t=some ti) (hk:ti.kind=.sl e) (he:qaA TT e=some te) (hsz:te.size=sz)
  (hO:FL.Own e sz A v k xs) (hR:Row s A1 m sz news) (h63:(k+m) * te.bytes≤140737488355328∧k+m≤9223372036854775807) (hd:Nat.blt d n=true) (hK:∀ A',∀ x∈K,x∈B++(A++L0)→x∈B++(A'++L0))
  (kk:∀ v' A' s',Le D s s'→FL.Own e sz A' v' (k+m) (xs++news)→JA P TT D n ops Q K s0 fuel (listed.setIfInBounds i0 true) ((d,v')::fr) (B++(A'++L0)) s') :
  JB P TT D n ops Q K s0 fuel listed i0 fr L s:=fun hT a hr ho hl hKL=>by
 subst hL
 obtain ⟨v',A',s',h1,h2,h3⟩:=qmo (ty:=ty) B A L0 hT hx hy ht hk he hsz hO hR h63 ho
 exact qju hi0 hgk h1 h2 (hK A') hd (kk v' A' s' h2 h3) hT a hr ho hl hKL
theorem qka{t e sz:Nat}{ti te:TI}(ht:qaA TT t=some ti)(hk:ti.kind=.sl e)(he:qaA TT e=some te)(hd:Nat.blt d n=true)(k:∀ β s',Le D s s'→FL.Own e sz [(β,cb [] e)] (.slice (some ⟨β,0,none⟩) 0 0) 0 []→JO P TT D n ops Q rest ((d,.slice (some ⟨β,0,none⟩) 0 0)::fr) ((β,cb [] e)::L) s') :
  JO P TT D n ops Q (⟨some d,.buildSlice t 0 #[],ty,pos,af,none⟩::rest) fr L s:=fun hT a hr ho=>by
 obtain ⟨h1,h2,h3⟩:=qa2 ho (cb [] e)
 obtain ⟨k1,k2,_⟩:=hT.at_ ht
 rw [hk] at k2
 simp only [TK.fits] at k2
 rw [k2] at k1
 refine qgf hd (L':=(s.heap.size,cb [] e)::L) (s':=s.alloc (dum D)) (v:=.slice (some ⟨s.heap.size,0,none⟩) 0 0) (fun hT _ dst pos af g ρ hρ=>⟨?_,h2⟩) (k _ _ h3 (.blk s.heap.size 0 0 [] [] (by simp) (by simp) (Nat.le_refl _) O)) hT a hr ho
 rw [← h1]
 simp [execOp,Instr.buildSlice,run_underlying k1,qbm (hT.at_ he),Instr.fill,qg3,qaC,cb,show Array.range 0=#[] from rfl]
theorem qt2{t e m:Nat}{x:Operand}{ti te:TI}{ik:IntKind}{z:Value}(hT:TabOK P TT)(hx:lk fr x=some (.int ik (m:Int)))(ht:qaA TT t=some ti)(hk:ti.kind=.sl e)(he:qaA TT e=some te)(hz:te.zeros=[z])(hb:te.bytes * m≤281474976710656)(hm:m≤9223372036854775807)(ho:OKL D L s) :
  Ev P TT D fr (.makeSlice t x x) ty L s (.value (.slice (some ⟨s.heap.size,0,none⟩) m m)) ((s.heap.size,cb (List.replicate m z) e)::L) (s.alloc (dum D)):=fun _ _ dst pos af g ρ hρ=>by
 obtain ⟨h1,h2,h3⟩:=qa2 ho (cb (List.replicate m z) e)
 refine ⟨?_,h2⟩
 obtain ⟨k1,k2,_⟩:=hT.at_ ht
 rw [hk] at k2
 simp only [TK.fits] at k2
 rw [k2] at k1
 have hte:=hT.at_ he
 obtain ⟨i,i1,i2,i3,i4⟩:=qdC hte
 have hs1:te.size=1:=by rw [← hte.2.2.2.1,hz];rfl
 have hb':(i.bytes:Int) * (m:Int)≤281474976710656:=by
  have h:((te.bytes * m:Nat):Int)≤281474976710656:=by omega
  rwa [Int.natCast_mul,← i3] at h
 have hr:=run_make (P:=P) (fill L s) t e i te.zero k1 i1 i4 ik ik m m O O hb' O
 have hc:madeCells te.zero.cells ((m:Int).toNat * i.size)=(List.replicate m z).toArray:=by
  rw [i2,hs1,qcD hte,hz]
  apply Array.ext_getElem?
  intro j
  simp only [madeCells,Int.toNat_natCast,Nat.mul_one]
  by_cases hj:j < m
  · simp [hj,Nat.mod_one]
  · rw [Array.getElem?_eq_none (by simp;omega),Array.getElem?_eq_none (by simp;omega)]
 rw [hc] at hr
 simp only [execOp,hρ x _ hx,Sem.run_bind,hr,Result.andThen_ok,Sem.run_pure,qaC,Int.toNat_natCast]
 rw [← h1]
 rfl
theorem qlk{i0 t e m:Nat}{g:Option (Nat×Bool)}{fuel:Nat}{listed:Array Bool}{x:Operand}{ti te:TI}{ik:IntKind}{z:Value}(hi0:ops[i0]?=some ⟨some d,.makeSlice t x x,ty,pos,af,g⟩)(hgk:GOK ops fr g)(hx:lk fr x=some (.int ik (m:Int)))(ht:qaA TT t=some ti)(hk:ti.kind=.sl e)(he:qaA TT e=some te)(hz:te.zeros=[z])(hb:te.bytes * m≤281474976710656)(hm:m≤9223372036854775807)(hd:Nat.blt d n=true)
  (k:∀ β s',Le D s s'→JA P TT D n ops Q K s0 fuel (listed.setIfInBounds i0 true) ((d,.slice (some ⟨β,0,none⟩) m m)::fr) ((β,cb (List.replicate m z) e)::L) s'):JB P TT D n ops Q K s0 fuel listed i0 fr L s:=fun hT a hr ho hl hK=>
 qju hi0 hgk (qt2 hT hx ht hk he hz hb hm ho) (qa2 ho (cb (List.replicate m z) e)).2.2 (fun x _ h=>List.mem_cons_of_mem _ h) hd (k _ _ (qa2 ho (cb (List.replicate m z) e)).2.2) hT a hr ho hl hK
theorem qrW{t e t' b dl dc m c:Nat}{x y:Operand}{ti te:TI}{A1:Option Addr}{news zs:List Value}(i:Nat)(ho:OKL D L s)(hx:lk fr x=some (.slice (some ⟨b,0,none⟩) dl dc))(hy:lk fr y=some (.slice A1 m c))(ht:qaA TT t=some ti)(hk:ti.kind=.sl e)(he:qaA TT e=some te)(hsz:te.size=1)
    (hi:L[i]?=some (b,cb zs t')) (hR:Row s A1 m 1 news) (hm:m≤dl) (hdl:dl≤zs.length):Ev P TT D fr (.call { callee:=.builtin .copy,args:=#[x,y],argTypes:=#[t,t] }) ty L s (.value (.int .i64 (m:Int))) (qhN L i (cb (news++zs.drop m) t')) s:=fun hT _ dst pos af g ρ hρ=>by
  obtain ⟨k1,k2,_⟩:=hT.at_ ht
  rw [hk] at k2
  simp only [TK.fits] at k2
  rw [k2] at k1
  have hte:=hT.at_ he
  obtain ⟨inf,i1,i2,i3,i4⟩:=qdC hte
  have hg:=qa3 ho (List.mem_of_getElem? hi)
  have hnl:news.length=m:=by simpa using hR.1
  refine ⟨?_,qhw ho _ _⟩
  rw [qfl ho hi]
  by_cases h0:m=0
  · subst h0
    have hn:news=[]:=List.eq_nil_of_length_eq_zero hnl
    subst hn
    have hself:qbi (fill L s) b (cb ([]++zs.drop 0) t')=fill L s:=by
      refine qdu (qdr fun j=>?_) Z Z Z Z
      by_cases hj:b=j
      · subst hj
        rw [qcx _ (by rcases Nat.lt_or_ge b (fill L s).heap.size with h1 | h1;exact h1;rw [Array.getElem?_eq_none h1] at hg;cases hg),hg];simp
      · rw [qbW _ hj]
    rw [hself]
    have hle:∀ (A2:Option Addr) (w:World),(Builtin.firstCells te.size 0 (.slice A2 0 c)).run P w=.ok #[] w:=fun A2 w=>by
      cases A2 <;> simp [Builtin.firstCells,loadCells,loadCellsFrom]
    simp [execOp,resolve,invoke,builtin,Builtin.copy_,hρ x _ hx,hρ y _ hy,run_underlying k1,qbm hte,Builtin.lenOf,hle,storeCells,goInt]
  · have h0:∃ b off,A1=some ⟨b,off,none⟩∧CellsAt s b off news:=by
      have hl:0 < news.length:=by omega
      obtain ⟨b,off,h1,_⟩:=hR.2.2 0 news[0] (List.getElem?_eq_getElem hl)
      refine ⟨b,off,h1,fun j u hj=>?_⟩
      obtain ⟨b',off',h1',h2⟩:=hR.2.2 j u hj
      rw [h1] at h1'
      injection h1' with h1';injection h1' with e1 e2;subst e1;subst e2
      exact h2
    obtain ⟨b1,off1,rfl,hcells⟩:=h0
    have hrun:=run_copy_row (P:=P) (fill L s) t t ty e b 0 dl dc ⟨b1,off1,none⟩ m c zs.toArray t' news k1 (by rw [i1];simp [i2,hsz]) hg (by rw [hnl];exact (Nat.min_eq_left hm).symm) (fun j u hj=>by rw [add_lit];exact qc4 ho (hcells j u hj)) (by simp;omega) hR.2.1
    simp only [execOp,resolve,invoke,builtin,Sem.run_bind,Sem.run_pure,Result.andThen_ok,List.map_toArray,List.map_cons,List.map_nil,hρ x _ hx,hρ y _ hy,hrun,goInt,hnl]
    rw [qe4 hg]
    simp [cb]
theorem qfA{t e t' b dl dc m c:Nat}{x y:Operand}{ti te:TI}{A1:Option Addr}{news zs:List Value}(i:Nat){L':Hl}(hx:lk fr x=some (.slice (some ⟨b,0,none⟩) dl dc))(hy:lk fr y=some (.slice A1 m c))(ht:qaA TT t=some ti)(hk:ti.kind=.sl e)(he:qaA TT e=some te)(hsz:te.size=1)
  (hi:L[i]?=some (b,cb zs t')) (hR:Row s A1 m 1 news) (hm:m≤dl) (hdl:dl≤zs.length) (hL:qhN L i (cb (news++zs.drop m) t')=L') (hd:Nat.blt d n=true) (k:JO P TT D n ops Q rest ((d,.int .i64 (m:Int))::fr) L' s) :
  JO P TT D n ops Q (⟨some d,.call { callee:=.builtin .copy,args:=#[x,y],argTypes:=#[t,t] },ty,pos,af,none⟩::rest) fr L s:=fun hT a hr ho=>by
 subst hL;exact qgf hd (qrW i ho hx hy ht hk he hsz hi hR hm hdl) k hT a hr ho
theorem AC.mid{f:FuncId}{args:List Value}{R:Value→Hl→World→Prop}(X M Y:Hl)(h:AC P D f args (M++(X++Y)) s (fun v L' s'=>∃ M',L'=M'++(X++Y)∧R v M' s')) :
  AC P D f args (X++(M++Y)) s (fun v L' s'=>∃ M',L'=X++(M'++Y)∧R v M' s'):=by
 have hp:∀ M':Hl,(X++(M'++Y)).Perm (M'++(X++Y)):=fun M'=>by
  rw [← List.append_assoc,← List.append_assoc]
  exact (List.perm_append_comm).append_right Y
 refine ⟨h.1,fun ho=>?_⟩
 rw [qbn (hp M) _ ho]
 refine (h.2 (ho.perm (hp M))).mono ?_
 rintro e w' ⟨v,L',s',h1,rfl,h3,h4,M',rfl,h6⟩
 exact ⟨v,X++(M'++Y),s',h1,(qbn (hp M').symm _ h3),h3.perm (hp M').symm,h4,M',rfl,h6⟩
end
end Go.FL
