/- Part 4. -/
import Derived.Test.YtlfiplbamnpgoaaGreatDoorQ39x3
import Derived.Lib.ItoaMem
import Derived.Lib.ParseIntBCases
import Derived.Laws.Externs
import Derived.Shelf.Slices.Empties2
import Derived.Lib.Builder
import Derived.Lib.UnsafeStr
set_option linter.unusedVariables false
set_option linter.defProp false
set_option linter.unusedSimpArgs false
set_option linter.unnecessarySimpa false
set_option maxRecDepth 100000
set_option maxHeartbeats 8000000
namespace Go.Proofs.YtlfiplbamnpgoaaGreatDoor
open Go.Proofs.Tryz
open Go Go.FL Go.RowKit
variable{l:List UInt8}{pos u:Nat}
def qfm:qil prog 186:=⟨_,func186,by kernel_rfl,by kernel_rfl⟩
def qm6:qil prog 105:=⟨_,func105,by kernel_rfl,by kernel_rfl⟩
def qj0(l:List UInt8)(c:UInt8):Lib.index l [c]=Lib.indexByte l c:=by
  induction l with
  | nil=>rfl
  | cons b l ih=>
    simp only [Lib.index,Lib.indexByte,ih,List.isPrefixOf];by_cases h:b=c
    · simp [h]
    · have h':¬ c=b:=fun e=>h e.symm
      simp [h,h']
def qpf(l:List UInt8)(c:UInt8):Lib.index l [c]=qvz (fnd c l):=by rw [qj0,qfr]
def qgQ(l:List UInt8)(a b:Nat):(⟨l.toArray⟩:ByteArray).extract a b=⟨((l.drop a).take (b - a)).toArray⟩:=by
 apply ByteArray.ext;simp [ByteArray.data_extract]
def qnm(c:UInt8)(k:Nat)(l:List UInt8)(h:l.count c=k):Lib.splitB ⟨#[c]⟩ 0 k ⟨l.toArray⟩=(splitB (c.toNat:Int) l).map fun x=>⟨x.toArray⟩:=by
 induction k generalizing l with
 | zero=>
  rw [qf5];have:=qgW c l;cases hf:fnd c l with
  | none=>simp [Lib.splitB]
  | some i=>rw [hf] at this;simp only at this;omega
 | succ k ih=>
  have hc:=qgW c l;rw [qf5];cases hf:fnd c l with
  | none=>rw [hf] at hc;simp only at hc;omega
  | some i=>
   rw [hf] at hc;simp only at hc;have hi:Lib.indexB ⟨l.toArray⟩ ⟨#[c]⟩=(i:Int):=by
    show Lib.index l [c]=_;rw [qpf,hf];rfl
   have h1:¬ (i:Int)=-1:=by omega
   simp only [Lib.splitB,hi,beq_iff_eq,h1,if_false,List.map_cons];have e1:(⟨l.toArray⟩:ByteArray).extract 0 ((i:Int).toNat+0)=⟨(l.take i).toArray⟩:=by rw [qgQ];simp
   have e2:(⟨l.toArray⟩:ByteArray).extract ((i:Int).toNat+(⟨#[c]⟩:ByteArray).size) (⟨l.toArray⟩:ByteArray).size=⟨(l.drop (i+1)).toArray⟩:=by
    rw [qgQ];have:(⟨#[c]⟩:ByteArray).size=1:=rfl;rw [this];have h2:(⟨l.toArray⟩:ByteArray).size=l.length:=by simp [Lib.size_eq]
    rw [h2,List.take_of_length_le (by simp)];simp
   rw [e1,e2,ih _ O]
def qho(c:UInt8)(l:List UInt8):(splitB (c.toNat:Int) l).length=l.count c+1:=by
 generalize hn:l.length=n;induction n using Nat.strongRecOn generalizing l with
 | ind n ih=>
  rw [qf5,qgW];cases hf:fnd c l with
  | none=>rfl
  | some i=>
   simp only [List.length_cons];rw [ih (l.drop (i+1)).length (by have:=qvA hf;simp;omega) _ rfl]
section
variable(D:Nat)(L:Hl)(s:World)
def qhS{s':World}{A:Nat}{l:List (List UInt8)}{ty:TypeId}{fz:Nat×Nat}(h:s'.heap[A]?=some (.cells ((l.map fun x=>(⟨x.toArray⟩:ByteArray)).map Value.string).toArray ty fz))(hu:∀ x∈l,x.length≤9223372036854775807)(hn:l.length≤9223372036854775807):Strs s' (some ⟨A,0,none⟩) l.length l.length l:=by
 refine ⟨Z,Nat.le_refl _,hn,fun i x hi=>⟨A,0,[St x],Z,?_,Z,Z,hu x (List.mem_of_getElem? hi)⟩⟩;refine CellsAt.one ?_;simp [World.cell?,h,hi]
def qlb(l:List UInt8)(c:UInt8)(hl:l.length≤4000000):AC prog D 105 [St l,St [c],.int .i64 0,.int .i64 (-1)] L s fun v L' s'=>L=L'∧∃ A n c',v=.slice A n c'∧Strs s' A n c' (splitB (c.toNat:Int) l):=
  AC.of_calls qm6 fun ho=>by
    have hsz:(⟨l.toArray⟩:ByteArray).size=l.length:=by simp [Lib.size_eq]
    have h1:(⟨#[c]⟩:ByteArray).size=1:=rfl;have hcnt:Lib.countB ⟨l.toArray⟩ ⟨#[c]⟩=l.count c:=Lib.count_one c l;have hcl:l.count c≤l.length:=List.count_le_length;refine (Any.strings_genSplit_core lays221 V ⟨l.toArray⟩ ⟨#[c]⟩ 0 (-1) (l.count c+1) (fill L s) O O O
      (fun x cs hx=>?_) ?_ Dc Dc (by rw [if_pos Dc,hcnt,hsz];omega)).mono ?_
    · refine (Any.strings_Index_one { lays221 with } x c _).mono fun e w' ⟨he,hw⟩=>⟨?_,hw⟩
      rw [he];show _=Ending.returned (.int .i64 (Lib.index x.data.toList [c]));rw [qj0]
    · refine (Any.strings_Count_one { lays221 with } ⟨l.toArray⟩ c _).mono fun e w' ⟨he,hw⟩=>⟨?_,hw⟩
      rw [he,hcnt];rfl
    · rintro e w' ⟨he,hw⟩
      rw [Nat.add_sub_cancel,qnm c _ l rfl] at he hw;have hlen:=qho c l;refine ⟨_,he,by rw [hw];exact (Below.refl _ _).alloc (Nat.le_refl _) _,fun s' _ _ hnew=>⟨Z,_,_,_,Z,?_⟩⟩;have hs':=hnew (fill L s).heap.size (by rw [qaF];exact Nat.le_refl _);rw [hw,heap_alloc_new] at hs';have e2:Lib.cellsOf ((splitB (c.toNat:Int) l).map fun x=>(⟨x.toArray⟩:ByteArray)) (l.count c+1)=(((splitB (c.toNat:Int) l).map fun x=>(⟨x.toArray⟩:ByteArray)).map Value.string).toArray:=by
        have:=Lib.cellsOf_full ((splitB (c.toNat:Int) l).map fun x=>(⟨x.toArray⟩:ByteArray));rw [List.length_map,hlen] at this;exact this
      rw [e2] at hs';rw [← hlen,List.length_map];exact qhS hs' (fun x hx=>by have:=qem (c.toNat:Int) [] l x hx;simp at this;omega) O
def qkR(c:UInt8):Bool:=!(qiH c || qhF c)
def qvm(x:Nat):Bool:=decide (((x:Int) < 97∨122 < (x:Int))∧((x:Int) < 48∨57 < (x:Int)))
def qjt(c:UInt8):qvm c.toNat=qkR c:=by
 simp only [qvm,qkR,qiH,qhF];rw [Bool.eq_iff_iff];simp only [decide_eq_true_eq,Bool.not_eq_true',Bool.or_eq_false_iff,Bool.and_eq_false_iff,decide_eq_false_iff_not];omega
def qvl(h:pos < (⟨l.toArray⟩:ByteArray).size):∃ c,l[pos]?=some c∧(⟨l.toArray⟩:ByteArray)[pos]'h=c:=by simp [ByteArray.getElem_eq_getElem_data]
def qya(l:List UInt8)(f pos:Nat)(h:l.length≤pos+f):decide (0≤Lib.idxFuncFrom qvm true ⟨l.toArray⟩ f pos)=(l.drop pos).any qkR:=by
  have hsz:(⟨l.toArray⟩:ByteArray).size=l.length:=by simp [Lib.size_eq]
  induction f generalizing pos with
  | zero=>rw [List.drop_of_length_le O];rfl
  | succ f ih=>
    by_cases hp:pos < (⟨l.toArray⟩:ByteArray).size
    · obtain ⟨c,hc,hg⟩:=qvl hp
      have hd:l.drop pos=c::l.drop (pos+1):=by
        obtain ⟨h1,h2⟩:=List.getElem?_eq_some_iff.1 hc;rw [List.drop_eq_getElem_cons h1,h2]
      rw [hd,List.any_cons];by_cases ha:c.toNat < 128
      · have e:=decode_ascii ⟨l.toArray⟩ pos hp (by rw [hg];exact ha)
        simp only [Lib.idxFuncFrom,hp,if_true,e,hg,qjt];cases hb:qkR c with
        | true=>simp
        | false=>simpa using ih (pos+1) O
      · have e:=(decode_high ⟨l.toArray⟩ pos hp (by rw [hg];omega)).1
        have hb:qkR c=true:=by rw [← qjt];simp only [qvm,decide_eq_true_eq];omega
        have hr:qvm (Utf8.decode ⟨l.toArray⟩ pos).1=true:=by simp only [qvm,decide_eq_true_eq];omega
        simp only [Lib.idxFuncFrom,hp,if_true,hr,hb];simp
    · rw [Lib.idxFuncFrom_end _ _ _ _ _ hp,List.drop_of_length_le O];rfl
def qk0:∀ args w,(callFunc 187 args).run prog w=.ok (.enter 187 args) w:=enters_of func187 V rfl
def qjL:∀ args w,(callFunc 146 args).run prog w=.ok (.enter 146 args) w:=enters_of func146 V rfl
def Ez80{p:Prop} (h:p:=by
 refine ⟨_,he,hb,fun s' _ _ _=>⟨?_,Z⟩⟩;have:=qya l (⟨l.toArray⟩:ByteArray).size 0 (by simp [Lib.size_eq]);rw [List.drop_zero] at this;rw [← this];rfl):p:=h
def qkV(l:List UInt8):AC prog D 186 [St l,.func (.func 187) #[] #[]] L s fun v L' _=>v=.bool (l.any qkR)∧L=L':=
  AC.of_calls qfm fun _=>by
    refine (Any.strings_ContainsFunc_grows laysGw17 187 #[] qk0 qvm ⟨l.toArray⟩ (fill L s) (fun W x _ _=>?_)).mono ?_
    · exact qeY (args:=[.int .i32 (x:Int)]) fun D=>qm8 D [] W x
    · rintro e w' ⟨he,hb⟩
      exact Ez80
def qgl:List UInt8→List UInt8→List (List UInt8)
 | cur,[]=>if cur=[] then [] else [cur]
 | cur,x::r=>if x=32 then (if cur=[] then qgl [] r else cur::qgl [] r) else qgl (cur++[x]) r
def qi8(l:List UInt8):List (List UInt8):=(splitB 32 l).filter fun x=>decide (x≠[])
def qex(cur l:List UInt8):(qcn 32 cur l).filter (fun x=>decide (x≠[]))=qgl cur l:=by
  induction l generalizing cur with
  | nil=>by_cases h:cur=[]<;>simp [qcn,qgl,h]
  | cons x l ih=>
    have hx:((x.toNat:Int)=32)↔x=32:=(u8_eq (c:=32)).symm;by_cases h:x=32
    · by_cases hc:cur=[]<;>simp [qcn,qgl,h,hc,← ih]
    · have h':¬ (x.toNat:Int)=32:=fun e=>h (hx.1 e)
      simp only [qcn,qgl,h,h',if_false,ih]
def qgw(cur m r:List UInt8)(h:∀ x∈m,x≠32):qgl cur (m++r)=qgl (cur++m) r:=by
 induction m generalizing cur with
 | nil=>simp
 | cons x m ih=>
  have hx:x≠32:=h x Mc;simp only [List.cons_append,qgl,hx,if_false];rw [ih _ (fun y hy=>h y (List.mem_cons_of_mem _ hy))];simp
def qsa(l:List UInt8)(pos:Nat)(hp:pos < l.length)(c:UInt8)(hc:l[pos]?=some c)(ha:¬ c.toNat < 128):
    ∃ K,(Utf8.decode ⟨l.toArray⟩ pos).2=K∧1≤K∧pos+K≤l.length∧∀ x∈(l.drop pos).take K,x≠32:=by
  have hsz:(⟨l.toArray⟩:ByteArray).size=l.length:=by simp [Lib.size_eq]
  have g:∀ i,(⟨l.toArray⟩:ByteArray).get! i=l.getD i 0:=by
    intro i;show (l.toArray)[i]! = _;simp [List.getD_eq_getElem?_getD];rfl
  have hd:=Lib.decode_at ⟨l.toArray⟩ pos;rw [hsz,g,g,g,g] at hd;have h0:l.getD pos 0=c:=by simp [List.getD_eq_getElem?_getD,hc]
  rw [h0] at hd;have key:∀ (K:Nat),1≤K→K≤4→pos+K≤l.length→(∀ j,1≤j→j < K→128≤(l.getD (pos+j) 0).toNat)→∀ x∈(l.drop pos).take K,x≠32:=by
    intro K h1 h4 hK hall x hx e;obtain ⟨j,hj,hxj⟩:=List.mem_iff_getElem.1 hx;have hjK:j < K:=by simp at hj;omega
    have hv:l.getD (pos+j) 0=x:=by
      rw [← hxj];simp [List.getD_eq_getElem?_getD];rw [List.getElem?_eq_getElem O];rfl
    by_cases hj0:j=0
    · subst hj0;simp only [Nat.add_zero] at hv;rw [h0] at hv;subst e;subst hv;exact ha Dc
    · have:=hall j O hjK
      rw [hv,e] at this;exact absurd this Dc
  refine ⟨_,Z,?_⟩;rw [hd];unfold Lib.decodeN;rw [if_neg ha];split
  · rename_i h2
    split
    · refine ⟨by simp only;omega,by simp only;omega,key 2 O O O (fun j h1 hj=>?_)⟩
      obtain rfl:j=1:=by omega
      omega
    · exact ⟨by simp only;omega,by simp only;omega,key 1 O O O (fun j h1 hj=>by omega)⟩
  · split
    · rename_i h2 h3
      split
      · refine ⟨by simp only;omega,by simp only;omega,key 3 O O O (fun j h1 hj=>?_)⟩
        rcases (by omega:j=1∨j=2) with rfl|rfl<;>omega
      · exact ⟨by simp only;omega,by simp only;omega,key 1 O O O (fun j h1 hj=>by omega)⟩
    · split
      · rename_i h2 h3 h4
        split
        · refine ⟨by simp only;omega,by simp only;omega,key 4 O O O (fun j h1 hj=>?_)⟩
          rcases (by omega:j=1∨j=2∨j=3) with rfl|rfl|rfl<;>omega
        · exact ⟨by simp only;omega,by simp only;omega,key 1 O O O (fun j h1 hj=>by omega)⟩
      · exact ⟨by simp only;omega,by simp only;omega,key 1 O O O (fun j h1 hj=>by omega)⟩
def qro(x:Nat):Bool:=decide ((x:Int)=32)
def qfw(l:List UInt8)(x:Nat×Nat):List UInt8:=(l.drop x.1).take (x.2 - x.1)
def qnw(l:List UInt8)(pos:Nat):Option Nat→List UInt8
 | none=>[]
 | some a=>(l.drop a).take (pos - a)
def qqv(l:List UInt8){a K:Nat}(h:a≤pos):(l.drop a).take (pos+K - a)=(l.drop a).take (pos - a)++(l.drop pos).take K:=by
 have:pos+K - a=(pos - a)+K:=by omega
 rw [this,List.take_add,List.drop_drop];have e:a+(pos - a)=pos:=by omega
 rw [e]
def qkr(l:List UInt8)(pos:Nat)(st:Option Nat)(acc:List (Nat×Nat))(h:l.length≤pos)(hst:∀ a,st=some a→a < pos∧pos≤l.length):
  (Lib.closeSpans ⟨l.toArray⟩ (acc,st)).map (qfw l)=acc.map (qfw l)++qgl (qnw l pos st) (l.drop pos):=by
 have hsz:(⟨l.toArray⟩:ByteArray).size=l.length:=by simp [Lib.size_eq]
 rw [List.drop_of_length_le h];cases st with
 | none=>simp [Lib.closeSpans,qnw,qgl]
 | some a=>
  obtain ⟨h1,h2⟩:=hst a rfl;have hp:pos=l.length:=by omega
  subst hp;have hne:(l.drop a).take (l.length - a)≠[]:=by
   intro e;have:=congrArg List.length e;simp at this;omega
  simp [Lib.closeSpans,qnw,qgl,hne,qfw,hsz]
def qqe(l:List UInt8)(f pos:Nat)(st:Option Nat)(acc:List (Nat×Nat))(h:l.length≤pos+f)(hst:∀ a,st=some a→a < pos∧pos≤l.length):
    (Lib.closeSpans ⟨l.toArray⟩ (Lib.spansFromP qro ⟨l.toArray⟩ f pos st acc)).map (qfw l)=acc.map (qfw l)++qgl (qnw l pos st) (l.drop pos):=by
  have hsz:(⟨l.toArray⟩:ByteArray).size=l.length:=by simp [Lib.size_eq]
  induction f generalizing pos st acc with
  | zero=>exact qkr l pos st acc O hst
  | succ f ih=>
    by_cases hp:pos < (⟨l.toArray⟩:ByteArray).size
    · obtain ⟨c,hc,hg⟩:=qvl hp
      have hpl:pos < l.length:=by omega
      have hd:l.drop pos=c::l.drop (pos+1):=by
        obtain ⟨h1,h2⟩:=List.getElem?_eq_some_iff.1 hc;rw [List.drop_eq_getElem_cons h1,h2]

      have go:∀ K,(Utf8.decode ⟨l.toArray⟩ pos).2=K→qro (Utf8.decode ⟨l.toArray⟩ pos).1=false→1≤K→pos+K≤l.length→(∀ x∈(l.drop pos).take K,x≠32) →
          (Lib.closeSpans ⟨l.toArray⟩ (Lib.spansFromP qro ⟨l.toArray⟩ (f+1) pos st acc)).map (qfw l)=acc.map (qfw l)++qgl (qnw l pos st) (l.drop pos):=by
        intro K hK hb h1 h2 hall;have hrun:qgl (qnw l pos st) (l.drop pos)=qgl (qnw l pos st++(l.drop pos).take K) (l.drop (pos+K)):=by
          conv=>lhs;rw [← List.take_append_drop K (l.drop pos),List.drop_drop]
          exact qgw _ _ _ hall
        rw [hrun];simp only [Lib.spansFromP,hp,if_true,hb,hK,Bool.false_eq_true,if_false];cases st with
        | none=>
          simp only;rw [ih (pos+K) (some pos) acc O (fun a ha=>by injection ha with ha;omega)];simp only [qnw,List.nil_append];congr 3;omega
        | some a=>
          obtain ⟨ha1,ha2⟩:=hst a rfl;simp only;rw [ih (pos+K) (some a) acc O (fun a' ha=>by injection ha with ha;omega)];simp only [qnw];rw [qqv l O]
      by_cases ha:c.toNat < 128
      · have e:=decode_ascii ⟨l.toArray⟩ pos hp (by rw [hg];exact ha)
        rw [hg] at e;by_cases h32:c=32
        · have hb:qro (Utf8.decode ⟨l.toArray⟩ pos).1=true:=by rw [e,h32];rfl
          rw [hd];simp only [Lib.spansFromP,hp,if_true,hb];cases st with
          | none=>
            simp only [e];rw [ih (pos+1) none acc O (fun a ha=>by cases ha)];simp [qnw,qgl,h32]
          | some a=>
            obtain ⟨ha1,ha2⟩:=hst a rfl;have hne:(l.drop a).take (pos - a)≠[]:=by
              intro e;have:=congrArg List.length e;simp at this;omega
            simp only [e];rw [ih (pos+1) none _ O (fun a ha=>by cases ha)];simp [qnw,qgl,h32,hne,qfw]
        · refine go 1 (by rw [e]) ?_ O O ?_
          · rw [e]
            simp only [qro,decide_eq_false_iff_not];exact fun h=>h32 ((u8_eq (c:=32)).2 h)
          · rw [hd];simpa using h32
      · obtain ⟨K,hK,h1,h2,h3⟩:=qsa l pos hpl c hc ha
        refine go K hK ?_ h1 h2 h3;have:=(decode_high ⟨l.toArray⟩ pos hp (by rw [hg];omega)).1;simp only [qro,decide_eq_false_iff_not];omega
    · rw [Lib.spansFromP_end _ _ _ _ _ _ hp]
      exact qkr l pos st acc O hst
def qr7(l:List UInt8):Lib.goFieldsP qro ⟨l.toArray⟩=(qi8 l).map fun x=>⟨x.toArray⟩:=by
 have hsz:(⟨l.toArray⟩:ByteArray).size=l.length:=by simp [Lib.size_eq]
 have h:=qqe l (⟨l.toArray⟩:ByteArray).size 0 none [] O (fun a ha=>by cases ha);simp only [List.map_nil,List.nil_append,qnw,List.drop_zero] at h;rw [← qex] at h;show (Lib.closeSpans ⟨l.toArray⟩ (Lib.spansFromP qro ⟨l.toArray⟩ (⟨l.toArray⟩:ByteArray).size 0 none [])).map (fun x=>(⟨l.toArray⟩:ByteArray).extract x.1 x.2)=_;rw [qi8,splitB,← h,List.map_map];congr 1;funext x;simp only [Function.comp,qgQ,qfw]
def qoY{x:List UInt8}(h:x∈qi8 l):x≠[]∧x.length≤l.length:=by
 obtain ⟨h1,h2⟩:=List.mem_filter.1 h;have:=qem 32 [] l x h1;exact ⟨by simpa using h2,by simpa using this⟩
def qxW(l:List UInt8):(qi8 l).length≤l.length+1:=Nat.le_trans (List.length_filter_le _ _) (qno 32 [] l)
def qoT(l:List UInt8)(hl:l.length≤4000000):AC prog D 145 [St l,.func (.func 146) #[] #[]] L s fun v L' s'=>L=L'∧∃ A n c',v=.slice A n c'∧Strs s' A n c' (qi8 l):=
  AC.of_calls qk8 fun _=>by
    have hsz:(⟨l.toArray⟩:ByteArray).size=l.length:=by simp [Lib.size_eq]
    refine (Any.strings_FieldsFunc_grows lays229 146 #[] qjL qro ⟨l.toArray⟩ (fill L s) O (fun W x _ _=>?_) V V).mono ?_
    · exact qeY (args:=[.int .i32 (x:Int)]) fun D=>qj8 D [] W x
    · rintro e w' ⟨A,he,hA,hown,hb⟩
      refine ⟨_,he,hb,fun s' _ _ hnew=>⟨Z,_,_,_,Z,?_⟩⟩;rw [qr7,List.length_map] at hown ⊢;rcases hown.2 with ⟨h0,_⟩|⟨g,cap,cur,h1,h2,h3,h4,h5,h6,h7⟩
      · cases h0
      · injection h1 with h1 _ hcap
        injection h1 with h1;injection h1 with h1;subst h1;subst hcap;rw [← hnew A (by rw [qaF] at hA;exact hA)] at h3;have hcur:cur=(((qi8 l).map fun x=>(⟨x.toArray⟩:ByteArray)).map Value.string).toArray:=by
          have e1:cur.toList=((qi8 l).map fun x=>(⟨x.toArray⟩:ByteArray)).map Value.string:=by
            rw [← h7,List.take_of_length_le (by rw [Array.length_toList,h6];exact Nat.le_refl _)]
          rw [← e1,Array.toArray_toList]
        rw [hcur] at h3;exact qhS h3 (fun x hx=>by have:=(qoY hx).2;omega) (by have:=qxW l;omega)
end
open Go Go.FL
def qi2(acc:Nat)(l:List UInt8):Nat:=l.foldl (fun a c=>a * 10+(c.toNat - 48)) acc
def qgS(l:List UInt8):Bool:=decide (l≠[]) && l.all qhF && (decide (l.length≤1) || decide (l.head?≠some 48))
def qj6(l:List UInt8):Option Nat:=if qgS l=true∧qi2 0 l < 4294967296 then some (qi2 0 l) else none
theorem qeD(acc:Nat):qi2 acc []=acc:=rfl
theorem qdn(acc:Nat)(c:UInt8)(r:List UInt8):qi2 acc (c::r)=qi2 (acc * 10+(c.toNat - 48)) r:=by unfold qi2;rw [List.foldl_cons]
theorem quQ(c:UInt8):qi2 0 [c]=c.toNat - 48:=by grind [qdn,qeD]
attribute [local irreducible] qi2
def qkB(l:List UInt8)(c:UInt8)(acc:Nat):qi2 acc (l++[c])=qi2 acc l * 10+(c.toNat - 48):=by
 induction l generalizing acc with
 | nil=>rw [List.nil_append,qdn,qeD,qeD]
 | cons x l ih=>rw [List.cons_append,qdn,qdn];exact ih _
def qqE(l:List UInt8)(acc:Nat):acc≤qi2 acc l:=by
 induction l generalizing acc with
 | nil=>rw [qeD];exact Nat.le_refl _
 | cons x l ih=>have:=ih (acc * 10+(x.toNat - 48));rw [qdn];omega
def qpT{M acc:Nat}(hM:M < 1844674407370955162)(h:l.all qhF=true)(hv:qi2 acc l≤M):Lib.parseUintM M acc l=.ok (qi2 acc l):=by
 induction l generalizing acc with
 | nil=>rw [qeD];rfl
 | cons c l ih=>
  simp only [List.all_cons,Bool.and_eq_true,qhF,decide_eq_true_eq] at h;rw [qdn] at hv ⊢;have h1:=qqE l (acc * 10+(c.toNat - 48));simp only [Lib.parseUintM];rw [if_pos h.1,if_neg O,if_neg O];exact ih (by simpa [qhF] using h.2) hv
def qjF(h:u < 10):(UInt8.ofNat (48+u)).toNat=48+u:=by simp;omega
def qfP(u:Nat):qi2 0 (Lib.decDigits u)=u:=by
 induction u using Nat.strongRecOn with
 | _ u ih=>
  by_cases h:u < 10
  · rw [Lib.decDigits,dif_pos h];rw [quQ,qjF h];omega
  · rw [Lib.decDigits,dif_neg h,qkB,ih (u / 10) O,qjF O];omega
def qlR(u:Nat):Lib.decDigits u≠[]:=by
 by_cases h:u < 10
 · rw [Lib.decDigits,dif_pos h];simp
 · rw [Lib.decDigits,dif_neg h];simp
def qgY(u:Nat):(Lib.decDigits u).all qhF=true:=by
  induction u using Nat.strongRecOn with
  | _ u ih=>
    by_cases h:u < 10
    · rw [Lib.decDigits,dif_pos h];simp only [List.all_cons,List.all_nil,Bool.and_true,qhF,qjF h,Bool.and_eq_true,decide_eq_true_eq];omega
    · rw [Lib.decDigits,dif_neg h,List.all_append,ih (u / 10) O]
      simp only [List.all_cons,List.all_nil,Bool.and_true,qhF,qjF (show u % 10 < 10 by omega),Bool.and_eq_true,decide_eq_true_eq,Bool.true_and];omega
def qrG(u:Nat)(h:1≤u):(Lib.decDigits u).head?≠some 48:=by
  induction u using Nat.strongRecOn with
  | _ u ih=>
    by_cases h1:u < 10
    · rw [Lib.decDigits,dif_pos h1];intro e
      simp only [List.head?_cons,Option.some.injEq] at e;have:=congrArg UInt8.toNat e;rw [qjF h1] at this;simp at this;omega
    · rw [Lib.decDigits,dif_neg h1]
      have hne:=qlR (u / 10);have:=ih (u / 10) O O;cases hd:Lib.decDigits (u / 10) with
      | nil=>exact absurd hd hne
      | cons x r=>rw [hd] at this;simpa using this
def qoH(u:Nat):qgS (Lib.decDigits u)=true:=by
 simp only [qgS,qgY,qlR,ne_eq,not_false_eq_true,decide_true,Bool.true_and,Bool.or_eq_true,decide_eq_true_eq];by_cases h:u < 10
 · left;rw [Lib.decDigits,dif_pos h];simp
 · right;exact qrG u O
def quR{c:UInt8}{r:List UInt8}(he:l=c::r)(hd:qhF c=true)(h:c≠48):1≤qi2 0 l:=by
 subst he;have h1:=qqE r (0 * 10+(c.toNat - 48));simp only [qhF,Bool.and_eq_true,decide_eq_true_eq] at hd;have:c.toNat≠48:=fun e=>h (UInt8.toNat_inj.1 e);rw [qdn];omega
def qov(h:qgS l=true):Lib.decDigits (qi2 0 l)=l:=by
 induction hn:l.length using Nat.strongRecOn generalizing l with
 | _ n ih=>
  simp only [qgS,Bool.and_eq_true,decide_eq_true_eq,Bool.or_eq_true] at h;obtain ⟨⟨h0,h1⟩,h2⟩:=h;obtain ⟨m,c,rfl⟩:∃ m c,l=m++[c]:=⟨l.dropLast,l.getLast h0,(List.dropLast_concat_getLast h0).symm⟩;rw [List.all_append,Bool.and_eq_true] at h1;have hc:48≤c.toNat∧c.toNat≤57:=by simpa [qhF] using h1.2
  have hcc:UInt8.ofNat (48+(c.toNat - 48))=c:=by apply UInt8.toNat_inj.1;simp;omega
  rw [qkB];cases hm:m with
  | nil=>rw [qeD,Lib.decDigits,dif_pos O];simp [hcc]
  | cons x r=>
   have hx:(m++[c]).head?=some x:=by rw [hm];rfl
   have hx48:x≠48:=by
    rcases h2 with h2|h2
    · rw [hm] at h2;simp at h2
    · intro e;exact h2 (by rw [hx,e])
   have hdx:qhF x=true:=by have:=h1.1;rw [hm,List.all_cons,Bool.and_eq_true] at this;exact this.1
   have hp:=quR hm hdx hx48;have hcm:qgS m=true:=by
    simp only [qgS,Bool.and_eq_true,decide_eq_true_eq,Bool.or_eq_true];refine ⟨⟨by rw [hm];simp,h1.1⟩,.inr ?_⟩;rw [hm];simpa using hx48
   have hd:=ih m.length (by rw [← hn];simp) hcm rfl;rw [← hm];rw [Lib.decDigits,dif_neg O];rw [show (qi2 0 m * 10+(c.toNat - 48)) / 10=qi2 0 m by omega,hd,show (qi2 0 m * 10+(c.toNat - 48)) % 10=c.toNat - 48 by omega,hcc]
def qmi(h:u < 4294967296):qj6 (Lib.decDigits u)=some u:=by rw [qj6,if_pos ⟨qoH u,by rw [qfP];exact h⟩,qfP]
def qpG(h:qj6 l=some u):l=Lib.decDigits u∧u < 4294967296:=by
 unfold qj6 at h;split at h
 · rename_i hh;injection h with h;subst h;exact ⟨(qov hh.1).symm,hh.2⟩
 · cases h
def qfv(l:List UInt8)(u:Nat):(Lib.parseUintB 32 l=.ok u∧Lib.decDigits u=l)↔qj6 l=some u:=by
  constructor
  · rintro ⟨h,rfl⟩
    exact qmi (by have:=Lib.parseUintB_le h;omega)
  · intro h
    obtain ⟨rfl,hu⟩:=qpG h;refine ⟨?_,Z⟩;rw [Lib.parseUintB,if_neg (qlR u)];have:=qpT (M:=2 ^ 32 - 1) (acc:=0) Dc (qgY u) (by rw [qfP];omega);rw [qfP] at this;exact this
def qpu(k u:Nat)(h:u < 10 ^ (k+1)):Lib.nDigits u≤k+1:=by
 induction k generalizing u with
 | zero=>rw [Lib.nDigits_small Q4];exact Nat.le_refl _
 | succ k ih=>
  by_cases h1:u < 10
  · rw [Lib.nDigits_small h1];omega
  · rw [Lib.nDigits_big h1];have:=ih (u / 10) (by rw [Nat.pow_succ] at h;omega);omega
def qxH(h:u < 4294967296):1≤(Lib.decDigits u).length∧(Lib.decDigits u).length≤10:=by
 rw [Lib.decDigits_length];exact ⟨Lib.nDigits_pos u,qpu 9 u O⟩
end Go.Proofs.YtlfiplbamnpgoaaGreatDoor
namespace Go.Proofs.YtlfiplbamnpgoaaGreatDoor
open Go Go.FL
abbrev Str:=List UInt8
def qFt(c:UInt8):Bool:=decide (c=32) || decide (c=10)
def qxk(w:Str):Prop:=w≠[]∧∀ c∈w,qFt c=false
def cutS(w sg:Str):Str:=w.take (w.length - sg.length)
def ends(w sg:Str):Bool:=decide (w=cutS w sg++sg)
def valC(c:UInt8):Int:=
 if 97≤c.toNat∧c.toNat≤122 then (c.toNat:Int) - 96 else if 65≤c.toNat∧c.toNat≤90 then (c.toNat:Int) - 38 else if 48≤c.toNat∧c.toNat≤57 then (c.toNat:Int)+5
 else if c=32 then 0 else if c=46 then 63 else if c=44 then 64 else if c=59 then 65 else if c=58 then 66 else -1
def okC(c:UInt8):Bool:=decide (0≤valC c)
def okT(l:Str):Bool:=l.all okC
def qCi:Str:=[67,104,101,99,107]
def qd9(n:Int):Str:=Lib.decDigits n.toNat
def okW(w:Str):Prop:=qxk w∧okT w=true∧w≠qCi
instance (w:Str):Decidable (qxk w):=by unfold qxk;infer_instance
instance (w:Str):Decidable (okW w):=by unfold okW;infer_instance
def cop:∀ d,d < 67→0 < d→Nat.gcd 9973 d=1:=by decide +kernel
end Go.Proofs.YtlfiplbamnpgoaaGreatDoor
namespace Go.FL
open Go Go.RowKit
def qvd{P:Program}{TT:qaM}{D:Nat}{fr:Fr}{ty:Nat}{K:Hl}{s0:World}{t e b m:Nat}{x y:Operand}{ti te:TI}{ik:IntKind}{j:Nat}(hx:lk fr x=some (.pointer (some ⟨b,0,none⟩)))(hy:lk fr y=some (.int ik (j:Int)))(ht:qay TT t=some ti)(hk:ti.kind=.ar m e)(he:qay TT e=some te)(hj:j≤m) :
  QE P TT D fr (.slice t x none (some y) none) ty K s0 (.slice (some ⟨b,0,none⟩) j m):=
 QE.pure fun hT dst pos af g ρ hρ w=>by
  have hb:(Instr.sliceBounds false m m none (some (.int ik (j:Int))) none).run P w=.ok (0,j,m) w:=by simp [Instr.sliceBounds,qfg hj]
  have hu:P.underlying t=some (.array m e):=by
   obtain ⟨h1,h2,_⟩:=hT.at_ ht;rw [hk] at h2;rw [h1];exact congrArg some h2
  have hr:(Instr.sliceAt t (.pointer (some ⟨b,0,none⟩)) none (some (.int ik (j:Int))) none).run P w=.ok (.slice (some ⟨b,0,none⟩) j m) w:=by
   simp [Instr.sliceAt,Instr.sureAddr,run_underlying hu,hb,qbw (hT.at_ he),Addr.add]
  exact qAN
def qmY(L:Hl)(s:World)(n:Nat):(fill L s).drewN n=fill L (s.drewN n):=by
 induction L with
 | nil=>rfl
 | cons x L ih=>show qbq ((fill L s).drewN n) x.1 x.2=qbq (fill L (s.drewN n)) x.1 x.2;rw [ih]
def Le.drewN{D:Nat}(s:World)(n:Nat):Le D s (s.drewN n):=⟨rfl,rfl,rfl,Nat.le_refl _,fun _ _=>.inr rfl⟩
def qj1(w:World)(b ty:Nat)(zs:List Value)(f:Array Value→Array Value):Sort.mapBlock (qbq w b (cb zs ty)) b f=qbq w b (cb (f zs.toArray).toList ty):=by
  refine qdA (qdv fun k=>?_) Z Z Z Z;show ((w.heap.setIfInBounds b _).modify b _)[k]?=(w.heap.setIfInBounds b _)[k]?;rw [Array.getElem?_modify];by_cases hk:b=k
  · subst hk
    rw [if_pos rfl,Array.getElem?_setIfInBounds_self,Array.getElem?_setIfInBounds_self];split
    · simp [Sort.onCells,cb]
    · rfl
  · rw [if_neg hk,Array.getElem?_setIfInBounds_ne hk,Array.getElem?_setIfInBounds_ne hk]
end Go.FL
namespace Go.Proofs.YtlfiplbamnpgoaaGreatDoor
open Go.Proofs.Tryz
open Go Go.FL Go.RowKit
variable(D:Nat)(L:Hl)(s:World){u n c:Nat}{l:List UInt8}{A:Option Addr}
section
variable(D:Nat)(L:Hl)(s:World)
def qm5:qil prog 172:=⟨_,func172,by kernel_rfl,by kernel_rfl⟩
def qx0:qil prog 173:=⟨_,func173,by kernel_rfl,by kernel_rfl⟩
def qr2:qil prog 174:=⟨_,func174,by kernel_rfl,by kernel_rfl⟩
def qs6(u:Nat)(h:u < 100):AC prog D 172 [.int .i64 (u:Int)] L s fun v L' _=>v=St (Lib.decDigits u)∧L=L':=
 AC.of_calls qm5 fun _=>(Any.internal_strconv_small lays283 u h (fill L s)).mono fun e w' ⟨he,hw⟩=>⟨_,he,by rw [hw];exact qc4 _,fun s' _ _ _=>⟨rfl,rfl⟩⟩
def qFv(hG:GW s)(u:Nat)(h1:1≤u)(h2:u < 4294967296):AC prog D 173 [.int .u64 (u:Int)] L s fun v L' _=>v=.int .i64 (Lib.nDigits u:Int)∧L=L':=
 AC.of_calls qx0 fun ho=>(Any.internal_strconv_numDigits laysM284 u h1 O (fill L s) (qv0 laysM284.m17 (hG.le (qe2 ho)))).mono fun e w' ⟨he,hw⟩=>⟨_,he,by rw [hw];exact qc4 _,fun s' _ _ _=>⟨rfl,rfl⟩⟩
def qym(h:u < 4294967296):Lib.nDigits u≤20:=by
  by_cases h1:1≤u
  · have:=Lib.numDigits_eq u h1 O;split at this<;>omega
  · obtain rfl:u=0:=by omega
    rw [Lib.nDigits];simp
def z24:List Value:=List.replicate 24 (.int .u8 0)
def qo5(u:Nat)(h2:u < 4294967296)(b ty:Nat):AC prog D 174 [.slice (some ⟨b,0,none⟩) (Lib.nDigits u) 24,.int .u64 (u:Int)] ((b,cb z24 ty)::L) s
    fun v L' _=>v=.tuple #[]∧∃ ys,L'=(b,cb (bv (Lib.decDigits u)++ys) ty)::L∧(Lib.decDigits u).length+ys.length=24:=by
  refine ⟨qr2,fun ho=>?_⟩;have hnd:=qym h2;have hblk:(fill ((b,cb z24 ty)::L) s).heap[b]?=some (cb z24 ty):=qa3 ho Mc;have hH:Sort.Holds (fun (x:UInt8)=>Value.int .u8 (x.toNat:Int)) (fill ((b,cb z24 ty)::L) s) b 0 (Array.replicate (Lib.nDigits u) (0:UInt8)):=by
    intro j hj;have hj':j < Lib.nDigits u:=by simpa using hj
    refine ⟨?_,by unfold World.frozen?;rw [hblk];simp [cb]⟩;rw [Nat.zero_add,qc2 ho Mc,getElem!_pos _ j hj,z24,List.getElem?_replicate,if_pos O];simp
  have h:=Any.internal_strconv_formatBase10 lays285 b 0 24 u (Array.replicate (Lib.nDigits u) 0) _ hH (by rw [Array.size_replicate];exact Lib.lt_pow_nDigits u) O (by rw [Array.size_replicate];omega);rw [Array.size_replicate] at h;refine h.mono ?_;rintro e w' ⟨he,n,v',dk,hw,hF⟩;have hsz:dk.size=Lib.nDigits u:=hF.size;have hlen:(Lib.decDigits u).length=Lib.nDigits u:=Lib.decDigits_length u;have hcells:(Sort.putCells (fun (x:UInt8)=>Value.int .u8 (x.toNat:Int)) 0 dk z24.toArray).toList=bv (Lib.decDigits u)++List.replicate (24 - Lib.nDigits u) (.int .u8 0):=by
    apply List.ext_getElem?;intro k;simp only [Sort.putCells,Array.toList_mapIdx,List.getElem?_mapIdx,Nat.zero_le,true_and,Nat.zero_add,Nat.sub_zero];by_cases hk:k < Lib.nDigits u
    · rw [List.getElem?_append_left (by simp [bv];omega)]
      have h24:z24[k]?=some (.int .u8 0):=by rw [z24,List.getElem?_replicate,if_pos O]
      rw [h24];simp only [Option.map_some,hsz,hk,if_true,bv,List.getElem?_map];rw [List.getElem?_eq_getElem O,← Lib.row_is_numeral hF k O];rfl
    · rw [List.getElem?_append_right (by simp [bv];omega)]
      have hk':¬ k < dk.size:=by omega
      have hbl:(bv (Lib.decDigits u)).length=Lib.nDigits u:=by simp [bv,hlen]
      rw [hbl];by_cases h24:k < 24
      · have e1:z24[k]?=some (.int .u8 0):=by rw [z24,List.getElem?_replicate,if_pos O]
        rw [e1];simp [hk',List.getElem?_replicate];omega
      · have e1:z24[k]?=none:=by simp [z24];omega
        rw [e1];simp [List.getElem?_replicate];omega
  have hworld:w'=fill ((b,cb (bv (Lib.decDigits u)++List.replicate (24 - Lib.nDigits u) (.int .u8 0)) ty)::L) (s.drewN n):=by
    rw [hw,Sort.putRow];show (Sort.mapBlock (qbq (fill L s) b (cb z24 ty)) b _).drewN n=_;rw [qj1,hcells];exact qmY ((b,cb (bv (Lib.decDigits u)++List.replicate (24 - Lib.nDigits u) (.int .u8 0)) ty)::L) s n
  exact ⟨_,_,_,he,hworld,⟨ho.nd,fun x hx=>by
    rcases List.mem_cons.1 hx with rfl|hx
    · exact ho.dm (b,cb z24 ty) Mc
    · exact ho.dm x (List.mem_cons_of_mem _ hx)⟩,Le.drewN s n,rfl,_,rfl,by simp;omega⟩
end
def qyr(h:Lib.parseUintB 32 l=.ok u):decide (Lib.decDigits u=l)=(qj6 l).isSome:=by
  by_cases hd:Lib.decDigits u=l
  · rw [(qfv l u).1 ⟨h,hd⟩,decide_eq_true hd];rfl
  · rw [decide_eq_false hd]
    cases hn:qj6 l with
    | none=>rfl
    | some v=>
      obtain ⟨h1,h2⟩:=(qfv l v).2 hn;rw [h] at h1;injection h1 with h1;subst h1
      exact absurd h2 hd
def qpH(h:∀ u,Lib.parseUintB 32 l≠.ok u):qj6 l=none:=by
 cases hn:qj6 l with
 | none=>rfl
 | some v=>exact absurd ((qfv l v).2 hn).1 (h v)
def qys{v:Nat}(h:Lib.parseUintB 32 l=.ok u)(hn:qj6 l=some v):u=v:=by
 have h1:=((qfv l v).2 hn).1;rw [h] at h1;injection h1
def qqJ(n:Int):U32 (IntKind.u32.wrap n):=by rw [IntKind.wrap_u32];exact ⟨by omega,by omega⟩
def qeF(h:n < 4294967296):IntKind.u32.wrap (n:Int)=(n:Int):=by rw [IntKind.wrap_u32];omega
def Strs.tail{s:World}{x:List UInt8}{l:List (List UInt8)}(h:Strs s A n c (x::l)):∃ A1 n1 c1,(Value.slice (if c=1 then A else A.map (·.add (1 * 1))) (n - 1) (c - 1))=Value.slice A1 n1 c1∧Strs s A1 n1 c1 l:=by
  refine ⟨_,_,_,Z,?_,?_,?_,fun i y hy=>?_⟩
  · have:=h.1;simp at this;omega
  · have:=h.2.1;omega
  · have:=h.2.2.1;omega
  · obtain ⟨b,off,cs,h1,h2,h3,h4⟩:=h.2.2.2 (i+1) y (by simpa using hy)
    have hc:¬ c=1:=by
      have:=h.1;have:=h.2.1;have:=(List.getElem?_eq_some_iff.1 hy).1;simp at *;omega
    rw [if_neg hc,h1];exact ⟨b,off+1,cs,rfl,by rw [show off+1+i * 1=off+(i+1) * 1 by omega];exact h2,h3,h4⟩
def Strs.head{s:World}{l:List (List UInt8)}(h:Strs s A n c l)(hn:0 < n):∃ b off x r,A=some ⟨b,off,none⟩∧l=x::r∧CellsAt s b (off+0) [St x]∧x.length≤9223372036854775807:=by
 obtain ⟨b,off,x,h1,h2,h3,h4⟩:=Strs.at_ h hn;obtain ⟨r,hr⟩:∃ r,l=x::r:=by
  cases l with
  | nil=>cases h2
  | cons y r=>simp at h2;subst h2;exact ⟨r,rfl⟩
 exact ⟨b,off,x,r,h1,hr,h3,h4⟩
structure GP(s:World):Prop where
 gw:GW s
 asc:∃ ty fz,s.heap[2]?=some (.cells (Lib.asciiSpaceTab.map fun z=>Value.int .u8 z).toArray ty fz)
def GP.le{D:Nat}{s s':World}(h:GP s)(hl:Le D s s'):GP s':=by
 obtain ⟨h1,⟨t,f,h2⟩⟩:=h;exact ⟨h1.le hl,⟨t,f,qo9 h2 hl⟩⟩
def qBT{w:World}(h:GP w):Lib.TabIs Tryz.prog w "strings.asciiSpace" .u8 Lib.asciiSpaceTab:=by
 obtain ⟨t,f,h1⟩:=h.asc;have hg:Tryz.prog.globalNamed "strings.asciiSpace" = some 2:=by kernel_rfl
 simp only [Lib.TabIs,World.var?,hg,Option.bind_some,h1]
section
variable(D:Nat)(L:Hl)(s:World)
def qjV:qil Tryz.prog 190:=⟨_,Tryz.func190,by kernel_rfl,by kernel_rfl⟩
def qjU:qil Tryz.prog 60:=⟨_,Tryz.func60,by kernel_rfl,by kernel_rfl⟩
def okA(l:List UInt8):Bool:=l.all fun c=>decide (c.toNat < 128) && (decide (c=32) || decide (c=10) || !(decide (c.toNat=9) || decide (c.toNat=11) || decide (c.toNat=12) || decide (c.toNat=13)))
end
section
variable(D:Nat)(L:Hl)(s:World)
def qnr{ws:List (List UInt8)}{w:World}(h:Strs s A n c ws)(hl:Le D s w){b off:Nat}(hA:A=some ⟨b,off,none⟩):∀ (j:Nat) (x:ByteArray),(ws.map fun x=>(⟨x.toArray⟩:ByteArray))[j]?=some x→w.cell? ⟨b,off+j,none⟩=some (.string x):=by
 intro j x hj;rw [List.getElem?_map] at hj;obtain ⟨y,hy,rfl⟩:=Option.map_eq_some_iff.1 hj;obtain ⟨b',off',cs,h1,h2,_,rfl,_⟩:=h.2.2.2 j y hy;rw [hA] at h1;injection h1 with h1;injection h1 with e1 e2;subst e1;subst e2
 exact hl.cell (by simpa using h2 0 (St y) rfl)
end
open Go.FL
attribute [local irreducible] JC JO JA JB qaJ qax qbN AC fill CellsAt QE Ev Mid
def qjz{i:Nat}(hi:i≠0):qa1 i l=!l.any qkR:=by
 induction l generalizing i with
 | nil=>rfl
 | cons c l ih=>
  simp only [qa1,List.any_cons,ih (by omega:i+1≠0),qhT,qkR,hi,ne_eq,not_false_eq_true,decide_true,Bool.and_true,Bool.not_or];cases qiH c<;>cases qhF c<;>rfl
def qnf{c:UInt8}(h:l[0]?=some c)(h6:l.length≤6)(hc:¬ ((c.toNat:Int) < 97)∧¬ (122 < (c.toNat:Int))):qa6 l=!l.any qkR:=by
 obtain ⟨r,rfl⟩:=qg5 h;have hl:qiH c=true:=by simp only [qiH,Bool.and_eq_true,decide_eq_true_eq];omega
 have h7:decide ((c::r).length≤6)=true:=decide_eq_true h6;have hb:qkR c=false:=by simp [qkR,hl]
 simp only [qa6,qa1,qhT,hl,h7,Bool.true_or,Bool.true_and,List.any_cons,hb,Bool.false_or,qjz (l:=r) (i:=0+1) O];simp
def qsq{c:UInt8}(h:l[0]?=some c)(hc:(c.toNat:Int) < 97∨122 < (c.toNat:Int)):qa6 l=false:=by
 obtain ⟨r,rfl⟩:=qg5 h;have hl:qiH c=false:=by rw [Bool.eq_false_iff];simp only [qiH,ne_eq,Bool.and_eq_true,decide_eq_true_eq];omega
 simp [qa6,qa1,qhT,hl]
def qAC{p:Prop} (h:p:=by
  refine ⟨?_,Z⟩;first
    | (simp [qbP,qa6, *];done)
    | (rw [show qa6 l=false from qsq hch O];rfl)
    | (have h6:¬ l.length≤6:=by omega
       simp [qbP,qa6,h6];done)
    | (rw [qnf hch O O];rfl)):p:=h
def qgt(l:List UInt8):AC prog D 148 [St l] L s fun v L' _=>v=.bool (qa6 l)∧L=L':=by
 refine qad (fn:=f148) qao func148 V Z ntmps148 Z (rs:=[.tmp 2]) Z [(0,_)] Z<|G9 ?_;refine qio Z Z Z<|Zqm Z Z<|?_;refine qap (t:=5) Z ?_ ?_<;>intro c1;·refine G24 ?_;exact rY Z fun _ hS2=>qAC
 refine G3 ?_;refine qjg Z Z Z Z<|G4 ?_;refine qap (t:=10) Z ?_ ?_<;>intro c2;·refine G19 ?_;exact rY Z fun _ hS2=>qAC
 refine G3 ?_;obtain ⟨ch,hch⟩:∃ ch,l[0]?=some ch:=⟨_,List.getElem?_eq_getElem (List.length_pos_iff.2 As)⟩;refine qae (qhB Z Z Z Z hch) Z<|G4 ?_;refine qap (t:=15) Z ?_ ?_<;>intro c3;·refine G14 ?_;exact rY Z fun _ hS2=>qAC
 refine G3 ?_;refine qae (qhB Z Z Z Z hch) Z<|J5 ?_ ?_<;>intro c4;·refine G7 ?_;exact rY Z fun _ hS2=>qAC
 refine G5 ?_;refine Je Z Z Z (qkV D _ _ _) fun s5 h5=>G5 ?_;exact rX [] L Z h5 fun _ hS2=>qAC
def qo3(c:UInt8)(l:List UInt8):(qvz (fnd c l) < 0∧qew c l=(l,[],false))∨∃ i:Nat,qvz (fnd c l)=(i:Int)∧i+1≤l.length∧qew c l=(l.take i,l.drop (i+1),true):=by
 cases h:fnd c l with
 | none=>exact .inl ⟨by simp [qvz],by simp [qew,h]⟩
 | some i=>exact .inr ⟨i,rfl,qvA h,by simp [qew,h]⟩
def qxG(l:List UInt8)(c:UInt8)(hl:l.length≤9223372036854775806):AC prog D 184 [St l,St [c]] L s fun v L' _=>v=.tuple #[St (qew c l).1,St (qew c l).2.1,.bool (qew c l).2.2]∧L=L':=by
 refine qad (fn:=f184) qao func184 V Z ntmps184 Z (rs:=[.tmp 4,.tmp 5,.tmp 6]) Z [(0,_),(1,_)] Z<|G12 ?_;refine Je Z Z Z (qse D _ _ _ _) fun s1 h1=>G6 ?_;refine qi6 Z Z Z<|J2 ?_ ?_<;>intro c2
 ·obtain ⟨hneg,_⟩|⟨i,hi,hil,hcut⟩:=qo3 c l
  · exact absurd c2 O
  rw [hi];refine Zs<|qaL qab 12 Z _ (fun _ h=>h) fun s3 h3=>H2 ?_;refine za 2 Z (qBr Z Z Z Z O) Z<|H3 ?_;refine za 6 Z (qnR Z Z Z) Z<|za 7 Z (qaI (c:=((i+1:Nat):Int)) Z Z (by rw [w64 Q7 Q7];simp)) Z<|za 8 Z (qBs Z Z Z Z O) Z<|H3 ?_;refine qah V<|G3 ?_;refine rR [] L (.tmp Z (.tmp Z (.t1 Z))) Z (h1.t h3) fun _ hS2=>?_;refine ⟨?_,Z⟩;rw [hcut];rfl
 obtain ⟨hneg,hcut⟩|⟨i,hi,_,_⟩:=qo3 c l
 rotate_left
 · exact absurd c2 O
 refine G11 ?_;refine rR [] L (.tmp Z (.tmp Z (.t1 Z))) Z h1 fun _ hS2=>?_;refine ⟨?_,Z⟩;rw [hcut];rfl
def qvs(l:List UInt8)(c:UInt8)(hl:l.length≤9223372036854775806):AC prog D 144 [St l,St [c]] L s fun v L' _=>v=.tuple #[St (qew c l).1,St (qew c l).2.1,.bool (qew c l).2.2]∧L=L':=by
 refine qad (fn:=f144) qao func144 V Z ntmps144 Z (rs:=[.tmp 4,.tmp 5,.tmp 6]) Z [(0,_),(1,_)] Z<|G11 ?_;refine Je Z Z Z (qxG D _ _ _ _ hl) fun s1 h1=>G9 ?_;exact rR [] L (.tmp Z (.tmp Z (.t1 Z))) Z h1 fun _ hS2=>Cz0
def qof(l:List UInt8)(c:UInt8)(hl:l.length≤4000000):AC prog D 65 [St l,St [c]] L s fun v L' s'=>L=L'∧∃ A n c',v=.slice A n c'∧Strs s' A n c' (splitB (c.toNat:Int) l):=by
 refine qad (fn:=f65) qao func65 V Z ntmps65 Z (rs:=[.tmp 4]) Z [(0,_),(1,_)] Z<|G9 ?_;refine Jc Z Z Z (qlb D _ _ _ _ hl) ?_;rintro _ _ s1 h1 ⟨rfl,Ar,nr,cr,rfl,hr⟩;refine G4 ?_;exact rX [] L Z h1 fun _ hS2=>⟨rfl,_,_,_,rfl,hr.le ((Lr D).t hS2)⟩
end Go.Proofs.YtlfiplbamnpgoaaGreatDoor
namespace Go.Proofs.YtlfiplbamnpgoaaGreatDoor
open Go Go.FL Go.RowKit
variable(D:Nat)(L:Hl)(s:World){l lab o:List UInt8}{W R r:List (List UInt8)}
structure Ln where
 label:List UInt8
 op:List UInt8
 has:Bool
 name:List UInt8
 num:Int
 deriving DecidableEq
def Ln.cs(x:Ln):List Value:=[St x.label,St x.op,.bool x.has,St x.name,.int .u32 x.num]
def qlj(w:List UInt8):Option (List UInt8×Int):=
 if qa6 (qew 43 w).1=true then (if (qew 43 w).2.2=true then (qj6 (qew 43 w).2.1).map (fun (n:Nat)=>((qew 43 w).1,(n:Int))) else some ((qew 43 w).1,0)) else (qj6 w).map fun (n:Nat)=>([],(n:Int))
def qsf:List (List UInt8)→Option (List UInt8×List (List UInt8))
 | []=>some ([],[])
 | w::r=>if qjJ 58 w=true then (if qa6 w.dropLast=true then some (w.dropLast,r) else none) else some ([],w::r)
def qfM(lab:List UInt8):List (List UInt8)→Option Ln
 | []=>some ⟨lab,[],false,[],0⟩
 | [o]=>if qa6 o=true then some ⟨lab,o,false,[],0⟩ else none
 | [o,w]=>if qa6 o=true then (qlj w).map fun x=>⟨lab,o,true,x.1,x.2⟩ else none
 | _::_::_::_=>none
def qyh(ws:List (List UInt8)):Option Ln:=(qsf ws).bind fun x=>qfM x.1 x.2
def qcz(l:List UInt8):Option Ln:=qyh (qi8 (qew 59 l).1)
theorem qoG(c:UInt8)(l:List UInt8):(qew c l).1.length≤l.length∧(qew c l).2.1.length≤l.length:=by grind [qew]
def qh5(h:qa6 l=true):l≠[]∧l.length≤6:=by simp_all [qa6,Bool.and_eq_true,decide_eq_true_eq]
def qez(hW:qi8 (qew 59 l).1=W)(h:qsf W=some (lab,R)):qcz l=qfM lab R:=by
 rw [qcz,qyh,hW,h];rfl
def qsj(hW:qi8 (qew 59 l).1=W)(h:qsf W=none):qcz l=none:=by
 rw [qcz,qyh,hW,h];rfl
def qjx(h:qa6 o=true):qfM lab [o]=some ⟨lab,o,false,[],0⟩:=by simp [qfM,h]
def qjy{w:List UInt8}(h:qa6 o=true):qfM lab [o,w]=(qlj w).map fun x=>⟨lab,o,true,x.1,x.2⟩:=by simp [qfM,h]
def qoo(h:qa6 o=false):qfM lab (o::r)=none:=by
 match r with
 | []=>simp [qfM,h]
 | [w]=>simp [qfM,h]
 | _::_::_=>rfl
def qmQ(h:2 < r.length):qfM lab r=none:=by
 match r,h with
 | _::_::_::_,_=>rfl
open Go.Proofs.Tryz
open Go.FL
attribute [local irreducible] JC JO JA JB qaJ qax qbN AC fill CellsAt QE Ev Mid
def qrY(hG:GW s)(u:Nat)(hu:u < 4294967296):AC prog D 194 [.int .u64 (u:Int),.int .i64 10] L s fun v L' _=>v=St (Lib.decDigits u)∧L=L':=by
 refine qad (fn:=f194) qao func194 V Z ntmps194 Z (rs:=[.tmp 4]) Z [(0,_),(1,_)] Z<|J12 ?_ ?_<;>intro c1
 ·refine J7 ?_ ?_<;>intro c2;·refine Sr<|Zqm Z Z<|qae (qbe Z Z Z Z Z (w64 O O)) Z<|Je Z Z Z (qs6 D _ _ u O) fun s3 h3=>G6 ?_;exact rX [] L Z h3 fun _ hS2=>Cz0
  refine Zk<|Zt<|Sr<|qac Z [_,_,_,_,_,_,_,_,_,_,_,_,_,_,_,_,_,_,_,_,_,_,_,_] Z Z fun β3 s3 h3=>G5 ?_;refine Je Z Z Z (qFv D _ _ (hG.le h3) u O hu) fun s4 h4=>G6 ?_;refine qae (qvd Z Z Z Z Z (by have:=qym hu;omega)) Z<|Zqm Z Z<|Jc Z Z Z (qo5 D _ _ u hu _ _) ?_;rintro _ _ s5 h5 ⟨rfl,ys,rfl,hys⟩;refine Nt<|Zs<|qcM [] [_] _ ?_;intro s6 h6 hpub6;simp only [cQ9,nQ9];have hbt:=qoq (l:=Lib.decDigits u) (hpub6 _ _ _ Mc) hys O;rw [Lib.decDigits_length] at hbt;refine Zr<|Zqm Z Z<|qae (qvd Z Z Z Z Z (by have:=qym hu;omega)) Z<|qae (qje Z Z Z Z Z Z Z (hbt.le (Lr D))) Z<|G5 ?_;exact rX [] L Z (h3.t h4|>.t h5|>.t h6) fun _ hS2=>Cz0
 exact absurd rfl c1
def qA3{p:Prop} (h:p:=by
 rintro _ _ s1 h1 ⟨rfl,rfl⟩;refine G4 ?_;exact rX [] L Z h1 fun _ hS2=>Cz0):p:=h
def qoZ(hG:GW s)(u:Nat)(hu:u < 4294967296):AC prog D 157 [.int .u64 (u:Int),.int .i64 10] L s fun v L' _=>v=St (Lib.decDigits u)∧L=L':=by
 refine qad (fn:=f157) qao func157 V Z ntmps157 Z (rs:=[.tmp 4]) Z [(0,_),(1,_)] Z<|G9 ?_;refine Jc Z Z Z (qrY D _ _ (hG.le (Lr D)) u hu) ?_;exact qA3
def errT:prog.underlying 153=some (.interface (prog.methodsAt 153)):=by kernel_rfl
def qpS(hG:GW s)(l:List UInt8)(hl:l.length≤281474976710656):AC prog D 217 [St l,.int .i64 10,.int .i64 32] L s fun v L' _=>L=L'∧∃ n e b,v=.tuple #[.int .u64 n,e]∧qAF e b∧(b=true→∃ u:Nat,n=(u:Int)∧Lib.parseUintB 32 l=.ok u)∧(b=false→∀ u,Lib.parseUintB 32 l≠.ok u):=
 (qsH D L s hG l hl).mono fun v L' s' _ ⟨hv,hL⟩=>by
  refine ⟨hL,?_⟩;cases hv with
  | ok u h=>exact ⟨_,_,true,rfl,.inl ⟨rfl,rfl⟩,fun _=>⟨u,rfl,h⟩,fun h=>by cases h⟩
  | bad h n t p=>exact ⟨_,_,false,rfl,.inr ⟨_,_,rfl,rfl⟩,(fun h=>by cases h),fun _=>h⟩
def Cz24{p:Prop} (h:p:=by
  first
    | (refine ⟨rfl,IntKind.u32.wrap (u:Int),?_,qqJ _,fun v hv=>?_⟩
       · rw [← qyr hu];rfl
       · have:=qys hu hv;subst this;exact qeF (by have:=Lib.parseUintB_le hu;omega))
    | (refine ⟨rfl,IntKind.u32.wrap n,?_,qqJ _,fun v hv=>?_⟩
       · rw [qpH (hF As)];rfl
       · rw [qpH (hF As)] at hv;cases hv)):p:=h
def qib(hG:GW s)(l:List UInt8)(hl:l.length≤281474976710656):AC prog D 188 [St l] L s fun v L' _=>L=L'∧∃ k,v=.tuple #[.int .u32 k,.bool (qj6 l).isSome]∧U32 k∧∀ u,qj6 l=some u→k=(u:Int):=by
 refine qad (fn:=f188) qao func188 V Z ntmps188 Z (rs:=[.tmp 2,.tmp 3]) Z [(0,_)] Z<|G9 ?_;refine Jc Z Z Z (qpS D _ _ (hG.le (Lr D)) l hl) ?_;rintro _ _ s1 h1 ⟨rfl,n,e,b,rfl,hE,hT,hF⟩;refine G10 ?_;refine qae (qgI Z Z Z Z Z) Z<|Zqm Z Z<|qae (qwC errT Z hE) Z<|Zqm Z Z ?_;refine qfK (t:=15) Z ?_ ?_<;>intro c2;·refine Zg Z Z ?_;obtain ⟨u,rfl,hu⟩:=hT As;refine G2 ?_;refine Je Z Z Z (qoZ D _ _ (hG.le h1) u (by have:=Lib.parseUintB_le hu;omega)) fun s3 h3=>G3 ?_;refine qio Z Z Z<|G6 ?_;exact rR [] L (.tmp Z (.t1 Z)) Z (h1.t h3) fun _ hS2=>Cz24
 refine G10 ?_;exact rR [] L (.tmp Z (.t1 Z)) Z h1 fun _ hS2=>Cz24
def qEg{p:Prop} (h:p:=by
  first
    | (refine ⟨rfl,(qew 43 l).1,0,?_,qby,fun x hx=>?_⟩
       · rw [show qlj l=some ((qew 43 l).1,0) by rw [qlj,if_pos hlb,if_neg (by rw [hpl];decide)]];rfl
       · rw [show qlj l=some ((qew 43 l).1,0) by rw [qlj,if_pos hlb,if_neg (by rw [hpl];decide)]] at hx;injection hx)
    | (have he:qlj l=(qj6 (qew 43 l).2.1).map (fun (n:Nat)=>((qew 43 l).1,(n:Int))):=by rw [qlj,if_pos hlb,if_pos hpl]
       refine ⟨Z,(qew 43 l).1,k,?_,hku,fun x hx=>?_⟩
       · rw [he,Option.isSome_map];rfl
       · rw [he] at hx
         obtain ⟨u,hu,rfl⟩:=Option.map_eq_some_iff.1 hx;rw [hkv u hu])
    | (have he:qlj l=(qj6 l).map (fun (n:Nat)=>([],(n:Int))):=by rw [qlj,if_neg (by rw [hlb];decide)]
       refine ⟨Z,[],k,?_,hku,fun x hx=>?_⟩
       · rw [he,Option.isSome_map];rfl
       · rw [he] at hx
         obtain ⟨u,hu,rfl⟩:=Option.map_eq_some_iff.1 hx;rw [hkv u hu])):p:=h
def qic(hG:GW s)(l:List UInt8)(hl:l.length≤281474976710656):AC prog D 149 [St l] L s fun v L' _=>L=L'∧∃ nm k,v=.tuple #[.agg #[St nm,.int .u32 k],.bool (qlj l).isSome]∧U32 k∧∀ x,qlj l=some x→(nm,k)=x:=by
 have hl1:=(qoG 43 l).2;refine qad (fn:=f149) qao func149 V Z ntmps149 Z (rs:=[.cell 2 162,.tmp 3]) Z [(0,_)] Z<|Sr<|qac Z [_,_] Z Z fun β1 s1 h1=>G6 ?_;refine Je Z Z Z (qvs D _ _ l 43 O) fun s2 h2=>G13 ?_;refine Je Z Z Z (qgt D _ _ _) fun s3 h3=>G2 ?_;have e3:=h1.t h2|>.t h3;refine qd1 Z ?_ ?_<;>intro c4
 ·have hlb:=c4;refine G7 ?_;refine qc8 Z ?_ ?_<;>intro c5;·have hpl:=c5;refine Sr<|Zqm Z Z<|qae (qai [(_,_)] [_,_] Z Z Z Z Z Z) Z<|Wt 0 [_,_] Y9<|G6 ?_;exact rR [_] L (.agg (us:=[_,_]) 0 Z Z Z Z Z (.t1 Z)) Z e3 fun _ hS2=>qEg
  have hpl:=c5;refine G5 ?_;refine Jc Z Z Z (qib D _ _ (hG.le e3) _ O) ?_;rintro _ _ s6 h6 ⟨rfl,k,rfl,hku,hkv⟩;refine G11 ?_;refine qae (qai [(_,_),(_,_)] [_,_] Z Z Z Z Z Z) Z<|Zqm Z Z<|Wt 0 [_,_] Y9<|G5 ?_;exact rR [_] L (.agg (us:=[_,_]) 0 Z Z Z Z Z (.t1 Z)) Z (e3.t h6) fun _ hS2=>qEg
 have hlb:=c4;refine G5 ?_;refine Jc Z Z Z (qib D _ _ (hG.le e3) _ hl) ?_;rintro _ _ s5 h5 ⟨rfl,k,rfl,hku,hkv⟩;refine G10 ?_;refine qae (qai [(_,_)] [_,_] Z Z Z Z Z Z) Z<|Zqm Z Z<|Wt 0 [_,_] Y9<|G4 ?_;exact rR [_] L (.agg (us:=[_,_]) 0 Z Z Z Z Z (.t1 Z)) Z (e3.t h5) fun _ hS2=>qEg
def qv7{p:Prop} (h:p:=by
  first
    | (have hN:qcz l=none:=by
         first
         | exact qsj hWW (by rw [qsf,if_pos he,if_neg (by rw [hlb];decide)])
         | (rw [hlab];exact qoo As)
         | (rw [hlab];exact qmQ (by simp only [List.length_cons];omega))
       rw [hN];exact ⟨rfl,⟨[],[],false,[],0⟩,rfl,qby,fun y hy=>by cases hy⟩)
    | (rw [hlab,qjy As,Option.isSome_map]
       first
       | exact ⟨rfl,⟨[],w1,true,nm,kk⟩,rfl,hku,fun y hy=>by
           obtain ⟨x,hx,rfl⟩:=Option.map_eq_some_iff.1 hy;have:=hkv x hx;subst this;rfl⟩
       | exact ⟨rfl,⟨w0.dropLast,w1,true,nm,kk⟩,rfl,hku,fun y hy=>by
           obtain ⟨x,hx,rfl⟩:=Option.map_eq_some_iff.1 hy;have:=hkv x hx;subst this;rfl⟩)
    | (obtain rfl:R1=[]:=List.eq_nil_of_length_eq_zero O
       rw [hlab,qjx As];first
       | exact ⟨rfl,⟨[],w1,false,[],0⟩,rfl,qby,fun y hy=>by injection hy⟩
       | exact ⟨rfl,⟨w0.dropLast,w1,false,[],0⟩,rfl,qby,fun y hy=>by injection hy⟩)
    | (have hR:R=[]:=List.eq_nil_of_length_eq_zero O
       subst hR;rw [hlab];exact ⟨rfl,⟨w0.dropLast,[],false,[],0⟩,rfl,qby,fun y hy=>by injection hy⟩)
    | (rw [hlab]
       exact ⟨rfl,⟨[],[],false,[],0⟩,rfl,qby,fun y hy=>by injection hy⟩)
    | (exfalso;simp only [List.length_cons] at hn;omega)):p:=h
def qEv{p:Prop} (h:p:=by
 exact rR [_,_] L (.agg (us:=[_,_,_,_,_]) 1 Z Z Z Z Z (.t1 Z)) Z (h1.t h2|>.t h3|>.t h4|>.t h6|>.t h9) fun _ hS2=>qv7):p:=h
def qEu{p:Prop} (h:p:=by
 exact rR [_,_] L (.agg (us:=[_,_,_,_,_]) 1 Z Z Z Z Z (.t1 Z)) Z (h1.t h2|>.t h3|>.t h4|>.t h6|>.t h8|>.t h10|>.t h12) fun _ hS2=>qv7):p:=h
def qlk(hG:GW s)(l:List UInt8)(hl:l.length≤400000):AC Tryz.prog D 106 [St l] L s fun v L' _=>L=L'∧∃ x:Ln,v=.tuple #[.agg x.cs.toArray,.bool (qcz l).isSome]∧U32 x.num∧∀ y,qcz l=some y→x=y:=by
 have hl1:=(qoG 59 l).1;refine qad (fn:=Tryz.f106) qao Tryz.func106 V Z Tryz.ntmps106 Z (rs:=[.cell 2 207,.tmp 3]) Z [(0,_)] Z<|Sr<|qac Z [_,_,_,_,_] Z Z fun β1 s1 h1=>G6 ?_;refine Je Z Z Z (qvs D _ _ l 59 O) fun s2 h2=>G10 ?_;refine Jc Z Z Z (qoT D _ _ _ O) ?_;have e2q:=h1.t h2;rintro _ _ s3 h3 ⟨rfl,Aw,nw,cw,rfl,hW⟩;have e3:=e2q.t h3;have hn:=hW.1;have hmem:∀ x∈qi8 (qew 59 l).1,x.length≤400000:=fun x hx=>by have:=(qoY hx).2;omega
 generalize hWW:qi8 (qew 59 l).1=W at hW hmem hn;refine At Z Z<|Sr<|qac Z [_,_,_,_,_] Z Z fun β4 s4 h4=>G10 ?_;have e4:=e3.t h4;refine qaa Z ?_ ?_<;>intro c5
 ·obtain ⟨b0,off0,w0,R,rfl,hWc,hc0,hlw0⟩:=Strs.head (hW.le h4) (show 0 < nw by omega);subst hWc;refine Sr<|Zqm Z Z<|qae (qaQ (j:=0) Z Z Z Z Z Z (show 0 < nw by omega)) Z<|qae (qak Z Z Z (hc0.le (Lr D)) Z) Z<|Je Z Z Z (qjD D _ _ _ 58 hlw0) fun s6 h6=>G12 ?_;have e6:=e4.t h6;refine qd1 Z ?_ ?_<;>intro c7
  ·have he:=c7;rw [if_pos he];refine G4 ?_;refine Je Z Z Z (qgt D _ _ _) fun s8 h8=>G3 ?_;refine qc8 Z ?_ ?_<;>intro c9;·have hlb:=c9;refine Sr<|qae (qai [] [_,_,_,_,_] Z Z Z Z Z Z) Z<|Wt 1 [_,_,_,_,_] Y9<|G6 ?_;exact rR [_,_] L (.agg (us:=[_,_,_,_,_]) 1 Z Z Z Z Z (.t1 Z)) Z (e6.t h8) fun _ hS2=>qv7
   have hlb:=c9;obtain ⟨A1,n1,c1,hsl,hW1⟩:=Strs.tail (hW.le (h4.t h6|>.t h8));have hlab:qcz l=qfM w0.dropLast R:=qez hWW (by rw [qsf,if_pos he,if_pos hlb]);have hn1:=hW1.1;refine Zk<|Zt<|qaU qab 6 Z [0] Q3 fun s10 h10=>H2 ?_;refine za 2 Z (qaC (qnU (j:=1) Z Z Z Z Z O) hsl) Z<|H1 ?_;refine qaq 4 V<|Wu Z Tt 0 [_,_,_,_,_] Y9 (sM (sbY (sbE _)))<|H1 ?_;refine qah V<|G9 ?_;have e10:=e6.t h8|>.t h10;refine qaa Z ?_ ?_<;>intro c11;·have hz1:=c11;refine Sr<|qae (qaj 0 [_,_,_,_,_] Z Z Z Z Z) Z<|Wt 1 [_,_,_,_,_] Y9<|G5 ?_;exact rR [_,_] L (.agg (us:=[_,_,_,_,_]) 1 Z Z Z Z Z (.t1 Z)) Z e10 fun _ hS2=>qv7
   obtain ⟨b1,off1,w1,R1,rfl,hR1,hc1,hlw1⟩:=Strs.head (hW1.le h10) O;subst hR1;simp only [List.length_cons] at hn1;refine G6 ?_;refine qae (qaQ (j:=0) Z Z Z Z Z Z O) Z<|qae (qak Z Z Z (hc1.le (Lr D)) Z) Z<|Je Z Z Z (qgt D _ _ _) fun s12 h12=>G2 ?_;refine qdN (t:=45) Z ?_ ?_<;>intro c13;·refine G9 ?_;refine qae (qai [] [_,_,_,_,_] Z Z Z Z Z Z) Z<|Wt 1 [_,_,_,_,_] Y9<|G5 ?_;exact qEu
   refine J9 ?_ ?_<;>intro c14;·refine Sr<|qae (qai [] [_,_,_,_,_] Z Z Z Z Z Z) Z<|Wt 1 [_,_,_,_,_] Y9<|G5 ?_;exact qEu
   refine G5 ?_;refine qae (qaQ (j:=0) Z Z Z Z Z Z O) Z<|qae (qak Z Z Z (hc1.le h12) Z) Z<|Wb Y5<|Wt 0 [_,_,_,_,_] Y9<|J15 ?_ ?_<;>intro c15
   ·obtain ⟨b2,off2,w2,hA2,hw2,hc2,hlw2⟩:=Strs.at_ (hW1.le (h10.t h12)) (show 1 < _ by omega);injection hA2 with hA2
    injection hA2 with e1 e2;subst e1;subst e2;have hl2:w2.length≤400000:=hmem _ Q23;obtain rfl:R1=[w2]:=by
      match R1,hw2,hn1 with
      | [],h,_=>cases h
      | [y],h,_=>simp at h;rw [h]
      | _::_::_,_,h=>simp at h;omega
    refine Sr<|Wb Y5<|Wt 0 [_,_,_,_,_] Y9<|G4 ?_;refine qae (qaQ (j:=1) Z Z Z Z Z Z O) Z<|qae (qak Z Z Z (hc2.le (Lr D)) Z) Z<|Jc Z Z Z (qic D _ _ (hG.le (e10.t h12)) w2 O) ?_;rintro _ _ s16 h16 ⟨rfl,nm,kk,rfl,hku,hkv⟩;refine X14 ?_;exact rR [_,_] L (.agg (us:=[_,_,_,_,_]) 1 Z Z Z Z Z (.t1 Z)) Z (e10.t h12|>.t h16) fun _ hS2=>qv7
   refine Zk<|Zt<|Sr<|qae (qaj 0 [_,_,_,_,_] Z Z Z Z Z) Z<|Zqm Z Z<|Wt 1 [_,_,_,_,_] Y9<|G4 ?_;exact qEu
  have he:=c7;have hlab:qcz l=qfM [] (w0::R):=qez hWW (by rw [qsf,if_neg (by rw [he];decide)]);have hW1:=hW.le (h4.t h6);refine J10 ?_ ?_<;>intro c8;·have hz1:=c8;exfalso;omega
  have hc1:=hc0.le h6;have hlw1:=hlw0;obtain ⟨w1,R1,e1,e2⟩:∃ a b,a=w0∧b=R:=⟨_,_,rfl,rfl⟩;subst e1;subst e2;have hn1:=hn;simp only [List.length_cons] at hn1;refine G6 ?_;refine qae (qaQ (j:=0) Z Z Z Z Z Z O) Z<|qae (qak Z Z Z (hc1.le (Lr D)) Z) Z<|Je Z Z Z (qgt D _ _ _) fun s9 h9=>G2 ?_;refine qdN (t:=45) Z ?_ ?_<;>intro c10;·refine G9 ?_;refine qae (qai [] [_,_,_,_,_] Z Z Z Z Z Z) Z<|Wt 1 [_,_,_,_,_] Y9<|G5 ?_;exact qEv
  refine J9 ?_ ?_<;>intro c11;·refine Sr<|qae (qai [] [_,_,_,_,_] Z Z Z Z Z Z) Z<|Wt 1 [_,_,_,_,_] Y9<|G5 ?_;exact qEv
  refine G5 ?_;refine qae (qaQ (j:=0) Z Z Z Z Z Z O) Z<|qae (qak Z Z Z (hc1.le h9) Z) Z<|Wb Y5<|Wt 0 [_,_,_,_,_] Y9<|J15 ?_ ?_<;>intro c12
  ·obtain ⟨b2,off2,w2,hA2,hw2,hc2,hlw2⟩:=Strs.at_ (hW1.le h9) (show 1 < _ by omega);injection hA2 with hA2
   injection hA2 with e1 e2;subst e1;subst e2;have hl2:w2.length≤400000:=hmem _ Q23;obtain rfl:R1=[w2]:=by
     match R1,hw2,hn1 with
     | [],h,_=>cases h
     | [y],h,_=>simp at h;rw [h]
     | _::_::_,_,h=>simp at h;omega
   refine Sr<|Wb Y5<|Wt 0 [_,_,_,_,_] Y9<|G4 ?_;refine qae (qaQ (j:=1) Z Z Z Z Z Z O) Z<|qae (qak Z Z Z (hc2.le (Lr D)) Z) Z<|Jc Z Z Z (qic D _ _ (hG.le (e6.t h9)) w2 O) ?_;rintro _ _ s13 h13 ⟨rfl,nm,kk,rfl,hku,hkv⟩;refine X14 ?_;exact rR [_,_] L (.agg (us:=[_,_,_,_,_]) 1 Z Z Z Z Z (.t1 Z)) Z (e6.t h9|>.t h13) fun _ hS2=>qv7
  refine Zk<|Zt<|Sr<|qae (qaj 0 [_,_,_,_,_] Z Z Z Z Z) Z<|Zqm Z Z<|Wt 1 [_,_,_,_,_] Y9<|G4 ?_;exact qEv
 have hW0:W=[]:=List.eq_nil_of_length_eq_zero O;subst hW0;have hlab:qcz l=qfM [] []:=qez hWW rfl;have hW1:=hW;refine J10 ?_ ?_<;>intro c6;·have hz1:=c6;refine Sr<|qae (qaj 0 [_,_,_,_,_] Z Z Z Z Z) Z<|Wt 1 [_,_,_,_,_] Y9<|G5 ?_;exact rR [_,_] L (.agg (us:=[_,_,_,_,_]) 1 Z Z Z Z Z (.t1 Z)) Z e4 fun _ hS2=>qv7
 exact absurd (by simp at hn;omega) c6
end Go.Proofs.YtlfiplbamnpgoaaGreatDoor
namespace Go.Proofs.YtlfiplbamnpgoaaGreatDoor
open Go Go.FL Go.RowKit
variable(D:Nat)(L:Hl)(s:World){w w1:List Int}{x:Ln}{code i xk yc:Int}{own xh:Bool}{r:List (Int×Nat×List UInt8×Int)}{M R:Hl}{k xl xo xn:List UInt8}
structure AG where
 vw:Value
 Mw:Hl
 vl:Value
 Ml:Hl
 vr:Value
 Mr:Hl
 es:List (List UInt8×Value×Nat)
 ck:Nat
 w:List Int
 l:List (List UInt8×Int)
 r:List (Int×Nat×List UInt8×Int)
def lbv(l:List (List UInt8×Int)):List Value:=(l.map fun x=>[St x.1,Value.int .u32 x.2]).flatten
def rfv(r:List (Int×Nat×List UInt8×Int)):List Value:=(r.map fun x=>[Value.int .i64 x.1,Value.int .i64 (x.2.1:Int),St x.2.2.1,Value.int .u32 x.2.2.2]).flatten
def qbo:List (List UInt8×Int)→List UInt8→Option Int
 | [],_=>none
 | x::l,k=>if x.1=k then some x.2 else qbo l k
structure AGok(g:AG):Prop where
 hw:FL.Own 34 1 g.Mw g.vw g.w.length (wv g.w)
 hl:FL.Own 211 2 g.Ml g.vl g.l.length (lbv g.l)
 hr:FL.Own 164 4 g.Mr g.vr g.r.length (rfv g.r)
 he:∀ k,qaW g.es k=(qbo g.l k).map (Value.int .u32)
 uw:∀ x∈g.w,U32 x
 ul:∀ x∈g.l,U32 x.2
 ur:∀ x∈g.r,U32 x.2.2.2
def HA(ba bm:Nat)(tc:Int)(A:Option Addr)(n c:Nat)(g:AG)(L:Hl):Hl:=
 (ba,cb [.int .i64 tc,.slice A n c,g.vw,g.vl,.map (some bm),g.vr] 120)::(bm,mp (fun l=>St l) g.es g.ck)::(g.Mw++(g.Ml++(g.Mr++L)))
def qsi(l:List (List UInt8×Int))(k:List UInt8)(a:Int):lbv (l++[(k,a)])=lbv l++[St k,.int .u32 a]:=by simp [lbv]
def qsS(r:List (Int×Nat×List UInt8×Int))(i:Int)(p:Nat)(k:List UInt8)(a:Int):rfv (r++[(i,p,k,a)])=rfv r++[.int .i64 i,.int .i64 (p:Int),St k,.int .u32 a]:=by simp [rfv]
def qAp(w:List Int)(x:Int):wv (w++[x])=wv w++[.int .u32 x]:=by simp [wv]
def quX(w:List Int)(m:Nat):wv (w++List.replicate m 0)=wv w++List.replicate m (.int .u32 0):=by simp [wv]
def qh4(l:List (List UInt8×Int))(k j:List UInt8)(a:Int)(h:qbo l k=none):qbo (l++[(k,a)]) j=if j=k then some a else qbo l j:=by
  induction l with
  | nil=>simp only [List.nil_append,qbo];by_cases h':k=j<;>simp [h',eq_comm]
  | cons x l ih=>
    simp only [qbo] at h;split at h
    · cases h
    · rename_i hx
      simp only [List.cons_append,qbo,ih h];by_cases hj:x.1=j
      · subst hj;simp [hx]
      · simp [hj]
def qbO:List UInt8:=[115,112,97,99,101]
def qb7(w:List Int)(x:Ln)(code:Int)(own:Bool):List Int:=
 if x.op=qbO then w++List.replicate x.num.toNat 0 else if x.has then (if own then w else w++[code])++[x.num] else (if own then w else w++[code])
def qdc(r:List (Int×Nat×List UInt8×Int))(w:List Int)(i:Int)(x:Ln)(code:Int)(own:Bool):List (Int×Nat×List UInt8×Int):=
 if x.op=qbO then r else if x.has=true∧x.name≠[] then r++[(i,(if own then w else w++[code]).length,x.name,x.num)] else r
def qe0(h:x.op=qbO):qb7 w x code own=w++List.replicate x.num.toNat 0:=by rw [qb7,if_pos h]
def qkY(h:x.op=qbO):qdc r w i x code own=r:=by rw [qdc,if_pos h]
def qjc(ba bm:Nat)(tc:Int)(A:Option Addr)(n c:Nat)(g:AG)(x:Nat×Obj)(L:Hl):(HA ba bm tc A n c g (x::L)).Perm (x::HA ba bm tc A n c g L):=by
 unfold HA;refine List.Perm.trans ?_ (List.Perm.trans (List.Perm.cons _ (List.Perm.swap _ _ _)) (List.Perm.swap _ _ _));refine List.Perm.cons _ (List.Perm.cons _ ?_);refine List.Perm.trans ?_ (List.perm_middle);refine List.Perm.append_left _ ?_;refine List.Perm.trans ?_ (List.perm_middle);exact List.Perm.append_left _ List.perm_middle
def qnF(ba bm:Nat)(tc:Int)(A:Option Addr)(n c:Nat)(g:AG)(x y:Nat×Obj)(L:Hl):(HA ba bm tc A n c g (x::y::L)).Perm (x::y::HA ba bm tc A n c g L):=
 (qjc ..).trans (List.Perm.cons _ (qjc ..))
def qft(o:List UInt8):Bool:=decide (o=[119,111,114,100]∨o=[115,112,97,99,101])
def qcH(l:List Ins)(nm:List UInt8):Option Ins:=l.find? fun y=>decide (y.name=nm)
def qcV(t:Tab)(o:List UInt8):Int:=match qcH t.ins o with
 | some z=>z.code
 | none=>0
def qAx(t:Tab)(o:List UInt8):Bool:=match qcH t.ins o with
 | some z=>z.operand
 | none=>false
def qeM(t:Tab)(w:List Int)(x:Ln):List Int:=if x.op=[] then w else qb7 w x (qcV t x.op) (qft x.op)
def qkL(w:List Int)(l:List (List UInt8×Int))(x:Ln):List (List UInt8×Int):=if x.label=[] then l else l++[(x.label,(w.length:Int))]
def qhM(t:Tab)(w:List Int)(r:List (Int×Nat×List UInt8×Int))(i:Int)(x:Ln):List (Int×Nat×List UInt8×Int):=if x.op=[] then r else qdc r w i x (qcV t x.op) (qft x.op)
def qd7(t:Tab)(w:List Int)(l:List (List UInt8×Int)):Option Ln→Int
 | none=>1
 | some x=>if x.label≠[]∧(qbo l x.label).isSome=true then 8 else if x.op=[] then 0
  else if (qcH t.ins x.op).isSome=false∧qft x.op=false then 12
  else if x.has≠(qft x.op || qAx t x.op) then 9
  else if x.op=[115,112,97,99,101]∧x.name≠[] then 6
  else if t.cells < ((qeM t w x).length:Int) then 14 else 0
section
variable{t:Tab}{w:List Int}{l:List (List UInt8×Int)}{x:Ln}{yo:Bool}(h8:¬ (x.label≠[]∧(qbo l x.label).isSome=true))(ho:¬ x.op=[])
include h8 ho
def qw7(h:(qcH t.ins x.op).isSome=false∧¬ (x.op=[119,111,114,100]∨x.op=[115,112,97,99,101])):qd7 t w l (some x)=12:=by
 rw [qd7,if_neg h8,if_neg ho,if_pos ⟨h.1,decide_eq_false h.2⟩]
variable(h83:¬ ((qcH t.ins x.op).isSome=false∧¬ (x.op=[119,111,114,100]∨x.op=[115,112,97,99,101])))(hoo:qAx t x.op=yo)
include h83 hoo
def qBJ(h90:¬ x.has=(decide (x.op=[119,111,114,100]∨x.op=[115,112,97,99,101]) || yo)):qd7 t w l (some x)=9:=by
 rw [qd7,if_neg h8,if_neg ho,if_neg (fun h=>h83 ⟨h.1,of_decide_eq_false h.2⟩),hoo];exact if_pos h90
variable(h90:¬ ¬ x.has=(decide (x.op=[119,111,114,100]∨x.op=[115,112,97,99,101]) || yo))
include h90
def qBI(h99:x.op=[115,112,97,99,101]∧¬ x.name=[]):qd7 t w l (some x)=6:=by
 rw [qd7,if_neg h8,if_neg ho,if_neg (fun h=>h83 ⟨h.1,of_decide_eq_false h.2⟩),hoo];exact (if_neg h90).trans (if_pos h99)
def qBH(h99:¬ (x.op=[115,112,97,99,101]∧¬ x.name=[])):qd7 t w l (some x)=if t.cells < ((qeM t w x).length:Int) then 14 else 0:=by
 rw [qd7,if_neg h8,if_neg ho,if_neg (fun h=>h83 ⟨h.1,of_decide_eq_false h.2⟩),hoo];exact (if_neg h90).trans (if_neg h99)
end
def qoO(w:List Int)(x:Ln)(c d:Int):qb7 w x c true=qb7 w x d true:=by simp [qb7]
def qoM(r:List (Int×Nat×List UInt8×Int))(w:List Int)(i:Int)(x:Ln)(c d:Int):qdc r w i x c true=qdc r w i x d true:=by simp [qdc]
open Go.Proofs.Tryz
open Go.FL
attribute [local irreducible] JC JO JA JB qaJ qax qbN AC fill CellsAt QE Ev Mid
def qrU(nm:List UInt8)(y:Ins)(A':Option Addr)(n' c' β:Nat)(x0:Nat×Obj):AC prog D 150 [.agg #[St y.name,.int .u32 y.code,.bool y.operand,.slice A' n' c'],.pointer (some ⟨β,0,none⟩)] (x0::(β,cb [St nm] 9)::L) s fun v L' _=>v=.bool (decide (y.name=nm))∧x0::(β,cb [St nm] 9)::L=L':=by
 refine qad (fn:=f150) qao func150 V Z ntmps150 Z (rs:=[.tmp 3]) Z [(0,_),(1,_)] Z<|Sr<|qar Z Z fun β1 s1 h1=>G8 ?_;refine qio Z Z Z<|At Z Z<|Zo ?_;exact rR [_] (x0::(β,cb [St nm] 9)::L) (.t1 Z) Z h1 fun _ hS2=>Cz0
def ql6{α:Type}(p:α→Bool)(l:List α)(j:Nat):(qaN p l j=-1∧l.find? p=none)∨∃ i x,qaN p l j=((j+i:Nat):Int)∧l[i]?=some x∧l.find? p=some x:=by
 induction l generalizing j with
 | nil=>exact .inl ⟨rfl,rfl⟩
 | cons y l ih=>
  simp only [qaN,List.find?];cases h:p y with
  | true=>exact .inr ⟨0,y,by simp,rfl,rfl⟩
  | false=>
   rcases ih (j+1) with ⟨h1,h2⟩|⟨i,x,h1,h2,h3⟩
   · exact .inl ⟨by simpa using h1,h2⟩
   · exact .inr ⟨i+1,x,by simp only [Bool.false_eq_true,if_false];rw [h1];congr 1;omega,h2,h3⟩
def Cz27{p:Prop} (h:p:=by
  first
    | (refine ⟨rfl,y,A',n',c',?_,hcd,fun z hz=>?_,fun hz=>?_⟩
       · rw [qcH,hf];rfl
       · rw [qcH,hf] at hz;injection hz
       · rw [qcH,hf] at hz;cases hz)
    | (refine ⟨rfl,⟨[],0,false,[]⟩,none,0,0,?_,qby,fun z hz=>?_,fun _=>rfl⟩
       · rw [qcH,hf];rfl
       · rw [qcH,hf] at hz;cases hz)):p:=h
def qAY{p:Prop} (h:p:=by
 exact rR [_,_] _ (.agg (us:=[_,_,_,_]) 0 Z Z Z Z Z (.t1 Z)) Z (h1.t h2|>.t h3) fun _ hS2=>Cz27):p:=h
def qrV(ba bm:Nat)(t:Tab)(A:Option Addr)(n c:Nat)(hA:Inss s A n c t.ins)(g:AG)(nm:List UInt8):AC prog D 107 [.pointer (some ⟨ba,0,none⟩),St nm] (HA ba bm t.cells A n c g L) s fun v L' _=>L'=HA ba bm t.cells A n c g L∧∃ (y:Ins) (Ay:Option Addr) (ny cy:Nat),v=.tuple #[.agg #[St y.name,.int .u32 y.code,.bool y.operand,.slice Ay ny cy],.bool (qcH t.ins nm).isSome]∧U32 y.code∧(∀ z,qcH t.ins nm=some z→y=z)∧(qcH t.ins nm=none→y.operand=false):=by
 have hn:=hA.1;simp only [HA];refine qad (fn:=f107) qao func107 V Z ntmps107 Z (rs:=[.cell 4 84,.tmp 5]) Z [(0,_),(1,_)] Z<|Sr<|qeK Z Z Z fun β1 s1 h1=>qac Z [_,_,_,_] Z Z fun β2 s2 h2=>G10 ?_;refine qae (qbj Z) Z<|Je Z Z Z (qgb D _ _ _ _ _ _ (hA.le (h1.t h2)) _ _ (fun (y:Ins)=>decide (y.name=nm)) (fun s2 x A2 n2 c2=>qrU D _ s2 nm x A2 n2 c2 _ _)) fun s3 h3=>J10 ?_ ?_<;>intro c4
 ·have hneg:=c4;obtain ⟨hi,hf⟩|⟨i,y,hi,hy,hf⟩:=ql6 (fun (y:Ins)=>decide (y.name=nm)) t.ins 0
  rotate_left
  · exact absurd hneg O
  refine Sr<|qae (qai [] [_,_,_,_] Z Z Z Z Z Z) Z<|Wt 0 [_,_,_,_] Y9<|G5 ?_;exact qAY
 have hneg:=c4;obtain ⟨hi,hf⟩|⟨i,y,hi,hy,hf⟩:=ql6 (fun (y:Ins)=>decide (y.name=nm)) t.ins 0
 · exact absurd O hneg
 rw [hi,Nat.zero_add];obtain ⟨b,off,y',A',n',c',rfl,hy',hcy,hay,hnl,hcd⟩:=Inss.at_ (hA.le (h1.t h2|>.t h3)) (show i < n by rw [hn];exact (List.getElem?_eq_some_iff.1 hy).1);rw [hy] at hy';injection hy' with hy'
 subst hy';refine G10 ?_;refine qae (qaw Z Z Z Z Z Z (show i < n by rw [hn];exact (List.getElem?_eq_some_iff.1 hy).1)) Z ?_;refine qae (qat Z Z Z (hcy.le (Lr D)) Z) Z<|Wt 0 [_,_,_,_] Y9<|G4 ?_;exact qAY
def qcO{g:AG}{vw:Value}{x:Int}(hg:AGok g)(o:FL.Own 34 1 M vw (g.w.length+1) (wv g.w++[.int .u32 x]))(hx:U32 x):AGok ⟨vw,M,g.vl,g.Ml,g.vr,g.Mr,g.es,g.ck,g.w++[x],g.l,g.r⟩:=
 ⟨by simp only [List.length_append,List.length_cons,List.length_nil,qAp];exact o,hg.hl,hg.hr,hg.he,fun y hy=>by
  rcases List.mem_append.1 hy with h|h
  · exact hg.uw y h
  · rw [List.mem_singleton.1 h];exact hx,hg.ul,hg.ur⟩
def qjj{g:AG}{vr:Value}{p:Nat}{x:Int}(hg:AGok g)(o:FL.Own 164 4 M vr (g.r.length+1) (rfv g.r++[.int .i64 i,.int .i64 (p:Int),St k,.int .u32 x]))(hx:U32 x):AGok ⟨g.vw,g.Mw,g.vl,g.Ml,vr,M,g.es,g.ck,g.w,g.l,g.r++[(i,p,k,x)]⟩:=
 ⟨hg.hw,hg.hl,by simp only [List.length_append,List.length_cons,List.length_nil,qsS];exact o,hg.he,hg.uw,hg.ul,fun y hy=>by
  rcases List.mem_append.1 hy with h|h
  · exact hg.ur y h
  · rw [List.mem_singleton.1 h];exact hx⟩
def qrj{g:AG}{vw:Value}{m:Nat}(hg:AGok g)(o:FL.Own 34 1 M vw (g.w.length+m) (wv g.w++List.replicate m (.int .u32 0))):AGok ⟨vw,M,g.vl,g.Ml,g.vr,g.Mr,g.es,g.ck,g.w++List.replicate m 0,g.l,g.r⟩:=
 ⟨by simp only [List.length_append,List.length_replicate,quX];exact o,hg.hl,hg.hr,hg.he,fun y hy=>by
  rcases List.mem_append.1 hy with h|h
  · exact hg.uw y h
  · rw [(List.mem_replicate.1 h).2];exact qby,hg.ul,hg.ur⟩
def qeO(h:w1=if own=true then w else w++[yc])(hs:¬ xo=qbO)(hh:xh=true):w1++[xk]=qb7 w ⟨xl,xo,xh,xn,xk⟩ yc own:=by
 subst h;subst hh;simp [qb7,hs]
def qoL(h:w1=if own=true then w else w++[yc])(hs:¬ xo=qbO)(hh:xh=false):w1=qb7 w ⟨xl,xo,xh,xn,xk⟩ yc own:=by
 subst h;subst hh;simp [qb7,hs]
def qjI(h:w1=if own=true then w else w++[yc])(hs:¬ xo=qbO)(hh:xh=true)(hn:¬ xn=[]):r++[(i,w1.length,xn,xk)]=qdc r w i ⟨xl,xo,xh,xn,xk⟩ yc own:=by
 subst h;subst hh;simp [qdc,hs,hn]
def qfj(hn:xn=[]):r=qdc r w i ⟨xl,xo,xh,xn,xk⟩ yc own:=by
 subst hn;simp [qdc]
def qfi(hh:xh=false):r=qdc r w i ⟨xl,xo,xh,xn,xk⟩ yc own:=by
 subst hh;simp [qdc]
def qvj{x1 x2 x3 x4:Nat×Obj}{M1 M2:Hl}:x1::x2::x3::x4::(M1++(M2++R))=(x1::x2::x3::x4::(M1++M2))++R:=by simp
theorem qe7{x a b:Nat×Obj}{R':Hl}(hx:x∈(a::b::R).take 2):x∈a::b::R':=by grind
def qjb{k:Nat}(h:k < 4294967296):U32 (k:Int):=⟨by omega,by omega⟩
def qDW{p:Prop} (h:p:=by
  first
    | (refine ⟨(⟨.slice Aw w.length cw,Mw,.slice Al l.length cl,Ml,.slice Ar r.length cr,Mr,es,ck,w,l,r⟩:AG),rfl,14,rfl,.inl ⟨rfl,?_⟩⟩
       simp only [qe0 (x:=⟨xl,xo,xh,xn,(xk:Int)⟩) hsp,List.length_append,List.length_replicate,Int.toNat_natCast];omega)
    | (refine ⟨⟨_,M1,_,Ml,_,Mr,es,ck,w++List.replicate xk 0,l,r⟩,rfl,0,rfl,.inr ⟨rfl,?_,qrj hg0 o1,?_,rfl,rfl,?_⟩⟩
       · simp only [qe0 (x:=⟨xl,xo,xh,xn,(xk:Int)⟩) hsp,List.length_append,List.length_replicate,Int.toNat_natCast];omega
       · simp only [qe0 (x:=⟨xl,xo,xh,xn,(xk:Int)⟩) hsp,Int.toNat_natCast]
       · exact (qkY (x:=⟨xl,xo,xh,xn,(xk:Int)⟩) hsp).symm)
    | (refine ⟨g,rfl,14,rfl,.inl ⟨rfl,?_⟩⟩
       rw [← ew3];omega)
    | (refine ⟨g,rfl,0,rfl,.inr ⟨rfl,?_,hg3,ew3,el3,ee3,er3⟩⟩
       rw [← ew3];omega)):p:=h
def Ez14{p:Prop} (h:p:=by
 intro v1 M1 s9 h9 o1;obtain ⟨Av1,cv1,rfl,kv1,kv12⟩:=Own.slice o1;simp only [List.cons_append,List.nil_append,List.append_assoc];refine H2 ?_;refine qaq 11 V<|Wu Z Tt 2 [_,_,_,_,_,_] Y9 (sM (qgA (sb0 _)))<|qah V<|G3 ?_;refine qn1 Z Z Z (w64 O O)<|G2 ?_;refine qaf (MidG.mk ⟨_,M1,_,Ml,_,Mr,es,ck,w++[yc],l,r⟩ [] (h7.t h8|>.t h9) (.cons Q15 (.nil _)) So Pr Q24)):p:=h
def Ez11{p:Prop} (h:p:=by
 intro v3 M3 s12 h12 o3;obtain ⟨Av3,cv3,rfl,kv3,kv32⟩:=Own.slice o3;simp only [List.cons_append,List.nil_append,List.append_assoc];refine X4 ?_;refine qn1 Z Z Z (w64 O O)<|G2 ?_;refine qaf (MidG.mk ⟨_,M3,_,Ml1,_,Mr1,es1,ck1,w1++[(xk:Int)],l1,r1⟩ [] (h10.t h11|>.t h12) (.cons Q15 (.nil _)) So Pr Q20)):p:=h
def Ez8{p:Prop} (h:p:=by
 intro v3 M3 s15 h15 o3;obtain ⟨Av3,cv3,rfl,kv3,kv32⟩:=Own.slice o3;simp only [List.cons_append,List.nil_append,List.append_assoc];refine X4 ?_;refine qn1 Z Z Z (w64 O O)<|G2 ?_;refine qaf (MidG.mk ⟨_,M3,_,Ml1,_,M2,es1,ck1,w1++[(xk:Int)],l1,r1++[(num,w1.length,xn,(xk:Int))]⟩ [] (h10.t h11|>.t h12|>.t h13|>.t h14|>.t h15) (.cons Q15 (.nil _)) So Pr Q20)):p:=h
def Ez2{p:Prop} (h:p:=by
  intro βn s11 h11 hcb;refine qaq 15 V<|qcS (sz:=4) Z (by exact Tt) (_::_::_::_::(Mw1++Ml1)) Mr1 _ qvj Z Z Z Z Z Z hOr1 (Row.of_cells (hcb.le (Lr D)) Z Z) ⟨by simp [ti163];omega,by omega⟩ Z (fun A2 x hx _=>qe7 hx) ?_;intro v2 M2 s12 h12 o2;obtain ⟨Av2,cv2,rfl,kv2,kv22⟩:=Own.slice o2;simp only [List.cons_append,List.nil_append,List.append_assoc];refine H2 ?_;refine qaq 18 V<|Wu Z Tt 2 [_,_,_,_,_,_] Y9 (sM (qgA (sb0 _)))<|qah V<|Zt<|Zs<|qaB qab 13 Z 2 fun s13 h13=>H7 ?_;have e13:=h10.t h11|>.t h12|>.t h13;refine qdB 4 8 V ?_ ?_;·refine qbH Z Tt (Wd 2 Y5) Z<|qaq 8 V<|qci Z Tt [(_,_)] [_] Z Z Z Z Z Z Z Z Z fun βn s14 h14 hcb=>qaq 9 V<|qcS (sz:=1) Z (by exact Tt) [_,_,_,_] Mw1 _ Z Z Z Z Z Z Z hOw1 (Row.of_cells (hcb.le (Lr D)) Z Z) ⟨by simp [ti34];omega,by omega⟩ Z (fun A2 x hx _=>qe7 hx) ?_;intro v3 M3 s15 h15 o3;obtain ⟨Av3,cv3,rfl,kv3,kv32⟩:=Own.slice o3;simp only [List.cons_append,List.nil_append,List.append_assoc];refine X4 ?_;refine qn1 Z Z Z (w64 O O)<|G2 ?_;refine qaf (MidG.mk ⟨_,M3,_,Ml1,_,M2,es1,ck1,w1++[(xk:Int)],l1,r1++[(num,w1.length,xn,(xk:Int))]⟩ [] (e13.t h14|>.t h15) (.cons Q15 (.nil _)) So Pr Q20)
  refine qci Z Tt [(_,_)] [_] Z Z Z Z Z Z Z Z Z fun βn s14 h14 hcb=>qaq 4 V<|qbH Z Tt (Wd 2 Y5) Z<|qaq 9 V<|qcS (sz:=1) Z (by exact Tt) [_,_,_,_] Mw1 _ Z Z Z Z Z Z Z hOw1 (Row.of_cells (hcb.le (Lr D)) Z Z) ⟨by simp [ti34];omega,by omega⟩ Z (fun A2 x hx _=>qe7 hx) ?_;intro v3 M3 s15 h15 o3;obtain ⟨Av3,cv3,rfl,kv3,kv32⟩:=Own.slice o3;simp only [List.cons_append,List.nil_append,List.append_assoc];refine X4 ?_;refine qn1 Z Z Z (w64 O O)<|G2 ?_;refine qaf (MidG.mk ⟨_,M3,_,Ml1,_,M2,es1,ck1,w1++[(xk:Int)],l1,r1++[(num,w1.length,xn,(xk:Int))]⟩ [] (e13.t h14|>.t h15) (.cons Q15 (.nil _)) So Pr Q20)):p:=h
def qxL(ba bm:Nat)(tc:Int)(A:Option Addr)(n c:Nat)(g:AG)(hg:AGok g)(num:Int)(xl xo:List UInt8)(xh:Bool)(xn:List UInt8)(xk:Nat)(hxk:xk < 4294967296)(yn:List UInt8)(yc:Int)(yo:Bool)(Ay:Option Addr)(ny cy:Nat)(hyc:U32 yc)(own:Bool)(htc:0≤tc∧tc≤65536)(hwl:(g.w.length:Int)≤tc)(hrl:g.r.length≤1000000):AC Tryz.prog D 108 [.pointer (some ⟨ba,0,none⟩),.int .i64 num,.agg #[St xl,St xo,.bool xh,St xn,.int .u32 (xk:Int)],.agg #[St yn,.int .u32 yc,.bool yo,.slice Ay ny cy],.bool own] (HA ba bm tc A n c g L) s fun v L' _=>∃ g',L'=HA ba bm tc A n c g' L∧∃ e,v=.int .i64 e∧((e=14∧tc < ((qb7 g.w ⟨xl,xo,xh,xn,(xk:Int)⟩ yc own).length:Int))∨(e=0∧((qb7 g.w ⟨xl,xo,xh,xn,(xk:Int)⟩ yc own).length:Int)≤tc∧AGok g'∧g'.w=qb7 g.w ⟨xl,xo,xh,xn,(xk:Int)⟩ yc own∧g'.l=g.l∧g'.es=g.es∧g'.r=qdc g.r g.w num ⟨xl,xo,xh,xn,(xk:Int)⟩ yc own)):=by
 have hg0:=hg;obtain ⟨vw,Mw,vl,Ml,vr,Mr,es,ck,w,l,r⟩:=g;obtain ⟨hOw,hOl,hOr,hE,huw,hul,hur⟩:=hg;simp only at hOw hOl hOr hE huw hul hur;obtain ⟨Aw,cw,rfl,kw,kx⟩:=Own.slice hOw;obtain ⟨Al,cl,rfl,kl,km⟩:=Own.slice hOl;obtain ⟨Ar,cr,rfl,kr,ks⟩:=Own.slice hOr;simp only [HA];simp only at hwl hrl;refine qad (fn:=Tryz.f108) qao Tryz.func108 V Z Tryz.ntmps108 Z (rs:=[.tmp 10]) Z [(0,_),(1,_),(2,_),(3,_),(4,_)] Z<|Sr<|qar Z Z fun β1 s1 h1=>qar Z Z fun β2 s2 h2=>At Z Z<|Zs<|qaL qab 12 Z _ (fun _ h=>h) fun s3 h3=>H4 ?_;refine za 4 Z (Wd 2 Y5) Z<|H3 ?_;refine za 8 Z (Wd 2 Y5) Z<|H1 ?_;refine za 10 Z (qbB Z Z (w64 O O)) Z<|H1 ?_;refine qah V<|G6 ?_;refine qio Z Z Z<|G2 ?_;have e3:=h1.t h2|>.t h3;refine qaa Z ?_ ?_<;>intro c4
 ·have hsp:xo=qbO:=c4;refine G4 ?_;refine qae (qbD Z Z Z Z) Z<|Wl 1 Y6<|qae (qbe Z Z Z Z Z (w64 O O)) Z<|J4 ?_ ?_<;>intro c5;·refine G8 ?_;exact rX [_,_] _ Z e3 fun _ hS2=>qDW
  refine Zk<|Zt<|Zs<|qaB qab 12 Z 2 fun s6 h6=>H7 ?_;refine qaq 4 V<|qbH Z Tt (Wd 2 Y5) Z<|qaq 8 V<|qwp (sz:=1) (m:=xk) (news:=List.replicate xk (.int .u32 0)) Z Tt [_,_,_,_] Mw _ Z Z Z Z Z Z Z hOw (by simp) (fun hT w i k1 i1 i2 i3 i4=>qjm xk k1 Tryz.underlying34 i1 i2 i4 Z Z O (by rw [i3];simp [ti34];omega)) ⟨by simp [ti34];omega,by omega⟩ Z (fun A2 x hx _=>qe7 hx) ?_;intro v1 M1 s7 h7 o1;obtain ⟨Av1,cv1,rfl,kv1,kv2⟩:=Own.slice o1;simp only [List.cons_append,List.nil_append,List.append_assoc];refine H2 ?_;refine qaq 11 V<|Wu Z Tt 2 [_,_,_,_,_,_] Y9 (sM (qgA (sb0 _)))<|qah V<|G8 ?_;exact rX [_,_] _ Z (e3.t h6|>.t h7) fun _ hS2=>qDW
 have hsp:¬ xo=qbO:=c4;refine G2 ?_;refine qd6 (γ:=AG) (fun g=>[(11,.int .i64 (tc - (g.w.length:Int)))]) [_,_] Z (fun g=>HA ba bm tc A n c g L) (fun g tw=>AGok g∧g.w=(if own=true then w else w++[yc])∧g.l=l∧g.r=r∧g.es=es) (fun _ _ _ h hl=>h) ?_ ?_
 ·refine G6 ?_;refine qc8 Z ?_ ?_<;>intro c6
  ·have hown:=c6;refine Zs<|qaB qab 12 Z 2 fun s7 h7=>H6 ?_;refine qdB 4 7 V ?_ ?_;·refine qbH Z Tt (Wd 2 Y5) Z<|qaq 7 V<|qci Z Tt [(_,_)] [_] Z Z Z Z Z Z Z Z Z fun βn s8 h8 hcb=>qaq 8 V<|qcS (sz:=1) Z (by exact Tt) [_,_,_,_] Mw _ Z Z Z Z Z Z Z hOw (Row.of_cells (hcb.le (Lr D)) Z Z) ⟨by simp [ti34];omega,by omega⟩ Z (fun A2 x hx _=>qe7 hx) ?_;exact Ez14
   refine qci Z Tt [(_,_)] [_] Z Z Z Z Z Z Z Z Z fun βn s8 h8 hcb=>qaq 4 V<|qbH Z Tt (Wd 2 Y5) Z<|qaq 8 V<|qcS (sz:=1) Z (by exact Tt) [_,_,_,_] Mw _ Z Z Z Z Z Z Z hOw (Row.of_cells (hcb.le (Lr D)) Z Z) ⟨by simp [ti34];omega,by omega⟩ Z (fun A2 x hx _=>qe7 hx) ?_;exact Ez14
  have hown:=c6;refine Zk ?_;refine qaf (MidG.mk ⟨_,Mw,_,Ml,_,Mr,es,ck,w,l,r⟩ [] (Lr D) (.cons Q15 (.nil _)) So Pr Q24)
 intro g s5 h5 I5;simp only [cQ9,nQ9];obtain ⟨hg1,ew1,el1,er1,ee1⟩:=I5;have hg2:=hg1;obtain ⟨vw1,Mw1,vl1,Ml1,vr1,Mr1,es1,ck1,w1,l1,r1⟩:=g;obtain ⟨hOw1,hOl1,hOr1,hE1,huw1,hul1,hur1⟩:=hg1;simp only at hOw1 hOl1 hOr1 hE1 huw1 hul1 hur1;obtain ⟨Aw1,cw1,rfl,kw1,kx1⟩:=Own.slice hOw1;obtain ⟨Al1,cl1,rfl,kl1,km1⟩:=Own.slice hOl1;obtain ⟨Ar1,cr1,rfl,kr1,ks1⟩:=Own.slice hOr1;simp only [HA];simp only at ew1 el1 er1 ee1;subst el1;subst er1;subst ee1;have hw1l:(w1.length:Int)≤tc+1:=by rw [ew1];split<;>(try simp only [List.length_append,List.length_cons,List.length_nil])<;>omega
 refine qd6 (γ:=AG) (fun g=>[(11,.int .i64 (tc - (g.w.length:Int)))]) [_,_] Z (fun g=>HA ba bm tc A n c g L) (fun g tw=>AGok g∧g.w=qb7 w ⟨xl,xo,xh,xn,(xk:Int)⟩ yc own∧g.l=l1∧g.r=qdc r1 w num ⟨xl,xo,xh,xn,(xk:Int)⟩ yc own∧g.es=es1) (fun _ _ _ h hl=>h) ?_ ?_
 ·refine G6 ?_;refine qd1 Z ?_ ?_<;>intro c8
  ·have hhas:=c8;refine G6 ?_;refine qBC Z Z Z<|G2 ?_;refine qaR Z ?_ ?_<;>intro c9
   ·have hnm:=c9;refine qaB qab 19 Z 2 fun s10 h10=>H9 ?_;refine za 12 Z (qaj 1 [_,_] Z Z Z Z Z) Z ?_;refine qdB 4 9 V ?_ ?_;·refine qbH Z Tt (Wd 2 Y5) Z<|qaq 9 V<|qbH Z Tt (Wd 2 Y5) Z<|H1 ?_;refine za 13 Z (qai [(_,_),(_,_),(_,_)] [_,_,_,_] Z Z Z Z Z Z) Z<|qaq 14 V<|qci Z Tt [(_,_)] [_,_,_,_] Z Z Z Z Z Z Z Z Z ?_;exact Ez2
    refine qbH Z Tt (Wd 2 Y5) Z<|H1 ?_;refine za 13 Z (qai [(_,_),(_,_),(_,_)] [_,_,_,_] Z Z Z Z Z Z) Z ?_;refine qdB 4 14 V ?_ ?_;·refine qbH Z Tt (Wd 2 Y5) Z<|qaq 14 V<|qci Z Tt [(_,_)] [_,_,_,_] Z Z Z Z Z Z Z Z Z ?_;exact Ez2
    refine qci Z Tt [(_,_)] [_,_,_,_] Z Z Z Z Z Z Z Z Z fun βn s11 h11 hcb=>qaq 4 V<|qbH Z Tt (Wd 2 Y5) Z<|qaq 15 V<|qcS (sz:=4) Z (by exact Tt) (_::_::_::_::(Mw1++Ml1)) Mr1 _ qvj Z Z Z Z Z Z hOr1 (Row.of_cells (hcb.le (Lr D)) Z Z) ⟨by simp [ti163];omega,by omega⟩ Z (fun A2 x hx _=>qe7 hx) ?_;intro v2 M2 s12 h12 o2;obtain ⟨Av2,cv2,rfl,kv2,kv22⟩:=Own.slice o2;simp only [List.cons_append,List.nil_append,List.append_assoc];refine H2 ?_;refine qaq 18 V<|Wu Z Tt 2 [_,_,_,_,_,_] Y9 (sM (qgA (sb0 _)))<|qah V<|Zt<|Zs<|qaB qab 13 Z 2 fun s13 h13=>H7 ?_;refine qdB 4 8 V ?_ ?_;·refine qbH Z Tt (Wd 2 Y5) Z<|qaq 8 V<|qci Z Tt [(_,_)] [_] Z Z Z Z Z Z Z Z Z fun βn s14 h14 hcb=>qaq 9 V<|qcS (sz:=1) Z (by exact Tt) [_,_,_,_] Mw1 _ Z Z Z Z Z Z Z hOw1 (Row.of_cells (hcb.le (Lr D)) Z Z) ⟨by simp [ti34];omega,by omega⟩ Z (fun A2 x hx _=>qe7 hx) ?_;exact Ez8
    refine qci Z Tt [(_,_)] [_] Z Z Z Z Z Z Z Z Z fun βn s14 h14 hcb=>qaq 4 V<|qbH Z Tt (Wd 2 Y5) Z<|qaq 9 V<|qcS (sz:=1) Z (by exact Tt) [_,_,_,_] Mw1 _ Z Z Z Z Z Z Z hOw1 (Row.of_cells (hcb.le (Lr D)) Z Z) ⟨by simp [ti34];omega,by omega⟩ Z (fun A2 x hx _=>qe7 hx) ?_;exact Ez8
   have hnm:=c9;refine Zk<|Zt<|Zs<|qaB qab 13 Z 2 fun s10 h10=>H7 ?_;refine qdB 4 8 V ?_ ?_;·refine qbH Z Tt (Wd 2 Y5) Z<|qaq 8 V<|qci Z Tt [(_,_)] [_] Z Z Z Z Z Z Z Z Z fun βn s11 h11 hcb=>qaq 9 V<|qcS (sz:=1) Z (by exact Tt) [_,_,_,_] Mw1 _ Z Z Z Z Z Z Z hOw1 (Row.of_cells (hcb.le (Lr D)) Z Z) ⟨by simp [ti34];omega,by omega⟩ Z (fun A2 x hx _=>qe7 hx) ?_;exact Ez11
   refine qci Z Tt [(_,_)] [_] Z Z Z Z Z Z Z Z Z fun βn s11 h11 hcb=>qaq 4 V<|qbH Z Tt (Wd 2 Y5) Z<|qaq 9 V<|qcS (sz:=1) Z (by exact Tt) [_,_,_,_] Mw1 _ Z Z Z Z Z Z Z hOw1 (Row.of_cells (hcb.le (Lr D)) Z Z) ⟨by simp [ti34];omega,by omega⟩ Z (fun A2 x hx _=>qe7 hx) ?_;exact Ez11
  have hhas:=c8;refine Zk ?_;refine qaf (MidG.mk ⟨_,Mw1,_,Ml1,_,Mr1,es1,ck1,w1,l1,r1⟩ [] (Lr D) (.cons Q15 (.nil _)) So Pr Q20)
 intro g s7 h7 I7;simp only [cQ9,nQ9];obtain ⟨hg3,ew3,el3,er3,ee3⟩:=I7;refine J7 ?_ ?_<;>intro c9;·refine G7 ?_;exact rX [_,_] _ Z (e3.t h5|>.t h7) fun _ hS2=>qDW
 refine G8 ?_;exact rX [_,_] _ Z (e3.t h5|>.t h7) fun _ hS2=>qDW
def qpr:qfd prog 117 .string (.int .u32 0):=⟨_,_,underlying117,underlying9,fun w=>by rw [qcK qlp];rfl⟩
def qrW(x0:Nat×Obj)(ba bm:Nat)(t:Tab)(A:Option Addr)(n c:Nat)(hA:Inss s A n c t.ins)(g:AG)(nm:List UInt8):AC prog D 107 [.pointer (some ⟨ba,0,none⟩),St nm] (x0::HA ba bm t.cells A n c g L) s fun v L' _=>L'=x0::HA ba bm t.cells A n c g L∧∃ (y:Ins) (Ay:Option Addr) (ny cy:Nat),v=.tuple #[.agg #[St y.name,.int .u32 y.code,.bool y.operand,.slice Ay ny cy],.bool (qcH t.ins nm).isSome]∧U32 y.code∧(∀ z,qcH t.ins nm=some z→y=z)∧(qcH t.ins nm=none→y.operand=false):=
 AC.perm (qjc ..).symm (qrV D (x0::L) s ba bm t A n c hA g nm) fun v L1 s1 ⟨h1,h2⟩=>⟨_,by rw [h1];exact qjc ..,rfl,h2⟩
def qrI(x0 x1:Nat×Obj)(ba bm:Nat)(tc:Int)(A:Option Addr)(n c:Nat)(g:AG)(hg:AGok g)(num:Int)(xl xo:List UInt8)(xh:Bool)(xn:List UInt8)(xk:Nat)(hxk:xk < 4294967296)(yn:List UInt8)(yc:Int)(yo:Bool)(Ay:Option Addr)(ny cy:Nat)(hyc:U32 yc)(own:Bool)(htc:0≤tc∧tc≤65536)(hwl:(g.w.length:Int)≤tc)(hrl:g.r.length≤1000000):AC prog D 108 [.pointer (some ⟨ba,0,none⟩),.int .i64 num,.agg #[St xl,St xo,.bool xh,St xn,.int .u32 (xk:Int)],.agg #[St yn,.int .u32 yc,.bool yo,.slice Ay ny cy],.bool own] (x0::x1::HA ba bm tc A n c g L) s fun v L' _=>∃ g',L'=x0::x1::HA ba bm tc A n c g' L∧∃ e,v=.int .i64 e∧((e=14∧tc < ((qb7 g.w ⟨xl,xo,xh,xn,(xk:Int)⟩ yc own).length:Int))∨(e=0∧((qb7 g.w ⟨xl,xo,xh,xn,(xk:Int)⟩ yc own).length:Int)≤tc∧AGok g'∧g'.w=qb7 g.w ⟨xl,xo,xh,xn,(xk:Int)⟩ yc own∧g'.l=g.l∧g'.es=g.es∧g'.r=qdc g.r g.w num ⟨xl,xo,xh,xn,(xk:Int)⟩ yc own)):=
 AC.perm (qnF ..).symm (qxL D (x0::x1::L) s ba bm tc A n c g hg num xl xo xh xn xk hxk yn yc yo Ay ny cy hyc own htc hwl hrl) fun v L1 s1 ⟨g',h1,h2⟩=>⟨_,by rw [h1];exact qnF ..,g',rfl,h2⟩
def qgK{l:List (List UInt8×Int)}(h:¬ x.label=[]→qbo l x.label=none):¬ (x.label≠[]∧(qbo l x.label).isSome=true):=fun hh=>by rw [h hh.1] at hh;cases hh.2
theorem qyu{t:Tab}{y:Ins}(h1:∀ z,qcH t.ins xo=some z→y=z)(h2:qcH t.ins xo=none→y.operand=false):qAx t xo=y.operand:=by grind [qAx]
def qxD{t:Tab}{y:Ins}(h1:∀ z,qcH t.ins x.op=some z→y=z)(h2:¬ ((qcH t.ins x.op).isSome=false∧¬ (x.op=[119,111,114,100]∨x.op=[115,112,97,99,101])))(h3:¬ x.op=[]):
  qb7 w x y.code (decide (x.op=[119,111,114,100]∨x.op=[115,112,97,99,101]))=qeM t w x∧qdc r w i x y.code (decide (x.op=[119,111,114,100]∨x.op=[115,112,97,99,101]))=qhM t w r i x:=by
 unfold qeM qhM qft;rw [if_neg h3,if_neg h3];cases h:qcH t.ins x.op with
 | some z=>
  have hc:qcV t x.op=y.code:=by unfold qcV;rw [h,h1 z h]
  rw [hc];exact ⟨rfl,rfl⟩
 | none=>
  rw [h] at h2;have ho:x.op=[119,111,114,100]∨x.op=[115,112,97,99,101]:=by
   by_cases ho:x.op=[119,111,114,100]∨x.op=[115,112,97,99,101]
   · exact ho
   · exact absurd ⟨rfl,ho⟩ h2
  rw [decide_eq_true ho];exact ⟨qoO ..,qoM ..⟩
theorem qe6{x a:Nat×Obj}{R':Hl}(hx:x∈(a::R).take 1):x∈a::R':=by grind
def qn8{g:AG}{vl:Value}{a:Int}{ck:Nat}(hg:AGok g)(o:FL.Own 211 2 M vl (g.l.length+1) (lbv g.l++[St k,.int .u32 a]))(ha:U32 a)(hk:qbo g.l k=none):AGok ⟨g.vw,g.Mw,vl,M,g.vr,g.Mr,qi9 g.es k (.int .u32 a) g.ck,ck,g.w,g.l++[(k,a)],g.r⟩:=
 ⟨hg.hw,by simp only [List.length_append,List.length_cons,List.length_nil,qsi];exact o,hg.hr,fun j=>by
  simp only [qeu,qh4 _ _ _ _ hk,hg.he j];split<;>rfl,hg.uw,fun y hy=>by
  rcases List.mem_append.1 hy with h|h
  · exact hg.ul y h
  · rw [List.mem_singleton.1 h];exact ha,hg.ur⟩
def qv8{p:Prop} (h:p:=by
  first
    | (refine ⟨(⟨.slice Aw w.length cw,Mw,.slice Al l.length cl,Ml,.slice Ar r.length cr,Mr,es,ck,w,l,r⟩:AG),rfl,?_,fun x hx=>?_⟩
       · rw [hno];rfl
       · rw [hno] at hx;cases hx)
    | (refine ⟨(⟨.slice Aw w.length cw,Mw,.slice Al l.length cl,Ml,.slice Ar r.length cr,Mr,es,ck,w,l,r⟩:AG),rfl,?_,fun x hx he=>?_⟩
       · rw [hy,qd7,if_pos ⟨hxl,hrep⟩];rfl
       · rw [hy] at hx;injection hx with hx;subst hx;rw [qd7,if_pos ⟨hxl,hrep⟩] at he;cases he)
    | (have hE8:=qgK (l:=l) (x:=⟨xl,xo,xh,xn,(xk:Int)⟩) hnew
       refine ⟨g,Z,?_,fun x hx he=>?_⟩
       · rw [hy,qd7,if_neg hE8,if_pos hxo];rfl
       · rw [hy] at hx;injection hx with hx;subst hx
         refine ⟨hg1,?_,?_,?_⟩
         · rw [ew1,qeM,if_pos hxo]
         · rw [el1]
         · rw [er1,qhM,if_pos hxo])
    | (have hE8:=qgK (l:=l) (x:=⟨xl,xo,xh,xn,(xk:Int)⟩) hnew
       have hEE:qd7 t w l (some ⟨xl,xo,xh,xn,(xk:Int)⟩)=12:=qw7 hE8 hxo h83;refine ⟨g,Z,?_,fun x hx he=>?_⟩
       · rw [hy,hEE];rfl
       · rw [hy] at hx;injection hx with hx;subst hx;rw [hEE] at he;cases he)
    | (have hE8:=qgK (l:=l) (x:=⟨xl,xo,xh,xn,(xk:Int)⟩) hnew
       have hoo:=qyu (t:=t) hye hyn;have hEE:qd7 t w l (some ⟨xl,xo,xh,xn,(xk:Int)⟩)=9:=qBJ hE8 hxo h83 hoo h90;refine ⟨g,Z,?_,fun x hx he=>?_⟩
       · rw [hy,hEE];rfl
       · rw [hy] at hx;injection hx with hx;subst hx;rw [hEE] at he;cases he)
    | (have hE8:=qgK (l:=l) (x:=⟨xl,xo,xh,xn,(xk:Int)⟩) hnew
       have hoo:=qyu (t:=t) hye hyn;have hEE:qd7 t w l (some ⟨xl,xo,xh,xn,(xk:Int)⟩)=6:=qBI hE8 hxo h83 hoo h90 h99;refine ⟨g,Z,?_,fun x hx he=>?_⟩
       · rw [hy,hEE];rfl
       · rw [hy] at hx;injection hx with hx;subst hx;rw [hEE] at he;cases he)
    | (have hE8:=qgK (l:=l) (x:=⟨xl,xo,xh,xn,(xk:Int)⟩) hnew
       have hoo:=qyu (t:=t) hye hyn;have hcc:=qxD (t:=t) (w:=w) (r:=r) (i:=num) (x:=⟨xl,xo,xh,xn,(xk:Int)⟩) hye h83 hxo;have hEE:qd7 t w l (some ⟨xl,xo,xh,xn,(xk:Int)⟩)=if t.cells < ((qeM t w ⟨xl,xo,xh,xn,(xk:Int)⟩).length:Int) then 14 else 0:=qBH hE8 hxo h83 hoo h90 h99
       rw [ew1,er1,hcc.1] at hem;rw [hcc.2] at hem;refine ⟨g',Z,?_,fun x hx he=>?_⟩
       · rw [hy,hEE]
         rcases hem with ⟨rfl,h14⟩|⟨rfl,h0,_⟩
         · rw [if_pos h14];rfl
         · rw [if_neg O];rfl
       · rw [hy] at hx;injection hx with hx;subst hx;rw [hEE] at he
         rcases hem with ⟨rfl,h14⟩|⟨rfl,h0,q1,q2,q3,_,q5⟩
         · rw [if_pos h14] at he;cases he
         · exact ⟨q1,q2,by rw [q3,el1],q5⟩)):p:=h
def Ez33{p:Prop} (h:p:=by
 refine qaf (MidB.mk (Lr D) Sb Z (qe8 ((by first|rw [decide_eq_true (show (xo=[119,111,114,100]∨xo=[115,112,97,99,101]) by assumption),Bool.true_or]|rw [decide_eq_false (show ¬ (xo=[119,111,114,100]∨xo=[115,112,97,99,101]) by assumption),Bool.false_or]))))):p:=h
def Ez12{p:Prop} (h:p:=by
 intro βn s11 h11 hcb;refine qaq 15 V<|qcS (sz:=2) Z (by exact Tt) (_::_::_::Mw) Ml _ Z Z Z Z Z Z Z hOl (Row.of_cells (hcb.le (Lr D)) Z Z) ⟨by simp [ti210];omega,by omega⟩ Z (fun A2 x hx _=>qe6 hx) ?_;intro v1 M1 s12 h12 o1;obtain ⟨Av1,cv1,rfl,kv1,kv12⟩:=Own.slice o1;simp only [List.cons_append,List.nil_append,List.append_assoc];refine H2 ?_;refine qaq 18 V<|Wu Z Tt 1 [_,_,_,_,_,_] Y9 (sM (sbY (sb0 _)))<|qah V ?_;refine qaf (MidG.mk ⟨_,Mw,_,M1,_,Mr,qi9 es xl (.int .u32 (w.length:Int)) ck,ck1,w,l++[(xl,(w.length:Int))],r⟩ [] (h6.t h8|>.t h10|>.t h11|>.t h12) (.nil _) So Pr Q21)):p:=h
def qw5(hG:GW s)(ba bm:Nat)(t:Tab)(A:Option Addr)(n c:Nat)(hA:Inss s A n c t.ins)(g:AG)(hg:AGok g)(num:Int)(tx:List UInt8)(htx:tx.length≤400000)(htc:0≤t.cells∧t.cells≤65536)(hwl:(g.w.length:Int)≤t.cells)(hrl:g.r.length≤1000000)(hll:g.l.length≤1000000):AC prog D 66 [.pointer (some ⟨ba,0,none⟩),.int .i64 num,St tx] (HA ba bm t.cells A n c g L) s fun v L' _=>∃ g',L'=HA ba bm t.cells A n c g' L∧v=.int .i64 (qd7 t g.w g.l (qcz tx))∧∀ x,qcz tx=some x→qd7 t g.w g.l (some x)=0→AGok g'∧g'.w=qeM t g.w x∧g'.l=qkL g.w g.l x∧g'.r=qhM t g.w g.r num x:=by
 have hg0:=hg;obtain ⟨vw,Mw,vl,Ml,vr,Mr,es,ck,w,l,r⟩:=g;obtain ⟨hOw,hOl,hOr,hE,huw,hul,hur⟩:=hg;simp only at hOw hOl hOr hE huw hul hur;obtain ⟨Aw,cw,rfl,kw,kx⟩:=Own.slice hOw;obtain ⟨Al,cl,rfl,kl,km⟩:=Own.slice hOl;obtain ⟨Ar,cr,rfl,kr,ks⟩:=Own.slice hOr;simp only [HA];simp only at hwl hrl hll;refine qad (fn:=f66) qao func66 V Z ntmps66 Z (rs:=[.tmp 6]) Z [(0,_),(1,_),(2,_)] Z<|G8 ?_;refine Jc Z Z Z (qlk D _ _ (hG.le (Lr D)) tx htx) ?_;rintro _ _ s1 h1 ⟨rfl,⟨xl,xo,xh,xn,xk⟩,rfl,hxu,hxe⟩;simp only at hxu;obtain ⟨xk,rfl⟩:=Int.eq_ofNat_of_zero_le hxu.1;have hxk:xk < 4294967296:=by have:=hxu.2;omega
 simp only [Ln.cs];refine G3 ?_;refine qac Z [_,_,_,_,_] Z Z fun β2 s2 h2=>Wt 0 [_,_,_,_,_] Y9<|G10 ?_;have e2:=h1.t h2;refine qc8 Z ?_ ?_<;>intro c3
 ·have hno:qcz tx=none:=by simpa using c3
  refine G7 ?_;exact rX [_] _ Z e2 fun _ hS2=>qv8
 obtain ⟨y,hy⟩:=Option.isSome_iff_exists.1 c3;have hln:=hxe y hy;subst hln;refine G2 ?_;refine qd6 (γ:=AG) (fun _=>[]) [_] Z (fun g=>HA ba bm t.cells A n c g L) (fun g tw=>AGok g∧g.w=w∧g.r=r∧g.l=qkL w l ⟨xl,xo,xh,xn,(xk:Int)⟩∧(¬ xl=[]→qbo l xl=none)) (fun _ _ _ h hl=>h) ?_ ?_
 ·refine G4 ?_;refine qBC Z Z Z<|G2 ?_;refine qaR Z ?_ ?_<;>intro c5
  ·have hxl:=c5;refine Zs<|Zs<|qaL qab 12 Z _ (fun _ h=>h) fun s6 h6=>H6 ?_;refine za 6 Z (qaC (qhL KeyK.str 2 qpr Z Z Z) (show Value.tuple #[(qaW es xl).getD (.int .u32 0),.bool (qaW es xl).isSome]=.tuple #[(qaW es xl).getD (.int .u32 0),.bool (qbo l xl).isSome] by rw [hE xl,Option.isSome_map])) Z<|H5 ?_;refine qah V ?_;refine G6 ?_;refine qd1 Z ?_ ?_<;>intro c7;·have hrep:=c7;refine G8 ?_;exact rX [_] _ Z (e2.t h6) fun _ hS2=>qv8
   have hrep:qbo l xl=none:=by simpa using c7
   refine Zk<|Zt<|Zs<|qaU qab 13 Z [2] Q3 fun s8 h8=>H11 ?_;refine za 11 Z (qbe Z Z Z Z Z (qeF O)) Z<|qaq 12 V<|qgE KeyK.str Z Tt 2 qpr Z Z Z Z (fun x hx=>hx) ?_;intro ck1;simp only [qch];refine qah V<|Zt<|qaB qab 19 Z 1 fun s10 h10=>H9 ?_;refine qdB 4 10 V ?_ ?_;·refine X15 ?_;refine za 12 Z (qbe Z Z Z Z Z (qeF O)) Z<|za 13 Z (qai [(_,_),(_,_)] [_,_] Z Z Z Z Z Z) Z<|qaq 14 V<|qci Z Tt [(_,_)] [_,_] Z Z Z Z Z Z Z Z Z ?_;exact Ez12
   refine qbH Z Tt (Wd 1 Y5) Z<|H1 ?_;refine za 12 Z (qbe Z Z Z Z Z (qeF O)) Z<|za 13 Z (qai [(_,_),(_,_)] [_,_] Z Z Z Z Z Z) Z ?_;refine qdB 4 14 V ?_ ?_;·refine qbH Z Tt (Wd 1 Y5) Z<|qaq 14 V<|qci Z Tt [(_,_)] [_,_] Z Z Z Z Z Z Z Z Z ?_;exact Ez12
   refine qci Z Tt [(_,_)] [_,_] Z Z Z Z Z Z Z Z Z fun βn s11 h11 hcb=>qaq 4 V<|qbH Z Tt (Wd 1 Y5) Z<|qaq 15 V<|qcS (sz:=2) Z (by exact Tt) (_::_::_::Mw) Ml _ Z Z Z Z Z Z Z hOl (Row.of_cells (hcb.le (Lr D)) Z Z) ⟨by simp [ti210];omega,by omega⟩ Z (fun A2 x hx _=>qe6 hx) ?_;intro v1 M1 s12 h12 o1;obtain ⟨Av1,cv1,rfl,kv1,kv12⟩:=Own.slice o1;simp only [List.cons_append,List.nil_append,List.append_assoc];refine H2 ?_;refine qaq 18 V<|Wu Z Tt 1 [_,_,_,_,_,_] Y9 (sM (sbY (sb0 _)))<|qah V ?_;refine qaf (MidG.mk ⟨_,Mw,_,M1,_,Mr,qi9 es xl (.int .u32 (w.length:Int)) ck,ck1,w,l++[(xl,(w.length:Int))],r⟩ [] (h6.t h8|>.t h10|>.t h11|>.t h12) (.nil _) So Pr Q21)
  have hxl:=c5;refine Zk ?_;refine qaf (MidG.mk ⟨_,Mw,_,Ml,_,Mr,es,ck,w,l,r⟩ [] (Lr D) (.nil _) So Pr Q21)
 intro g s4 h4 I4;have e4:=e2.t h4;simp only [cQ9,nQ9];obtain ⟨hg1,ew1,er1,el1,hnew⟩:=I4;refine G5 ?_;refine qio Z Z Z<|J2 ?_ ?_<;>intro c6;·have hxo:=c6;refine G7 ?_;exact rX [_] _ Z e4 fun _ hS2=>qv8
 have hxo:=c6;refine G2 ?_;refine qbA 11 ((xo=[119,111,114,100]∨xo=[115,112,97,99,101])) ?_ ?_
 ·refine G3 ?_;refine qio Z Z Z<|Zqm Z Z<|?_;refine qap (t:=71) Z ?_ ?_<;>intro c8;·refine G6 ?_;refine qaf (MidB.mk (Lr D) Sb Z ((decide_eq_true (by first|exact .inl As|exact .inr As)).symm))
  refine G5 ?_;refine qio Z Z Z<|G3 ?_;refine qaf (MidB.mk (Lr D) Sb Z (decide_eq_decide.2 (⟨fun h=>.inr h,fun h=>h.resolve_left As⟩)))
 intro s7 h7;have e7:=e4.t h7;refine G5 ?_;refine Jc Z Z Z (qrW D L _ _ ba bm t A n c (hA.le e7) g xo) ?_;rintro _ _ s9 h9 ⟨rfl,⟨yn,yc,yo,ya⟩,Ay,ny,cy,rfl,hyu,hye,hyn⟩;have e9:=e7.t h9;refine G3 ?_;refine qac Z [_,_,_,_] Z Z fun β10 s10 h10=>Wt 0 [_,_,_,_] Y9<|G5 ?_;have e10:=e9.t h10;refine qbA 83 ((qcH t.ins xo).isSome=false∧¬ (xo=[119,111,114,100]∨xo=[115,112,97,99,101])) ?_ ?_
 ·refine G4 ?_;refine qdN (t:=86) Z ?_ ?_<;>intro c12;·refine G7 ?_;refine qaf (MidB.mk (Lr D) Sb Z (qe8 (Q25)))
  refine G5 ?_;refine qaf (MidB.mk (Lr D) Sb Z ((decide_eq_false (Q25)).symm))
 intro s11 h11;have e11:=e10.t h11;refine qaa Z ?_ ?_<;>intro c13;·have h83:=c13;refine G8 ?_;exact rX [_,_] _ Z e11 fun _ hS2=>qv8
 have h83:=c13;refine qbA 90 (¬ xh=(decide (xo=[119,111,114,100]∨xo=[115,112,97,99,101]) || yo)) ?_ ?_
 ·refine G5 ?_;refine qap (t:=94) Z ?_ ?_<;>intro c15;·refine G3 ?_;refine qae (qu6 Z Z Z Z) Z<|G2 ?_;exact Ez33
  refine G5 ?_;refine qae (qu6 Z Z Z Z) Z<|G2 ?_;exact Ez33
 intro s14 h14;refine qaa Z ?_ ?_<;>intro c16;·have h90:=c16;refine G8 ?_;exact rX [_,_] _ Z (e11.t h14) fun _ hS2=>qv8
 have h90:=c16;refine qbA 99 (xo=[115,112,97,99,101]∧¬ xn=[]) ?_ ?_
 ·refine G3 ?_;refine qio Z Z Z<|Zqm Z Z<|?_;refine qap (t:=103) Z ?_ ?_<;>intro c18;·refine G7 ?_;refine qBC Z Z Z<|G3 ?_;refine qaf (MidB.mk (Lr D) Sb Z (qe8 (Q26)))
  refine G7 ?_;refine qaf (MidB.mk (Lr D) Sb Z ((decide_eq_false (Q26)).symm))
 intro s17 h17;refine qaa Z ?_ ?_<;>intro c19;·have h99:=c19;refine G8 ?_;exact rX [_,_] _ Z (e11.t h14|>.t h17) fun _ hS2=>qv8
 have h99:=c19;refine G7 ?_;refine qae (qaj 1 [_,_,_,_,_] Z Z Z Z Z) Z<|qae (qaj 0 [_,_,_,_] Z Z Z Z Z) Z<|Zqm Z Z<|Jc Z Z Z (qrI D L _ _ _ ba bm t.cells A n c g hg1 num xl xo xh xn xk hxk yn yc yo Ay ny cy hyu (decide (xo=[119,111,114,100]∨xo=[115,112,97,99,101])) htc (by rw [ew1];exact hwl) (by rw [er1];exact hrl)) ?_;rintro _ _ s20 h20 ⟨g',rfl,e,rfl,hem⟩;refine G4 ?_;exact rX [_,_] _ Z (e11.t h14|>.t h17|>.t h20) fun _ hS2=>qv8
end Go.Proofs.YtlfiplbamnpgoaaGreatDoor
namespace Go.Proofs.YtlfiplbamnpgoaaGreatDoor
open Go Go.FL Go.RowKit
variable(D:Nat)(L:Hl)(s:World){t:Tab}{w:List Int}{l:List (List UInt8×Int)}{r:List (Int×Nat×List UInt8×Int)}{tx:List UInt8}{A Ad:Option Addr}{n c e k p:Nat}{xs y:List Value}{f:Int×Int}
def qi7(t:Tab):Nat→List Int→List (List UInt8×Int)→List (Int×Nat×List UInt8×Int)→List (List UInt8)→(Int×Int) ⊕ (List Int×List (List UInt8×Int)×List (Int×Nat×List UInt8×Int))
 | _,w,l,r,[]=>.inr (w,l,r)
 | i,w,l,r,tx::rest=>match qcz tx with
  | none=>.inl (1,(i:Int))
  | some x=>if qd7 t w l (some x)≠0 then .inl (qd7 t w l (some x),(i:Int)) else qi7 t (i+1) (qeM t w x) (qkL w l x) (qhM t w r (i:Int) x) rest
def qj9(l:List (List UInt8×Int)):List (Int×Nat×List UInt8×Int)→List Int→(Int×Int) ⊕ List Int
 | [],w=>.inr w
 | x::rest,w=>match qbo l x.2.2.1 with
  | none=>.inl (27,x.1)
  | some a=>qj9 l rest (w.set x.2.1 (w32 (w.getD x.2.1 0+a)))
def qgN(t:Tab)(tx:List UInt8):(Int×Int) ⊕ (List Int×List (List UInt8×Int)):=
 if (qaG t).1≠0 then .inl (qaG t) else if 400000 < tx.length then .inl (3,-2)
 else match qi7 t 0 [] [] [] (splitB 10 tx) with
  | .inl f=>.inl f
  | .inr x=>match qj9 x.2.1 x.2.2 x.1 with
   | .inl f=>.inl f
   | .inr w=>.inr (w,x.2.1)
def qgM{i:Nat}{rest:List (List UInt8)}(h:qd7 t w l (qcz tx)≠0):qi7 t i w l r (tx::rest)=.inl (qd7 t w l (qcz tx),(i:Int)):=by
 simp only [qi7];cases hx:qcz tx with
 | none=>rfl
 | some x=>rw [hx] at h;simp only [ne_eq,h,not_false_eq_true,if_true]
def qff{i:Nat}{rest:List (List UInt8)}{x:Ln}(hx:qcz tx=some x)(h:qd7 t w l (some x)=0):qi7 t i w l r (tx::rest)=qi7 t (i+1) (qeM t w x) (qkL w l x) (qhM t w r (i:Int) x) rest:=by
 simp only [qi7,hx,h,ne_eq,not_true_eq_false,if_false]
def qpn(h:qd7 t w l (qcz tx)=0):∃ x,qcz tx=some x∧qd7 t w l (some x)=0:=by
 cases hx:qcz tx with
 | none=>rw [hx] at h;cases h
 | some x=>rw [hx] at h;exact ⟨x,rfl,h⟩
theorem qrg{x:Ln}(hw:(w.length:Int)≤t.cells)(h:qd7 t w l (some x)=0):((qeM t w x).length:Int)≤t.cells:=by grind [qd7,qeM]
theorem qoN(w:List Int)(x:Ln)(c:Int)(o:Bool):w.length≤(qb7 w x c o).length:=by grind [List.length_append,List.length_cons,List.length_nil,List.length_replicate,qb7]
def qrJ{i:Int}{x:Ln}{c:Int}{o:Bool}(h:∀ y∈r,y.2.1 < w.length):∀ y∈qdc r w i x c o,y.2.1 < (qb7 w x c o).length:=by
  have hl:=qoN w x c o;intro y hy;unfold qdc at hy;split at hy
  · exact Nat.lt_of_lt_of_le (h y hy) hl
  · rename_i hs
    split at hy
    · rename_i hh
      rcases List.mem_append.1 hy with h1|h1
      · exact Nat.lt_of_lt_of_le (h y h1) hl
      · rw [List.mem_singleton.1 h1]
        simp only [qb7,hs,if_false,hh.1,if_true,List.length_append,List.length_cons,List.length_nil];omega
    · exact Nat.lt_of_lt_of_le (h y hy) hl
def qw9{i:Int}{x:Ln}(h:∀ y∈r,y.2.1 < w.length):∀ y∈qhM t w r i x,y.2.1 < (qeM t w x).length:=by
 unfold qhM qeM;split
 · exact h
 · exact qrJ h
def qrh{x:Ln}:(qkL w l x).length≤l.length+1:=by unfold qkL;split<;>simp
theorem qri{i:Int}{x:Ln}:(qhM t w r i x).length≤r.length+1:=by grind [qhM,qdc]
def qls(ba bm:Nat)(tc:Int)(A:Option Addr)(n c:Nat)(g:AG)(x y z:Nat×Obj)(L:Hl):(HA ba bm tc A n c g (x::y::z::L)).Perm (x::y::z::HA ba bm tc A n c g L):=
 (qjc ..).trans (List.Perm.cons _ (qnF ..))
def qnE(ba bm:Nat)(tc:Int)(A:Option Addr)(n c:Nat)(g:AG)(L:Hl):HA ba bm tc A n c g L=HA ba bm tc A n c g []++L:=by simp [HA]
def Labs(s:World)(A:Option Addr)(n c:Nat)(l:List (List UInt8×Int)):Prop:=Sl 2 (fun _ x cs=>cs=[St x.1,.int .u32 x.2]∧U32 x.2) s A n c l
def Labs.le{D:Nat}{s s':World}(h:Labs s A n c l)(hl:Le D s s'):Labs s' A n c l:=Sl.le (fun _ _ h=>h) h hl
def Refs(s:World)(A:Option Addr)(n c:Nat)(l:List (Int×Nat×List UInt8×Int)):Prop:=Sl 4 (fun _ x cs=>cs=[Value.int .i64 x.1,Value.int .i64 (x.2.1:Int),St x.2.2.1,Value.int .u32 x.2.2.2]) s A n c l
def Refs.le{D:Nat}{s s':World}{l:List (Int×Nat×List UInt8×Int)}(h:Refs s A n c l)(hl:Le D s s'):Refs s' A n c l:=Sl.le (fun _ _ h=>h) h hl
def qlC{α β:Type}{R:α→β→Prop}(f:α→β)(l:List α)(h:∀ x∈l,R x (f x)):All2 R l (l.map f):=by
 induction l with
 | nil=>exact All2.nil
 | cons x l ih=>exact All2.cons (h x Mc) (ih fun y hy=>h y (List.mem_cons_of_mem _ hy))
def Own.labs{A:Hl}{s:World}(h:FL.Own e 2 A (.slice Ad n c) n (lbv l))(hu:∀ x∈l,U32 x.2)(hp:Pub A s)(hn:n=l.length):Labs s Ad n c l:=
 Own.rows (R:=fun _ (x:List UInt8×Int) cs=>cs=[St x.1,.int .u32 x.2]∧U32 x.2) h hp (qlC (fun (x:List UInt8×Int)=>[St x.1,Value.int .u32 x.2]) l fun x hx=>⟨rfl,rfl,hu x hx⟩) hn
def Own.refs{A:Hl}{l:List (Int×Nat×List UInt8×Int)}{s:World}(h:FL.Own e 4 A (.slice Ad n c) n (rfv l))(hp:Pub A s)(hn:n=l.length):Refs s Ad n c l:=
 Own.rows (R:=fun _ (x:Int×Nat×List UInt8×Int) cs=>cs=[Value.int .i64 x.1,Value.int .i64 (x.2.1:Int),St x.2.2.1,Value.int .u32 x.2.2.2]) h hp (qlC (fun (x:Int×Nat×List UInt8×Int)=>[Value.int .i64 x.1,Value.int .i64 (x.2.1:Int),St x.2.2.1,Value.int .u32 x.2.2.2]) l fun x hx=>⟨rfl,rfl⟩) hn
def Refs.at_{s:World}{l:List (Int×Nat×List UInt8×Int)}(h:Refs s A n c l)(hk:k < n):∃ b off x,A=some ⟨b,off,none⟩∧l[k]?=some x∧CellsAt s b (off+k * 4) [Value.int .i64 x.1,Value.int .i64 (x.2.1:Int),St x.2.2.1,Value.int .u32 x.2.2.2]:=by
 have hx:k < l.length:=by rw [← h.1];exact hk
 obtain ⟨b,off,cs,h1,h2,h3,h4⟩:=h.2.2.2 k l[k] (List.getElem?_eq_getElem hx);exact ⟨b,off,l[k],h1,List.getElem?_eq_getElem hx,by rw [← h4];exact h2⟩
def qAK{p:Prop} (h:p:=by
 cases h with
 | nil=>omega
 | blk b cap _ _ ys h1 h2 h3 h4=>exact ⟨b,ys,rfl,rfl,by simpa using h1,by simpa using h2,h3,h4⟩):p:=h
def qhe{M:Hl}(h:FL.Own e 1 M (.slice Ad n c) n xs)(hn:0 < n):∃ b ys,Ad=some ⟨b,0,none⟩∧M=[(b,cb (xs++ys) e)]∧xs.length=n∧xs.length+ys.length=c∧n≤c∧c≤9223372036854775807:=by
 exact qAK
def qml{b:Nat}{ys:List Value}(h1:xs.length=n)(h2:xs.length+ys.length=c)(h3:n≤c)(h4:c≤9223372036854775807):FL.Own e 1 [(b,cb (xs++ys) e)] (.slice (some ⟨b,0,none⟩) n c) n xs:=
 .blk b c n xs ys Q6 Q12 h3 h4
def qBb{p:Prop} (h:p:=by
 obtain ⟨hk,rfl⟩:=List.getElem?_eq_some_iff.1 hx;rw [List.drop_eq_getElem_cons hk,qj9,ha]):p:=h
def qsQ{x:Int×Nat×List UInt8×Int}{a:Int}(hx:r[k]?=some x)(ha:qbo l x.2.2.1=some a):qj9 l (r.drop k) w=qj9 l (r.drop (k+1)) (w.set x.2.1 (w32 (w.getD x.2.1 0+a))):=by
 exact qBb
def qhf{x:Int×Nat×List UInt8×Int}(hx:r[k]?=some x)(ha:qbo l x.2.2.1=none):qj9 l (r.drop k) w=.inl (27,x.1):=by
 exact qBb
theorem setU(h:∀ x∈w,U32 x)(p:Nat)(v:Int)(hv:U32 v):∀ x∈w.set p v,U32 x:=by grind
def qyp{l:List Int}(h:p < l.length):nth (wv l++y) (0+p)=some (.int .u32 (l.getD p 0)):=by
 have:=qiM (l:=l) (y:=y) (i:=(p:Int)) O O;simpa using this
def qy4{l:List Int}(v:Int)(h:p < l.length):qbx (wv l++y) (0+p) [.int .u32 v]=wv (l.set p v)++y:=by
 have:=qqg (l:=l) (y:=y) (i:=(p:Int)) v O O;simpa using this
def qxn{l:List Int}(h:p < l.length):Nat.ble (0+p+1) (wv l++y).length=true:=by
 have:=qom (l:=l) (y:=y) (i:=(p:Int)) O O;simpa using this
open Go.FL
attribute [local irreducible] JC JO JA JB qaJ qax qbN AC fill CellsAt QE Ev Mid
def qw6(x0 x1 x2:Nat×Obj)(hG:GW s)(ba bm:Nat)(t:Tab)(A:Option Addr)(n c:Nat)(hA:Inss s A n c t.ins)(g:AG)(hg:AGok g)(num:Int)(tx:List UInt8)(htx:tx.length≤400000)(htc:0≤t.cells∧t.cells≤65536)(hwl:(g.w.length:Int)≤t.cells)(hrl:g.r.length≤1000000)(hll:g.l.length≤1000000):AC Tryz.prog D 66 [.pointer (some ⟨ba,0,none⟩),.int .i64 num,St tx] (x0::x1::x2::HA ba bm t.cells A n c g L) s fun v L' _=>∃ g',L'=x0::x1::x2::HA ba bm t.cells A n c g' L∧v=.int .i64 (qd7 t g.w g.l (qcz tx))∧∀ x,qcz tx=some x→qd7 t g.w g.l (some x)=0→AGok g'∧g'.w=qeM t g.w x∧g'.l=qkL g.w g.l x∧g'.r=qhM t g.w g.r num x:=
 AC.perm (qls ..).symm (qw5 D (x0::x1::x2::L) s hG ba bm t A n c hA g hg num tx htx htc hwl hrl hll) fun v L1 s1 ⟨g',h1,h2⟩=>⟨_,by rw [h1];exact qls ..,g',rfl,h2⟩
def qis(h:(qaG t).1≠0):qgN t tx=.inl (qaG t):=by rw [qgN,if_pos h]
theorem qir(h:(qaG t).1=0)(h2:400000 < tx.length):qgN t tx=.inl (3,-2):=by grind [qgN]
theorem qiq(h:(qaG t).1=0)(h2:¬ 400000 < tx.length)(h3:qi7 t 0 [] [] [] (splitB 10 tx)=.inl f):qgN t tx=.inl f:=by grind [qgN]
theorem qkP(h:(qaG t).1=0)(h2:¬ 400000 < tx.length)(h3:qi7 t 0 [] [] [] (splitB 10 tx)=.inr (w,l,r))(h4:qj9 l r w=.inl f):qgN t tx=.inl f:=by grind [qgN]
theorem qoe{w2:List Int}(h:(qaG t).1=0)(h2:¬ 400000 < tx.length)(h3:qi7 t 0 [] [] [] (splitB 10 tx)=.inr (w,l,r))(h4:qj9 l r w=.inr w2):qgN t tx=.inr (w2,l):=by grind [qgN]
def qBN:AGok ⟨.slice none 0 0,[],.slice none 0 0,[],.slice none 0 0,[],[],0,[],[],[]⟩:=⟨Own.nil,Own.nil,Own.nil,fun _=>rfl,(fun _ h=>by cases h),(fun _ h=>by cases h),(fun _ h=>by cases h)⟩
def qEh{p:Prop} (h:p:=by
 first
  | (refine ⟨[],rfl,.pointer none,_,_,rfl,.inl ⟨hbad,qis hbad⟩⟩)
  | (refine ⟨[],rfl,.pointer none,3,-2,rfl,.inl ⟨by decide,qir ht0 hlong⟩⟩)
  | (exact ⟨_,qnE ..,.pointer none,_,_,rfl,.inl ⟨hcode,qiq ht0 hlong (by rw [hS,hdr];exact qgM hcode)⟩⟩)
  | (exact ⟨[_,_,_],rfl,.pointer none,_,_,rfl,.inl ⟨by decide,qkP ht0 hlong hS (by rw [hR];exact qhf hxr hmiss)⟩⟩)
  | (exact ⟨_,rfl,_,0,0,rfl,.inr ⟨rfl,rfl,ba,bm,Aw,w.length,cw,Al,l.length,cl,_,es,ck,Mj,wj,l,rfl,rfl,hOj,huj,hLb.le ((noSuchMark).t hS2),qoe ht0 hlong hS hR⟩⟩)):p:=h
def qkQ(hG:GW s)(t:Tab)(A:Option Addr)(n c:Nat)(hA:Inss s A n c t.ins)(tx:List UInt8):AC Tryz.prog D 39 [.agg #[.int .i64 t.cells,.slice A n c],St tx] L s fun v L' s'=>∃ M',L'=M'++L∧∃ p f1 f2,v=.tuple #[p,.agg #[.int .i64 f1,.int .i64 f2]]∧((f1≠0∧qgN t tx=.inl (f1,f2))∨(f1=0∧f2=0∧∃ ba bm Aw nw cw Al nl cl vr es ck Mw w l,p=.pointer (some ⟨ba,0,none⟩)∧M'=(ba,cb [.int .i64 t.cells,.slice A n c,.slice Aw nw cw,.slice Al nl cl,.map (some bm),vr] 120)::(bm,mp (fun l=>St l) es ck)::Mw∧FL.Own 34 1 Mw (.slice Aw nw cw) nw (wv w)∧(∀ x∈w,U32 x)∧Labs s' Al nl cl l∧qgN t tx=.inr (w,l))):=by
 have hF:=qiZ t;refine qad (fn:=Tryz.f39) qao Tryz.func39 V Z Tryz.ntmps39 Z (rs:=[.tmp 4,.cell 5 30]) Z [(0,_),(1,_)] Z<|Sr<|qar Z Z fun β1 s1 h1=>Zqa Z Z<|qac Z [_,_] Z Z fun β2 s2 h2=>Nt<|Zs<|Sr<|qae (qaj 1 [_,_] Z Z Z Z Z) Z<|Je Z Z Z (qfa D _ _ _ _ _ _ (hA.le (h1.t h2))) fun s3 h3=>qac Z [_,_] Z Z fun β4 s4 h4=>Wt 0 [_,_] Y9<|Nt<|Sr<|qae (qaj 0 [_,_] Z Z Z Z Z) Z<|qae (qai [] [_,_] Z Z Z Z Z Z) Z<|qae (qcU Z Z (qb3 _ _ _ _)) Z<|G2 ?_;have e4:=h1.t h2|>.t h3|>.t h4;refine qaR Z ?_ ?_<;>intro c5;·have hbad:(qaG t).1≠0:=fun h=>c5 ⟨h,hF h⟩;refine Zs<|qaU qab 3 Z [1] Q3 fun s6 h6=>za 0 Z (qaj 0 [_,_] Z Z Z Z Z) Z<|H1 ?_;refine X6 ?_;exact rR [_,_,_] _ (.tmp Z (.agg (us:=[_,_]) 1 Z Z Z Z Z (.nil))) Z (e4.t h6) fun _ hS2=>qEh
 have ht0:(qaG t).1=0:=c5.1;have hcells:=(qEc hA ht0).cells;refine G6 ?_;refine qjg Z Z Z Z<|J3 ?_ ?_<;>intro c6
 ·have hlong:400000 < tx.length:=by omega
  refine Sr<|Je Z Z Z (qgL D _ _ _ _) fun s7 h7=>Zqa Z Z<|Wt 1 [_,_] Y9<|G4 ?_;exact rR [_,_,_] _ (.tmp Z (.agg (us:=[_,_]) 1 Z Z Z Z Z (.nil))) Z (e4.t h7) fun _ hS2=>qEh
 have hlong:¬ 400000 < tx.length:=by omega
 refine Zk<|Zt<|Sr<|qae (qaj 2 [_,_] Z Z Z Z Z) Z<|qer (fun l=>St l) Z fun bm s7 h7=>qae (qai [(_,_),(_,_)] [_,_,_,_,_,_] Z Z Z Z Z Z) Z<|qar Z Z fun ba s8 h8=>G5 ?_;refine qbm 4<|qbm 4<|qbm 4<|Zr<|Zqm Z Z<|Jc Z Z Z (qof D _ _ tx 10 O) ?_;have e8:=e4.t h7|>.t h8;rintro _ _ s9 h9 ⟨rfl,Atq9,nt,ct,rfl,hTx⟩;have e9:=e8.t h9;have hnt:=hTx.1;have hct:=qho 10 tx;have hcl:tx.count 10≤tx.length:=List.count_le_length;simp only [show ((10:UInt8).toNat:Int)=10 from rfl] at hnt hct hTx;refine G5 ?_
   
 refine qc0 [_,_,_] (γ:=Nat×AG) (fun g=>[(4,_),(5,_),(7,_),(30,_),(31,_),(32,.int .i64 (g.1:Int))]) (fun g=>HA ba bm t.cells A n c g.2 L) (fun g tw=>Le D s9 tw∧(g.1≤nt∧AGok g.2∧(g.2.w.length:Int)≤t.cells∧g.2.l.length≤g.1∧g.2.r.length≤g.1∧(∀ y∈g.2.r,y.2.1 < g.2.w.length)∧qi7 t 0 [] [] [] (splitB 10 tx)=qi7 t g.1 g.2.w g.2.l g.2.r ((splitB 10 tx).drop g.1))) (fun g=>nt - g.1) (fun _ _ _ h hl=>⟨h.1.trans hl,h.2⟩) (0,⟨.slice none 0 0,[],.slice none 0 0,[],.slice none 0 0,[],[],0,[],[],[]⟩) (.c6 Z Z Z Z Z Z (.nil _)) Z ⟨Le.refl _,⟨Nat.zero_le _,qBN,by simp only [List.length_nil];omega,Nat.le_refl _,Nat.le_refl _,(fun _ h=>by cases h),Z⟩⟩ ?_;intro g s10 I10;have e10:=e9.t I10.1;simp only [cQ9,nQ9];obtain ⟨k,g⟩:=g;obtain ⟨hk0,hg,hwl,hll,hrl,hlt,hS⟩:=I10.2;simp only at hk0 hg hwl hll hrl hlt hS;dsimp only;refine J6 ?_ ?_<;>intro c11
 ·have hk:k < nt:=by omega
  obtain ⟨b,off,tx1,rfl,htxk,hctx,_⟩:=Strs.at_ (hTx.le I10.1) hk;have htx1:tx1.length≤400000:=by have:=qem 10 [] tx tx1 (List.mem_of_getElem? htxk);simp only [List.length_nil,Nat.zero_add] at this;omega
  have hdr:(splitB 10 tx).drop k=tx1::(splitB 10 tx).drop (k+1):=by
    obtain ⟨hk2,rfl⟩:=List.getElem?_eq_some_iff.1 htxk;exact List.drop_eq_getElem_cons hk2
  refine G7 ?_;refine qae (qaQ Z Z Z Z Z Z hk) Z<|qae (qak Z Z Z (hctx.le (Lr D)) Z) Z<|G9 ?_;refine Jc Z Z Z (qw6 D L _ _ _ _ (hG.le e10) ba bm t A n c (hA.le e10) g hg _ tx1 htx1 O hwl O O) ?_;rintro _ _ s12 h12 ⟨g',rfl,rfl,hadd⟩;refine G9 ?_;refine qaR Z ?_ ?_<;>intro c13;·have hcode:=c13;refine G4 ?_;refine Je Z Z Z (qgL D _ _ _ _) fun s14 h14=>Zqa Z Z<|Wt 1 [_,_] Y9<|G8 ?_;exact rR [_,_,_] _ (.tmp Z (.agg (us:=[_,_]) 1 Z Z Z Z Z (.nil))) Z (e10.t h12|>.t h14) fun _ hS2=>qEh
  have hcode:qd7 t g.w g.l (qcz tx1)=0:=by simpa using c13
  obtain ⟨x,hx,he0⟩:=qpn hcode;obtain ⟨hg2,ew,el,er⟩:=hadd x hx he0;refine G4 ?_;refine qaV Z Z Z (w64 O O)<|G2 ?_;refine qaf ⟨(k+1,g'),[],kp,Z,⟨(I10.1.t h12),⟨by simp only;omega,hg2,by simp only [ew];exact qrg hwl he0,by simp only [el];have:=qrh (w:=g.w) (l:=g.l) (x:=x);omega,by simp only [er];have:=qri (t:=t) (w:=g.w) (r:=g.r) (i:=(k:Int)) (x:=x);omega,by simp only [er,ew];exact qw9 hlt,by simp only [ew,el,er];rw [hS,hdr,qff hx he0]⟩⟩,Oz⟩
 have hdr:(splitB 10 tx).drop k=[]:=List.drop_eq_nil_of_le O;rw [hdr,qi7] at hS;have hgu:=hg;obtain ⟨vw,Mw,vl,Ml,vr,Mr,es,ck,w,l,r⟩:=g;obtain ⟨hOw,hOl,hOr,hE,huw,hul,hur⟩:=hg;simp only at hOw hOl hOr hE huw hul hur;obtain ⟨Aw,cw,rfl,kw,kx⟩:=Own.slice hOw;obtain ⟨Al,cl,rfl,kl,km⟩:=Own.slice hOl;obtain ⟨Ar,cr,rfl,kr,ks⟩:=Own.slice hOr;simp only [HA];simp only at hS hlt hwl hll hrl;refine G7 ?_;refine qcM (_::_::_::_::_::Mw) Ml _ ?_;intro s12 h12 hpub12;simp only [cQ9,nQ9];have hLb:=Own.labs hOl hul hpub12 rfl;refine qcM (_::_::_::_::_::Mw) Mr _ ?_;intro s13 h13 hpub13;simp only [cQ9,nQ9];have hRf:=Own.refs hOr hpub13 rfl;refine G4 ?_;refine Wl 3 Y6<|G5 ?_;refine qc0 [_,_,_] (γ:=Nat×Hl×List Int) (fun g=>[(4,_),(5,_),(7,_),(50,_),(51,_),(52,.int .i64 (g.1:Int))]) (fun g=>(ba,cb [.int .i64 t.cells,.slice A n c,.slice Aw w.length cw,.slice Al l.length cl,.map (some bm),.slice Ar r.length cr] 120)::(bm,mp (fun l=>St l) es ck)::(g.2.1++L)) (fun g tw=>Le D s13 tw∧(g.1≤r.length∧FL.Own 34 1 g.2.1 (.slice Aw w.length cw) w.length (wv g.2.2)∧g.2.2.length=w.length∧(∀ x∈g.2.2,U32 x)∧qj9 l r w=qj9 l (r.drop g.1) g.2.2)) (fun g=>r.length - g.1) (fun _ _ _ h hl=>⟨h.1.trans hl,h.2⟩) (0,Mw,w) (.c6 Z Z Z Z Z Z (.nil _)) Z ⟨Le.refl _,⟨Nat.zero_le _,hOw,Z,huw,Z⟩⟩ ?_;intro g s14 I14;have e14:=e10.t h12|>.t h13|>.t I14.1;simp only [cQ9,nQ9];obtain ⟨j,Mj,wj⟩:=g;obtain ⟨hj0,hOj,hwj,huj,hR⟩:=I14.2;simp only at hj0 hOj hwj huj hR;dsimp only;refine J6 ?_ ?_<;>intro c15
 ·have hk:j < r.length:=by omega
  obtain ⟨br,ofr,x,hAr,hxr,hcr⟩:=Refs.at_ (hRf.le I14.1) hk;subst hAr;have hpl:=hlt x (List.mem_of_getElem? hxr);obtain ⟨bw,yw,hAw,hMw,g1,g2,g3,g4⟩:=qhe hOj O;subst hMw;subst hAw;simp only [cQ9,nQ9];refine G6 ?_;refine qae (qaw Z Z Z Z Z Z hk) Z<|qae (qat Z Z Z (hcr.le (Lr D)) Z) Z<|qac Z [_,_,_,_] Z Z fun β16 s16 h16=>Wt 0 [_,_,_,_] Y9<|Nt<|Zs<|qaL qab 13 Z _ (fun _ h=>h) fun s17 h17=>H3 ?_;refine za 3 Z (Wd 4 Y5) Z<|H3 ?_;refine za 7 Z (qaC (qhL KeyK.str 5 qpr Z Z Z) (show Value.tuple #[(qaW es x.2.2.1).getD (.int .u32 0),.bool (qaW es x.2.2.1).isSome]=.tuple #[(qaW es x.2.2.1).getD (.int .u32 0),.bool (qbo l x.2.2.1).isSome] by rw [hE,Option.isSome_map])) Z<|H5 ?_;refine qah V<|G8 ?_;refine qc8 Z ?_ ?_<;>intro c18
  ·have hmiss:qbo l x.2.2.1=none:=by simpa using c18
   refine G4 ?_;refine Je Z Z Z (qgL D _ _ _ _) fun s19 h19=>Zqa Z Z<|Wt 2 [_,_] Y9<|G9 ?_;refine rR [_,_,_,_] _ (.tmp Z (.agg (us:=[_,_]) 2 Z Z Z Z Z (.nil))) Z (e14.t h16|>.t h17|>.t h19) fun _ hS2=>?_;first
     | (refine ⟨[],rfl,.pointer none,_,_,rfl,.inl ⟨hbad,qis hbad⟩⟩)
     | (refine ⟨[],rfl,.pointer none,3,-2,rfl,.inl ⟨by decide,qir ht0 hlong⟩⟩)
     | (exact ⟨_,qnE ..,.pointer none,_,_,rfl,.inl ⟨hcode,qiq ht0 hlong (by rw [hS,hdr];exact qgM hcode)⟩⟩)
     | (exact ⟨[_,_,_],rfl,.pointer none,_,_,rfl,.inl ⟨by decide,qkP ht0 hlong hS (by rw [hR];exact qhf hxr hmiss)⟩⟩)
     | (exact ⟨_,rfl,_,0,0,rfl,.inr ⟨rfl,rfl,ba,bm,Aw,w.length,cw,Al,l.length,cl,_,es,ck,Mj,wj,l,rfl,rfl,hOj,huj,hLb.le (h13.t I14.1|>.t h16|>.t h17|>.t h19|>.t hS2),qoe ht0 hlong hS hR⟩⟩)
  obtain ⟨a,ha⟩:=Option.isSome_iff_exists.1 c18;rw [show (qaW es x.2.2.1).getD (Value.int .u32 0)=.int .u32 a by rw [hE,ha];rfl];refine Zk<|Zt<|qaU qab 12 Z [6] Q3 fun s19 h19=>H3 ?_;refine za 3 Z (Wd 4 Y5) Z<|H2 ?_;refine za 6 Z (qaQ Z Z Z Z Z Z O) Z<|H1 ?_;refine qaq 7 V<|qbH Z Tt (qb5 6 Z Z Z Z (qyp O)) Z<|za 9 Z (qaC (qlu Z Z) (congrArg (Value.int .u32) (qqK _))) Z<|za 10 Z (qaQ Z Z Z Z Z Z O) Z<|qaq 11 V<|qd0 Z Tt 6 _ Z Z Z Z Z (qxn O) Z (qy4 _ O) Z (fun x hx=>hx)<|qah V<|Zb<|Zt<|Zr<|qaV Z Z Z (w64 O O)<|G2 ?_;refine qaf ⟨(j+1,[(bw,cb (wv (wj.set x.2.1 (w32 (wj.getD x.2.1 0+a)))++yw) 34)],wj.set x.2.1 (w32 (wj.getD x.2.1 0+a))),[_],kp,Z,⟨(I14.1.t h16|>.t h17|>.t h19),⟨by simp only;omega,qml (by simp only [qdZ,List.length_set];exact hwj) (by simp only [qdZ,List.length_set];rw [qdZ] at g2;exact g2) g3 g4,by simp only [List.length_set];exact hwj,setU huj _ _ (qF3 _),by simp only;rw [hR,qsQ hxr ha]⟩⟩,Oz⟩
 have hdr2:r.drop j=[]:=List.drop_eq_nil_of_le O;rw [hdr2,qj9] at hR;refine G8 ?_;refine X13 ?_;refine rR [_,_,_] _ (.tmp Z (.agg (us:=[_,_]) 1 Z Z Z Z Z (.nil))) Z e14 fun _ hS2=>?_;first
   | (refine ⟨[],rfl,.pointer none,_,_,rfl,.inl ⟨hbad,qis hbad⟩⟩)
   | (refine ⟨[],rfl,.pointer none,3,-2,rfl,.inl ⟨by decide,qir ht0 hlong⟩⟩)
   | (exact ⟨_,qnE ..,.pointer none,_,_,rfl,.inl ⟨hcode,qiq ht0 hlong (by rw [hS,hdr];exact qgM hcode)⟩⟩)
   | (exact ⟨[_,_,_],rfl,.pointer none,_,_,rfl,.inl ⟨by decide,qkP ht0 hlong hS (by rw [hR];exact qhf hxr hmiss)⟩⟩)
   | (exact ⟨_,rfl,_,0,0,rfl,.inr ⟨rfl,rfl,ba,bm,Aw,w.length,cw,Al,l.length,cl,_,es,ck,Mj,wj,l,rfl,rfl,hOj,huj,hLb.le (h13.t I14.1|>.t hS2),qoe ht0 hlong hS hR⟩⟩)
def qvh(t:Tab)(tx:List UInt8):List Int:=match qgN t tx with
 | .inl _=>[]
 | .inr x=>x.1
def qD7(t:Tab)(tx:List UInt8):List (List UInt8×Int):=match qgN t tx with
 | .inl _=>[]
 | .inr x=>x.2
def qhD(t:Tab)(tx:List UInt8):Int×Int:=match qgN t tx with
 | .inl f=>f
 | .inr _=>(0,0)
def qBU(h:qgN t tx=.inl f):qvh t tx=[]∧qD7 t tx=[]∧qhD t tx=f:=by simp [qvh,qD7,qhD,h]
def qBV(h:qgN t tx=.inr (w,l)):qvh t tx=w∧qD7 t tx=l∧qhD t tx=(0,0):=by simp [qvh,qD7,qhD,h]
def Labs.nil(s:World):Labs s none 0 0 []:=⟨rfl,Nat.le_refl _,by omega,fun i x h=>by cases h⟩
def Cz31{p:Prop} (h:p:=by
 first
  | (exact ⟨_,rfl,fun s2 hs2 hp=>⟨Aw,nw,cw,by rw [e3];rfl,by rw [e1];exact Own.wds hOw huw hp⟩⟩)
  | (exact ⟨_,rfl,fun s2 hs2 hp=>⟨none,0,0,by rw [e3];rfl,by first|(rw [e1];exact Wds.nil _ _ _ O)|(rw [e2];exact Labs.nil _)⟩⟩)):p:=h
def qjp(hG:GW s)(t:Tab)(A:Option Addr)(n c:Nat)(hA:Inss s A n c t.ins)(tx:List UInt8):AC Tryz.prog D 16 [.agg #[.int .i64 t.cells,.slice A n c],St tx] L s fun v L' s'=>∃ M',L'=M'++L∧∀ s2,Le D s' s2→Pub M' s2→∃ A1 n1 c1,v=.tuple #[.slice A1 n1 c1,.agg #[.int .i64 (qhD t tx).1,.int .i64 (qhD t tx).2]]∧Wds s2 A1 n1 c1 (qvh t tx):=by
 refine qad (fn:=Tryz.f16) qao Tryz.func16 V Z Tryz.ntmps16 Z (rs:=[.tmp 4,.cell 5 30]) Z [(0,_),(1,_)] Z<|Sr<|qar Z Z fun β1 s1 h1=>Zqa Z Z<|qac Z [_,_] Z Z fun β2 s2 h2=>Nt<|Sr<|qae (qaj 1 [_,_] Z Z Z Z Z) Z<|Zqm Z Z<|Jc Z Z Z (AC.mid [_,_] [] _ (qkQ D _ _ (hG.le (h1.t h2)) _ _ _ _ (hA.le (h1.t h2)) tx)) ?_;rintro _ _ s3 h3 ⟨Mx,rfl,p,f1,f2,rfl,hR⟩;refine G3 ?_;refine qac Z [_,_] Z Z fun β4 s4 h4=>Zqa Z Z<|Wt 0 [_,_] Y9<|Nt<|Zs<|Sr<|qae (qaj 0 [_,_] Z Z Z Z Z) Z<|qae (qai [] [_,_] Z Z Z Z Z Z) Z<|qae (qcU Z Z (qb3 _ _ _ _)) Z<|G2 ?_;have e4:=h1.t h2|>.t h3|>.t h4;refine qaR Z ?_ ?_<;>intro c5
 ·obtain ⟨hne,hbad⟩|⟨hz1,hz2,_⟩:=hR
  rotate_left
  · exact absurd ⟨hz1,hz2⟩ c5
  obtain ⟨e1,e2,e3⟩:=qBU hbad;refine Zs<|qaU qab 3 Z [1] Q3 fun s6 h6=>za 0 Z (qaj 0 [_,_] Z Z Z Z Z) Z<|H1 ?_;refine X6 ?_;exact rR [_,_,_] _ (.tmp Z (.agg (us:=[_,_]) 1 Z Z Z Z Z (.nil))) Z (e4.t h6) fun _ hS2=>Cz31
 obtain ⟨hne,hbad⟩|⟨hz1,hz2,ba,bm,Aw,nw,cw,Al,nl,cl,vr,es,ck,Mw,w,l,hp,hM,hOw,huw,hLb,hok⟩:=hR
 · exact absurd c5.1 hne
 subst hp;subst hM;obtain ⟨e1,e2,e3⟩:=qBV hok;refine G7 ?_;refine Wl 3 Y6<|qae (qai [] [_,_] Z Z Z Z Z Z) Z<|Zqa Z Z<|Wt 1 [_,_] Y9<|G3 ?_;exact rR [_,_,_,_,_] _ (.tmp Z (.agg (us:=[_,_]) 1 Z Z Z Z Z (.nil))) Z e4 fun _ hS2=>Cz31
def qjq(hG:GW s)(t:Tab)(A:Option Addr)(n c:Nat)(hA:Inss s A n c t.ins)(tx:List UInt8):AC Tryz.prog D 16 [.agg #[.int .i64 t.cells,.slice A n c],St tx] L s fun v L' s'=>L=L'∧∃ A1 n1 c1,v=.tuple #[.slice A1 n1 c1,.agg #[.int .i64 (qhD t tx).1,.int .i64 (qhD t tx).2]]∧Wds s' A1 n1 c1 (qvh t tx):=AC.pubW (qjp D L s hG t A n c hA tx)
end Go.Proofs.YtlfiplbamnpgoaaGreatDoor
namespace Go.FL
open Go Go.RowKit
variable{e c t t' te b:Nat}{x y:Operand}{p A:Option Addr}{zs:List Value}
def qsC{M:Hl}{Ad:Option Addr}{n:Nat}{xs:List Value}(h:FL.Own e 1 M (.slice Ad n c) n xs)(hn:0 < n):∃ b ys,Ad=some ⟨b,0,none⟩∧M=[(b,cb (xs++ys) e)]∧xs.length=n∧xs.length+ys.length=c∧n≤c∧c≤9223372036854775807:=by
 exact Go.Proofs.YtlfiplbamnpgoaaGreatDoor.qAK
section
variable{P:Program}{TT:qaM}{D n:Nat}{Q:qbs}{fr:Fr}{L L' K:Hl}{s s' s0:World}{ops:Array Oper}{rest:List Oper}{d ty:Nat}{op:Op}{pos:String}{af:Array Edge}{v:Value}
def qBo(hp:P.underlying t=some (.pointer te))(hx:lk fr x=some (.pointer p)):QE P TT D fr (.binOp .eql t x (.const (.pointer none)) t') ty K s0 (.bool p.isNone):=
 QE.pure fun _ dst pos af g ρ hρ w=>by
  have hc:=hρ (.const (.pointer none)) _ rfl;have h:∀ k:Nat,(Op.equalIn (k+1) t (.pointer p) (.pointer none)).run P w=.ok p.isNone w:=fun k=>by cases p<;>simp [Op.equalIn,run_underlying hp]
  have h2:(binOp .eql t (.pointer p) (.pointer none)).run P w=.ok (.bool p.isNone) w:=by simp only [binOp];simp [Op.equal,Op.maxDepth,h 9999]
  simp [execOp,hρ x _ hx,hc,eqGuard,h2]
def qlx(hp:P.underlying t=some (.pointer te))(hx:lk fr x=some (.pointer p)):QE P TT D fr (.binOp .neq t x (.const (.pointer none)) t') ty K s0 (.bool p.isSome):=
 QE.pure fun _ dst pos af g ρ hρ w=>by
  have hc:=hρ (.const (.pointer none)) _ rfl;have h:∀ k:Nat,(Op.equalIn (k+1) t (.pointer p) (.pointer none)).run P w=.ok p.isNone w:=fun k=>by cases p<;>simp [Op.equalIn,run_underlying hp]
  have h2:(binOp .neq t (.pointer p) (.pointer none)).run P w=.ok (.bool p.isSome) w:=by simp only [binOp];cases p<;>simp [Op.equal,Op.maxDepth,h 9999]
  simp [execOp,hρ x _ hx,hc,eqGuard,h2]
def qBp{a:Addr}{ti:TI}(hp:P.underlying t=some (.pointer te))(hte:qay TT te=some ti)(hx:lk fr x=some (.pointer (some a)))(hy:lk fr y=some (.pointer (some a))):QE P TT D fr (.binOp .neq t x y t') ty K s0 (.bool false):=
 QE.pure fun hT dst pos af g ρ hρ w=>by
  obtain ⟨i,i1,_⟩:=qdR (hT.at_ hte);simp [execOp,hρ x _ hx,hρ y _ hy,eqGuard,Lib.run_neq_ptr_same w a hp i1]
def qhk(ho:OKL D L s)(hi:(b,cb zs e)∈L):(fill L s).shape? b=some (e,zs.length):=by
 have:=qa3 ho hi;unfold World.shape?;rw [this];simp [cb]
def qBu{ti:TI}(i:Nat)(hs:P.underlying t=some (.pointer te))(hd:P.underlying t'=some .unsafePointer)(hte:qay TT te=some ti)(hx:lk fr x=some (.pointer (some ⟨b,0,none⟩)))(hi:K[i]?=some (b,cb zs e))(hz:Nat.blt 0 zs.length=true):QE P TT D fr (.convert t t' x) ty K s0 (.pointer (some ⟨b,0,none⟩)):=
 fun hT dst pos af g ρ hρ L s ho hl hK=>by
  obtain ⟨i0,i1,i2,_⟩:=qdR (hT.at_ hte);have hpos:0 < ti.size:=(hT.at_ hte).2.2.2.2.2.1;have hr:=Lib.run_to_unsafe (P:=P) (fill L s) ⟨b,0,none⟩ hs hd i1 (by rw [i2];omega) (qhk ho (hK _ (List.mem_of_getElem? hi))) (by simpa using hz);simp only [execOp,hρ x _ hx,Sem.run_bind,hr,Result.andThen_ok,Sem.run_pure]
def qq0{ti:TI}(i:Nat)(hs:P.underlying t=some .unsafePointer)(hd:P.underlying t'=some (.pointer te))(hte:qay TT te=some ti)(hx:lk fr x=some (.pointer (some ⟨b,0,none⟩)))(hi:K[i]?=some (b,cb zs e))(hlies:liesAt P P.depth e (zs.length / P.cellsOf e) 0 te 1=true):QE P TT D fr (.convert t t' x) ty K s0 (.pointer (some ⟨b,0,none⟩)):=
 fun hT dst pos af g ρ hρ L s ho hl hK=>by
  obtain ⟨i0,i1,i2,_⟩:=qdR (hT.at_ hte);have hr:=Lib.run_from_unsafe (P:=P) (fill L s) ⟨b,0,none⟩ hs hd i1 (qhk ho (hK _ (List.mem_of_getElem? hi))) hlies;simp only [execOp,hρ x _ hx,Sem.run_bind,hr,Result.andThen_ok,Sem.run_pure]
def qwH{f:FuncId}{fn:Func}{ts:Array TypeId}(hf:P.funcs[f]?=some fn)(hname:(fn.name == "runtime.NumGoroutine")=false)(hb:fn.body.isNone=true)(hn:Extern.findNext fn=none)(he:Extern.find fn=some Extern.AbiNoEscape.same)(hx:lk fr x=some (.func (.func f) #[] #[]))(hy:lk fr y=some v):
  QE P TT D fr (.call { callee:=.value x,args:=#[y],argTypes:=ts }) ty K s0 v:=
 QE.pure fun hT dst pos af g ρ hρ w=>by
  have hr:=run_callFunc_extern hf hname hb hn he #[v] w;rw [Lib.run_noEscape] at hr;simp [execOp,resolve,Deferred.ofValue,invoke,hρ x _ hx,hρ y _ hy,hr]
def qBv{ts:Array TypeId}{m:Nat}(hx:lk fr x=some (.slice A m c))(hc:A=none∨c≠0):QE P TT D fr (.call { callee:=.builtin .unsafeSliceData,args:=#[x],argTypes:=ts }) ty K s0 (.pointer A):=
  QE.pure fun hT dst pos af g ρ hρ w=>by
    rcases hc with rfl|hc
    · simp [execOp,resolve,invoke,builtin,hρ x _ hx,Lib.run_unsafeSliceData_nil]
    · cases A with
      | none=>simp [execOp,resolve,invoke,builtin,hρ x _ hx,Lib.run_unsafeSliceData_nil]
      | some a=>simp [execOp,resolve,invoke,builtin,hρ x _ hx,Lib.run_unsafeSliceData_row _ _ _ _ _ _ hc]
def qm7(w:World)(g e k:Nat)(cs:Array Value)(hk:k≠0)(hg:g < w.heap.size):(qbq w g (.cells cs e (0,0))).freeze ⟨g,0,none⟩ k=qbq w g (.cells cs e (0,k)):=by
  unfold World.freeze;rw [if_neg hk];refine qdA (qdv fun j=>?_) Z Z Z Z;show ((w.heap.setIfInBounds g _).modify g _)[j]?=(w.heap.setIfInBounds g _)[j]?;rw [Array.getElem?_modify];by_cases hj:g=j
  · subst hj
    rw [if_pos rfl,Array.getElem?_setIfInBounds_self,Array.getElem?_setIfInBounds_self];simp [hg]
  · rw [if_neg hj,Array.getElem?_setIfInBounds_ne hj,Array.getElem?_setIfInBounds_ne hj]
end
open Go Go.RowKit Go.Proofs.YtlfiplbamnpgoaaGreatDoor
section
variable{P:Program}{TT:qaM}{D n:Nat}{Q:qbs}{fr:Fr}{L L' K:Hl}{s s' s0:World}{ops:Array Oper}{rest:List Oper}{d ty:Nat}{op:Op}{pos:String}{af:Array Edge}{v:Value}
def qwa{tp ti0:Nat}{l:List UInt8}(X M L0:Hl)(hp:P.underlying tp=some (.pointer e))(hce:P.cellsOf e=1)(hx:lk fr x=some (.pointer A))(hy:lk fr y=some (.int .i64 (l.length:Int)))(hO:FL.Own e 1 M (.slice A l.length c) l.length (bv l))(hn:l=[]→M=[])(ho:OKL D (X++(M++L0)) s):
    ∃ s',Ev P TT D fr (.call { callee:=.builtin .unsafeString,args:=#[x,y],argTypes:=#[tp,ti0] }) ty (X++(M++L0)) s (.value (St l)) (X++L0) s'∧Le D s s':=by
  by_cases h0:l=[]
  · subst h0
    have hM:=hn rfl;subst hM;refine ⟨s,fun hT ho dst pos af g ρ hρ=>⟨?_,by simpa using ho⟩,Le.refl _⟩;simp only [List.length_nil] at hy;have hr:=Lib.run_unsafeString_none (P:=P) (fill (X++([]++L0)) s) tp ti0 ty A;simp [execOp,resolve,invoke,builtin,hρ x _ hx,hρ y _ hy];simp at hr;rw [hr];rfl
  · have hl0:l.length≠0:=by simpa using h0
    obtain ⟨g,ys,hA,hM,g1,g2,g3,g4⟩:∃ g ys,A=some ⟨g,0,none⟩∧M=[(g,cb (bv l++ys) e)]∧(bv l).length=l.length∧(bv l).length+ys.length=c∧l.length≤c∧c≤9223372036854775807:=qsC hO O;subst hA;subst hM;have hperm:(X++([(g,cb (bv l++ys) e)]++L0)).Perm ((g,cb (bv l++ys) e)::(X++L0)):=by simpa using List.perm_middle
    have ho2:=ho.perm hperm;have hgs:g < s.heap.size:=ho2.lt Mc;have hgs2:g < (fill (X++L0) s).heap.size:=by rw [qaF];exact hgs
    have ho3:OKL D ([(g,Obj.cells (bv l++ys).toArray e (0,l.length))]++(X++L0)) s:=⟨by simpa using ho2.nd,fun x hx=>by
      rcases List.mem_cons.1 hx with rfl|hx
      · exact ho2.dm (g,cb (bv l++ys) e) Mc
      · exact ho2.dm x (List.mem_cons_of_mem _ hx)⟩
    obtain ⟨d1,d2,d3⟩:=qbp ho3;have hbl:(bv l).length=l.length:=g1;have hus:=Lib.run_unsafeString_row (P:=P) (fill (X++([(g,cb (bv l++ys) e)]++L0)) s) tp ti0 ty e hp hce g ((bv l++ys).length) (qhk ho (by simp)) l h0 (by simp [hbl]) O (fun j x hx=>by
      rw [add_lit,Nat.zero_add,qc2 ho (zs:=bv l++ys) (t:=e) (by simp),List.getElem?_append_left (by rw [hbl];exact (List.getElem?_eq_some_iff.1 hx).1)];simp [bv,hx])
    have hw:(fill (X++([(g,cb (bv l++ys) e)]++L0)) s).freeze ⟨g,0,none⟩ l.length=fill (X++L0) (fill [(g,Obj.cells (bv l++ys).toArray e (0,l.length))] s):=by
      rw [qa5 hperm _ ho,← d1];exact qm7 (fill (X++L0) s) g e l.length (bv l++ys).toArray hl0 hgs2
    refine ⟨fill [(g,Obj.cells (bv l++ys).toArray e (0,l.length))] s,fun hT _ dst pos af gg ρ hρ=>⟨?_,d2⟩,d3⟩;rw [hw] at hus;simp only [execOp,resolve,invoke,builtin,Sem.run_bind,Sem.run_pure,Result.andThen_ok,List.map_toArray,List.map_cons,List.map_nil,hρ x _ hx,hρ y _ hy,hus]
def qws{i0 tp ti0 e:Nat}{g:Option (Nat×Bool)}{fuel:Nat}{listed:Array Bool}{x y:Operand}{A:Option Addr}{l:List UInt8}{c:Nat}(hi0:ops[i0]?=some ⟨some d,.call { callee:=.builtin .unsafeString,args:=#[x,y],argTypes:=#[tp,ti0] },ty,pos,af,g⟩)(hgk:GOK ops fr g)
  (X M L0:Hl) (hL:L=X++(M++L0)) (hp:P.underlying tp=some (.pointer e)) (hce:P.cellsOf e=1) (hx:lk fr x=some (.pointer A)) (hy:lk fr y=some (.int .i64 (l.length:Int))) (hO:FL.Own e 1 M (.slice A l.length c) l.length (bv l)) (hn:l=[]→M=[]) (hd:Nat.blt d n=true) (hK:∀ x∈K,x∈X++(M++L0)→x∈X++L0)
  (kk:∀ s',Le D s s'→JA P TT D n ops Q K s0 fuel (listed.setIfInBounds i0 true) ((d,St l)::fr) (X++L0) s'):JB P TT D n ops Q K s0 fuel listed i0 fr L s:=fun hT a hr ho hl0 hKL=>by
 subst hL;obtain ⟨s',h1,h2⟩:=qwa (ty:=ty) X M L0 hp hce hx hy hO hn ho;exact qhz hi0 hgk h1 h2 hK hd (kk s' h2) hT a hr ho hl0 hKL
end
end Go.FL
namespace Go.Proofs.YtlfiplbamnpgoaaGreatDoor
open Go Go.FL
variable{D d n c k:Nat}{s s':World}{A:Option Addr}
inductive Ex where
 | mk (kind op num:Int) (name:List UInt8) (args:List Ex)
inductive Stm where
 | mk (kind:Int) (name:List UInt8) (exprs:List Ex) (body els:List Stm)
def Ex.kind:Ex→Int|.mk k _ _ _ _=>k
def Ex.op:Ex→Int|.mk _ o _ _ _=>o
def Ex.num:Ex→Int|.mk _ _ n _ _=>n
def Ex.name:Ex→List UInt8|.mk _ _ _ s _=>s
def Ex.args:Ex→List Ex|.mk _ _ _ _ l=>l
def Stm.kind:Stm→Int|.mk k _ _ _ _=>k
def Stm.name:Stm→List UInt8|.mk _ s _ _ _=>s
def Stm.exprs:Stm→List Ex|.mk _ _ l _ _=>l
def Stm.body:Stm→List Stm|.mk _ _ _ b _=>b
def Stm.els:Stm→List Stm|.mk _ _ _ _ e=>e
structure Fnc where
 name:List UInt8
 params:List (List UInt8)
 locals:List (List UInt8)
 body:List Stm
structure Glo where
 kind:Int
 name:List UInt8
 num:Int
 init:List Int
structure Prg where
 globals:List Glo
 funcs:List Fnc
def ExR:Nat→World→Ex→List Value→Prop
 | 0,_,_,_=>False
 | d+1,s,x,cs=>∃ A n c,cs=[.int .i64 x.kind,.int .i64 x.op,.int .u32 x.num,St x.name,.slice A n c]∧Sl 5 (ExR d) s A n c x.args∧U32 x.num∧x.name.length≤9223372036854775807
def Exs(d:Nat)(s:World)(A:Option Addr)(n c:Nat)(l:List Ex):Prop:=Sl 5 (ExR d) s A n c l
def StR:Nat→World→Stm→List Value→Prop
 | 0,_,_,_=>False
 | d+1,s,x,cs=>∃ A1 n1 c1 A2 n2 c2 A3 n3 c3,cs=[.int .i64 x.kind,St x.name,.slice A1 n1 c1,.slice A2 n2 c2,.slice A3 n3 c3]∧Exs d s A1 n1 c1 x.exprs∧Sl 5 (StR d) s A2 n2 c2 x.body∧Sl 5 (StR d) s A3 n3 c3 x.els∧x.name.length≤9223372036854775807
def Stms(d:Nat)(s:World)(A:Option Addr)(n c:Nat)(l:List Stm):Prop:=Sl 5 (StR d) s A n c l
def ExR.le(hl:Le D s s'):∀ {d:Nat} {x:Ex} {cs:List Value},ExR d s x cs→ExR d s' x cs
 | 0,_,_,h=>h
 | _+1,_,_,⟨A,n,c,h1,h2,h3⟩=>⟨A,n,c,h1,Sl.le (fun _ _ h=>ExR.le hl h) h2 hl,h3⟩
def Exs.le{l:List Ex}(h:Exs d s A n c l)(hl:Le D s s'):Exs d s' A n c l:=Sl.le (fun _ _ h=>ExR.le hl h) h hl
def StR.le(hl:Le D s s'):∀ {d:Nat} {x:Stm} {cs:List Value},StR d s x cs→StR d s' x cs
 | 0,_,_,h=>h
 | _+1,_,_,⟨A1,n1,c1,A2,n2,c2,A3,n3,c3,h1,h2,h3,h4,h5⟩=>⟨A1,n1,c1,A2,n2,c2,A3,n3,c3,h1,h2.le hl,Sl.le (fun _ _ h=>StR.le hl h) h3 hl,Sl.le (fun _ _ h=>StR.le hl h) h4 hl,h5⟩
def Stms.le{l:List Stm}(h:Stms d s A n c l)(hl:Le D s s'):Stms d s' A n c l:=Sl.le (fun _ _ h=>StR.le hl h) h hl
def Sl.imp{α:Type}{sz:Nat}{R R':World→α→List Value→Prop}{l:List α}(hR:∀ x cs,R s x cs→R' s x cs)(h:Sl sz R s A n c l):Sl sz R' s A n c l:=
 ⟨h.1,h.2.1,h.2.2.1,fun i x hi=>by
  obtain ⟨b,off,cs,h1,h2,h3,h4⟩:=h.2.2.2 i x hi;exact ⟨b,off,cs,h1,h2,h3,hR x cs h4⟩⟩
def ExR.up:∀ {d e:Nat},d≤e→∀ {x:Ex} {cs:List Value},ExR d s x cs→ExR e s x cs
 | 0,_,_,_,_,h=>h.elim
 | d+1,0,h,_,_,_=>by omega
 | d+1,e+1,h,_,_,⟨A,n,c,h1,h2,h3⟩=>⟨A,n,c,h1,Sl.imp (fun _ _ k=>ExR.up O k) h2,h3⟩
def Exs.up{e:Nat}{l:List Ex}(h:Exs d s A n c l)(he:d≤e):Exs e s A n c l:=Sl.imp (fun _ _ k=>ExR.up he k) h
def StR.up:∀ {d e:Nat},d≤e→∀ {x:Stm} {cs:List Value},StR d s x cs→StR e s x cs
 | 0,_,_,_,_,h=>h.elim
 | d+1,0,h,_,_,_=>by omega
 | d+1,e+1,h,_,_,⟨A1,n1,c1,A2,n2,c2,A3,n3,c3,h1,h2,h3,h4,h5⟩=>⟨A1,n1,c1,A2,n2,c2,A3,n3,c3,h1,h2.up O,Sl.imp (fun _ _ k=>StR.up O k) h3,Sl.imp (fun _ _ k=>StR.up O k) h4,h5⟩
def Stms.up{e:Nat}{l:List Stm}(h:Stms d s A n c l)(he:d≤e):Stms e s A n c l:=Sl.imp (fun _ _ k=>StR.up he k) h
def Exs.at_{l:List Ex}(h:Exs d s A n c l)(hk:k < n):∃ e b off x A' n' c',d=e+1∧A=some ⟨b,off,none⟩∧l[k]?=some x∧CellsAt s b (off+k * 5) [.int .i64 x.kind,.int .i64 x.op,.int .u32 x.num,St x.name,.slice A' n' c']∧Exs e s A' n' c' x.args∧U32 x.num∧x.name.length≤9223372036854775807:=by
 have hl:k < l.length:=by rw [← h.1];exact hk
 obtain ⟨b,off,cs,h1,h2,_,h4⟩:=h.2.2.2 k l[k] (List.getElem?_eq_getElem hl);cases d with
 | zero=>exact h4.elim
 | succ e=>
  obtain ⟨A',n',c',rfl,h5,h6,h7⟩:=h4;exact ⟨e,b,off,l[k],A',n',c',rfl,h1,List.getElem?_eq_getElem hl,h2,h5,h6,h7⟩
def Stms.at_{l:List Stm}(h:Stms d s A n c l)(hk:k < n):∃ e b off x A1 n1 c1 A2 n2 c2 A3 n3 c3,d=e+1∧A=some ⟨b,off,none⟩∧l[k]?=some x∧CellsAt s b (off+k * 5) [.int .i64 x.kind,St x.name,.slice A1 n1 c1,.slice A2 n2 c2,.slice A3 n3 c3]∧Exs e s A1 n1 c1 x.exprs∧Stms e s A2 n2 c2 x.body∧Stms e s A3 n3 c3 x.els∧x.name.length≤9223372036854775807:=by
 have hl:k < l.length:=by rw [← h.1];exact hk
 obtain ⟨b,off,cs,h1,h2,_,h4⟩:=h.2.2.2 k l[k] (List.getElem?_eq_getElem hl);cases d with
 | zero=>exact h4.elim
 | succ e=>
  obtain ⟨A1,n1,c1,A2,n2,c2,A3,n3,c3,rfl,h5,h6,h7,h8⟩:=h4;exact ⟨e,b,off,l[k],A1,n1,c1,A2,n2,c2,A3,n3,c3,rfl,h1,List.getElem?_eq_getElem hl,h2,h5,h6,h7,h8⟩
def FnR(d:Nat)(s:World)(x:Fnc)(cs:List Value):Prop:=∃ A1 n1 c1 A2 n2 c2 A3 n3 c3,cs=[St x.name,.slice A1 n1 c1,.slice A2 n2 c2,.slice A3 n3 c3]∧Strs s A1 n1 c1 x.params∧Strs s A2 n2 c2 x.locals∧Stms d s A3 n3 c3 x.body∧x.name.length≤9223372036854775807
def Fncs(d:Nat)(s:World)(A:Option Addr)(n c:Nat)(l:List Fnc):Prop:=Sl 4 (FnR d) s A n c l
def GlR(s:World)(x:Glo)(cs:List Value):Prop:=∃ A n c,cs=[.int .i64 x.kind,St x.name,.int .u32 x.num,.slice A n c]∧Wds s A n c x.init∧U32 x.num∧x.name.length≤9223372036854775807
def Glos(s:World)(A:Option Addr)(n c:Nat)(l:List Glo):Prop:=Sl 4 GlR s A n c l
def FnR.le{x:Fnc}{cs:List Value}(h:FnR d s x cs)(hl:Le D s s'):FnR d s' x cs:=by
 obtain ⟨A1,n1,c1,A2,n2,c2,A3,n3,c3,h1,h2,h3,h4,h5⟩:=h;exact ⟨A1,n1,c1,A2,n2,c2,A3,n3,c3,h1,h2.le hl,h3.le hl,h4.le hl,h5⟩
def Fncs.le{l:List Fnc}(h:Fncs d s A n c l)(hl:Le D s s'):Fncs d s' A n c l:=Sl.le (fun _ _ h=>h.le hl) h hl
def GlR.le{x:Glo}{cs:List Value}(h:GlR s x cs)(hl:Le D s s'):GlR s' x cs:=by
 obtain ⟨A,n,c,h1,h2,h3⟩:=h;exact ⟨A,n,c,h1,h2.le hl,h3⟩
def Glos.le{l:List Glo}(h:Glos s A n c l)(hl:Le D s s'):Glos s' A n c l:=Sl.le (fun _ _ h=>h.le hl) h hl
def Fncs.at_{l:List Fnc}(h:Fncs d s A n c l)(hk:k < n):∃ b off x A1 n1 c1 A2 n2 c2 A3 n3 c3,A=some ⟨b,off,none⟩∧l[k]?=some x∧CellsAt s b (off+k * 4) [St x.name,.slice A1 n1 c1,.slice A2 n2 c2,.slice A3 n3 c3]∧Strs s A1 n1 c1 x.params∧Strs s A2 n2 c2 x.locals∧Stms d s A3 n3 c3 x.body∧x.name.length≤9223372036854775807:=by
 have hl:k < l.length:=by rw [← h.1];exact hk
 obtain ⟨b,off,cs,h1,h2,_,A1,n1,c1,A2,n2,c2,A3,n3,c3,rfl,h5⟩:=h.2.2.2 k l[k] (List.getElem?_eq_getElem hl);exact ⟨b,off,l[k],A1,n1,c1,A2,n2,c2,A3,n3,c3,h1,List.getElem?_eq_getElem hl,h2,h5⟩
def Glos.at_{l:List Glo}(h:Glos s A n c l)(hk:k < n):∃ b off x A' n' c',A=some ⟨b,off,none⟩∧l[k]?=some x∧CellsAt s b (off+k * 4) [.int .i64 x.kind,St x.name,.int .u32 x.num,.slice A' n' c']∧Wds s A' n' c' x.init∧U32 x.num∧x.name.length≤9223372036854775807:=by
 have hl:k < l.length:=by rw [← h.1];exact hk
 obtain ⟨b,off,cs,h1,h2,_,A',n',c',rfl,h5⟩:=h.2.2.2 k l[k] (List.getElem?_eq_getElem hl);exact ⟨b,off,l[k],A',n',c',h1,List.getElem?_eq_getElem hl,h2,h5⟩
def kwords:List Str:=[[97,114,114,97,121],[98,114,101,97,107],[99,111,110,115,116],[99,111,110,116,105,110,117,101],[101,108,115,101],[102,117,110,99],[103,101,116],[105,102],[112,117,116],[114,101,116,117,114,110],[115,116,111,112],[118,97,114],[119,104,105,108,101]]
def kwB(s:Str):Bool:=kwords.any fun w=>decide (w=s)
def qbr(s:Str):Bool:=(decide (s≠[]) && decide ((s.length:Int)≤12) && qa1 0 s) && !kwB s
def qe4(g:Glo):Int:=if g.kind < 1∨3 < g.kind then 5 else if qbr g.name=false then 7 else if (g.kind≠3∧g.init≠[])∨(g.kind=2∧g.num≠0) then 6 else if g.kind=3∧(g.num < 1∨40000 < g.num) then 4 else if g.kind=3∧g.num < (g.init.length:Int) then 2 else 0
def qpz(k:Int):Bool:=decide (2≤k∧k≤4)
def qdx(k:Int):Nat:=if k=3∨k=6 then 1 else if k=7 then 2 else 0
def qfU(k:Int):Nat:=if k=3∨k=6 then 1 else if k=4 then 6 else if k=7 then 2 else 0
def exC(k o n:Int)(nm:Str)(na:Nat):Int:=if k < 1∨7 < k∨(k=6∧(o < 1∨3 < o))∨(k=7∧(o < 4∨21 < o)) then 5 else if qpz k=true∧qbr nm=false then 7 else if (qpz k=false∧nm≠[])∨(k≠1∧n≠0)∨(k < 6∧o≠0)∨na < qdx k∨qfU k < na then 6 else 0
def qeR(k:Int):Bool:=decide (k=1) || decide (k=2) || decide (k=5)
def qcY(k:Int):Nat:=if k=2 then 2 else if k=5∨8 < k then 0 else 1
def qfV(k:Int):Nat:=if k=2 then 2 else if k=5 then 6 else if 8 < k then 0 else 1
def stC(k:Int)(nm:Str)(ne nb nl:Nat):Int:=if k < 1∨10 < k then 5 else if qeR k=true∧qbr nm=false then 7 else if (qeR k=false∧nm≠[])∨ne < qcY k∨qfV k < ne∨(0 < nb∧k≠3∧k≠4)∨(0 < nl∧k≠3) then 6 else 0
mutual
def wkX:Ex→Nat→Nat→Nat×Int
 | .mk k o n nm az,lv,c=>if 16 < lv∨2000 < c+1 then (c+1,2) else if exC k o n nm az.length≠0 then (c+1,exC k o n nm az.length) else qd5 az (lv+1) (c+1)
def qd5:List Ex→Nat→Nat→Nat×Int
 | [],_,c=>(c,0)
 | x::r,lv,c=>if (wkX x lv c).2≠0 then wkX x lv c else qd5 r lv (wkX x lv c).1
end
mutual
def wkS:Stm→Nat→Nat→Nat×Int
 | .mk k nm es b e,lv,c=>if 16 < lv∨2000 < c+1 then (c+1,2) else if stC k nm es.length b.length e.length≠0 then (c+1,stC k nm es.length b.length e.length)
  else if (qd5 es 1 (c+1)).2≠0 then qd5 es 1 (c+1) else if (qdL b (lv+1) (qd5 es 1 (c+1)).1).2≠0 then qdL b (lv+1) (qd5 es 1 (c+1)).1 else qdL e (lv+1) (qdL b (lv+1) (qd5 es 1 (c+1)).1).1
def qdL:List Stm→Nat→Nat→Nat×Int
 | [],_,c=>(c,0)
 | x::r,lv,c=>if (wkS x lv c).2≠0 then wkS x lv c else qdL r lv (wkS x lv c).1
end
def fnC(x:Fnc)(c:Nat):Nat×Int:=if qbr x.name=false then (c,7) else if 6 < x.params.length∨12 < x.locals.length then (c,2) else if (x.params++x.locals).any (fun s=>!qbr s)=true then (c,7) else qdL x.body 1 c
def qja(o:Int):Int:=if o=21 then 1 else if o=20 then 2 else if 14≤o∧o≤19 then 3 else if 10≤o∧o≤13 then 4 else 5
def signL:List Str:=[[],[33],[45],[126],[42],[47],[37],[60,60],[62,62],[38],[43],[45],[124],[94],[61,61],[33,61],[60],[60,61],[62],[62,61],[38,38],[124,124]]
def qp8(o:Int):Str:=signL.getD o.toNat []
def qbJ:List Str→Str
 | []=>[]
 | [x]=>x
 | x::y::r=>x++44::32::qbJ (y::r)
def qgc(k o:Int):List Int:=if k=6 then [9] else if k=7 then [qja o,qja o+1] else []
def exW(k o n:Int)(nm:Str)(az:List Str)(out:Int):Str:=if k=1 then qd9 n else if k=2 then nm else if k=3 then nm++[91]++qbJ az++[93] else if k=4 then nm++[40]++qbJ az++[41] else if k=5 then [103,101,116] else if k=6 then qp8 o++az.getD 0 []
 else if qja o < out then [40]++(az.getD 0 []++[32]++qp8 o++[32]++az.getD 1 [])++[41] else az.getD 0 []++[32]++qp8 o++[32]++az.getD 1 []
mutual
def exT:Ex→Int→Str
 | .mk k o n nm az,out=>exW k o n nm (qgk az (qgc k o)) out
def qgk:List Ex→List Int→List Str
 | [],_=>[]
 | x::r,os=>exT x (os.headD 0)::qgk r os.tail
end
def qa4:Nat→Str
 | 0=>[]
 | n+1=>qa4 n++[32,32]
def qmv(k:Int)(nm:Str)(es:List Str):Str:=if k=1 then nm++[32,61,32]++es.getD 0 []++[59,10] else if k=2 then nm++[91]++es.getD 0 []++[93,32,61,32]++es.getD 1 []++[59,10] else if k=5 then nm++[40]++qbJ es++[41,59,10]
 else (if k=6 then [114,101,116,117,114,110,32] else if k=7 then [112,117,116,32] else if k=8 then [115,116,111,112,32] else if k=9 then [98,114,101,97,107] else [99,111,110,116,105,110,117,101])++qbJ es++[59,10]
def qyc:List Stm→Bool
 | [.mk k _ _ _ _]=>decide (k=3)
 | _=>false
mutual
def stT:Stm→Nat→Str
 | .mk k nm es b e,lv=>if k=3∨k=4 then
   (if k=3 then [105,102] else [119,104,105,108,101])++[32,40]++(qgk es []).getD 0 []++[41,32,123,10]++qhK b (lv+1)++qa4 lv++[125] ++
    (if e.isEmpty=true then [10] else if qyc e=true then [32,101,108,115,101,32]++st1 e lv else [32,101,108,115,101,32,123,10]++qhK e (lv+1)++qa4 lv++[125,10])
  else qmv k nm (qgk es [])
def qhK:List Stm→Nat→Str
 | [],_=>[]
 | x::r,lv=>qa4 lv++stT x lv++qhK r lv
def st1:List Stm→Nat→Str
 | [],_=>[]
 | x::_,lv=>stT x lv
end
def qg4(g:Glo):Str:=(if g.kind=1 then [99,111,110,115,116,32]++g.name++[32,61,32]++qd9 g.num else if g.kind=2 then [118,97,114,32]++g.name
 else [97,114,114,97,121,32]++g.name++[91]++qd9 g.num++[93]++(if g.init=[] then [] else [32,61,32]++qbJ (g.init.map qd9)))++[59,10]
def qnx(x:Fnc):Str:=[102,117,110,99,32]++x.name++[40]++qbJ x.params++[41,32,123,10]++(if x.locals=[] then [] else [32,32,118,97,114,32]++qbJ x.locals++[59,10])++qhK x.body 1++[125,10]
def qsL(p:Prg):Str:=(p.globals.map qg4).flatten++(p.funcs.map qnx).flatten
def fnF:List Fnc→Nat→Nat→Int×Int
 | [],_,_=>(0,0)
 | x::r,i,c=>if (fnC x c).2≠0 then ((fnC x c).2,(i:Int)) else fnF r (i+1) (fnC x c).1
def glF:List Glo→Nat→Int×Int
 | [],_=>(0,0)
 | g::r,i=>if qe4 g≠0 then (qe4 g,(i:Int)) else glF r (i+1)
def qbM(p:Prg):Int×Int:=if 64 < p.globals.length∨64 < p.funcs.length then (2,-1) else if (glF p.globals 0).1≠0 then glF p.globals 0 else if 1000 < (p.globals.map fun g=>g.init.length).sum then (2,-1) else fnF p.funcs p.globals.length 0
def qhI(p:Prg):Int×Int:=if (qbM p).1≠0 then qbM p else if 12000 < (qsL p).length then (14,-1) else (0,0)
def smallP:Prg:=⟨[⟨1,[110],3,[]⟩],[⟨[109,97,105,110],[],[],[.mk 7 [] [.mk 7 10 0 [] [.mk 5 0 0 [] [],.mk 7 4 0 [] [.mk 2 0 0 [110] [],.mk 1 0 2 [] []]]] [] []]⟩]⟩
open Go.FL
attribute [local irreducible] JC JO JA JB qaJ qax qbN AC fill CellsAt QE Ev Mid
def qm9(D:Nat)(L:Hl)(s:World)(r:Int):AC Tryz.prog D 189 [.int .i32 r] L s fun v L' _=>v=.bool (decide ((r < 97∨122 < r)∧(r < 48∨57 < r)))∧L=L':=by
 refine qad (fn:=Tryz.f189) qao Tryz.func189 V Z Tryz.ntmps189 Z (rs:=[.tmp 2]) Z [(0,_)] Z<|G10 ?_;exact Ez6
end Go.Proofs.YtlfiplbamnpgoaaGreatDoor
namespace Go.Proofs.YtlfiplbamnpgoaaGreatDoor
open Go.Proofs.Tryz
open Go Go.FL Go.RowKit
variable(D:Nat)(L:Hl)(s:World)
section
variable(D:Nat)(L:Hl)(s:World)
def qk9:qil prog 193:=⟨_,func193,by kernel_rfl,by kernel_rfl⟩
def qjM:∀ args w,(callFunc 189 args).run prog w=.ok (.enter 189 args) w:=enters_of func189 V rfl
def qjB(l:List UInt8):AC prog D 186 [St l,.func (.func 189) #[] #[]] L s fun v L' _=>v=.bool (l.any qkR)∧L=L':=
  AC.of_calls qfm fun _=>by
    refine (Any.strings_ContainsFunc_grows laysGw17 189 #[] qjM qvm ⟨l.toArray⟩ (fill L s) (fun W x _ _=>?_)).mono ?_
    · exact qeY (args:=[.int .i32 (x:Int)]) fun D=>qm9 D [] W x
    · rintro e w' ⟨he,hb⟩
      exact Ez80
def ql8(A:Option Addr)(n c:Nat)(ws:List (List UInt8))(hS:Strs s A n c ws)(sep:List UInt8)(hlen:(Lib.join ws sep).length≤140737488355328)(hn:ws.length≤140737488355328):AC prog D 60 [.slice A n c,St sep] L s fun v L' _=>v=St (Lib.join ws sep)∧L=L':=by
  obtain rfl:=hS.1;by_cases h0:ws=[]
  · subst h0
    refine AC.of_calls qjU fun _=>(Any.strings_Join_none lays156 Tryz.Builder_Extra_156 A c ⟨sep.toArray⟩ (fill L s)).mono fun e w' ⟨he,hw⟩=>?_;exact ⟨_,he,by rw [hw];exact qc4 _,fun s' _ _ _=>⟨rfl,rfl⟩⟩
  · obtain ⟨x,r,rfl⟩:∃ x r,ws=x::r:=by cases ws with
      | nil=>exact absurd rfl h0
      | cons x r=>exact ⟨x,r,rfl⟩
    obtain ⟨b,off,cs,hA,hc,_,rfl,_⟩:=hS.2.2.2 0 x rfl;subst hA;have hmap:((x::r).map fun x=>(⟨x.toArray⟩:ByteArray)).map (·.data.toList)=x::r:=by
      rw [List.map_map];exact List.map_id'' (fun _=>rfl) _
    refine AC.of_calls qjU fun ho=>?_;have hbk:b < (fill L s).heap.size:=by rw [qaF];exact qcP (hc 0 (St x) rfl)
    have:=Any.strings_Join lays156 Tryz.Builder_Extra_156 b off c ((x::r).map fun x=>(⟨x.toArray⟩:ByteArray)) ⟨sep.toArray⟩ (fill L s) (qnr D s hS (qe2 ho) rfl) hbk (by rw [List.length_map];exact hn) (by rw [List.length_map];exact hS.2.1) (by rw [hmap];exact hlen);rw [List.length_map,hmap] at this;refine this.mono fun e w' ⟨he,hb⟩=>⟨_,he,hb,fun s' _ _ _=>⟨Z,Z⟩⟩
def qmX(hG:GP s)(l:List UInt8)(ws:List (List UInt8))(hf:Lib.fields l=ws)(ha:l.all (fun b=>decide (b.toNat < 128))=true)(hl:l.length≤4000000):AC prog D 190 [St l] L s fun v L' _=>∃ β,L'=(β,cb (sb ws) 9)::L∧v=.slice (some ⟨β,0,none⟩) ws.length ws.length:=
  ⟨qjV,fun ho=>by
    have hsz:(⟨l.toArray⟩:ByteArray).size=l.length:=by simp [Lib.size_eq]
    refine (Any.strings_Fields lays157 V V ⟨l.toArray⟩ (fill L s) O (fun j b hj=>?_) (qBT (hG.le (qe2 ho)))).mono ?_
    · have hm:b∈l:=List.mem_of_getElem? (by simpa using hj)
      exact of_decide_eq_true (List.all_eq_true.1 ha b hm)
    · rintro e w' ⟨he,hw⟩
      have hf:Lib.fields (⟨l.toArray⟩:ByteArray).data.toList=ws:=hf;obtain ⟨h1,h2,h3⟩:=qaD ho (cb (sb ws) 9);refine ⟨_,_,_,he,?_,h2,h3,s.heap.size,Z,?_⟩
      · rw [hw,hf,← h1];rfl
      · rw [hf,qaF]⟩
def qp1(l:List UInt8)(n:Nat)(h1:n≤9223372036854775807)(h2:l.length * n≤140737488355328):AC prog D 193 [St l,.int .i64 (n:Int)] L s fun v L' _=>v=St (Lib.repeatL l n)∧L=L':=
 AC.of_calls qk9 fun _=>by
  refine (Any.strings_Repeat lays105 Tryz.Builder_Extra_105 ⟨l.toArray⟩ n (fill L s) h1 (by simpa [Lib.size_eq] using h2)).mono ?_;rintro e w' ⟨he,hb⟩;exact ⟨_,he,hb,fun s' _ _ _=>⟨rfl,rfl⟩⟩
end
open Go.FL
attribute [local irreducible] JC JO JA JB qaJ qax qbN AC fill CellsAt QE Ev Mid
def qCJ{α:Type}{l:List α}{x:α}(h:l[0]?=some x):∃ r,l=x::r:=by
 cases l with
 | nil=>cases h
 | cons y r=>simp at h;subst h;exact ⟨r,rfl⟩
def qdY(l:List UInt8):Bool:=decide (l≠[]) && qa1 0 l
def qqH{l:List UInt8}{c:UInt8}(h:l[0]?=some c)(hc:¬ ((c.toNat:Int) < 97)∧¬ (122 < (c.toNat:Int))):qdY l=!l.any qkR:=by
 obtain ⟨r,rfl⟩:=qCJ h;have hl:qiH c=true:=by simp only [qiH,Bool.and_eq_true,decide_eq_true_eq];omega
 have hb:qkR c=false:=by simp [qkR,hl]
 simp only [qdY,qa1,qhT,hl,Bool.true_or,Bool.true_and,List.any_cons,hb,Bool.false_or,qjz (l:=r) (i:=0+1) O];simp
def quW{l:List UInt8}{c:UInt8}(h:l[0]?=some c)(hc:(c.toNat:Int) < 97∨122 < (c.toNat:Int)):qdY l=false:=by
 obtain ⟨r,rfl⟩:=qCJ h;have hl:qiH c=false:=by rw [Bool.eq_false_iff];simp only [qiH,ne_eq,Bool.and_eq_true,decide_eq_true_eq];omega
 simp [qdY,qa1,qhT,hl]
theorem qfS(l:List UInt8):qbr l=(qdY l && decide ((l.length:Int)≤12) && !kwB l):=by grind [qbr,qdY]
def kwT:Str:=[97,114,114,97,121,32,98,114,101,97,107,32,99,111,110,115,116,32,99,111,110,116,105,110,117,101,32,101,108,115,101,32,102,117,110,99,32,103,101,116,32,105,102,32,112,117,116,32,114,101,116,117,114,110,32,115,116,111,112,32,118,97,114,32,119,104,105,108,101]
def sgT:Str:=[33,32,45,32,126,32,42,32,47,32,37,32,60,60,32,62,62,32,38,32,43,32,45,32,124,32,94,32,61,61,32,33,61,32,60,32,60,61,32,62,32,62,61,32,38,38,32,124,124]
def qyf:Lib.fields kwT=kwords:=by decide +kernel
def qyV:Lib.fields sgT=signL.tail:=by decide +kernel
theorem qCS(l:Str):decide (0≤qaN (fun x=>decide (l=x)) kwords 0)=kwB l:=by grind [qjY,kwB]
def qjl{α β:Type}{R:α→β→Prop}(f:α→β)(l:List α)(h:∀ x∈l,R x (f x)):All2 R l (l.map f):=by
 induction l with
 | nil=>exact All2.nil
 | cons x l ih=>exact All2.cons (h x Mc) (ih fun y hy=>h y (List.mem_cons_of_mem _ hy))
def qp7(l:List Str):(l.map fun x=>[St x]).flatten=sb l:=by
 induction l with
 | nil=>rfl
 | cons x r ih=>show [St x]++(r.map fun x=>[St x]).flatten=St x::sb r;rw [ih];rfl
def qhZ(hG:GP s)(l:List UInt8)(ws:List Str)(hf:Lib.fields l=ws)(ha:l.all (fun b=>decide (b.toNat < 128))=true)(hl:l.length≤4000000)(hn:ws.length≤1000)(hx:∀ x∈ws,x.length≤1000):AC prog D 190 [St l] L s fun v L' s'=>L=L'∧∃ A n c,v=.slice A n c∧Strs s' A n c ws:=
 AC.pubW ((qmX D L s hG l ws hf ha hl).mono fun v L' s' _ ⟨β,h1,h2⟩=>⟨[_],h1,fun s2 h3 hp=>⟨_,_,_,h2,by
  exact Sl.lit (R:=fun _ x cs=>cs=[St x]∧x.length≤9223372036854775807) (ws.map fun x=>[St x]) (hp _ _ _ Mc) (qp7 ws) (qjl (fun x=>[St x]) ws fun x hx1=>⟨rfl,rfl,by have:=hx x hx1;omega⟩) _ rfl O⟩⟩)
def qhl(A:Option Addr)(n c:Nat)(l:List (List UInt8))(hA:Strs s A n c l)(w:List UInt8):AC prog D 115 [.slice A n c,St w] L s fun v L' _=>v=.int .i64 (qaN (fun x=>decide (w=x)) l 0)∧L=L':=by
 have hn:=hA.1;have hc1:=hA.2.1;have hc2:=hA.2.2.1;refine qad (fn:=f115) qao func115 V Z ntmps115 Z (rs:=[.tmp 4]) Z [(0,_),(1,_)] Z<|G14 ?_;refine qaH (γ:=Nat) (fun k=>[(0,_),(1,_),(4,_),(7,_),(8,.int .i64 (k:Int))]) (fun _=>_) (fun k tw=>Le D s tw∧(k≤n∧∀ i x,i < k→l[i]?=some x→decide (w=x)=false)) (fun k=>n - k) (fun _ _ _ h hl=>⟨h.1.trans hl,h.2⟩) 0 (.c5 Z Z Z Z Z (.nil _)) Z ⟨Le.refl _,⟨Nat.zero_le _,fun i x hi=>by omega⟩⟩ ?_;intro k s1 I1;have hI:=I1.2.2;refine J6 ?_ ?_<;>intro c2
 ·have hk:k < n:=by omega
  obtain ⟨b,off,x,rfl,hx,hcx,_⟩:=Strs.at_ (hA.le I1.1) hk;refine G15 ?_;refine qae (qaQ Z Z Z Z Z Z hk) Z<|qae (qak Z Z Z hcx Z) Z<|qio Z Z Z<|J2 ?_ ?_<;>intro c3;·have hz:=decide_eq_true c3;refine G12 ?_;refine rR [] L (.t1 Z) Z I1.1 fun _ hS2=>?_;refine ⟨?_,Z⟩;simp only [qbP];rw [qee hI hx hz,Nat.zero_add]
  have hz:=decide_eq_false c3;refine G4 ?_;refine qaV Z Z Z (w64 O O)<|G2 ?_;refine qaf ⟨(k+1),[],kp,Z,⟨I1.1,⟨by omega,qcw hI hx hz⟩⟩,O⟩
 refine G11 ?_;refine rR [] L (.t1 Z) Z I1.1 fun _ hS2=>?_;refine ⟨?_,Z⟩;simp only [qbP];rw [qfT (fun i a hi h=>hI i a O h)]
def qmp(A:Option Addr)(n c:Nat)(l:List (List UInt8))(hA:Strs s A n c l)(w:List UInt8):AC prog D 71 [.slice A n c,St w] L s fun v L' _=>v=.bool (decide (0≤qaN (fun x=>decide (w=x)) l 0))∧L=L':=by
 refine qad (fn:=f71) qao func71 V Z ntmps71 Z (rs:=[.tmp 4]) Z [(0,_),(1,_)] Z<|G9 ?_;refine Je Z Z Z (qhl D _ _ A n c l (hA.le (Lr D)) w) fun s1 h1=>qi6 Z Z Z<|G4 ?_;exact rX [] L Z h1 fun _ hS2=>Cz0
def qna(hG:GP s)(l:List UInt8):AC prog D 152 [St l] L s fun v L' _=>v=.bool (kwB l)∧L=L':=by
 refine qad (fn:=f152) qao func152 V Z ntmps152 Z (rs:=[.tmp 2]) Z [(0,_)] Z<|G7 ?_;refine Jc Z Z Z (qhZ D _ _ (hG.le (Lr D)) kwT kwords qyf (by decide +kernel) Dc Dc Dc) ?_;rintro _ _ s1 h1 ⟨rfl,Ak,nk,ck,rfl,hK⟩;refine Zqm Z Z<|Je Z Z Z (qmp D _ _ Ak nk ck kwords (hK.le (Lr D)) l) fun s2 h2=>G4 ?_;exact rX [] L Z (h1.t h2) fun _ hS2=>⟨by simp only [qbP,qCS],rfl⟩
def qAW{p:Prop} (h:p:=by
 refine rR [] L (.t1 Z) Z (Lr D) fun _ hS2=>?_;refine ⟨?_,Z⟩;rw [show qdY l=false from quW hch O];rfl):p:=h
def qpg(l:List UInt8):AC prog D 151 [St l] L s fun v L' _=>v=.bool (qdY l)∧L=L':=by
 refine qad (fn:=f151) qao func151 V Z ntmps151 Z (rs:=[.tmp 2]) Z [(0,_)] Z<|G9 ?_;refine qio Z Z Z<|Zqm Z Z<|?_;refine qap (t:=5) Z ?_ ?_<;>intro c1;·refine G19 ?_;refine rR [] L (.t1 Z) Z (Lr D) fun _ hS2=>?_;refine ⟨?_,Z⟩;simp [qbP,qdY, *];done
 refine G3 ?_;obtain ⟨ch,hch⟩:∃ ch,l[0]?=some ch:=⟨_,List.getElem?_eq_getElem (List.length_pos_iff.2 As)⟩;refine qae (qhB Z Z Z Z hch) Z<|G4 ?_;refine qap (t:=10) Z ?_ ?_<;>intro c2;·refine G14 ?_;exact qAW
 refine G3 ?_;refine qae (qhB Z Z Z Z hch) Z<|J5 ?_ ?_<;>intro c3;·refine G7 ?_;exact qAW
 refine G5 ?_;refine Je Z Z Z (qjB D _ _ _) fun s4 h4=>G5 ?_;refine rR [] L (.t1 Z) Z h4 fun _ hS2=>?_;refine ⟨?_,Z⟩;rw [qqH hch ⟨by omega,by omega⟩];rfl
def qfp(hG:GP s)(l:List UInt8):AC prog D 109 [St l] L s fun v L' _=>v=.bool (qbr l)∧L=L':=by
 refine qad (fn:=f109) qao func109 V Z ntmps109 Z (rs:=[.tmp 2]) Z [(0,_)] Z<|G8 ?_;refine Je Z Z Z (qpg D _ _ l) fun s1 h1=>Zqm Z Z ?_;refine qfK (t:=5) Z ?_ ?_<;>intro c2
 ·refine G3 ?_;refine qjg Z Z Z Z<|Zg Z Z<|qwQ Z Z Z<|G2 ?_;refine qap (t:=10) Z ?_ ?_<;>intro c3;·refine G3 ?_;refine Je Z Z Z (qna D _ _ (hG.le h1) l) fun s4 h4=>G7 ?_;refine rR [] L (.t1 Z) Z (h1.t h4) fun _ hS2=>?_;refine ⟨?_,Z⟩;rw [qfS];simp only [qbP];rw [show qdY l=true by assumption,show decide ((l.length:Int)≤12)=true from decide_eq_true O];rfl
  refine G8 ?_;refine rR [] L (.t1 Z) Z h1 fun _ hS2=>?_;refine ⟨?_,Z⟩;rw [qfS];simp only [qbP];rw [show qdY l=true by assumption,show decide ((l.length:Int)≤12)=false from decide_eq_false O];rfl
 refine G12 ?_;refine Zo ?_;refine rR [] L (.t1 Z) Z h1 fun _ hS2=>?_;refine ⟨?_,Z⟩;rw [qfS];simp only [qbP];rw [show qdY l=false by assumption];rfl
def qqa(hG:GP s)(o:Int)(ho:1≤o∧o≤21):AC prog D 222 [.int .i64 o] L s fun v L' _=>v=St (qp8 o)∧L=L':=by
 obtain ⟨j,rfl⟩:∃ j:Nat,o=(j:Int)+1:=⟨(o - 1).toNat,by omega⟩;refine qad (fn:=f222) qao func222 V Z ntmps222 Z (rs:=[.tmp 2]) Z [(0,_)] Z<|G7 ?_;refine Jc Z Z Z (qhZ D _ _ (hG.le (Lr D)) sgT signL.tail qyV (by decide +kernel) Dc Dc Dc) ?_;rintro _ _ s1 h1 ⟨rfl,Ak,nk,ck,rfl,hK⟩;have hnk:nk=21:=hK.1;obtain ⟨bk,ok,xk,rfl,hxk,hck,_⟩:=Strs.at_ hK (show j < nk by omega);refine Zqm Z Z<|qae (qbB (c:=((j:Nat):Int)) Z Z Q5) Z<|qae (qaQ Z Z Z Z Z Z (show j < nk by omega)) Z<|qae (qak Z Z Z (hck.le (Lr D)) Z) Z<|G4 ?_;refine rR [] L (.t1 Z) Z h1 fun _ hS2=>?_;refine ⟨?_,Z⟩;rw [qp8,show ((j:Int)+1).toNat=j+1 by omega,List.getD,show signL[j+1]?=signL.tail[j]? from rfl,hxk];rfl
def Cz32{p:Prop} (h:p:=by
 refine ⟨?_,Z⟩;simp only [qbP];unfold qja;repeat' split
 all_goals (first|rfl|(exfalso;omega))):p:=h
def qgj{p:Prop} (h:p:=by
 refine G8 ?_;exact rY Z fun _ hS2=>Cz32):p:=h
def qdV(o:Int):AC prog D 224 [.int .i64 o] L s fun v L' _=>v=.int .i64 (qja o)∧L=L':=by
 refine qad (fn:=f224) qao func224 V Z ntmps224 Z (rs:=[.tmp 2]) Z [(0,_)] Z<|J18 ?_ ?_<;>intro c1;·exact qgj
 refine J6 ?_ ?_<;>intro c2;·exact qgj
 refine J7 ?_ ?_<;>intro c3
 ·refine J2 ?_ ?_<;>intro c4;·exact qgj
  exfalso;omega
 refine J6 ?_ ?_<;>intro c4
 ·refine J2 ?_ ?_<;>intro c5;·exact qgj
  exfalso;omega
 refine J6 ?_ ?_<;>intro c5
 ·refine J2 ?_ ?_<;>intro c6;·exact qgj
  exfalso;omega
 refine J6 ?_ ?_<;>intro c6
 ·refine J2 ?_ ?_<;>intro c7;·exact qgj
  exfalso;omega
 refine J6 ?_ ?_<;>intro c7
 ·refine J2 ?_ ?_<;>intro c8;·exact qgj
  exfalso;omega
 refine J5 ?_ ?_<;>intro c8;·exact qgj
 refine J7 ?_ ?_<;>intro c9
 ·refine J2 ?_ ?_<;>intro c10;·exact qgj
  exfalso;omega
 refine J6 ?_ ?_<;>intro c10
 ·refine J2 ?_ ?_<;>intro c11;·exact qgj
  exfalso;omega
 refine J6 ?_ ?_<;>intro c11
 ·refine J2 ?_ ?_<;>intro c12;·exact qgj
  exfalso;omega
 refine J5 ?_ ?_<;>intro c12;·exact qgj
 refine G9 ?_;exact rY Z fun _ hS2=>Cz32
def qej(hG:GP s)(n:Int)(hu:U32 n):AC prog D 112 [.int .u32 n] L s fun v L' _=>v=St (qd9 n)∧L=L':=by
 have h2:=hu.2;obtain ⟨u,rfl⟩:=Int.eq_ofNat_of_zero_le hu.1;refine qad (fn:=f112) qao func112 V Z ntmps112 Z (rs:=[.tmp 2]) Z [(0,_)] Z<|G8 ?_;refine qae (qbe Z Z Z Z Z (qF4 O O)) Z<|Jc Z Z Z (qoZ D _ _ (hG.gw.le (Lr D)) u O) ?_;exact qA3
end Go.Proofs.YtlfiplbamnpgoaaGreatDoor
namespace Go.Proofs.YtlfiplbamnpgoaaGreatDoor
open Go Go.FL
variable{n k:Int}{nm:Str}
mutual
def exN:Ex→Nat
 | .mk _ _ _ _ az=>1+qcs az
def qcs:List Ex→Nat
 | []=>0
 | x::r=>exN x+qcs r
end
mutual
def exV:Ex→Bool
 | .mk k o n nm az=>decide (exC k o n nm az.length=0) && qeG az
def qeG:List Ex→Bool
 | []=>true
 | x::r=>exV x && qeG r
end
mutual
def exU:Ex→Bool
 | .mk _ _ n _ az=>decide (0≤n∧n < 4294967296) && qfQ az
def qfQ:List Ex→Bool
 | []=>true
 | x::r=>exU x && qfQ r
end
mutual
def stN:Stm→Nat
 | .mk _ _ es b e=>1+qcs es+qbG b+qbG e
def qbG:List Stm→Nat
 | []=>0
 | x::r=>stN x+qbG r
end
mutual
def stV:Stm→Nat→Bool
 | .mk k nm es b e,lv=>decide (lv≤16) && decide (stC k nm es.length b.length e.length=0) && qeG es && qdU b (lv+1) && qdU e (lv+1)
def qdU:List Stm→Nat→Bool
 | [],_=>true
 | x::r,lv=>stV x lv && qdU r lv
end
mutual
def stU:Stm→Bool
 | .mk _ _ es b e=>qfQ es && qfF b && qfF e
def qfF:List Stm→Bool
 | []=>true
 | x::r=>stU x && qfF r
end
mutual
def qDV:∀ (x:Ex) (lv c:Nat),(wkX x lv c).2=0→exV x=true∧(wkX x lv c).1=c+exN x∧c+exN x≤2000
 | .mk k o n nm az,lv,c,h=>by
  simp only [wkX] at h ⊢;split at h
  · cases h
  rename_i h1;split at h
  · rename_i h2;exact absurd h h2
  rename_i h2;rw [if_neg h1,if_neg h2];obtain ⟨k1,k2,k3⟩:=qhx az (lv+1) (c+1) h;refine ⟨by simp only [exV,k1,Bool.and_true,decide_eq_true_eq];simpa using h2,by rw [k2,exN];omega,by rw [exN];rcases k3 with k3|k3<;>omega⟩
def qhx:∀ (l:List Ex) (lv c:Nat),(qd5 l lv c).2=0→qeG l=true∧(qd5 l lv c).1=c+qcs l∧(qcs l=0∨c+qcs l≤2000)
 | [],_,c,_=>⟨rfl,rfl,.inl rfl⟩
 | x::r,lv,c,h=>by
  simp only [qd5] at h ⊢;split at h
  · rename_i h1;exact absurd h h1
  rename_i h1;rw [if_neg h1];obtain ⟨a1,a2,a3⟩:=qDV x lv c Q6;obtain ⟨b1,b2,b3⟩:=qhx r lv _ h;refine ⟨by simp only [qeG,a1,b1,Bool.and_true],by rw [b2,a2,qcs];omega,.inr ?_⟩;rw [a2] at b3;rw [qcs];rcases b3 with b3|b3<;>omega
end
mutual
def qDU:∀ (x:Stm) (lv c:Nat),(wkS x lv c).2=0→stV x lv=true∧(wkS x lv c).1=c+stN x∧c+stN x≤2000
  | .mk k nm es b e,lv,c,h=>by
    simp only [wkS] at h ⊢;split at h
    · cases h
    rename_i h1;split at h
    · rename_i h2;exact absurd h h2
    rename_i h2;split at h
    · rename_i h3;exact absurd h h3
    rename_i h3;split at h
    · rename_i h4;exact absurd h h4
    rename_i h4;rw [if_neg h1,if_neg h2,if_neg h3,if_neg h4];obtain ⟨a1,a2,a3⟩:=qhx es 1 (c+1) (by simpa using h3);obtain ⟨b1,b2,b3⟩:=qeq b (lv+1) _ (by simpa using h4);obtain ⟨e1,e2,e3⟩:=qeq e (lv+1) _ h;rw [b2,a2] at e3 e2;rw [a2] at b3;refine ⟨?_,by rw [b2,a2,e2,stN];omega,?_⟩
    · simp only [stV,a1,b1,e1,Bool.and_true,Bool.and_eq_true,decide_eq_true_eq]
      exact ⟨by omega,by simpa using h2⟩
    · rw [stN]
      rcases a3 with a3|a3<;>rcases b3 with b3|b3<;>rcases e3 with e3|e3<;>omega
def qeq:∀ (l:List Stm) (lv c:Nat),(qdL l lv c).2=0→qdU l lv=true∧(qdL l lv c).1=c+qbG l∧(qbG l=0∨c+qbG l≤2000)
 | [],_,c,_=>⟨rfl,rfl,.inl rfl⟩
 | x::r,lv,c,h=>by
  simp only [qdL] at h ⊢;split at h
  · rename_i h1;exact absurd h h1
  rename_i h1;rw [if_neg h1];obtain ⟨a1,a2,a3⟩:=qDU x lv c Q6;obtain ⟨b1,b2,b3⟩:=qeq r lv _ h;refine ⟨by simp only [qdU,a1,b1,Bool.and_true],by rw [b2,a2,qbG];omega,.inr ?_⟩;rw [a2] at b3;rw [qbG];rcases b3 with b3|b3<;>omega
end
def qky(l:List Str):Nat:=(l.map fun w=>w.length+2).sum
def qcp(w:Str)(l:List Str):qky (w::l)=w.length+2+qky l:=by simp [qky]
def qb6:∀ l:List Str,(qbJ l).length≤qky l
 | []=>Nat.zero_le _
 | [x]=>by simp [qbJ,qky]
 | x::y::r=>by
  have:=qb6 (y::r);rw [qbJ,qcp];simp only [List.length_append,List.length_cons] at this ⊢;omega
def qr4(l:List Str):(l.getD 0 []).length≤qky l:=by
 cases l with
 | nil=>exact Nat.zero_le _
 | cons x r=>rw [qcp];simp only [List.getD_cons_zero];omega
def qjW(l:List Str):(l.getD 0 []).length+(l.getD 1 []).length≤qky l:=by
 match l with
 | []=>exact Nat.zero_le _
 | [x]=>simp [qky]
 | x::y::r=>rw [qcp,qcp];simp only [List.getD_cons_zero,List.getD_cons_succ];omega
def qyW(o:Int):(qp8 o).length≤2:=by
 unfold qp8;have h:∀ x∈signL,x.length≤2:=by decide
 by_cases hk:o.toNat < signL.length
 · rw [List.getD,List.getElem?_eq_getElem hk];exact h _ (List.getElem_mem hk)
 · rw [List.getD,List.getElem?_eq_none O];exact Nat.zero_le _
def qc1(h:0≤n∧n < 4294967296):(qd9 n).length≤10:=(qxH (u:=n.toNat) O).2
def qcl{l:Str}(h:qbr l=true):l.length≤12:=by
 unfold qbr at h;simp only [Bool.and_eq_true,decide_eq_true_eq] at h;have:=h.1.1.2;omega
def qrN{o:Int}{na:Nat}(h:exC k o n nm na=0):nm.length≤12:=by
 unfold exC at h;split at h
 · cases h
 split at h
 · cases h
 rename_i h2;split at h
 · cases h
 rename_i h3;cases hn:qpz k with
 | true=>
  cases hi:qbr nm with
  | true=>exact qcl hi
  | false=>exact absurd ⟨hn,hi⟩ h2
 | false=>
  by_cases he:nm=[]
  · rw [he];exact Nat.zero_le _
  · exact absurd (.inl ⟨hn,he⟩) h3
def qxP{o:Int}{az:List Str}{out:Int}(hn:0≤n∧n < 4294967296)(hm:nm.length≤12):(exW k o n nm az out).length≤20+qky az:=by
 have h0:=qc1 hn;have h1:=qb6 az;have h3:=qjW az;have h4:=qyW o;unfold exW;repeat' split
 all_goals ((try simp only [List.length_append,List.length_cons,List.length_nil]);omega)
mutual
def qk2:∀ (x:Ex) (out:Int),exV x=true→exU x=true→(exT x out).length+2≤40 * exN x
 | .mk k o n nm az,out,hv,hu=>by
  simp only [exV,Bool.and_eq_true,decide_eq_true_eq] at hv;simp only [exU,Bool.and_eq_true,decide_eq_true_eq] at hu;have h1:=qfk az (qgc k o) hv.2 hu.2;have h2:=qxP (k:=k) (o:=o) (az:=qgk az (qgc k o)) (out:=out) hu.1 (qrN hv.1);simp only [exT,exN];omega
def qfk:∀ (l:List Ex) (os:List Int),qeG l=true→qfQ l=true→qky (qgk l os)≤40 * qcs l
 | [],_,_,_=>Nat.zero_le _
 | x::r,os,hv,hu=>by
  simp only [qeG,Bool.and_eq_true] at hv;simp only [qfQ,Bool.and_eq_true] at hu;have h1:=qk2 x (os.headD 0) hv.1 hu.1;have h2:=qfk r os.tail hv.2 hu.2;simp only [qgk,qcp,qcs];omega
end
def qcA(n:Nat):(qa4 n).length=2 * n:=by
 induction n with
 | zero=>rfl
 | succ n ih=>simp only [qa4,List.length_append,List.length_cons,List.length_nil,ih];omega
def qs9{a b c:Nat}(h:stC k nm a b c=0):nm.length≤12:=by
 unfold stC at h;split at h
 · cases h
 split at h
 · cases h
 rename_i h2;split at h
 · cases h
 rename_i h3;cases hn:qeR k with
 | true=>
  cases hi:qbr nm with
  | true=>exact qcl hi
  | false=>exact absurd ⟨hn,hi⟩ h2
 | false=>
  by_cases he:nm=[]
  · rw [he];exact Nat.zero_le _
  · exact absurd (.inl ⟨hn,he⟩) h3
def qta{es:List Str}(hm:nm.length≤12):(qmv k nm es).length≤30+qky es:=by
 have h1:=qb6 es;have h3:=qjW es;unfold qmv;repeat' split
 all_goals ((try simp only [List.length_append,List.length_cons,List.length_nil]);omega)
mutual
def qiX:∀ (x:Stm) (lv m:Nat),lv≤m→stV x m=true→stV x lv=true
 | .mk k nm es b e,lv,m,hl,hv=>by
  simp only [stV,Bool.and_eq_true,decide_eq_true_eq] at hv ⊢;exact ⟨⟨⟨⟨by omega,hv.1.1.1.2⟩,hv.1.1.2⟩,qhq b (lv+1) (m+1) O hv.1.2⟩,qhq e (lv+1) (m+1) O hv.2⟩
def qhq:∀ (l:List Stm) (lv m:Nat),lv≤m→qdU l m=true→qdU l lv=true
 | [],_,_,_,_=>rfl
 | x::r,lv,m,hl,hv=>by
  simp only [qdU,Bool.and_eq_true] at hv ⊢;exact ⟨qiX x lv m hl hv.1,qhq r lv m hl hv.2⟩
end
mutual
def qql:∀ (x:Stm) (lv:Nat),stV x lv=true→stU x=true→(stT x lv).length+34≤200 * stN x
 | .mk k nm es b e,lv,hv,hu=>by
  simp only [stV,Bool.and_eq_true,decide_eq_true_eq] at hv;simp only [stU,Bool.and_eq_true] at hu;have h1:=qfk es [] hv.1.1.2 hu.1.1;have h2:=qfE b (lv+1) hv.1.2 hu.1.2;have h3:=qfE e (lv+1) hv.2 hu.2;have h4:=qr4 (qgk es []);have h5:=qcA lv;have h6:=qta (k:=k) (es:=qgk es []) (qs9 hv.1.1.1.2);have h7:=hv.1.1.1.1;have h8:=qy5 e lv hu.2 hv.2;simp only [stT,stN];repeat' split
  all_goals ((try simp only [List.length_append,List.length_cons,List.length_nil]);omega)
def qfE:∀ (l:List Stm) (lv:Nat),qdU l lv=true→qfF l=true→(qhK l lv).length≤200 * qbG l
 | [],_,_,_=>Nat.zero_le _
 | x::r,lv,hv,hu=>by
  simp only [qdU,Bool.and_eq_true] at hv;simp only [qfF,Bool.and_eq_true] at hu;have h1:=qql x lv hv.1 hu.1;have h2:=qfE r lv hv.2 hu.2;have h3:=qcA lv;have h4:lv≤16:=by
   have:=hv.1;cases x with
   | mk k nm es b e=>simp only [stV,Bool.and_eq_true,decide_eq_true_eq] at this;exact this.1.1.1.1
  simp only [qhK,List.length_append,qbG];omega
def qy5:∀ (l:List Stm) (lv:Nat),qfF l=true→qdU l (lv+1)=true→(st1 l lv).length≤200 * qbG l
 | [],_,_,_=>Nat.zero_le _
 | x::r,lv,hu,hv=>by
  simp only [qdU,Bool.and_eq_true] at hv;simp only [qfF,Bool.and_eq_true] at hu;have h1:=qql x lv (qiX x lv (lv+1) O hv.1) hu.1;simp only [st1,qbG];omega
end
end Go.Proofs.YtlfiplbamnpgoaaGreatDoor
