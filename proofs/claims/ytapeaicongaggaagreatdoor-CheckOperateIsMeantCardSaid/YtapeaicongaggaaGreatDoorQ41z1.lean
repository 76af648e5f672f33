/- Part 1. -/
import Derived.Shelf.Strings.OnBuilder
import Derived.Shelf.Small.Wraps
import Derived.Shelf.Utf8.RuneCount
import Derived.Shelf.Strconv.Itoa3
import Derived.Shelf.Strconv.ToError
import Derived.Shelf.Strconv.ParseUint10Any
import Derived.Shelf.Strconv.ToErrorRange
import Derived.Shelf.Strconv.ParseUint10At
import Derived.Shelf.Pu.ErrVarParseUint
import Derived.Shelf.Strings.Shaped
import Derived.Shelf.Sort.Plain
import Derived.Shelf.GgClosure.StringsRunes
import Derived.Shelf.Strings.SplitShaped
import Derived.Shelf.Strings.Explode
import Derived.Shelf.Strings.Repeat
import Derived.Shelf.Strings.FieldsAny
import Derived.Shelf.Unicode.ExclAny
import Derived.Shelf.Strings.FieldsFuncGrows
import Derived.Shelf.Strings.BuilderCap
import Derived.Shelf.Slices.Turned
import Derived.Shelf.Slices.CompactI
import Derived.Shelf.Slices.In.SortNone
import Derived.Test.YtapeaicongaggaaGreatDoorProg
import Derived.OrdersHeld
set_option linter.unusedVariables false
set_option linter.defProp false
set_option linter.unusedSimpArgs false
set_option linter.unnecessarySimpa false
set_option maxRecDepth 100000
set_option maxHeartbeats 8000000
namespace Go.Proofs.YtapeaicongaggaaGreatDoor
open Go Go.RowKit Go.Proofs.Tryz
def ac:=@List.length_append
def al:=@List.getElem?_eq_some_iff
def am:=@if_neg
def ao:=@List.cons_append
def ap:=@List.length_nil
def aq:=@List.mem_cons_of_mem
def au:=@List.length_cons
def aw:=@if_pos
def ay:=@List.mem_of_getElem?
def aA:=@Bool.and_eq_true
def aB:=@Nat.zero_le
def aC:=@Nat.le_refl
def aF:=@decide_eq_true_eq
def aH:=@Int.toNat_natCast
def aI:=@List.take_of_length_le
def aJ:=@List.mem_append_right
def aN:=@List.mem_append_left
def aP:=@Result.andThen_ok
def aQ:=@run_underlying
def aR:=@List.getElem?_append_left
def aS:=@List.map_cons
def aW:=@List.mem_cons
def aY:=@List.getElem?_append_right
def aZ:=@Nat.zero_add
def bh:=@List.mem_map
def bj:=@congrArg
def bt:=@List.flatten_cons
def bA:=@Sem.run_bind
def bB:=@Nat.add_zero
def bE:=@Nat.le_of_ble_eq_true
def bG:=@Sem.run_pure
def bH:=@List.getElem?_cons_succ
def bI:=@List.length_map
def bL:=@List.nodup_append
def bM:=@List.take_succ_eq_append_getElem
def bR:=@List.map_append
def bS:=@if_true
def bU:=@Array.getElem?_eq_none
def bV:=@List.all_eq_true
def bW:=@Array.getElem?_setIfInBounds_ne
def cm:=@if_false
def cU:=@of_decide_eq_true
def cV:=@List.mem_cons_self
def cY:=@List.length_take
def cZ:=@List.nil_sublist
def da:=@Option.some.injEq
def db:=@List.getElem?_map
def dq:=@List.getElem?_cons_zero
def dr:=@Bool.false_eq_true
def dv:=@List.nodup_cons
def dx:=@of_decide_eq_false
def dF:=@Bool.eq_iff_iff
def dK:=@Nat.lt_of_lt_of_le
def dM:=@Int.natCast_nonneg
def dT:=@Nat.le_trans
def dV:=@Nat.add_assoc
def eb:=@List.all_cons
def ep:=@Bool.false_or
def ez:=@Nat.eq_of_beq_eq_true
def eA:=@List.getElem?_toArray
def eC:=@List.size_toArray
def eF:=@List.Perm.refl
def eG:=@Nat.mul_one
def eM:=@Nat.lt_or_ge
def eN:=@Nat.mod_eq_of_lt
def eS:=@Array.mapM_eq_mapM_toList
def eT:=@List.replicate_succ
def eU:=@wp_mono
def eV:=@Option.map_some
def eW:=@Array.ext_getElem?
def eX:=@Nat.add_right_comm
def fa:=@List.eraseIdx_cons_succ
def fb:=@ByteArray.getElem_eq_getElem_data
def fe:=@Nat.lt_trichotomy
def fu:=@ByteArray.ext
def fJ:=@Option.map_none
def fO:=@ne_eq
def fY:=@heap_alloc_new
def fZ:=@List.mapM_cons
def gr:=@List.Sublist.refl
def gF:=@List.length_drop
def gG:=@not_true
def gH:=@map_eq_pure_bind
def gO:=@Nat.succ_mul
def gW:=@List.foldl_cons
def ib:=@Array.getElem?_append
def ij:=@World.cell?_of_block
def il:=@not_or
def iy:=@decide_false
def iC:=@Nat.mul_pos
def iF:=@wp_seq
abbrev iJ(x:Int):Value:=.int .i64 x
abbrev iO(x:Int):Value:=.int .u32 x
abbrev jc(b:Nat):Value:=.pointer (some ⟨b,0,none⟩)
abbrev OAdr9:=Option Addr
abbrev j6(b:Nat):OAdr9:=some ⟨b,0,none⟩
section
variable{α α0 α1 α2 α3 α4 α5:Type _}{p A B:Prop}{s c w w':World}{a:Addr}{b k:Nat}{u:Value}
def iU{a:α}{x y:List α}:a::x++y=a::(x++y):=rfl
def iV{x:List α}:[]++x=x:=rfl
def _root_.Go.V(h:p:=by kernel_rfl):p:=h
def _root_.Go.X1(a:A)(h:A->B:=by intro h;refine iM 10 V<|Wu Z Tt 0 [_,_,_,_,_] Y9 (sM (pG))<|H1 ?_;refine iM 12 V<|Wu Z Tt 0 [_,_,_,_,_] Y9 (sM (pG))<|H1 ?_;refine iM 14 V<|Wu Z Tt 0 [_,_,_,_,_] Y9 (sM (pG))<|jq V ?_;exact h):B:=h a
def _root_.Go.X2(a:A)(h:A->B:=by intro h;refine iM 10 V<|Wu Z Tt 0 [_,_,_,_] Y9 (sM (pG))<|H1 ?_;refine iM 12 V<|Wu Z Tt 0 [_,_,_,_] Y9 (sM (pG))<|H1 ?_;refine iM 14 V<|Wu Z Tt 0 [_,_,_,_] Y9 (sM (pG))<|jq V ?_;exact h):B:=h a
def _root_.Go.X3(a:A)(h:A->B:=by intro h;refine iM 6 V<|ye Z Tt 2 (_::_::_::_::_::_::_::_::_::_::_::_) Y5 Z Z Z Z (sM (kP (jT)))<|H3 ?_;refine iM 10 V ?_;refine ye Z Tt 2 (_::_::_::_::_::_::_::_::_::_::_::_) Y5 Z Z Z Z (sM (kP (jT)))<|jq V<|Zb ?_;exact h):B:=h a
def _root_.Go.X4(a:A)(h:A->B:=by intro h;refine j5 Z Tt (Wd 0 Y5) Z ?_;exact h):B:=h a
def _root_.Go.X5(a:A)(h:A->B:=by intro h;refine iM 2 V<|Wu Z Tt 1 [_,_] Y9 (sM (kX (jT)))<|jq V<|G3 ?_;exact h):B:=h a
def _root_.Go.X6(a:A)(h:A->B:=by intro h;refine kF [(_,_),(_,_),(_,_),(_,_),(_,_),(_,_),(_,_),(_,_)] [_,_,_,_,_,_,_,_] Y9 ?_;exact h):B:=h a
def _root_.Go.X7(a:A)(h:A->B:=by intro h;refine H2 ?_;refine iM 12 V<|Wu Z Tt 2 [_,_,_,_,_,_] Y9 (sM (kX (pG)))<|jq V<|G3 ?_;exact h):B:=h a
def _root_.Go.X8(a:A)(h:A->B:=by intro h;refine iM 6 V<|Wu Z Tt 1 [_,_] Y9 (sM (lq (kP (pG))))<|iM 7 V<|Wu Z Tt 0 [_,_,_] Y9 (sM (lq (kP (pG))))<|jq V ?_;exact h):B:=h a
def _root_.Go.X9(a:A)(h:A->B:=by intro h;refine iM 6 V<|Wu Z Tt 0 [_,_] Y9 (sM (lq (kP (pG))))<|iM 7 V<|Wu Z Tt 1 [_,_,_] Y9 (sM (lq (kP (pG))))<|jq V ?_;exact h):B:=h a
def _root_.Go.X10(a:A)(h:A->B:=by intro h;refine G5 ?_;refine xy 2 (_::_::_::_::_::_::_::_::_::_::_::_) Y5 Z Z Z Z<|G3 ?_;exact h):B:=h a
def _root_.Go.X11(a:A)(h:A->B:=by intro h;refine iM 10 V<|Wu Z Tt 1 [_] Y9 (sM (lq (vG (jT))))<|iM 11 V<|Wu Z Tt 0 [_] Y9 (sM (lq (vG (jT))))<|jq V ?_;exact h):B:=h a
def _root_.Go.X12(a:A)(h:A->B:=by intro h;refine iM 10 V<|Wu Z Tt 0 [_] Y9 (sM (lq (vG (jT))))<|iM 11 V<|Wu Z Tt 1 [_] Y9 (sM (lq (vG (jT))))<|jq V ?_;exact h):B:=h a
def _root_.Go.X13(a:A)(h:A->B:=by intro h;refine iM 7 V<|j5 Z Tt (Wd 0 Y5) Z<|H1 ?_;exact h):B:=h a
def _root_.Go.X14(a:A)(h:A->B:=by intro h;refine iI (jD (v':=.bool false) (qM Z Z) (bF Z)) Z<|lF ?_;exact h):B:=h a
def _root_.Go.X15(a:A)(h:A->B:=by intro h;refine Ys<|Yr<|wS Z Z<|Yn<|Yt<|Yo<|Yc<|Yu<|Yu<|Yc<|Yu<|?_;exact h):B:=h a
def _root_.Go.X16(a:A)(h:A->B:=by intro h;refine Sr<|iI (jh 2 [_,_,_,_,_,_] Y5) Z<|G2 ?_;exact h):B:=h a
def _root_.Go.X17(a:A)(h:A->B:=by intro h;refine iM 10 V<|Wu Z Tt 2 [_] Y9 (sM (nK (kP (kX (jT)))))<|iM 11 V<|Wu Z Tt 1 [_] Y9 (sM (nK (kP (kX (jT)))))<|jq V ?_;exact h):B:=h a
def _root_.Go.X18(a:A)(h:A->B:=by intro h;refine iM 10 V<|Wu Z Tt 1 [_] Y9 (sM (nK (kP (kX (jT)))))<|iM 11 V<|Wu Z Tt 2 [_] Y9 (sM (nK (kP (kX (jT)))))<|jq V ?_;exact h):B:=h a
def _root_.Go.X19(a:A)(h:A->B:=by intro h;refine iM 10 V<|Wu Z Tt 3 [_] Y9 (sM (nK (kP (kX (jT)))))<|iM 11 V<|Wu Z Tt 1 [_] Y9 (sM (nK (kP (kX (jT)))))<|jq V ?_;exact h):B:=h a
def _root_.Go.X20(a:A)(h:A->B:=by intro h;refine iM 10 V<|Wu Z Tt 3 [_] Y9 (sM (nK (kP (kX (jT)))))<|iM 11 V<|Wu Z Tt 2 [_] Y9 (sM (nK (kP (kX (jT)))))<|jq V ?_;exact h):B:=h a
def _root_.Go.X21(a:A)(h:A->B:=by intro h;refine iM 10 V<|Wu Z Tt 1 [_] Y9 (sM (nK (kP (kX (jT)))))<|iM 11 V<|Wu Z Tt 3 [_] Y9 (sM (nK (kP (kX (jT)))))<|jq V ?_;exact h):B:=h a
def _root_.Go.X22(a:A)(h:A->B:=by intro h;refine iM 10 V<|Wu Z Tt 2 [_] Y9 (sM (nK (kP (kX (jT)))))<|iM 11 V<|Wu Z Tt 3 [_] Y9 (sM (nK (kP (kX (jT)))))<|jq V ?_;exact h):B:=h a
def _root_.Go.X23(a:A)(h:A->B:=by intro h;refine Yf Z Z Z Z<|Yf Z Z Z Z<|Yf Z Z Z Z<|Yf Z Z Z Z<|Yf Z Z Z Z<|Yf Z Z Z Z<|Yf Z Z Z Z<|Yf Z Z Z Z<|U9 Z Z Z<|Yn<|Yt<|Yy Z<|?_;exact h):B:=h a
def _root_.Go.X24(a:A)(h:A->B:=by intro h;refine H1 ?_;refine za 1 Z (jh 0 [_,_] Y5) Z<|za 2 Z (jC [] [_,_] Y3 Z Z Z) Z<|za 3 Z (J0 Z Z (rq)) Z<|H2 ?_;exact h):B:=h a
def _root_.Go.X25(a:A)(h:A->B:=by intro h;refine iI (jC [] [_,_] Y3 Z Z Z) Z<|me Y2<|Wt 1 [_,_] Y9<|G3 ?_;exact h):B:=h a
def _root_.Go.X26(a:A)(h:A->B:=by intro h;refine G4 ?_;refine Wt 0 [_,_,_,_,_] Y9<|At Z Z<|Sr<|iI (jh 0 [_,_,_,_,_] Y5) Z<|jY Y2<|Wt 1 [_,_,_,_,_] Y9<|G4 ?_;exact h):B:=h a
def _root_.Go.X27(a:A)(h:A->B:=by intro h;refine j5 Z Tt (Wd 0 Y5) Z<|H1 ?_;exact h):B:=h a
def _root_.Go.X28(a:A)(h:A->B:=by intro h;refine j5 Z Tt (Wd 1 Y5) Z<|iM 10 V<|j5 Z Tt (Wd 1 Y5) Z<|H1 ?_;exact h):B:=h a
def _root_.Go.X29(a:A)(h:A->B:=by intro h;refine iI (jW Y3 (o9.le (Lr D)) Z) Z<|iI (ly Y6 mV) Z<|iI (jW Y3 (hcE.le (Lr D)) Z) Z<|jY Y2 ?_;exact h):B:=h a
def _root_.Go.X30(a:A)(h:A->B:=by intro h;refine Zk<|Zt<|Sr<|iI (jh 0 [_,_] Y5) Z<|iI (jC [] [_,_] Y3 Z Z Z) Z<|Wt 3 [_,_] Y9<|Wt 2 [_,_] Y9<|G3 ?_;exact h):B:=h a
def _root_.Go.X31(a:A)(h:A->B:=by intro h;refine j5 Z Tt (Wd 0 Y5) Z<|iM 4 V<|j5 Z Tt (Wd 0 Y5) Z<|H1 ?_;exact h):B:=h a
def _root_.Go.X32(a:A)(h:A->B:=by intro h;refine Wt 0 [_,_,_,_,_,_,_,_,_,_,_,_] Y9<|G8 ?_;exact h):B:=h a
def _root_.Go.X33(a:A)(h:A->B:=by intro h;refine G5 ?_;refine Jc Y3 (AC.mid [_,_] [_] _ (RH D nQ oh rh)) ?_;exact h):B:=h a
def _root_.Go.X34(a:A)(h:A->B:=by intro h;refine iI (jD (v':=.bool false) (qM Z Z) (bF Z)) Z<|mn ?_;exact h):B:=h a
def _root_.Go.X35(a:A)(h:A->B:=by intro h;refine iI (jD (v':=.bool false) (qM Z Z) (bF Z)) Z<|k8 ?_;exact h):B:=h a
def _root_.Go.X36(a:A)(h:A->B:=by intro h;refine iI (jD (v':=.bool false) (NC Z Z) (bF Z)) Z<|k8 ?_;exact h):B:=h a
def _root_.Go.X37(a:A)(h:A->B:=by intro h;refine Sr<|iI (qw Z) Z<|G6 ?_;exact h):B:=h a
def _root_.Go.X38(a:A)(h:A->B:=by intro h;refine iI (jh 0 [_,_] Y5) Z<|G5 ?_;exact h):B:=h a
def _root_.Go.X39(a:A)(h:A->B:=by intro h;refine za 3 Z (jR Y6 hk) Z<|H1 ?_;exact h):B:=h a
def _root_.Go.X40(a:A)(h:A->B:=by intro h;refine za 2 Z (jD (v':=.bool true) (pW Z Z) (bT g4)) Z<|H5 ?_;refine zg 8 Z ⟨_,Z,Z⟩ (Wd 4 Y5) Z<|H2 ?_;exact h):B:=h a
def _root_.Go.Q1(h:p:=by first|omega|(simp only [kZ,lz,ac,ap];omega)):p:=h
def _root_.Go.Q2(h:p:=by simp [ti4];omega):p:=h
def _root_.Go.Q3(h:p:=by intro x hx;exact qax hx):p:=h
def _root_.Go.Q4(h:p:=by simpa using h):p:=h
def _root_.Go.Q5(h:p:=by rw [jB O O];omega):p:=h
theorem _root_.Go.Q6(h:p:=by first|rfl|grind|(rw [dF];simp;omega)):p:=h
def _root_.Go.Q7(h:p:=by simpa using h1):p:=h
def _root_.Go.Q8(h:p:=by simp;omega):p:=h
def _root_.Go.Q9(h:p:=by rw [jB O O];simp):p:=h
def _root_.Go.Q10(h:p:=by simp only [au,ap];omega):p:=h
def _root_.Go.Q11(h:p:=by simpa using h2):p:=h
def _root_.Go.Q12(h:p:=by simpa using hb):p:=h
def _root_.Go.Q13(h:p:=by simp [pw];omega):p:=h
def _root_.Go.Q14(h:p:=by (try simp only [ac,au,ap,oH]);omega):p:=h
def _root_.Go.Q15(h:p:=by have:=A.hi;omega):p:=h
def _root_.Go.Q16(h:p:=by first|rfl|(simp only [ac,au,ap];refine bj some (bj (Value.int .i64) ?_);omega)):p:=h
def _root_.Go.Q17(h:p:=by simp only [jb.kind];omega):p:=h
def _root_.Go.Q18(h:p:=by rw [pS];rfl):p:=h
def _root_.Go.Q19(h:p:=by simpa using hj):p:=h
def _root_.Go.Q20(h:p:=by simpa using hc):p:=h
def _root_.Go.Q21(h:p:=by rw [hc];omega):p:=h
def _root_.Go.Q22(h:p:=by first|exact ⟨Rp (qks wx o2 (NQ Bd)) o3 (NQ Bd),XM ew1 xe hhas,rfl,qkU ew1 xe hhas uo,rfl⟩|exact ⟨Rp wx o3 (NQ Bd),XM ew1 xe hhas,rfl,qf0 uo,rfl⟩|exact ⟨wx,qqv ew1 xe hhas,rfl,qfZ hhas,rfl⟩):p:=h
def _root_.Go.Q23(h:p:=by simp only [ac];omega):p:=h
def _root_.Go.Q24(h:p:=by rw [qkL hU h];exact ⟨rfl,rfl⟩):p:=h
def _root_.Go.Q25(h:p:=by first|exact ⟨qpR (ck:=rP) hg0 o1 (NQ O) hrep,Z,Z,(am tm).symm,λ_=>hrep⟩|exact ⟨hg0,Z,Z,(aw tm).symm,λh=>absurd tm h⟩):p:=h
def _root_.Go.Q26(h:p:=by rintro _ _ _ _ ⟨rfl,rfl⟩;exact ⟨rfl,rfl⟩):p:=h
def _root_.Go.Q27(h:p:=by rw [ac,bI,cY,gF];omega):p:=h
def _root_.Go.Q28(h:p:=by rw [aR (al.1 hj).1];exact hj):p:=h
def _root_.Go.Q29(h:p:=by first|exact aq _ (ay hw2)|exact ay hw2):p:=h
def _root_.Go.Q30(h:p:=by first|exact ⟨Rp hg0 o1 hyc,by simp [oU],rfl,rfl,rfl⟩|exact ⟨hg0,by simp [oU],rfl,rfl,rfl⟩):p:=h
def _root_.Go.Q31(h:p:=by first|exact λh=>absurd h.1 (by rw [show (rr t.U xo).isSome=true by assumption];decide)|exact ⟨λh=>h.2,λh=>⟨by assumption,h⟩⟩):p:=h
def _root_.Go.Q32(h:p:=by first|exact λh=>absurd h.1 As|exact ⟨λh=>h.2,λh=>⟨by assumption,h⟩⟩):p:=h
def _root_.Go.Q33(h:p:=by simp only [ac,au,ap,oH];omega):p:=h
def _root_.Go.Q34(h:p:=by have e1:=ot _ _ _ mY;have e2:=Cx ot tM;have e3:=Cx ot hr3;omega):p:=h
def _root_.Go.Q35(h:p:=by simp only [ac,au,ap] at hcv;omega):p:=h
def _root_.Go.Tt:True:=True.intro
def _root_.Go.Oz(h:p:=by simp only;omega):p:=h
def _root_.Go.Dc(h:p:=by decide):p:=h
def _root_.Go.Pr{l:List α}:l.Perm l:=eF l
def _root_.Go.Mc{a:α}{l:List α}:a∈a::l:=cV ..
def _root_.Go.O(h:p:=by omega):p:=h
def _root_.Go.As(h:p:=by assumption):p:=h
theorem _root_.Go.Og(h:p:=by first|omega|grind):p:=h
def _root_.Go.Ut(h:p:=by (try simp only [ac,au,ap]);omega):p:=h
def _root_.Go.Uo(h:p:=by simp only [ac,au,ap];omega):p:=h
abbrev Hl:=List (Nat×Obj)
variable{L:Hl}
def mA(D:Nat):Obj:=.mapIter none D #[] 0
def oX(w:World)(b:Nat)(o:Obj):World:={ w with heap:=w.heap.setIfInBounds b o }
def fill:Hl->World->World
 | [],s=>s
 | x::L,s=>oX (fill L s) x.1 x.2
structure jX(D:Nat)(L:Hl)(s:World):Prop where
 nd:(L.map (·.1)).Nodup
 dm:∀ x∈L,s.heap[x.1]?=some (mA D)
structure Le(D:Nat)(s s':World):Prop where
 os:s'.os=s.os
 tape:s'.tape=s.tape
 output:s'.output=s.output
 size:s.heap.size<=s'.heap.size
 block:∀ k,k < s.heap.size->s.heap[k]?=some (mA D)\/s'.heap[k]?=s.heap[k]?
variable{D:Nat}
def Le.refl(s:World):Le D s s:=⟨rfl,rfl,rfl,aC _,λ_ _=>.inr rfl⟩
def Lr(D:Nat):Le D s s:=Le.refl s
def Z{α:Sort _}{a:α}:a=a:=rfl
theorem Y2 {α0:Type _}{a0:α0}{α1:Type _}{a1:α1}:a0=a0/\a1=a1:=⟨rfl,rfl⟩
theorem Y3 {α0:Type _}{a0:α0}{α1:Type _}{a1:α1}{α2:Type _}{a2:α2}:a0=a0/\a1=a1/\a2=a2:=⟨rfl,rfl,rfl⟩
theorem Y7 {α0:Type _}{a0:α0}{α1:Type _}{a1:α1}{α2:Type _}{a2:α2}{α3:Type _}{a3:α3}{α4:Type _}{a4:α4}{α5:Type _}{a5:α5}{α6:Type _}{a6:α6}:a0=a0/\a1=a1/\a2=a2/\a3=a3/\a4=a4/\a5=a5/\a6=a6:=⟨rfl,rfl,rfl,rfl,rfl,rfl,rfl⟩
def Y4{a0:α0}{a1:α1}{a2:α2}{a3:α3}:a0=a0/\a1=a1/\a2=a2/\a3=a3:=⟨rfl,rfl,rfl,rfl⟩
def Y5{a0:α0}{a1:α1}{a2:α2}{a3:α3}{a4:α4}:a0=a0/\a1=a1/\a2=a2/\a3=a3/\a4=a4:=⟨rfl,rfl,rfl,rfl,rfl⟩
def Y6{a0:α0}{a1:α1}{a2:α2}{a3:α3}{a4:α4}{a5:α5}:a0=a0/\a1=a1/\a2=a2/\a3=a3/\a4=a4/\a5=a5:=⟨rfl,rfl,rfl,rfl,rfl,rfl⟩
def Y9{a0:α0}{a1:α1}{a2:α2}{a3:α3}{a4:α4}{a5:α5}{α6:Type _}{a6:α6}{α7:Type _}{a7:α7}{α8:Type _}{a8:α8}:a0=a0/\a1=a1/\a2=a2/\a3=a3/\a4=a4/\a5=a5/\a6=a6/\a7=a7/\a8=a8:=⟨rfl,rfl,rfl,rfl,rfl,rfl,rfl,rfl,rfl⟩
def Le.trans{a b:World}(h:Le D a b)(k:Le D b c):Le D a c:=
  ⟨k.os.trans h.os,k.tape.trans h.tape,k.output.trans h.output,dT h.size k.size,λi hi=>by
    rcases h.block i hi with h1|h1
    . exact .inl h1
    . rcases k.block i (dK hi h.size) with h2|h2
      . exact .inl (h1▸h2)
      . exact .inr (h2.trans h1)⟩
def Le.t{D:Nat}{a b:World}(h:Le D a b)(k:Le D b c):Le D a c:=Le.trans h k
def De(h:w.cell? a=some u):a.block < w.heap.size:=World.block_lt_of_cell? w a h
def XQ(h:w.cell? a=some u):w.heap[a.block]?≠some (mA D):=by
 intro e;simp [World.cell?,e,mA] at h
def Le.cell{s':World}(h:Le D s s')(hc:s.cell? a=some u):s'.cell? a=some u:=by
 rcases h.block a.block (De hc) with h1|h1
 . exact absurd h1 (XQ hc)
 . rw [<- hc];exact ij h1
@[simp] theorem DO {w:World} {b:Nat} {o:Obj}:(oX w b o).heap.size=w.heap.size:=by simp [oX]
def Jt(o:Obj)(h:b < w.heap.size):(oX w b o).heap[b]?=some o:=by
 simp [oX,h]
theorem EG(o:Obj)(h:b≠k):(oX w b o).heap[k]?=w.heap[k]?:=by grind [oX]
def nR(L:Hl)(s:World):(fill L s).heap.size=s.heap.size:=by
 induction L with
 | nil=>rfl
 | cons x L ih=>simp [fill,ih]
def y9(L:Hl)(s:World):(fill L s).os=s.os:=by induction L with
 | nil=>rfl
 | cons x L ih=>exact ih
def y0(L:Hl)(s:World):(fill L s).tape=s.tape:=by induction L with
 | nil=>rfl
 | cons x L ih=>exact ih
def FJ(L:Hl)(s:World):(fill L s).drawn=s.drawn:=by induction L with
 | nil=>rfl
 | cons x L ih=>exact ih
def y5(L:Hl)(s:World):(fill L s).output=s.output:=by induction L with
 | nil=>rfl
 | cons x L ih=>exact ih
def vy(h:k ∉ L.map (·.1)):(fill L s).heap[k]?=s.heap[k]?:=by
 induction L with
 | nil=>rfl
 | cons x L ih=>
  simp only [aS,aW,il] at h;rw [fill,EG _ (λe=>h.1 e.symm),ih h.2]
def jX.lt(h:jX D L s){x:Nat×Obj}(hx:x∈L):x.1 < s.heap.size:=by
 have:=h.dm x hx;rcases eM x.1 s.heap.size with h1|h1
 . exact h1
 . rw [bU h1] at this;cases this
def jX.tail{x:Nat×Obj}(h:jX D (x::L) s):jX D L s:=
 ⟨by have:=h.nd;simp only [aS,dv] at this;exact this.2,λy hy=>h.dm y (aq _ hy)⟩
def qc(h:jX D L s){o:Obj}(hx:(b,o)∈L):(fill L s).heap[b]?=some o:=by
  induction L with
  | nil=>cases hx
  | cons x L ih=>
    have lQ:=h.nd;simp only [aS,dv] at lQ;rcases aW.1 hx with rfl|hx
    . rw [fill];exact Jt _ (by rw [nR];exact h.lt Mc)
    . rw [fill,EG]
      . exact ih h.tail hx
      . intro e;exact lQ.1 (by rw [e];exact bh.2 ⟨_,hx,rfl⟩)
def NJ(h:jX D L s)(hk:s.heap[k]?≠some (mA D)):k ∉ L.map (·.1):=by
 intro hm;obtain ⟨x,hx,rfl⟩:=bh.1 hm;exact hk (h.dm x hx)
def EH(h:jX D L s)(hc:s.cell? a=some u):(fill L s).cell? a=some u:=by
 rw [<- hc];exact ij (vy (NJ h (XQ hc)))
def Bp(h:jX D L s):Le D s (fill L s):=
 ⟨y9 L s,y0 L s,y5 L s,by rw [nR];exact aC _,λk hk=>by
  by_cases hd:s.heap[k]?=some (mA D)
  . exact .inl hd
  . exact .inr (vy (NJ h hd))⟩
def C9(h1:w.heap=w'.heap)(h2:w.tape=w'.tape)(h3:w.drawn=w'.drawn)(h4:w.os=w'.os)(h5:w.output=w'.output):w=w':=by
 cases w;cases w';simp_all
def C8{a b:Array Obj}(h:∀ k:Nat,a[k]?=b[k]?):a=b:=eW h
def Rw(A B:Hl)(s:World):fill (A++B) s=fill A (fill B s):=by
 induction A with
 | nil=>rfl
 | cons x A ih=>simp [fill,ih]
def Ry{c:Nat}(o p:Obj)(h:b≠c):oX (oX w b o) c p=oX (oX w c p) b o:=by
 unfold oX;simp [Array.setIfInBounds_comm _ _ h]
def qmi{o:Obj}(h:b ∉ L.map (·.1)):fill L (oX s b o)=oX (fill L s) b o:=by
 induction L with
 | nil=>rfl
 | cons x L ih=>
  simp only [aS,aW,il] at h;rw [fill,ih h.2,fill,Ry _ _ h.1]
def qqE{A B:Hl}(h:((A++B).map (·.1)).Nodup):fill A (fill B s)=fill B (fill A s):=by
 induction A with
 | nil=>rfl
 | cons x A ih=>
  simp only [ao,aS,dv] at h;rw [fill,ih h.2,fill,qmi];intro hb;exact h.1 (by rw [bR];exact aJ _ hb)
def jX.left{A B:Hl}(h:jX D (A++B) s):jX D A s:=
 ⟨by have:=h.nd;rw [bR] at this;exact (bL.1 this).1,λx hx=>h.dm x (aN _ hx)⟩
def jX.right{A B:Hl}(h:jX D (A++B) s):jX D B s:=
 ⟨by have:=h.nd;rw [bR] at this;exact (bL.1 this).2.1,λx hx=>h.dm x (aJ _ hx)⟩
def sK{A B:Hl}(h:jX D (A++B) s):fill (A++B) s=fill B (fill A s)/\jX D B (fill A s)/\Le D s (fill A s):=by
  refine ⟨by rw [Rw,qqE h.nd],⟨h.right.nd,λx hx=>?_⟩,Bp h.left⟩;rw [vy]
  . exact h.right.dm x hx
  . intro hm
    have:=h.nd;rw [bR] at this;exact (bL.1 this).2.2 _ hm _ (bh.2 ⟨x,hx,rfl⟩) rfl
def qU(D:Nat):Hl->World->World
 | [],w=>w
 | x::L,w=>oX (qU D L w) x.1 (mA D)
def RJ(L:Hl)(w:World):(qU D L w).heap.size=w.heap.size:=by
 induction L with
 | nil=>rfl
 | cons x L ih=>simp [qU,ih]
def Ju(h:k ∉ L.map (·.1)):(qU D L w).heap[k]?=w.heap[k]?:=by
 induction L with
 | nil=>rfl
 | cons x L ih=>
  simp only [aS,aW,il] at h;rw [qU,EG _ (λe=>h.1 e.symm),ih h.2]
def Zm(lm:∀ x∈L,x.1 < w.heap.size)(h:k∈L.map (·.1)):(qU D L w).heap[k]?=some (mA D):=by
  induction L with
  | nil=>cases h
  | cons x L ih=>
    by_cases hk:x.1=k
    . subst hk;rw [qU];exact Jt _ (by rw [RJ];exact lm x Mc)
    . rw [qU,EG _ hk]
      simp only [aS,aW] at h;exact ih (λy hy=>lm y (aq _ hy)) (h.resolve_left (λe=>hk e.symm))
def Np(L:Hl)(s:World):(qU D L s).os=s.os:=by induction L with
 | nil=>rfl
 | cons x L ih=>exact ih
def ML(L:Hl)(s:World):(qU D L s).tape=s.tape:=by induction L with
 | nil=>rfl
 | cons x L ih=>exact ih
def XZ(L:Hl)(s:World):(qU D L s).drawn=s.drawn:=by induction L with
 | nil=>rfl
 | cons x L ih=>exact ih
def MH(L:Hl)(s:World):(qU D L s).output=s.output:=by induction L with
 | nil=>rfl
 | cons x L ih=>exact ih
def qGC(h:jX D L s)(hb:Below (fill L s).heap.size (fill L s) w'):
    w'=fill L (qU D L w')/\jX D L (qU D L w')/\Le D s (qU D L w'):=by
  have jA:s.heap.size<=w'.heap.size:=by have:=hb.size;rwa [nR] at this
  have lm:∀ x∈L,x.1 < w'.heap.size:=λx hx=>dK (h.lt hx) jA;have l9:jX D L (qU D L w'):=⟨h.nd,λx hx=>Zm lm (bh.2 ⟨x,hx,rfl⟩)⟩;refine ⟨C9 (C8 λk=>?_) ?_ ?_ ?_ ?_,l9,⟨?_,?_,?_,by rw [RJ];exact jA,λk hk=>?_⟩⟩
  . by_cases hk:k∈L.map (·.1)
    . obtain ⟨x,hx,rfl⟩:=bh.1 hk
      rw [qc l9 hx,hb.block x.1 (by rw [nR];exact h.lt hx),qc h hx]
    . rw [vy hk,Ju hk]
  . rw [y0,ML]
  . rw [FJ,XZ]
  . rw [y9,Np]
  . rw [y5,MH]
  . rw [Np,hb.os,y9]
  . rw [ML,hb.tape,y0]
  . rw [MH,hb.output,y5]
  . by_cases hd:s.heap[k]?=some (mA D)
    . exact .inl hd
    . have rW:=NJ h hd
      exact .inr (by rw [Ju rW,hb.block k (by rw [nR];exact hk),vy rW])
def pU(h:jX D L s)(o:Obj):
    (fill L s).alloc o=fill ((s.heap.size,o)::L) (s.alloc (mA D))/\jX D ((s.heap.size,o)::L) (s.alloc (mA D))/\Le D s (s.alloc (mA D)):=by
  have hold:∀ k,k < s.heap.size->(s.alloc (mA D)).heap[k]?=s.heap[k]?:=λk hk=>Below.heap_alloc s _ k hk;have l9:jX D ((s.heap.size,o)::L) (s.alloc (mA D)):=by
    refine ⟨?_,?_⟩
    . simp only [aS,dv]
      refine ⟨λhm=>?_,h.nd⟩;obtain ⟨x,hx,he⟩:=bh.1 hm;have:=h.lt hx;omega
    . intro x hx
      rcases aW.1 hx with rfl|hx
      . exact fY s _
      . rw [hold _ (h.lt hx)];exact h.dm x hx
  refine ⟨C9 (C8 λk=>?_) ?_ ?_ ?_ ?_,l9,⟨Z,Z,Z,by simp,λk hk=>.inr (hold k hk)⟩⟩
  . rcases fe k s.heap.size with hk|rfl|hk
    . rw [Below.heap_alloc _ _ _ (by rw [nR];exact hk)]
      by_cases hm:k∈L.map (·.1)
      . obtain ⟨x,hx,rfl⟩:=bh.1 hm
        rw [qc h hx,qc l9 (aq _ hx)]
      . rw [vy hm,vy (by simp only [aS,aW,il];exact ⟨by omega,hm⟩),hold k hk]
    . rw [qc l9 Mc,<- nR L s];exact fY _ _
    . rw [bU (by simp [nR];omega),bU (by rw [nR];simp;omega)]
  . show (fill L s).tape=_;rw [y0,y0];rfl
  . show (fill L s).drawn=_;rw [FJ,FJ];rfl
  . show (fill L s).os=_;rw [y9,y9];rfl
  . show (fill L s).output=_;rw [y5,y5];rfl
def lO(L:Hl)(i:Nat)(o:Obj):Hl:=match L,i with
 | [],_=>[]
 | x::L,0=>(x.1,o)::L
 | x::L,i+1=>x::lO L i o
def ZO(L:Hl)(i:Nat)(o:Obj):(lO L i o).map (·.1)=L.map (·.1):=by
 induction L generalizing i with
 | nil=>cases i<;>rfl
 | cons x L ih=>cases i with
  | zero=>rfl
  | succ i=>simp [lO,ih]
def Do(h:jX D L s)(i:Nat)(o:Obj):jX D (lO L i o) s:=by
 refine ⟨by rw [ZO];exact h.nd,λx hx=>?_⟩;have:x.1∈(lO L i o).map (·.1):=bh.2 ⟨x,hx,rfl⟩;rw [ZO] at this;obtain ⟨y,hy,he⟩:=bh.1 this;rw [<- he];exact h.dm y hy
def qjX(w:World)(b:Nat)(o p:Obj):oX (oX w b o) b p=oX w b p:=by
 unfold oX;simp
def Da(h:jX D L s){i:Nat}{p:Obj}(hi:L[i]?=some (b,p))(o:Obj):fill (lO L i o) s=oX (fill L s) b o:=by
 induction L generalizing i with
 | nil=>cases hi
 | cons x L ih=>
  cases i with
  | zero=>
   simp only [dq,da] at hi;subst hi;simp only [lO,fill];rw [qjX]
  | succ i=>
   simp only [bH] at hi;have lQ:=h.nd;simp only [aS,dv] at lQ;simp only [lO,fill];rw [ih h.tail hi,Ry];intro e;exact lQ.1 (by rw [<- e];exact bh.2 ⟨_,ay hi,rfl⟩)
def ZB(L:Hl)(s:World):(fill L s).drew=fill L s.drew:=by
 induction L with
 | nil=>rfl
 | cons x L ih=>show oX (fill L s).drew x.1 x.2=oX (fill L s.drew) x.1 x.2;rw [ih]
def Le.drew(s:World):Le D s s.drew:=⟨rfl,rfl,rfl,aC _,λ_ _=>.inr rfl⟩
def jX.drew(h:jX D L s):jX D L s.drew:=⟨h.nd,h.dm⟩
def Lc(h:p:=by first|assumption|exact Le.refl _|(repeat (first|assumption|refine Le.trans ?_ ‹Le _ _ _› | exact (‹Le _ _ _/\_›).1|refine Le.trans ?_ (‹Le _ _ _/\_›).1))):p:=h
def Pz(h:p:=by first|assumption|exact GP.le ‹_› Lc|exact iH.le ‹_› Lc|exact iW.le ‹_› Lc|exact jn.le ‹_› Lc|exact ju.le ‹_› Lc|exact j9.le ‹_› Lc|exact jz.le ‹_› Lc|exact lL.le ‹_› Lc|exact lV.le ‹_› Lc|exact sy.le ‹_› Lc|exact MG.le ‹_› Lc|exact ky.le ‹_› Lc|exact GW.le ‹_› Lc|exact nW.le ‹_› Lc|exact vc.le ‹_› Lc|exact yA.le ‹_› Lc|exact qC.le ‹_› Lc|exact BI.le ‹_› Lc|exact sT.le ‹_› Lc|exact pH.le ‹_› Lc|exact ub.le ‹_› Lc|exact AB.le ‹_› Lc|exact wQ.le ‹_› Lc|exact LZ.le ‹_› Lc|exact StT.le ‹_› Lc|exact sV.le ‹_› Lc|exact Row.le ‹_› Lc|exact CT.le ‹_› Lc|exact lU.le Lc ‹_› | exact pZ.le Lc ‹_›):p:=h
end
end Go.Proofs.YtapeaicongaggaaGreatDoor
namespace Go.Proofs
open Go.Shelf
def Tryz.lays156_ren:Go.Shelf.Ren:=⟨λ|156=>116|165=>152|166=>115|169=>72|240=>151|241=>194|276=>193|277=>234|n=>n,λ|31=>39|9=>9|3=>3|4=>4|0=>0|20=>20|72=>152|76=>217|70=>150|37=>46|75=>216|127=>220|164=>295|5=>5|80=>162|n=>n,λ|n=>n⟩
def Tryz.lays156:Go.Proofs.Lays.n156 Tryz.prog Tryz.lays156_ren:=by repeat' (first|kernel_rfl|(intro _;kernel_rfl)|decide|constructor)
def Tryz.Builder_Extra_156:Builder.Extra Tryz.prog Tryz.lays156_ren:=by repeat' (first|kernel_rfl|(intro _;kernel_rfl)|decide|constructor)
def Tryz.lays104_ren:Go.Shelf.Ren:=⟨λ|104=>207|211=>248|207=>270|n=>n,λ|9=>9|4=>4|24=>306|3=>3|n=>n,λ|n=>n⟩
def Tryz.lays104:Go.Proofs.Lays.n104 Tryz.prog Tryz.lays104_ren:=by repeat' (first|kernel_rfl|(intro _;kernel_rfl)|decide|constructor)
def Tryz.lays283_ren:Go.Shelf.Ren:=⟨λ|283=>235|n=>n,λ|3=>3|9=>9|4=>4|n=>n,λ|n=>n⟩
def Tryz.lays283:Go.Proofs.Lays.n283 Tryz.prog Tryz.lays283_ren:=by repeat' (first|kernel_rfl|(intro _;kernel_rfl)|decide|constructor)
def Tryz.laysM284_ren:Go.Shelf.Ren:=⟨λ|284=>236|129=>175|317=>260|318=>261|n=>n,λ|53=>257|3=>3|212=>350|0=>0|4=>4|46=>239|5=>5|9=>9|n=>n,λ|17=>2|n=>n⟩
def Tryz.laysM284:Go.Proofs.LaysM.n284 Tryz.prog Tryz.laysM284_ren:=by repeat' (first|kernel_rfl|(intro _;kernel_rfl)|decide|constructor)
def Tryz.lays285_ren:Go.Shelf.Ren:=⟨λ|285=>237|n=>n,λ|37=>46|53=>257|3=>3|4=>4|51=>22|9=>9|5=>5|0=>0|n=>n,λ|n=>n⟩
def Tryz.lays285:Go.Proofs.Lays.n285 Tryz.prog Tryz.lays285_ren:=by repeat' (first|kernel_rfl|(intro _;kernel_rfl)|decide|constructor)
def Tryz.laysM171_ren:Go.Shelf.Ren:=⟨λ|171=>117|243=>153|246=>195|283=>235|284=>236|285=>237|286=>238|129=>175|317=>260|318=>261|319=>262|320=>263|337=>277|338=>278|n=>n,λ|3=>3|9=>9|2=>2|4=>4|171=>328|0=>0|53=>257|37=>46|5=>5|173=>330|212=>350|51=>22|20=>20|213=>351|46=>239|232=>379|233=>380|n=>n,λ|17=>2|18=>6|19=>7|n=>n⟩
def Tryz.laysM171:Go.Proofs.LaysM.n171 Tryz.prog Tryz.laysM171_ren:=by repeat' (first|kernel_rfl|(intro _;kernel_rfl)|decide|constructor)
def Tryz.laysPu14_ren:Go.Shelf.Ren:=⟨λ|14=>271|16=>281|17=>282|19=>285|20=>286|21=>287|22=>288|23=>289|24=>290|25=>291|27=>117|26=>292|28=>153|29=>195|30=>235|31=>236|32=>237|33=>238|35=>175|34=>260|36=>261|37=>262|38=>263|39=>277|40=>278|n=>n,λ|9=>9|3=>3|22=>257|24=>216|25=>353|4=>4|34=>381|5=>5|36=>239|37=>46|0=>0|39=>383|21=>21|44=>390|47=>220|50=>394|48=>392|2=>2|52=>328|55=>330|59=>350|60=>22|20=>20|61=>351|65=>379|66=>380|67=>162|n=>n,λ|0=>8|1=>9|2=>2|3=>6|4=>7|n=>n⟩
def Tryz.laysPu14:Go.Proofs.LaysPu.n14 Tryz.prog Tryz.laysPu14_ren:=by repeat' (first|kernel_rfl|(intro _;kernel_rfl)|decide|constructor)
def Tryz.lays219_ren:Go.Shelf.Ren:=⟨λ|219=>246|217=>266|225=>267|224=>268|267=>269|266=>279|314=>280|n=>n,λ|9=>9|3=>3|4=>4|5=>5|46=>239|146=>358|51=>22|n=>n,λ|1=>1|n=>n⟩
def Tryz.lays219:Go.Proofs.Lays.n219 Tryz.prog Tryz.lays219_ren:=by repeat' (first|kernel_rfl|(intro _;kernel_rfl)|decide|constructor)
def Tryz.lays189_ren:Go.Shelf.Ren:=⟨λ|189=>82|125=>131|257=>130|128=>174|129=>175|294=>165|295=>166|296=>167|297=>168|298=>169|299=>170|216=>171|300=>172|301=>173|328=>214|329=>215|330=>216|331=>217|332=>218|215=>219|343=>251|n=>n,λ|28=>74|3=>3|46=>239|0=>0|51=>22|53=>257|4=>4|183=>275|182=>274|131=>280|5=>5|9=>9|218=>313|222=>317|228=>339|229=>322|n=>n,λ|n=>n⟩
def Tryz.lays189:Go.Proofs.Lays.n189 Tryz.prog Tryz.lays189_ren:=by repeat' (first|kernel_rfl|(intro _;kernel_rfl)|decide|constructor)
def Tryz.laysGw17_ren:Go.Shelf.Ren:=⟨λ|17=>220|15=>252|20=>272|n=>n,λ|9=>9|23=>305|4=>4|3=>3|0=>0|21=>21|n=>n,λ|n=>n⟩
def Tryz.laysGw17:Go.Proofs.LaysGw.n17 Tryz.prog Tryz.laysGw17_ren:=by repeat' (first|kernel_rfl|(intro _;kernel_rfl)|decide|constructor)
def Tryz.lays221_ren:Go.Shelf.Ren:=⟨λ|221=>155|268=>201|138=>202|143=>203|195=>243|197=>244|218=>245|219=>246|260=>265|217=>266|225=>267|224=>268|267=>269|266=>279|314=>280|n=>n,λ|9=>9|3=>3|31=>39|4=>4|0=>0|105=>332|21=>21|5=>5|46=>239|119=>342|139=>365|138=>364|146=>358|51=>22|n=>n,λ|1=>1|3=>4|4=>5|n=>n⟩
def Tryz.lays221:Go.Proofs.Lays.n221 Tryz.prog Tryz.lays221_ren:=by repeat' (first|kernel_rfl|(intro _;kernel_rfl)|decide|constructor)
def Tryz.lays157_ren:Go.Shelf.Ren:=⟨λ|157=>222|229=>205|199=>253|261=>273|311=>283|312=>284|n=>n,λ|9=>9|31=>39|3=>3|5=>5|4=>4|119=>342|0=>0|40=>305|152=>335|21=>21|154=>337|51=>22|141=>357|196=>371|193=>368|198=>374|49=>372|194=>369|201=>377|226=>386|46=>239|227=>387|n=>n,λ|0=>0|6=>3|n=>n⟩
def Tryz.lays157:Go.Proofs.Lays.n157 Tryz.prog Tryz.lays157_ren:=by repeat' (first|kernel_rfl|(intro _;kernel_rfl)|decide|constructor)
def Tryz.lays105_ren:Go.Shelf.Ren:=⟨λ|105=>225|212=>254|99=>255|165=>152|166=>115|170=>256|169=>72|263=>274|264=>275|206=>276|240=>151|241=>194|276=>193|277=>234|n=>n,λ|9=>9|3=>3|4=>4|20=>20|0=>0|46=>239|109=>343|5=>5|72=>152|76=>217|51=>22|146=>358|53=>257|148=>360|70=>150|37=>46|75=>216|127=>220|164=>295|80=>162|n=>n,λ|n=>n⟩
def Tryz.lays105:Go.Proofs.Lays.n105 Tryz.prog Tryz.lays105_ren:=by repeat' (first|kernel_rfl|(intro _;kernel_rfl)|decide|constructor)
def Tryz.Builder_Extra_105:Builder.Extra Tryz.prog Tryz.lays105_ren:=by repeat' (first|kernel_rfl|(intro _;kernel_rfl)|decide|constructor)
def Tryz.lays229_ren:Go.Shelf.Ren:=⟨λ|229=>205|n=>n,λ|9=>9|40=>305|31=>39|152=>335|3=>3|0=>0|4=>4|21=>21|154=>337|n=>n,λ|n=>n⟩
def Tryz.lays229:Go.Proofs.Lays.n229 Tryz.prog Tryz.lays229_ren:=by repeat' (first|kernel_rfl|(intro _;kernel_rfl)|decide|constructor)
def Tryz.laysNm220_ren:Go.Shelf.Ren:=⟨λ|20=>83|n=>n,λ|22=>74|3=>3|4=>4|0=>0|n=>n,λ|n=>n⟩
def Tryz.laysNm220:Go.Proofs.Lays2.n20 Tryz.prog Tryz.laysNm220_ren:=by repeat' (first|kernel_rfl|(intro _;kernel_rfl)|decide|constructor)
end Go.Proofs
namespace Go.Proofs.YtapeaicongaggaaGreatDoor
open Go Go.RowKit Go.Proofs.Tryz
abbrev LVal9:=List Value
variable{x y:Operand}{vs zs:LVal9}{xs:List Operand}{P:Program}{v v5:Value}{ts:Array TypeId}{off D d t' i ty n j e jr d4 i0 fo d5 m:Nat}{ps:List (Nat×Operand)}{af:Array Edge}{iP:List Oper}{s0 s s':World}{iS:String}{L L' K B:Hl}{ik jk ik':IntKind}{os r:List Nat}{rs:List ResultVar}{dst:Option Nat}{A:OAdr9}{o:Obj}{lo hi mx:Option Value}{fs:Array Field}{fz:Nat×Nat}{fld:Field}{bo:BinOp}{fn:Func}
section
variable{d0 d1 d2 d3 f:Nat}{a b:Int}{c:Operand}{v0 v1 v2 v3 v4:Value}{p:Prop}{l:List UInt8}{ys:LVal9}{w:World}{R R':Value->Hl->World->Prop}{α:Type}
abbrev Fr:=List (Nat×Value)
def kO:Fr->Nat->Option Value
 | [],_=>none
 | (d,v)::r,t=>bif Nat.beq d t then some v else kO r t
def lk(fr:Fr):Operand->Option Value
 | .tmp t=>kO fr t
 | .const v=>some v
 | .global g=>some (jc g)
 | .func f=>some (.func (.func f) #[] #[])
structure jE(n:Nat)(a:Act)(fr:Fr):Prop where
 size:a.tmps.size=n
 defers:a.defers=[]
 slot:∀ t,t < n->∀ v,kO fr t=some v->a.tmps[t]?=some v
 ai:∀ t v,kO fr t=some v->t < n
def jE.ev{a:Act}{fr:Fr}(h:jE n a fr)(hx:lk fr x=some v):a.eval x=v:=by
 cases x with
 | tmp t=>
  have:=h.slot t (h.ai t v hx) v hx;simp [Act.eval,this]
 | const u=>simpa [lk,Act.eval] using hx
 | global g=>simpa [lk,Act.eval] using hx
 | func f=>simpa [lk,Act.eval] using hx
def vz(d:Nat)(v:Value)(fr:Fr)(t:Nat):kO ((d,v)::fr) t=if d=t then some v else kO fr t:=by
  simp only [kO,cond_eq_ite];by_cases h:d=t
  . subst h;simp
  . have:Nat.beq d t=false:=by
      cases hb:Nat.beq d t with
      | false=>rfl
      | true=>exact absurd (ez hb) h
    simp [h,this]
def jE.put{a:Act}{fr:Fr}(h:jE n a fr)(hd:Nat.blt d n=true)(v:Value):jE n (a.put (some d) v) ((d,v)::fr):=by
  have hd':d < n:=bE hd;refine ⟨by simp [Act.put,h.size],by simp [Act.put,h.defers],λt ht u hu=>?_,λt u hu=>?_⟩
  . rw [vz] at hu
    by_cases he:d=t
    . subst he;simp at hu;subst hu;simp [Act.put,h.size,hd']
    . simp only [he,cm] at hu
      simp only [Act.put,bW he];exact h.slot t ht u hu
  . rw [vz] at hu
    by_cases he:d=t
    . subst he;exact hd'
    . simp only [he,cm] at hu;exact h.ai t u hu
inductive TK where
 | sc
 | sl (elem:Nat)
 | st (offs:List Nat)
 | ar (len elem:Nat)
def uC:TK->Bool
 | .sc=>true
 | .sl _=>true
 | _=>false
structure TI where
 kind:TK
 desc:TypeDesc
 size:Nat
 bytes:Nat
 J:LVal9
 fsz:List Nat:=[]
variable{ti te:TI}
def TI.zero(x:TI):Value:=match x.kind with
 | .st _=>.agg x.J.toArray
 | .ar _ _=>.agg x.J.toArray
 | _=>x.J.headD undef
abbrev kG:=List (Nat×TI)
def TK.fits:TK->TypeDesc->Prop
 | .sc,.struct _=>False
 | .sc,.array _ _=>False
 | .sc,_=>True
 | .sl e,d=>d=.slice e
 | .st offs,.struct fs=>fs.toList.map (·.offset)=offs
 | .st _,_=>False
 | .ar n e,d=>d=.array n e
def qqC(P:Program):TypeDesc->Bool
 | .struct fs=>fs.toList.all (λf=>decide (0 < P.cellsOf f.type))
 | _=>true
def qoD(P:Program):TypeDesc->List Nat
 | .struct fs=>fs.toList.map λf=>P.cellsOf f.type
 | _=>[]
def TI.ok(P:Program)(t:Nat)(x:TI):Prop:=
 P.underlying t=some x.desc/\x.kind.fits x.desc/\(P.info? t).map (λi=>(i.size,i.bytes,i.zero))=some (x.size,x.bytes,some x.zero)/\x.J.length=x.size/\x.J.all (·.oneCell')=true/\0 < x.size/\(uC x.kind=true->x.size=1) /\
 qqC P x.desc=true/\qoD P x.desc=x.fsz
def jZ(P:Program)(TT:kG):Prop:=∀ x∈TT,x.2.ok P x.1
def jH:kG->Nat->Option TI
 | [],_=>none
 | (d,v)::r,t=>bif Nat.beq d t then some v else jH r t
def qsx{TT:kG}{t:Nat}{x:TI}(h:jH TT t=some x):(t,x)∈TT:=by
  induction TT with
  | nil=>cases h
  | cons y TT ih=>
    obtain ⟨d,v⟩:=y;simp only [jH,cond_eq_ite] at h;by_cases he:Nat.beq d t=true
    . simp only [he,bS,da] at h
      have:d=t:=by simpa using he
      subst h;subst this;exact cV ..
    . simp only [he] at h;exact aq _ (ih h)
def jZ.at_{TT:kG}(h:jZ P TT){t:Nat}{x:TI}(hx:jH TT t=some x):x.ok P t:=h _ (qsx hx)
abbrev qd:=Exit->Fr->Hl->World->Prop
def yG(D n:Nat)(Q:qd):Exit->Act->World->Prop:=λe a w=>∃ fr L s,jE n a fr/\jX D L s/\w=fill L s/\Q e fr L s
def JC(P:Program)(TT:kG)(D n:Nat)(Q:qd)(c:Code)(fr:Fr)(L:Hl)(s:World):Prop:=
 jZ P TT->∀ a,jE n a fr->jX D L s->c.wp P (yG D n Q) a (fill L s)
def JO(P:Program)(TT:kG)(D n:Nat)(ops:Array Oper)(Q:qd)(l:List Oper)(fr:Fr)(L:Hl)(s:World):Prop:=
 jZ P TT->∀ a,jE n a fr->jX D L s->wpList P ops (yG D n Q) l a (fill L s)
section control
variable{TT:kG}{Q:qd}{fr:Fr}
def lZ(J:Fr->Hl->World->Prop)(Q:qd):qd
 | .normal,fr,L,s=>J fr L s
 | e,fr,L,s=>Q e fr L s
def mF(id:Nat)(Q:qd):qd
 | .exit i,fr,L,s=>if i=id then Q .normal fr L s else Q (.exit i) fr L s
 | e,fr,L,s=>Q e fr L s
def qyX(h:Q .normal fr L s):JC P TT D n Q .skip fr L s:=λ_ _ hr ho=>wp_skip ⟨fr,L,s,hr,ho,rfl,h⟩
def qyW{id:Nat}(h:Q (.exit id) fr L s):JC P TT D n Q (.exit id) fr L s:=λ_ _ hr ho=>wp_exit ⟨fr,L,s,hr,ho,rfl,h⟩
def qEL(h:Q .ret fr L s):JC P TT D n Q .ret fr L s:=λ_ _ hr ho=>wp_ret ⟨fr,L,s,hr,ho,rfl,h⟩
def qxk{x y:Code}(h:JC P TT D n (lZ (JC P TT D n Q y) Q) x fr L s):JC P TT D n Q (.seq x y) fr L s:=λht a hr ho=>
 iF (eU (h ht a hr ho) λe a w ⟨jS,L',s',h1,h2,h3,h4⟩=>by
  cases e with
  | normal=>subst h3;exact h4 ht a h1 h2
  | _=>exact ⟨jS,L',s',h1,h2,h3,h4⟩)
def qsU{id:Nat}{c:Code}(h:JC P TT D n (mF id Q) c fr L s):JC P TT D n Q (.block id c) fr L s:=λht a hr ho=>
 wp_block (eU (h ht a hr ho) λe a w ⟨jS,L',s',h1,h2,h3,h4⟩=>by
  cases e with
  | exit i=>
   simp only [mF] at h4;simp only [Exit.inBlock];by_cases hi:i=id
   . simp only [hi,bS] at h4 ⊢;exact ⟨jS,L',s',h1,h2,h3,h4⟩
   . simp only [hi,cm] at h4 ⊢;exact ⟨jS,L',s',h1,h2,h3,h4⟩
  | _=>exact ⟨jS,L',s',h1,h2,h3,h4⟩)
def qT{x y:Code}{b:Bool}(hc:lk fr c=some (.bool b))(h1:b=true->JC P TT D n Q x fr L s)(h2:b=false->JC P TT D n Q y fr L s):JC P TT D n Q (.cond c x y) fr L s:=
 λht a hr ho=>wp_cond_split (hr.ev hc) (λhb=>h1 hb ht a hr ho) (λhb=>h2 hb ht a hr ho)
def mE{x y:Code}[Decidable p](hc:lk fr c=some (.bool (decide p)))(h1:p->JC P TT D n Q x fr L s)(h2:¬ p->JC P TT D n Q y fr L s):JC P TT D n Q (.cond c x y) fr L s:=
 qT hc (λhb=>h1 (cU hb)) (λhb=>h2 (dx hb))
def lD{x y:Code}[Decidable p](hc:lk fr c=some (.bool (!decide p)))(h1:¬ p->JC P TT D n Q x fr L s)(h2:p->JC P TT D n Q y fr L s):JC P TT D n Q (.cond c x y) fr L s:=
 qT hc (λhb=>h1 Q12) (λhb=>h2 Q12)
def vB{x y:Code}{b:Bool}(hc:lk fr c=some (.bool (!b)))(h1:b=false->JC P TT D n Q x fr L s)(h2:b=true->JC P TT D n Q y fr L s):JC P TT D n Q (.cond c x y) fr L s:=
 qT hc (λhb=>h1 Q12) (λhb=>h2 Q12)
def qEK{c:Operand}{x y:Code}(hc:lk fr c=some (.bool true))(h1:JC P TT D n Q x fr L s):JC P TT D n Q (.cond c x y) fr L s:=
 qT hc (λ_=>h1) (λhb=>by cases hb)
def qEJ{c:Operand}{x y:Code}(hc:lk fr c=some (.bool false))(h2:JC P TT D n Q y fr L s):JC P TT D n Q (.cond c x y) fr L s:=
 qT hc (λhb=>by cases hb) (λ_=>h2)
def RP{id:Nat}{l:List Oper}(h:JO P TT D n l.toArray Q l fr L s):JC P TT D n Q (.region id l.toArray false) fr L s:=
 λht a hr ho=>wp_region_lit (h ht a hr ho)
def qxm{ops:Array Oper}(h:Q .normal fr L s):JO P TT D n ops Q [] fr L s:=λ_ _ hr ho=>⟨fr,L,s,hr,ho,rfl,h⟩
def qk4{l fr:Fr}(t:Nat):kO (l++fr) t=(kO l t).or (kO fr t):=by
 induction l with
 | nil=>simp [kO]
 | cons x l ih=>
  obtain ⟨d,v⟩:=x;rw [ao,vz,vz];by_cases h:d=t<;>simp [h,ih]
def jE.sub{a:Act}{fr l:Fr}(h:jE n a fr)(hs:∀ t v,kO l t=some v->kO fr t=some v):jE n a l:=
 ⟨h.size,h.defers,λt ht v hv=>h.slot t ht v (hs t v hv),λt v hv=>h.ai t v (hs t v hv)⟩
def je(fr l:Fr):Prop:=∀ t v,kO l t=some v->kO fr t=some v
def je.nil(fr:Fr):je fr []:=λ_ _ h=>by cases h
def je.cons{fr l:Fr}(h1:kO fr d=some v)(h:je fr l):je fr ((d,v)::l):=λt u hu=>by
 rw [vz] at hu;by_cases he:d=t
 . subst he;simp at hu;subst hu;exact h1
 . simp only [he,cm] at hu;exact h t u hu
def je.c6{fr l:Fr}(h0:kO fr d0=some v0)(h1:kO fr d1=some v1)(h2:kO fr d2=some v2)(h3:kO fr d3=some v3)(h4:kO fr d4=some v4)(h5:kO fr d5=some v5)(h:je fr l):je fr ((d0,v0)::(d1,v1)::(d2,v2)::(d3,v3)::(d4,v4)::(d5,v5)::l):=je.cons h0 (je.cons h1 (je.cons h2 (je.cons h3 (je.cons h4 (je.cons h5 (h))))))
def je.c5{fr l:Fr}(h0:kO fr d0=some v0)(h1:kO fr d1=some v1)(h2:kO fr d2=some v2)(h3:kO fr d3=some v3)(h4:kO fr d4=some v4)(h:je fr l):je fr ((d0,v0)::(d1,v1)::(d2,v2)::(d3,v3)::(d4,v4)::l):=je.cons h0 (je.cons h1 (je.cons h2 (je.cons h3 (je.cons h4 (h)))))
def je.c4{fr l:Fr}(h0:kO fr d0=some v0)(h1:kO fr d1=some v1)(h2:kO fr d2=some v2)(h3:kO fr d3=some v3)(h:je fr l):je fr ((d0,v0)::(d1,v1)::(d2,v2)::(d3,v3)::l):=je.cons h0 (je.cons h1 (je.cons h2 (je.cons h3 (h))))
def je.c3{fr l:Fr}(h0:kO fr d0=some v0)(h1:kO fr d1=some v1)(h2:kO fr d2=some v2)(h:je fr l):je fr ((d0,v0)::(d1,v1)::(d2,v2)::l):=je.cons h0 (je.cons h1 (je.cons h2 (h)))
def je.c2{fr l:Fr}(h0:kO fr d0=some v0)(h1:kO fr d1=some v1)(h:je fr l):je fr ((d0,v0)::(d1,v1)::l):=je.cons h0 (je.cons h1 (h))
def TF{p:Prop} (h:p:=by
 obtain ⟨e,d1,d2⟩:=sK k2;exact ⟨μ g',j4,g',_,rfl,k1.sub j1,d1,e,mono _ _ _ j3 d2⟩):p:=h
def lw{γ:Type}{c:Code}(S:γ->Fr)(H:γ->Hl)(I:γ->World->Prop)(μ:γ->Nat)(mono:∀ g s s',I g s->Le D s s'->I g s')(g0:γ)
  (hS:je fr (S g0)) (hL:L=H g0) (hI:I g0 s)
  (round:∀ g s,I g s->JC P TT D n (lZ (λjS L' s'=>∃ g' A,je jS (S g')/\L'=A++H g'/\I g' s'/\μ g' < μ g) Q) c (S g) (H g) s) :
  JC P TT D n Q (.loop c) fr L s:=λht a hr ho=>by
 refine wp_loop_ghost (λm a w=>∃ g s,μ g=m/\jE n a (S g)/\jX D (H g) s/\w=fill (H g) s/\I g s) (μ g0) ⟨g0,s,Z,hr.sub hS,hL▸ho,hL▸Z,hI⟩ ?_;rintro m a w ⟨g,s,rfl,h1,h2,rfl,h4⟩;refine eU (round g s h4 ht a h1 h2) ?_;rintro e a' w' ⟨jS,L',s',k1,k2,rfl,k4⟩;cases e with
 | normal=>
  obtain ⟨g',A,j1,rfl,j3,j4⟩:=k4;exact TF
 | _=>exact ⟨jS,L',s',k1,k2,rfl,k4⟩
end control
def cb(zs:LVal9)(t:Nat):Obj:=.cells zs.toArray t (0,0)
abbrev St(l:List UInt8):Value:=.string ⟨l.toArray⟩
def Ev(P:Program)(TT:kG)(D:Nat)(fr:Fr)(op:Op)(ty:Nat)(L:Hl)(s:World)(r:Next)(L':Hl)(s':World):Prop:=
 jZ P TT->jX D L s->∀ (dst:Option Nat) (iS:String) (af:Array Edge) (g:Option (Nat×Bool)) (ρ:Operand->Value),(∀ x v,lk fr x=some v->ρ x=v)->(execOp ρ ⟨dst,op,ty,iS,af,g⟩).run P (fill L s)=.ok r (fill L' s')/\jX D L' s'
def QE(P:Program)(TT:kG)(D:Nat)(fr:Fr)(op:Op)(ty:Nat)(K:Hl)(s0:World)(v:Value):Prop:=
 jZ P TT->∀ (dst:Option Nat) (iS:String) (af:Array Edge) (g:Option (Nat×Bool)) (ρ:Operand->Value),(∀ x v,lk fr x=some v->ρ x=v) ->
  ∀ L s,jX D L s->Le D s0 s->(∀ x∈K,x∈L)->(execOp ρ ⟨dst,op,ty,iS,af,g⟩).run P (fill L s)=.ok (.value v) (fill L s)
def QE.pure{TT:kG}{fr:Fr}{op:Op}
  (h:jZ P TT->∀ (dst:Option Nat) (iS:String) (af:Array Edge) (g:Option (Nat×Bool)) (ρ:Operand->Value),(∀ x v,lk fr x=some v->ρ x=v)->∀ w,(execOp ρ ⟨dst,op,ty,iS,af,g⟩).run P w=.ok (.value v) w):QE P TT D fr op ty K s0 v:=
 λht dst iS af g ρ hρ L s _ _ _=>h ht dst iS af g ρ hρ _
section
variable{TT:kG}{Q:qd}{fr:Fr}{ops:Array Oper}{op:Op}
def zY(hd:Nat.blt d n=true)(h:Ev P TT D fr op ty L s (.value v) L' s')(k:JO P TT D n ops Q iP ((d,v)::fr) L' s'):
  JO P TT D n ops Q (⟨some d,op,ty,iS,af,none⟩::iP) fr L s:=λht a hr ho=>by
 obtain ⟨h1,h2⟩:=h ht ho (some d) iS af none a.eval (λx v hx=>hr.ev hx);simp only [wpList,Region.wanted,bS];refine .inl ?_;simp only [Oper.wp,h1,Oper.upon];exact k ht _ (hr.put hd v) h2
def Ow(h:Ev P TT D fr op ty L s .skip L' s')(k:JO P TT D n ops Q iP fr L' s'):
  JO P TT D n ops Q (⟨none,op,ty,iS,af,none⟩::iP) fr L s:=λht a hr ho=>by
 obtain ⟨h1,h2⟩:=h ht ho none iS af none a.eval (λx v hx=>hr.ev hx);simp only [wpList,Region.wanted,bS];refine .inl ?_;simp only [Oper.wp,h1,Oper.upon];exact k ht _ hr h2
def iI(h:QE P TT D fr op ty L s v)(hd:Nat.blt d n=true)(k:JO P TT D n ops Q iP ((d,v)::fr) L s):JO P TT D n ops Q (⟨some d,op,ty,iS,af,none⟩::iP) fr L s:=
 zY hd (λht ho dst iS af g ρ hρ=>⟨h ht dst iS af g ρ hρ L s ho (Le.refl _) (λ_ hx=>hx),ho⟩) k
def vF(ops:Array Oper)(j:Nat):Option Nat:=(ops[j]?).bind (·.dst)
def qIi{t:Nat}{w:Bool}(hj:vF ops j=some t)(hv:kO fr t=some (.bool w))
  (k:JO P TT D n ops Q (⟨dst,op,ty,iS,af,none⟩::iP) fr L s):JO P TT D n ops Q (⟨dst,op,ty,iS,af,some (j,w)⟩::iP) fr L s:=λht a hr ho=>by
 have k1:=k ht a hr ho;have hy:yielded ops a.tmps j=some w:=by
  have h1:=hr.slot t (hr.ai _ _ hv) _ hv;unfold vF at hj;simp [yielded,hj,h1]
 simp only [wpList,Region.wanted,bS] at k1;simp only [wpList,Region.wanted,hy,beq_self_eq_true,bS];exact k1
def WD{t:Nat}{w b:Bool}(hd:Nat.blt d n=true)(hj:vF ops j=some t)(hv:kO fr t=some (.bool b))(hb:(b != w)=true)
  (k:JO P TT D n ops Q iP ((d,undef)::fr) L s):JO P TT D n ops Q (⟨some d,op,ty,iS,af,some (j,w)⟩::iP) fr L s:=λht a hr ho=>by
 have hy:yielded ops a.tmps j=some b:=by
  have h1:=hr.slot t (hr.ai _ _ hv) _ hv;unfold vF at hj;simp [yielded,hj,h1]
 have mB:(some b == some w)=false:=by cases b<;>cases w<;>simp_all
 simp only [wpList,Region.wanted,hy,mB,dr,cm];exact k ht _ (hr.put hd undef) ho
def Wf{t:Nat}{w b:Bool}(hY:(Nat.blt d n=true)/\(vF ops j=some t)/\(kO fr t=some (.bool b))/\((b != w)=true))
  (k:JO P TT D n ops Q iP ((d,undef)::fr) L s):JO P TT D n ops Q (⟨some d,op,ty,iS,af,some (j,w)⟩::iP) fr L s:=WD hY.1 hY.2.1 hY.2.2.1 hY.2.2.2 k
def qIj{t:Nat}{w:Bool}(hd:Nat.blt d n=true)(hj:vF ops j=some t)(hv:kO fr t=some undef)
  (k:JO P TT D n ops Q iP ((d,undef)::fr) L s):JO P TT D n ops Q (⟨some d,op,ty,iS,af,some (j,w)⟩::iP) fr L s:=λht a hr ho=>by
 have hy:yielded ops a.tmps j=none:=by
  have h1:=hr.slot t (hr.ai _ _ hv) _ hv;unfold vF at hj;simp [yielded,hj,h1,undef]
 simp only [wpList,Region.wanted,hy];exact k ht _ (hr.put hd undef) ho
def Il{p:Prop} (h:p:=by
 cases b with
 | true=>exact h1 rfl ht a (hr.sub λt' v' h=>by rw [vz] at h;split at h<;>simp_all) ho
 | false=>exact h2 rfl ht a (hr.sub λt' v' h=>by rw [vz] at h;split at h<;>simp_all) ho):p:=h
def F9{l:List Oper}{t:Nat}{b:Bool}(hv:kO fr t=some (.bool b))(h1:b=true->JO P TT D n ops Q l ((t,.bool true)::fr) L s)(h2:b=false->JO P TT D n ops Q l ((t,.bool false)::fr) L s):
  JO P TT D n ops Q l fr L s:=λht a hr ho=>by
 exact Il
def kT{l:List Oper}{t:Nat}[Decidable p](hv:kO fr t=some (.bool (decide p)))(h1:p->JO P TT D n ops Q l ((t,.bool true)::fr) L s)(h2:¬ p->JO P TT D n ops Q l ((t,.bool false)::fr) L s):
  JO P TT D n ops Q l fr L s:=F9 hv (λh=>h1 (cU h)) (λh=>h2 (dx h))
def EL{l:List Oper}{t:Nat}{b:Bool}(hv:kO fr t=some (.bool (!b)))(h1:b=false->JO P TT D n ops Q l ((t,.bool true)::fr) L s)(h2:b=true->JO P TT D n ops Q l ((t,.bool false)::fr) L s):
  JO P TT D n ops Q l fr L s:=F9 hv (λh=>h1 Q4) (λh=>h2 Q4)
def tt{l:List Oper}{t:Nat}[Decidable p](hv:kO fr t=some (.bool (!decide p)))(h1:¬ p->JO P TT D n ops Q l ((t,.bool true)::fr) L s)(h2:p->JO P TT D n ops Q l ((t,.bool false)::fr) L s):
  JO P TT D n ops Q l fr L s:=F9 hv (λh=>h1 Q4) (λh=>h2 Q4)
end
section
variable{TT:kG}{fr:Fr}
def EC(hx:lk fr x=some v):QE P TT D fr (.move x) ty K s0 v:=QE.pure λ_ dst iS af g ρ hρ w=>by simp [execOp,hρ x v hx]
def MF(hx:lk fr x=some v):QE P TT D fr (.assign x) ty K s0 v:=QE.pure λ_ dst iS af g ρ hρ w=>by simp [execOp,hρ x v hx]
def FD(hc:lk fr c=some (.bool true))(hx:lk fr x=some v):QE P TT D fr (.pick c x y) ty K s0 v:=QE.pure λ_ dst iS af g ρ hρ w=>by simp [execOp,hρ x v hx,hρ c _ hc,asBool]
def Ro(hc:lk fr c=some (.bool false))(hx:lk fr y=some v):QE P TT D fr (.pick c x y) ty K s0 v:=QE.pure λ_ dst iS af g ρ hρ w=>by simp [execOp,hρ y v hx,hρ c _ hc,asBool]
def NT{b:Bool}{t:Nat}(hx:lk fr x=some (.bool b)):QE P TT D fr (.unOp .not t x) ty K s0 (.bool (!b)):=QE.pure λ_ dst iS af g ρ hρ w=>by simp [execOp,hρ x _ hx,Op.unary]
def qy8{t:Nat}(hx:lk fr x=some (.bool true)):QE P TT D fr (.unOp .not t x) ty K s0 (.bool false):=NT hx
def qy7{t:Nat}(hx:lk fr x=some (.bool false)):QE P TT D fr (.unOp .not t x) ty K s0 (.bool true):=NT hx
def nth:LVal9->Nat->Option Value
 | [],_=>none
 | x::_,0=>some x
 | _::r,k+1=>nth r k
theorem uU(l:LVal9)(i:Nat):nth l i=l[i]?:=by
 induction l generalizing i with
 | nil=>rfl
 | cons x l ih=>cases i<;>simp [nth,ih]
def Rl(hx:lk fr x=some (.tuple vs.toArray))(hi:nth vs i=some v):QE P TT D fr (.extract x i) ty K s0 v:=
 QE.pure λ_ dst iS af g ρ hρ w=>by rw [uU] at hi;simp [execOp,hρ x _ hx,Instr.extract,hi]
def Rh{a:Addr}(hx:lk fr x=some (.pointer (some a))):QE P TT D fr (.nilCheck x) ty K s0 (.pointer (some a)):=QE.pure λ_ dst iS af g ρ hρ w=>by simp [execOp,hρ x _ hx]
def pW{t:Nat}(hx:lk fr x=some (.int ik a))(hy:lk fr y=some (.int ik b)):QE P TT D fr (.binOp .eql t x y t') ty K s0 (.bool (decide (a=b))):=
 QE.pure λ_ dst iS af g ρ hρ w=>by simp [execOp,hρ x _ hx,hρ y _ hy,eqGuard,binOp,Op.intCmp];rfl
def qM{t:Nat}(hx:lk fr x=some (.int ik a))(hy:lk fr y=some (.int ik b)):QE P TT D fr (.binOp .neq t x y t') ty K s0 (.bool (!decide (a=b))):=
 QE.pure λ_ dst iS af g ρ hρ w=>by simp [execOp,hρ x _ hx,hρ y _ hy,eqGuard,binOp,Op.intCmp];rfl
def qK{t:Nat}(hx:lk fr x=some (.int ik a))(hy:lk fr y=some (.int ik b)):QE P TT D fr (.binOp .lss t x y t') ty K s0 (.bool (decide (a < b))):=
 QE.pure λ_ dst iS af g ρ hρ w=>by simp [execOp,hρ x _ hx,hρ y _ hy,eqGuard,binOp,Op.intCmp]
def Kr{t:Nat}(hx:lk fr x=some (.int ik a))(hy:lk fr y=some (.int ik b)):QE P TT D fr (.binOp .leq t x y t') ty K s0 (.bool (decide (a<=b))):=
 QE.pure λ_ dst iS af g ρ hρ w=>by simp [execOp,hρ x _ hx,hρ y _ hy,eqGuard,binOp,Op.intCmp]
def uB{t:Nat}(hx:lk fr x=some (.int ik a))(hy:lk fr y=some (.int ik b)):QE P TT D fr (.binOp .gtr t x y t') ty K s0 (.bool (decide (b < a))):=
 QE.pure λ_ dst iS af g ρ hρ w=>by simp [execOp,hρ x _ hx,hρ y _ hy,eqGuard,binOp,Op.intCmp]
def Oy{t:Nat}(hx:lk fr x=some (.int ik a))(hy:lk fr y=some (.int ik b)):QE P TT D fr (.binOp .geq t x y t') ty K s0 (.bool (decide (b<=a))):=
 QE.pure λ_ dst iS af g ρ hρ w=>by simp [execOp,hρ x _ hx,hρ y _ hy,eqGuard,binOp,Op.intCmp]
def CC{t:Nat}(hx:lk fr x=some (.int ik a))(hy:lk fr y=some (.int ik b)):QE P TT D fr (.binOp .add t x y t') ty K s0 (.int ik (ik.wrap (a+b))):=
 QE.pure λ_ dst iS af g ρ hρ w=>by simp [execOp,hρ x _ hx,hρ y _ hy,eqGuard,binOp,Op.intArith]
def nD{c:Int}{t:Nat}(hx:lk fr x=some (.int ik a))(hy:lk fr y=some (.int ik b))(hc:ik.wrap (a+b)=c):QE P TT D fr (.binOp .add t x y t') ty K s0 (.int ik c):=hc▸CC hx hy
def ET{t:Nat}(hx:lk fr x=some (.int ik a))(hy:lk fr y=some (.int ik b)):QE P TT D fr (.binOp .sub t x y t') ty K s0 (.int ik (ik.wrap (a - b))):=
 QE.pure λ_ dst iS af g ρ hρ w=>by simp [execOp,hρ x _ hx,hρ y _ hy,eqGuard,binOp,Op.intArith]
def rn{c:Int}{t:Nat}(hx:lk fr x=some (.int ik a))(hy:lk fr y=some (.int ik b))(hc:ik.wrap (a - b)=c):QE P TT D fr (.binOp .sub t x y t') ty K s0 (.int ik c):=hc▸ET hx hy
def ES{t:Nat}(hx:lk fr x=some (.int ik a))(hy:lk fr y=some (.int ik b)):QE P TT D fr (.binOp .mul t x y t') ty K s0 (.int ik (ik.wrap (a * b))):=
 QE.pure λ_ dst iS af g ρ hρ w=>by simp [execOp,hρ x _ hx,hρ y _ hy,eqGuard,binOp,Op.intArith]
def qy6{c:Int}{t:Nat}(hx:lk fr x=some (.int ik a))(hy:lk fr y=some (.int ik b))(hc:ik.wrap (a * b)=c):QE P TT D fr (.binOp .mul t x y t') ty K s0 (.int ik c):=hc▸ES hx hy
def CD{t:Nat}(hx:lk fr x=some (.int ik a))(hy:lk fr y=some (.int ik b))(hb:b≠0):QE P TT D fr (.binOp .quo t x y t') ty K s0 (.int ik (ik.wrap (a.tdiv b))):=
 QE.pure λ_ dst iS af g ρ hρ w=>by simp [execOp,hρ x _ hx,hρ y _ hy,eqGuard,binOp,Op.intDiv,hb]
def NV{t:Nat}(hx:lk fr x=some (.int ik a))(hy:lk fr y=some (.int ik b))(hb:b≠0):QE P TT D fr (.binOp .rem t x y t') ty K s0 (.int ik (a.tmod b)):=
 QE.pure λ_ dst iS af g ρ hρ w=>by simp [execOp,hρ x _ hx,hρ y _ hy,eqGuard,binOp,Op.intDiv,hb]
def BX{t:Nat}(hx:lk fr x=some (.int ik a))(hy:lk fr y=some (.int jk b))(mB:bo≠.eql/\bo≠.neq)(h:∀ w,(binOp bo t (.int ik a) (.int jk b)).run P w=.ok v w):QE P TT D fr (.binOp bo t x y t') ty K s0 v:=
 QE.pure λ_ dst iS af g ρ hρ w=>by
  have hg:(eqGuard bo t x y (.int ik a) (.int jk b)).run P w=.ok () w:=by cases bo<;>simp_all [eqGuard]
  simp [execOp,hρ x _ hx,hρ y _ hy,hg,h w]
def qEU{a b:List UInt8}{t:Nat}(hx:lk fr x=some (St a))(hy:lk fr y=some (St b)):QE P TT D fr (.binOp .eql t x y t') ty K s0 (.bool (decide (a=b))):=
 QE.pure λ_ dst iS af g ρ hρ w=>by simp [execOp,hρ x _ hx,hρ y _ hy,eqGuard,binOp,Op.stringOp];by_cases h:a=b<;>simp [h]
def NC{a b:List UInt8}{t:Nat}(hx:lk fr x=some (St a))(hy:lk fr y=some (St b)):QE P TT D fr (.binOp .neq t x y t') ty K s0 (.bool (!decide (a=b))):=
 QE.pure λ_ dst iS af g ρ hρ w=>by simp [execOp,hρ x _ hx,hρ y _ hy,eqGuard,binOp,Op.stringOp];by_cases h:a=b<;>simp [h]
def qlq{t:Nat}(h:P.underlying t=some .bool)(a b:Bool)(w:World):(Op.equal t (.bool a) (.bool b)).run P w=.ok (decide (a=b)) w:=by
 rw [run_equal_bool w t a b h];cases a<;>cases b<;>rfl
def Hj(P:Program)(t:Nat)(xs ys:LVal9)(b:Bool):Prop:=P.eqGuardType P.depth t=false/\∀ w,(Op.equal t (.agg xs.toArray) (.agg ys.toArray)).run P w=.ok b w
def J0{xs:LVal9}{b:Bool}{t:Nat}(hx:lk fr x=some (.agg xs.toArray))(hy:lk fr y=some (.agg ys.toArray))(hE:Hj P t xs ys b):QE P TT D fr (.binOp .eql t x y t') ty K s0 (.bool b):=
 QE.pure λht dst iS af g ρ hρ w=>by simp [execOp,hρ x _ hx,hρ y _ hy,eqGuard,binOp,hE.1,hE.2 w]
def sL{xs:LVal9}{b:Bool}{t:Nat}(hx:lk fr x=some (.agg xs.toArray))(hy:lk fr y=some (.agg ys.toArray))(hE:Hj P t xs ys b):QE P TT D fr (.binOp .neq t x y t') ty K s0 (.bool (!b)):=
 QE.pure λht dst iS af g ρ hρ w=>by simp [execOp,hρ x _ hx,hρ y _ hy,eqGuard,binOp,hE.1,hE.2 w]
def qxn{a b:Bool}{t:Nat}(hx:lk fr x=some (.bool a))(hy:lk fr y=some (.bool b))(hu:jH TT t=some ti)(hu':ti.desc=.bool):QE P TT D fr (.binOp .neq t x y t') ty K s0 (.bool (!decide (a=b))):=
 QE.pure λht dst iS af g ρ hρ w=>by
  have h1:=(ht.at_ hu).1;rw [hu'] at h1;simp [execOp,hρ x _ hx,hρ y _ hy,eqGuard,binOp,qlq h1]
end
def iH(s:World)(b off:Nat)(vs:LVal9):Prop:=∀ j v,vs[j]?=some v->s.cell? ⟨b,off+j,none⟩=some v
def iH.le{b:Nat}(h:iH s b off vs)(hl:Le D s s'):iH s' b off vs:=λj v hj=>hl.cell (h j v hj)
def iH.one{b:Nat}(h:s.cell? ⟨b,off,none⟩=some v):iH s b off [v]:=λj u hj=>by
 cases j with
 | zero=>simp at hj;subst hj;exact h
 | succ j=>simp at hj
def add_lit(b off j:Nat):(⟨b,off,none⟩:Addr).add j=⟨b,off+j,none⟩:=by unfold Addr.add;split<;>simp_all
section
variable{TT:kG}
def IL{p:Prop} (h:p:=by
 obtain ⟨h1,h2,_⟩:=h;rw [hk] at h2;unfold isAgg;simp only [bA,aQ h1,aP];generalize ti.desc=dd at h2;cases dd<;>simp_all [TK.fits]):p:=h
def qls{t:Nat}(h:ti.ok P t)(hk:ti.kind=.sc)(w:World):(isAgg t).run P w=.ok false w:=by
 exact IL
def WU{p:Prop} (h:p:=by
 obtain ⟨h1,h2,_⟩:=h;rw [hk] at h2;unfold isAgg;simp only [TK.fits] at h2;simp [aQ h1,h2]):p:=h
def qlt{t:Nat}(h:ti.ok P t)(hk:ti.kind=.sl e)(w:World):(isAgg t).run P w=.ok false w:=by
 exact WU
def qlu{t:Nat}(h:ti.ok P t)(hk:ti.kind=.st os)(w:World):(isAgg t).run P w=.ok true w:=by
 exact IL
def qlr{t:Nat}(h:ti.ok P t)(hk:ti.kind=.ar m e)(w:World):(isAgg t).run P w=.ok true w:=by
 exact WU
def BU{t:Nat}(h:ti.ok P t):∃ i,P.info? t=some i/\i.size=ti.size/\i.bytes=ti.bytes/\i.zero=some ti.zero:=by
 obtain ⟨_,_,h3,_⟩:=h;cases hi:P.info? t with
 | none=>simp [hi] at h3
 | some i=>simp [hi] at h3;exact ⟨i,rfl,h3.1,h3.2.1,h3.2.2⟩
def Bk{t:Nat}(h:ti.ok P t)(w:World):(sizeOf t).run P w=.ok ti.size w:=by
 obtain ⟨i,h1,h2,_,_⟩:=BU h;simp [sizeOf,typeInfo,h1,h2]
def Db{t:Nat}(h:ti.ok P t)(w:World):(zeroValue t).run P w=.ok ti.zero w:=by
 obtain ⟨i,h1,_,_,h2⟩:=BU h;simp [zeroValue,typeInfo,h1,h2]
def MZ{t:Nat}(h:ti.ok P t)(w:World):(isAgg t).run P w=.ok (!uC ti.kind) w:=by
 cases hk:ti.kind with
 | sc=>exact qls h hk w
 | sl e=>exact qlt h hk w
 | st os=>exact qlu h hk w
 | ar m e=>exact qlr h hk w
def Iq{p:Prop} (h:p:=by
 have hl:ti.J.length=1:=by rw [h4];exact h7 (by rw [hk];rfl)
 match hz:ti.J,hl with
 | [z],_=>rw [hz] at h5;simp at h5;simp only [List.headD];cases z<;>simp_all [Value.oneCell',Value.cells]):p:=h
def EE{t:Nat}(h:ti.ok P t):ti.zero.cells=ti.J.toArray:=by
 obtain ⟨h1,h2,h3,h4,h5,h6,h7,_⟩:=h;unfold TI.zero;cases hk:ti.kind with
 | st os=>rfl
 | ar m e=>rfl
 | sc=>
  exact Iq
 | sl e=>
  exact Iq
def Ka(t:TypeId)(cs:Array Value)(w:World):(newRow t cs).run P w=.ok ⟨w.heap.size,0,none⟩ (w.alloc (.cells cs t)):=by
 simp [newRow]
def mZ:Value->LVal9
 | .agg cs=>cs.toList
 | v=>[v]
def MI(v:Value):v.cells=(mZ v).toArray:=by cases v<;>simp [Value.cells,mZ]
def Rn{t:Nat}(h:ti.ok P t)(hk:uC ti.kind=true){a:Addr}(hc:w.cell? a=some v):(loadVar t a).run P w=.ok v w:=by
 simp [loadVar,MZ h,hk,hc]
def Rm{t:Nat}{ti:TI}(h:ti.ok P t)(hk:uC ti.kind=false){w:World}{b:Nat}(hl:vs.length=ti.size)
  (hc:∀ j v,vs[j]?=some v->w.cell? ⟨b,off+j,none⟩=some v):(loadVar t ⟨b,off,none⟩).run P w=.ok (.agg vs.toArray) w:=by
 have h1:=run_loadCells_list (P:=P) w ⟨b,off,none⟩ vs (λj v hj=>by rw [add_lit];exact hc j v hj);simp [loadVar,MZ h,hk,Bk h,<- hl,h1]
def qqf(ho:jX D L s){b t:Nat}(hi:L[i]?=some (b,cb zs t))(j:Nat):(fill L s).cell? ⟨b,j,none⟩=zs[j]?:=by
 have:=qc ho (ay hi);simp [World.cell?,this,cb]
def cut(zs:LVal9)(off:Nat):Nat->Option LVal9
 | 0=>some []
 | n+1=>match nth zs off with
  | some v=>match cut zs (off+1) n with
   | some r=>some (v::r)
   | none=>none
  | none=>none
def Sx(h:cut zs off n=some vs):vs.length=n/\∀ j v,vs[j]?=some v->zs[off+j]?=some v:=by
 induction n generalizing off vs with
 | zero=>simp [cut] at h;subst h;simp
 | succ n ih=>
  simp only [cut] at h;cases h1:nth zs off with
  | none=>simp [h1] at h
  | some x=>
   cases h2:cut zs (off+1) n with
   | none=>simp [h1,h2] at h
   | some r=>
    simp [h1,h2] at h;subst h;obtain ⟨k1,k2⟩:=ih h2;refine ⟨by simp [k1],λj v hj=>?_⟩;cases j with
    | zero=>simp at hj;subst hj;rw [uU] at h1;exact h1
    | succ j=>simp at hj;have:=k2 j v hj;rwa [eX,dV] at this
end
section
variable{TT:kG}{Q:qd}{fr:Fr}{ops:Array Oper}{op:Op}
def Nl{t:Nat}(ht:jH TT t=some ti)(ho:jX D L s):Ev P TT D fr (.alloc t) ty L s (.value (.pointer (some ⟨s.heap.size,0,none⟩))) ((s.heap.size,cb ti.J t)::L) (s.alloc (mA D)):=λhT _ dst iS af g ρ _=>by
 obtain ⟨h1,h2,h3⟩:=pU ho (cb ti.J t);refine ⟨?_,h2⟩;have hz:=EE (hT.at_ ht);simp only [execOp,Instr.alloc,bA,Db (hT.at_ ht),aP,newVar,Ka,hz,bG,nR];rw [<- h1];rfl
def Ta{t:Nat}(hx:lk fr x=some v)(hz:mZ v=zs)(ho:jX D L s):Ev P TT D fr (.box t x) ty L s (.value (.pointer (some ⟨s.heap.size,0,none⟩))) ((s.heap.size,cb zs t)::L) (s.alloc (mA D)):=λhT _ dst iS af g ρ hρ=>by
 obtain ⟨h1,h2,h3⟩:=pU ho (cb zs t);refine ⟨?_,h2⟩;simp only [execOp,Instr.box,bA,aP,newVar,Ka,bG,nR,hρ x v hx,MI,hz];rw [<- h1];rfl
def qsV{t:Nat}{ti:TI}(ht:jH TT t=some ti)(hd:Nat.blt d n=true)
  (k:∀ β s',Le D s s'->JO P TT D n ops Q iP ((d,jc β)::fr) ((β,cb ti.J t)::L) s'):JO P TT D n ops Q (⟨some d,.alloc t,ty,iS,af,none⟩::iP) fr L s:=λhT a hr ho=>
 zY hd (Nl ht ho) (k _ _ (pU ho (cb ti.J t)).2.2) hT a hr ho
def jp{t:Nat}{ti:TI}(ht:jH TT t=some ti)(zs:LVal9)(hY:ti.J=zs/\Nat.blt d n=true)
  (k:∀ β s',Le D s s'->JO P TT D n ops Q iP ((d,jc β)::fr) ((β,cb zs t)::L) s'):JO P TT D n ops Q (⟨some d,.alloc t,ty,iS,af,none⟩::iP) fr L s:=by obtain ⟨hz,hd⟩:=hY;subst hz;exact qsV ht hd k
def Bs{t:Nat}(hx:lk fr x=some v)(hz:mZ v=zs)(hd:Nat.blt d n=true)
  (k:∀ β s',Le D s s'->JO P TT D n ops Q iP ((d,jc β)::fr) ((β,cb zs t)::L) s'):JO P TT D n ops Q (⟨some d,.box t x,ty,iS,af,none⟩::iP) fr L s:=λhT a hr ho=>
 zY hd (Ta hx hz ho) (k _ _ (pU ho (cb zs t)).2.2) hT a hr ho
def kH{t:Nat}(hY:lk fr x=some (.agg zs.toArray)/\Nat.blt d n=true)
  (k:∀ β s',Le D s s'->JO P TT D n ops Q iP ((d,jc β)::fr) ((β,cb zs t)::L) s'):JO P TT D n ops Q (⟨some d,.box t x,ty,iS,af,none⟩::iP) fr L s:=have ⟨hx,hd⟩:=hY;Bs hx (by simp [mZ]) hd k
def BO{b t:Nat}(ho:jX D L s)(hi:(b,cb zs t)∈L):(fill L s).cell? ⟨b,j,none⟩=zs[j]?:=by
 have:=qc ho hi;simp [World.cell?,this,cb]
def rj{t b:Nat}{ti:TI}(i:Nat)(hY:lk fr x=some (.pointer (some ⟨b,off,none⟩))/\K[i]?=some (b,cb zs t')/\jH TT t=some ti/\uC ti.kind=true)
  (hv:nth zs off=some v):QE P TT D fr (.load t x) ty K s0 v:=have ⟨hx,hi,ht,hk⟩:=hY;λhT dst iS af g ρ hρ L s ho _ hK=>by
 have hc:(fill L s).cell? ⟨b,off,none⟩=some v:=by rw [BO ho (hK _ (ay hi)),<- uU];exact hv
 simp [execOp,hρ x _ hx,Instr.loadAt,Instr.sureAddr,Rn (hT.at_ ht) hk hc]
def Wd{t b:Nat}(i:Nat)(hY:(lk fr x=some (.pointer (some ⟨b,off,none⟩)))/\(K[i]?=some (b,cb zs t'))/\(jH TT t=some ti)/\(uC ti.kind=true)/\(nth zs off=some v)):QE P TT D fr (.load t x) ty K s0 v:=rj i ⟨hY.1,hY.2.1,hY.2.2.1,hY.2.2.2.1⟩ hY.2.2.2.2
def jh{t b:Nat}{ti:TI}(i:Nat)(vs:LVal9)(hY:lk fr x=some (.pointer (some ⟨b,off,none⟩))/\K[i]?=some (b,cb zs t')/\jH TT t=some ti/\uC ti.kind=false/\cut zs off ti.size=some vs):QE P TT D fr (.load t x) ty K s0 (.agg vs.toArray):=have ⟨hx,hi,ht,hk,hv⟩:=hY;λhT dst iS af g ρ hρ L s ho _ hK=>by
 obtain ⟨h1,h2⟩:=Sx hv;have hc:∀ j v,vs[j]?=some v->(fill L s).cell? ⟨b,off+j,none⟩=some v:=λj v hj=>by rw [BO ho (hK _ (ay hi))];exact h2 j v hj
 simp [execOp,hρ x _ hx,Instr.loadAt,Instr.sureAddr,Rm (hT.at_ ht) hk h1 hc]
def qxp{t b:Nat}{ti:TI}(hx:lk fr x=some (.pointer (some ⟨b,off,none⟩)))(ht:jH TT t=some ti)(hk:uC ti.kind=true)
  (hv:s0.cell? ⟨b,off,none⟩=some v):QE P TT D fr (.load t x) ty K s0 v:=λhT dst iS af g ρ hρ L s ho hl _=>by
 simp [execOp,hρ x _ hx,Instr.loadAt,Instr.sureAddr,Rn (hT.at_ ht) hk (EH ho (hl.cell hv))]
def kq{t b:Nat}{ti:TI}(hY:lk fr x=some (.pointer (some ⟨b,off,none⟩))/\jH TT t=some ti/\uC ti.kind=false)
  (hv:iH s0 b off vs) (hl:vs.length=ti.size):QE P TT D fr (.load t x) ty K s0 (.agg vs.toArray):=have ⟨hx,ht,hk⟩:=hY;λhT dst iS af g ρ hρ L s ho ka _=>by
 simp [execOp,hρ x _ hx,Instr.loadAt,Instr.sureAddr,Rm (hT.at_ ht) hk hl (λj v hj=>EH ho (ka.cell (hv j v hj)))]
def nh{t b:Nat}{ti:TI}(j:Nat)(hY:lk fr x=some (.pointer (some ⟨b,off+j,none⟩))/\jH TT t=some ti/\uC ti.kind=true)
  (hv:iH s0 b off vs) (hj:nth vs j=some v):QE P TT D fr (.load t x) ty K s0 v:=have ⟨hx,ht,hk⟩:=hY;qxp hx ht hk (hv j v (by rw [<- uU];exact hj))
def jW{t b:Nat}{ti:TI}(hY:lk fr x=some (.pointer (some ⟨b,off,none⟩))/\jH TT t=some ti/\uC ti.kind=true)
  (hv:iH s0 b off vs) (hj:nth vs 0=some v):QE P TT D fr (.load t x) ty K s0 v:=have ⟨hx,ht,hk⟩:=hY;qxp hx ht hk (hv 0 v (by rw [<- uU];exact hj))
def oO(zs:LVal9)(off:Nat)(vs:LVal9):LVal9:=match vs with
 | []=>zs
 | v::vs=>match zs,off with
  | [],_=>[]
  | _::zs,0=>v::oO zs 0 vs
  | z::zs,o+1=>z::oO zs o (v::vs)
def Dd(zs:LVal9)(off:Nat)(vs:LVal9)(h:off+vs.length<=zs.length):oO zs off vs=zs.take off++vs++zs.drop (off+vs.length):=by
 induction zs generalizing off vs with
 | nil=>cases vs<;>simp_all [oO]
 | cons z zs ih=>
  cases vs with
  | nil=>simp [oO]
  | cons v vs=>
   cases off with
   | zero=>simp only [oO];rw [ih 0 vs (by simp at h ⊢;omega)];simp
   | succ o=>simp only [oO];rw [ih o (v::vs) (by simp at h ⊢;omega)];simp;rw [show o+1+(vs.length+1)=(o+(vs.length+1))+1 by omega];rfl
def XV{b t:Nat}{cs:Array Value}(h:w.heap[b]?=some (.cells cs t fz))(ds:Array Value):w.setRow b ds=oX w b (.cells ds t fz):=by
  refine C9 (C8 λk=>?_) Z Z Z Z;by_cases hk:k=b
  . subst hk
    rw [setRow_heap w k cs ds t fz h,Jt];rcases eM k w.heap.size with h1|h1
    . exact h1
    . rw [bU h1] at h;cases h
  . rw [setRow_other w b k ds hk,EG _ (λe=>hk e.symm)]
def On{t b:Nat}{ti:TI}(i:Nat)(qX:LVal9)(hx:lk fr x=some (.pointer (some ⟨b,off,none⟩)))(hy:lk fr y=some v)(hi:L[i]?=some (b,cb zs t'))(ht:jH TT t=some ti)
  (hl:(mZ v).length=ti.size) (ka:Nat.ble (off+ti.size) zs.length=true) (h1:(mZ v).all (·.oneCell')=true) (hs:oO zs off (mZ v)=qX):Ev P TT D fr (.store t x y) ty L s .skip (lO L i (cb qX t')) s:=λhT ho dst iS af g ρ hρ=>⟨by
  have hg:=qc ho (ay hi);have hle':off+ti.size<=zs.length:=bE ka;have mY:=run_storeCells_at (P:=P) b off t' (mZ v) 0 zs.toArray (fill L s) hg (by simp [hl];omega) Q7;rw [Da ho hi,<- hs,Dd zs off (mZ v) (by rw [hl];exact hle'),cb,<- XV hg];simp only [bB,List.toList_toArray] at mY;have jA:(mZ v).toArray.size=ti.size:=by simpa using hl
  simp only [execOp,hρ x _ hx,hρ y _ hy,Instr.storeAt,Instr.sureAddr,storeVar,MI,bA,bG,aP,Bk (hT.at_ ht),jA,fO,gG,cm,mY,List.toList_toArray],Do ho _ _⟩
def xy{t b:Nat}{ti:TI}(i:Nat)(qX:LVal9)(hY:lk fr x=some (.pointer (some ⟨b,off,none⟩))/\lk fr y=some v/\L[i]?=some (b,cb zs t')/\jH TT t=some ti/\(mZ v).length=ti.size) (ka:Nat.ble (off+ti.size) zs.length=true) (h1:(mZ v).all (·.oneCell')=true) (hs:oO zs off (mZ v)=qX) (hL:lO L i (cb qX t')=L')
  (k:JO P TT D n ops Q iP fr L' s):JO P TT D n ops Q (⟨none,.store t x y,ty,iS,af,none⟩::iP) fr L s:=by
 obtain ⟨hx,hy,hi,ht,hl⟩:=hY
 subst hL;exact Ow (On i qX hx hy hi ht hl ka h1 hs) k
def Wt{t b:Nat}{ti:TI}(i:Nat)(qX:LVal9)(hY:(lk fr x=some (.pointer (some ⟨b,off,none⟩)))/\(lk fr y=some v)/\(L[i]?=some (b,cb zs t'))/\(jH TT t=some ti)/\((mZ v).length=ti.size)/\(Nat.ble (off+ti.size) zs.length=true)/\((mZ v).all (·.oneCell')=true)/\(oO zs off (mZ v)=qX)/\(lO L i (cb qX t')=L'))
  (k:JO P TT D n ops Q iP fr L' s):JO P TT D n ops Q (⟨none,.store t x y,ty,iS,af,none⟩::iP) fr L s:=xy i qX ⟨hY.1,hY.2.1,hY.2.2.1,hY.2.2.2.1,hY.2.2.2.2.1⟩ hY.2.2.2.2.2.1 hY.2.2.2.2.2.2.1 hY.2.2.2.2.2.2.2.1 hY.2.2.2.2.2.2.2.2 k
end
section
variable{TT:kG}{Q:qd}{fr:Fr}{ops:Array Oper}{op:Op}
def xH:List Nat->Nat->Option Nat
 | [],_=>none
 | x::_,0=>some x
 | _::r,k+1=>xH r k
def qrs(l:List Nat)(i:Nat):xH l i=l[i]?:=by
 induction l generalizing i with
 | nil=>rfl
 | cons x l ih=>cases i<;>simp [xH,ih]
def qmD{t b:Nat}(h:ti.ok P t)(hk:ti.kind=.st os)(hf:xH os f=some fo)(w:World):
  (Instr.fieldAt t (.pointer (some ⟨b,off,none⟩)) f).run P w=.ok (.pointer (some ⟨b,off+fo,none⟩)) w:=by
 obtain ⟨h1,h2,_,_,_,_,_,h8,_⟩:=h;rw [hk] at h2;cases hd:ti.desc with
 | struct fs=>
  rw [hd] at h1 h2 h8;simp only [TK.fits] at h2;rw [qrs,<- h2,db] at hf;cases hff:fs.toList[f]? with
  | none=>simp [hff] at hf
  | some fld=>
   simp [hff] at hf;have mC:0 < P.cellsOf fld.type:=by
    have:=bV.1 (show fs.toList.all (λf=>decide (0 < P.cellsOf f.type))=true from h8) fld (ay hff);simpa using this
   have hff':fs[f]?=some fld:=by simpa using hff
   have jA:∀ w,(sizeOf fld.type).run P w=.ok (P.cellsOf fld.type) w:=by
    intro w;unfold Program.cellsOf at mC ⊢;cases hi:P.info? fld.type with
    | none=>simp [hi] at mC
    | some i=>simp [sizeOf,typeInfo,hi]
   simp [Instr.fieldAt,aQ h1,hff',Instr.sureAddr,fieldPlace,jA,Nat.pos_iff_ne_zero.1 mC,add_lit,hf]
 | _=>rw [hd] at h2;simp [TK.fits] at h2
def pu{t b:Nat}(hY:lk fr x=some (.pointer (some ⟨b,off,none⟩))/\jH TT t=some ti/\ti.kind=.st os/\xH os f=some fo):QE P TT D fr (.fieldAddr t x f) ty K s0 (.pointer (some ⟨b,off+fo,none⟩)):=have ⟨hx,ht,hk,hf⟩:=hY;QE.pure λhT dst iS af g ρ hρ w=>by simp [execOp,hρ x _ hx,qmD (hT.at_ ht) hk hf]
def Rf{t b:Nat}(hx:lk fr x=some (.pointer (some ⟨b,off,none⟩)))(ht:jH TT t=some ti)(hk:ti.kind=.st os)(hf:xH os f=some 0):QE P TT D fr (.fieldAddr t x f) ty K s0 (.pointer (some ⟨b,off,none⟩)):=pu ⟨hx,ht,hk,hf⟩
def S4{t b:Nat}(hx:lk fr x=some (jc b))(ht:jH TT t=some ti)(hk:ti.kind=.st os)(hf:xH os f=some fo):QE P TT D fr (.fieldAddr t x f) ty K s0 (.pointer (some ⟨b,fo,none⟩)):=by
 have:=pu (P:=P) (D:=D) (ty:=ty) (K:=K) (s0:=s0) ⟨hx,ht,hk,hf⟩;simpa using this
def We{t b:Nat}(hY:(lk fr x=some (jc b))/\(jH TT t=some ti)/\(ti.kind=.st os)/\(xH os f=some fo)):QE P TT D fr (.fieldAddr t x f) ty K s0 (.pointer (some ⟨b,fo,none⟩)):=S4 hY.1 hY.2.1 hY.2.2.1 hY.2.2.2
def FM{t f:Nat}{ti:TI}(hx:lk fr x=some (.agg vs.toArray))(ht:jH TT t=some ti)(hk:ti.kind=.st os)(hf:xH os f=some fo)
    (hdesc:ti.desc=.struct fs) (hfld:fs[f]?=some fld) {BG:TI} (ht':jH TT fld.type=some BG) (rW:uC BG.kind=true) (hv:nth vs fo=some v):QE P TT D fr (.field t x f) ty K s0 v:=
 QE.pure λhT dst iS af g ρ hρ w=>by
  obtain ⟨h1,h2,_⟩:=hT.at_ ht;rw [hk,hdesc] at h2;rw [hdesc] at h1;simp only [TK.fits] at h2;rw [qrs,<- h2] at hf;simp [hfld] at hf;rw [uU] at hv;simp [execOp,hρ x _ hx,Instr.field,aQ h1,hfld,asAgg,part,MZ (hT.at_ ht'),rW,hf,hv]
def qgT{t b len cap:Nat}{i:Int}(h:ti.ok P t)(hk:ti.kind=.sl e)(he:te.ok P e)(h0:0<=i)(h1:i < len)(w:World):
  (Instr.indexAt t (.slice (some ⟨b,off,none⟩) len cap) (.int ik i)).run P w=.ok (.pointer (some ⟨b,off+i.toNat * te.size,none⟩)) w:=by
 obtain ⟨k1,k2,_⟩:=h;rw [hk] at k2;simp only [TK.fits] at k2;rw [k2] at k1;simp [Instr.indexAt,asIntOf,aQ k1,h0,h1,Bk he,add_lit]
def qIl{t b len cap:Nat}{ti te:TI}{i:Int}(hx:lk fr x=some (.slice (some ⟨b,off,none⟩) len cap))(hy:lk fr y=some (.int ik i))(ht:jH TT t=some ti)(hk:ti.kind=.sl e)(he:jH TT e=some te)
  (h0:0<=i) (h1:i < len):QE P TT D fr (.indexAddr t x y) ty K s0 (.pointer (some ⟨b,off+i.toNat * te.size,none⟩)):=
 QE.pure λhT dst iS af g ρ hρ w=>by simp [execOp,hρ x _ hx,hρ y _ hy,qgT (hT.at_ ht) hk (hT.at_ he) h0 h1]
def jR{t b len cap:Nat}{ti te:TI}{sz:Nat}(hY:lk fr x=some (.slice (some ⟨b,off,none⟩) len cap)/\lk fr y=some (.int ik (j:Int))/\jH TT t=some ti/\ti.kind=.sl e/\jH TT e=some te/\te.size=sz) (h1:j < len):QE P TT D fr (.indexAddr t x y) ty K s0 (.pointer (some ⟨b,off+j * sz,none⟩)):=by
 obtain ⟨hx,hy,ht,hk,he,hs⟩:=hY
 have:=qIl (P:=P) (D:=D) (ty:=ty) (K:=K) (s0:=s0) hx hy ht hk he (dM _) O
 rwa [aH,hs] at this
def ly{t b len cap:Nat}{ti te:TI}(hY:lk fr x=some (.slice (some ⟨b,off,none⟩) len cap)/\lk fr y=some (.int ik (j:Int))/\jH TT t=some ti/\ti.kind=.sl e/\jH TT e=some te/\te.size=1) (h1:j < len):QE P TT D fr (.indexAddr t x y) ty K s0 (.pointer (some ⟨b,off+j,none⟩)):=by
 obtain ⟨hx,hy,ht,hk,he,hs⟩:=hY
 have:=jR (P:=P) (D:=D) (ty:=ty) (K:=K) (s0:=s0) ⟨hx,hy,ht,hk,he,hs⟩ h1
 rwa [eG] at this
def qxo{t b len:Nat}{ti te:TI}{sz:Nat}(hx:lk fr x=some (.pointer (some ⟨b,off,none⟩)))(hy:lk fr y=some (.int ik (j:Int)))(ht:jH TT t=some ti)(hk:ti.kind=.ar len e)(he:jH TT e=some te)
  (hs:te.size=sz) (h1:j < len):QE P TT D fr (.indexAddr t x y) ty K s0 (.pointer (some ⟨b,off+j * sz,none⟩)):=
 QE.pure λhT dst iS af g ρ hρ w=>by
  obtain ⟨k1,k2,_⟩:=hT.at_ ht;rw [hk] at k2;simp only [TK.fits] at k2;rw [k2] at k1;simp [execOp,hρ x _ hx,hρ y _ hy,Instr.indexAt,asIntOf,aQ k1,Instr.sureAddr,h1,Bk (hT.at_ he),add_lit,hs]
def Bu{t:Nat}{c:UInt8}(hY:lk fr x=some (St l)/\lk fr y=some (.int ik (j:Int))/\jH TT t=some ti/\ti.desc=.string)(hc:l[j]?=some c):QE P TT D fr (.index t x y) ty K s0 (.int .u8 (c.toNat:Int)):=have ⟨hx,hy,ht,hk⟩:=hY;QE.pure λhT dst iS af g ρ hρ w=>by
  have k1:=(hT.at_ ht).1;rw [hk] at k1;have hb:(⟨l.toArray⟩:ByteArray)[j]?=some c:=by
   obtain ⟨lm,hv⟩:=al.1 hc;have hlt':j < (⟨l.toArray⟩:ByteArray).size:=by simpa [ByteArray.size] using lm
   rw [getElem?_pos (⟨l.toArray⟩:ByteArray) j hlt'];simp only [fb,List.getElem_toArray,hv]
  simp [execOp,hρ x _ hx,hρ y _ hy,Instr.index,asIntOf,aQ k1,hb]
def Ri{t:Nat}{c:Nat}(hx:lk fr x=some (.slice A m c))(ht:jH TT t=some ti)(hk:ti.kind=.sl e):QE P TT D fr (.call { callee:=.builtin .len,args:=#[x],argTypes:=#[t] }) ty K s0 (iJ (m:Int)):=
 QE.pure λhT dst iS af g ρ hρ w=>by
  obtain ⟨k1,k2,_⟩:=hT.at_ ht;rw [hk] at k2;simp only [TK.fits] at k2;rw [k2] at k1;simp [execOp,resolve,invoke,builtin,hρ x _ hx,Builtin.len_,aQ k1,goInt]
def qpF{t:Nat}(hx:lk fr x=some (St l))(ht:jH TT t=some ti)(hk:ti.desc=.string):QE P TT D fr (.call { callee:=.builtin .len,args:=#[x],argTypes:=#[t] }) ty K s0 (iJ (l.length:Int)):=
 QE.pure λhT dst iS af g ρ hρ w=>by
  have k1:=(hT.at_ ht).1;rw [hk] at k1;have jA:(⟨l.toArray⟩:ByteArray).size=l.length:=by simp [ByteArray.size]
  simp [execOp,resolve,invoke,builtin,hρ x _ hx,Builtin.len_,aQ k1,goInt,jA]
def Ga{t:Nat}{BG:TI}(hx:lk fr x=some (.int ik a))(ht:jH TT t=some ti)(ht':jH TT t'=some BG)(hk:ti.desc=.int ik)(rW:BG.desc=.int ik'):QE P TT D fr (.convert t t' x) ty K s0 (.int ik' (ik'.wrap a)):=
 QE.pure λhT dst iS af g ρ hρ w=>by
  have k1:=(hT.at_ ht).1;have k2:=(hT.at_ ht').1;rw [hk] at k1;rw [rW] at k2;simp [execOp,hρ x _ hx,convert,aQ k1,aQ k2,Conv.intToInt]
def sn{t:Nat}{c:Int}{BG:TI}(hY:lk fr x=some (.int ik a)/\jH TT t=some ti/\jH TT t'=some BG/\ti.desc=.int ik/\BG.desc=.int ik')(hc:ik'.wrap a=c):QE P TT D fr (.convert t t' x) ty K s0 (.int ik' c):=have ⟨hx,ht,ht',hk,rW⟩:=hY;hc▸Ga hx ht ht' hk rW
def tN(fr:Fr):List Operand->Option LVal9
 | []=>some []
 | x::r=>match lk fr x with
  | some v=>match tN fr r with
   | some vs=>some (v::vs)
   | none=>none
  | none=>none
def SZ{fr:Fr}{ρ:Operand->Value}(hρ:∀ x v,lk fr x=some v->ρ x=v)(h:tN fr xs=some vs):xs.map ρ=vs:=by
 induction xs generalizing vs with
 | nil=>simp [tN] at h;subst h;rfl
 | cons x xs ih=>
  simp only [tN] at h;cases h1:lk fr x with
  | none=>simp [h1] at h
  | some v=>
   cases h2:tN fr xs with
   | none=>simp [h1,h2] at h
   | some r=>simp [h1,h2] at h;subst h;simp [hρ x v h1,ih h2]
def qw{f:FuncId}(hv:tN fr xs=some vs):QE P TT D fr (.makeFunc (.func f) #[] xs.toArray) ty K s0 (.func (.func f) #[] vs.toArray):=
 QE.pure λhT dst iS af g ρ hρ w=>by simp [execOp,Instr.makeFunc,SZ hρ hv]
def sR(P:Program)(f:FuncId):Prop:=∃ fn,P.funcs[f]?=some fn/\(fn.name == "runtime.NumGoroutine")=false/\fn.body.isNone=false
def AC(P:Program)(D:Nat)(f:FuncId)(args:LVal9)(L:Hl)(s:World)(R:Value->Hl->World->Prop):Prop:=
 sR P f/\(jX D L s->Calls P f args.toArray (fill L s) λe w'=>∃ v L' s',e=.returned v/\w'=fill L' s'/\jX D L' s'/\Le D s s'/\R v L' s')
def AC.mono{f:FuncId}{args:LVal9}(h:AC P D f args L s R)(hr:∀ v L' s',Le D s s'->R v L' s'->R' v L' s'):AC P D f args L s R':=
 ⟨h.1,λho=>(h.2 ho).mono λ_ _ ⟨v,L',s',h1,h2,h3,h4,h5⟩=>⟨v,L',s',h1,h2,h3,h4,hr _ _ _ h4 h5⟩⟩
def TJ{p:Prop} (h:p:=by
 rintro e w' ⟨v,L',s',rfl,rfl,h4,h5,h6⟩;exact k v L' s' h5 h6 hT _ (hr.put hd v) h4):p:=h
def E7{p:Prop} (h:p:=by
 have h2':¬ fn.name = "runtime.NumGoroutine" := by simpa using h2
 have h3':¬ fn.body=none:=by intro e;simp [e] at h3
 simp [execOp,resolve,Deferred.ofValue,invoke,callFunc,hρ x _ hx,SZ hρ hv,h1,h2',h3']):p:=h
def vv{f:FuncId}{first captured:LVal9}{R:Value->Hl->World->Prop}(hY:(lk fr x=some (.func (.func f) first.toArray captured.toArray))/\tN fr xs=some vs/\Nat.blt d n=true) (h:AC P D f (first++vs++captured) L s R) (k:∀ v L' s',Le D s s'->R v L' s'->JO P TT D n ops Q iP ((d,v)::fr) L' s') :
  JO P TT D n ops Q (⟨some d,.call { callee:=.value x,args:=xs.toArray,argTypes:=ts },ty,iS,af,none⟩::iP) fr L s:=have ⟨hx,hv,hd⟩:=hY;λhT a hr ho=>by
 obtain ⟨⟨fn,h1,h2,h3⟩,hc⟩:=h;have hρ:∀ x v,lk fr x=some v->a.eval x=v:=λx v hx=>hr.ev hx;simp only [wpList,Region.wanted,bS];refine .inl ?_;have jO:(execOp a.eval ⟨some d,.call { callee:=.value x,args:=xs.toArray,argTypes:=ts },ty,iS,af,none⟩).run P (fill L s)=.ok (.enter f (first++vs++captured).toArray) (fill L s):=by
  exact E7
 simp only [Oper.wp,jO,Oper.upon];refine (hc ho).mono ?_;exact TJ
def Jc{f:FuncId}{R:Value->Hl->World->Prop}(hY:(lk fr x=some (.func (.func f) ([]:LVal9).toArray ([]:LVal9).toArray))/\tN fr xs=some vs/\Nat.blt d n=true) (h:AC P D f (([]:LVal9)++vs++[]) L s R) (k:∀ v L' s',Le D s s'->R v L' s'->JO P TT D n ops Q iP ((d,v)::fr) L' s') :
  JO P TT D n ops Q (⟨some d,.call { callee:=.value x,args:=xs.toArray,argTypes:=ts },ty,iS,af,none⟩::iP) fr L s:=have ⟨hx,hv,hd⟩:=hY;vv (first:=[]) (captured:=[]) ⟨hx,hv,hd⟩ h k
def Je{f:FuncId}{w:Value}(hY:(lk fr x=some (.func (.func f) ([]:LVal9).toArray ([]:LVal9).toArray))/\tN fr xs=some vs/\Nat.blt d n=true) (h:AC P D f (([]:LVal9)++vs++[]) L s λv L' _=>v=w/\L=L') (k:∀ s',Le D s s'->JO P TT D n ops Q iP ((d,w)::fr) L s') :
  JO P TT D n ops Q (⟨some d,.call { callee:=.value x,args:=xs.toArray,argTypes:=ts },ty,iS,af,none⟩::iP) fr L s:=have ⟨hx,hv,hd⟩:=hY;Jc ⟨hx,hv,hd⟩ h (λv L' s' hl e=>by obtain ⟨rfl,rfl⟩:=e;exact k s' hl)
inductive ql(TT:kG)(fr:Fr)(L:Hl):List ResultVar->LVal9->Prop
 | nil:ql TT fr L [] []
 | tmp {t:Nat} {v:Value} {rs vs} (h:kO fr t=some v) (k:ql TT fr L rs vs):ql TT fr L (.tmp t::rs) (v::vs)
 | one {a t t' b:Nat} {ti:TI} {zs:LVal9} {v:Value} {rs vs} (i:Nat) (h:kO fr a=some (.pointer (some ⟨b,0,none⟩))) (hi:L[i]?=some (b,cb zs t')) (ht:jH TT t=some ti) (hk:uC ti.kind=true) (hv:nth zs 0=some v) (k:ql TT fr L rs vs):ql TT fr L (.cell a t::rs) (v::vs)
 | agg {a t t' b:Nat} {ti:TI} {zs us:LVal9} {rs vs} (i:Nat) (h:kO fr a=some (.pointer (some ⟨b,0,none⟩))) (hi:L[i]?=some (b,cb zs t')) (ht:jH TT t=some ti) (hk:uC ti.kind=false) (hv:cut zs 0 ti.size=some us) (k:ql TT fr L rs vs):ql TT fr L (.cell a t::rs) (.agg us.toArray::vs)
def ql.t1{TT:kG}{fr:Fr}{t:Nat}(h:kO fr t=some v):ql TT fr L [.tmp t] [v]:=.tmp h .nil
def kB:LVal9->Value
 | [v]=>v
 | vs=>.tuple vs.toArray
def DL(tmps:Array Value):ResultVar->Sem Value
 | .tmp t=>pure (tmps.getD t undef)
 | .cell a t=>do loadVar t (<- asAddr (tmps.getD a undef))
def RD(fn:Func)(tmps:Array Value):results fn tmps=(do let vs <- fn.results.mapM (DL tmps);pure (if h:vs.size=1 then vs[0] else .tuple vs)):=by
 unfold results;congr 1
def ql.run(hT:jZ P TT){a:Act}(hr:jE n a fr)(ho:jX D L s)(h:ql TT fr L rs vs):
  (rs.mapM (DL a.tmps)).run P (fill L s)=.ok vs (fill L s):=by
 have hs:∀ t v,kO fr t=some v->a.tmps.getD t undef=v:=λt v hv=>by
  have:=hr.slot t (hr.ai t v hv) v hv;simp [this]
 induction h with
 | nil=>simp
 | tmp h k ih=>simp only [fZ,DL,hs _ _ h,bA,bG,aP,ih]
 | one i h hi ht hk hv k ih=>
  rename_i b _ zs v _ _;have hc:(fill L s).cell? ⟨b,0,none⟩=some v:=by rw [qqf ho hi,<- uU];exact hv
  simp only [fZ,DL,hs _ _ h,asAddr,bA,bG,aP,Rn (hT.at_ ht) hk hc,ih]
 | agg i h hi ht hk hv k ih=>
  rename_i b _ zs us _ _;obtain ⟨h1,h2⟩:=Sx hv;have hc:∀ j v,us[j]?=some v->(fill L s).cell? ⟨b,0+j,none⟩=some v:=λj v hj=>by rw [qqf ho hi];exact h2 j v hj
  simp only [fZ,DL,hs _ _ h,asAddr,bA,bG,aP,Rm (hT.at_ ht) hk h1 hc,ih]
def mM(TT:kG)(D:Nat)(rs:List ResultVar)(s0:World)(R:Value->Hl->World->Prop):qd:=λe fr L s=>
 (e=.normal\/e=.ret)/\∃ vs A L',ql TT fr L rs vs/\L=A++L'/\Le D s0 s/\∀ s',Le D s s'->R (kB vs) L' s'
def nj(k:Nat):LVal9->Fr
 | []=>[]
 | v::vs=>(k,v)::nj (k+1) vs
def MM(vs:LVal9)(k t:Nat):kO (nj k vs) t=if k<=t then vs[t - k]? else none:=by
  induction vs generalizing k with
  | nil=>simp [nj,kO]
  | cons v vs ih=>
    rw [nj,vz,ih];by_cases h:k=t
    . subst h;simp
    . by_cases h2:k+1<=t
      . have:t - k=(t - (k+1))+1:=by omega
        simp [h,h2,show k<=t by omega,this]
      . simp [h,h2,show ¬ k<=t by omega]
def QO{p:Prop} (h:p:=by
  refine ⟨by simp [hnt];omega,Z,λt ht v hv=>?_,λt v hv=>?_⟩
  . rw [MM] at hv
    simp at hv;obtain ⟨lm,_⟩:=al.1 hv;simp [ib,lm];exact (al.1 hv).2
  . rw [MM] at hv
    simp at hv;obtain ⟨lm,_⟩:=al.1 hv;omega):p:=h
def HN{p:Prop} (h:p:=by
 have h1:=ql.run hT k1 k2 hres;have h2:(fn.results.mapM (DL a.tmps)).run P (fill (A++L') s1)=.ok vs.toArray (fill (A++L') s1):=by
  rw [eS];simp only [gH,bA,h1,aP,bG]
 rw [RD];simp only [bA,h2,aP,bG];congr 1;match vs with
 | []=>rfl
 | [v]=>rfl
 | v::u::r=>simp [kB]):p:=h
def jv{f:FuncId}{c:Code}{args:LVal9}{R:Value->Hl->World->Prop}(hT:jZ P TT)(hf:P.funcs[f]?=some fn)(hn:(fn.name == "runtime.NumGoroutine")=false)(hb:fn.body=some c)(hnt:fn.ntmps=n)(ka:Nat.ble args.length n=true)(zM:fn.results.toList=rs)(xP:Fr)(ou:nj 0 args=xP)
  (h:JC P TT D n (mM TT D rs s R) c xP L s):AC P D f args L s R:=by
 subst ou;subst zM;refine ⟨⟨fn,hf,hn,by simp [hb]⟩,λho=>calls_of_wp hf hb ?_⟩;have hle':args.length<=n:=bE ka;have hr:jE n { tmps:=args.toArray++Array.replicate (fn.ntmps - args.toArray.size) undef,defers:=[] } (nj 0 args):=by
  exact QO
 refine eU (h hT _ hr ho) ?_;rintro e a w ⟨jS,L1,s1,k1,k2,rfl,he,vs,A,L',hres,rfl,hle1,hR⟩;obtain ⟨d1,d2,d3⟩:=sK k2;have jO:(results fn a.tmps).run P (fill (A++L') s1)=.ok (kB vs) (fill (A++L') s1):=by
  exact HN
 have hpost:∃ v,(results fn a.tmps).run P (fill (A++L') s1)=.ok v (fill (A++L') s1)/\∃ v_1 L'_1 s',Ending.returned v=.returned v_1/\fill (A++L') s1=fill L'_1 s'/\jX D L'_1 s'/\Le D s s'/\R v_1 L'_1 s':=
  ⟨_,jO,_,L',fill A s1,rfl,d1,d2,hle1.trans d3,hR _ d3⟩
 rcases he with rfl|rfl
 . exact ⟨k1.defers,hpost⟩
 . exact ⟨k1.defers,hpost⟩
def jd{J:Fr->Hl->World->Prop}(h:J fr L s):lZ J Q .normal fr L s:=h
def qBT{J:Fr->Hl->World->Prop}(h:Q .ret fr L s):lZ J Q .ret fr L s:=h
def qBU{J:Fr->Hl->World->Prop}(h:Q (.exit i) fr L s):lZ J Q (.exit i) fr L s:=h
def qtv{id:Nat}(h:Q .normal fr L s):mF id Q .normal fr L s:=h
def qtw{id:Nat}(h:Q .ret fr L s):mF id Q .ret fr L s:=h
def qtx{id:Nat}(h:Q .normal fr L s):mF id Q (.exit id) fr L s:=by simpa [mF] using h
def qp7{id:Nat}(hi:Nat.beq i id=false)(h:Q (.exit i) fr L s):mF id Q (.exit i) fr L s:=by
 have:i≠id:=λe=>by subst e;simp at hi
 simpa [mF,this] using h
def lC{e:Exit}(A L':Hl)(he:e=.normal\/e=.ret)(h:ql TT fr L rs vs)(hL:L=A++L')(hl:Le D s0 s)(hR:∀ s',Le D s s'->R (kB vs) L' s'):mM TT D rs s0 R e fr L s:=
 ⟨he,vs,A,L',h,hL,hl,hR⟩
def rR(A L':Hl)(h:ql TT fr L rs vs)(hL:L=A++L')(hl:Le D s0 s)(hR:∀ s',Le D s s'->R (kB vs) L' s'):mM TT D rs s0 R .ret fr L s:=lC A L' (.inr rfl) h hL hl hR
def rX{r:Nat}{TT:kG}{fr:Fr}(A L':Hl)(h:kO fr r=some v)(hl:Le D s0 s)(hR:∀ s',Le D s s'->R (kB [v]) L' s')(hL:L=A++L':=by exact Z):mM TT D [.tmp r] s0 R .ret fr L s:=rR A L' (.t1 h) hL hl hR
def rY{r:Nat}{TT:kG}{fr:Fr}(h:kO fr r=some v)(hR:∀ s',Le D s s'->R (kB [v]) L s'):mM TT D [.tmp r] s R .ret fr L s:=rR [] L (.t1 h) Z (Lr D) hR
end
def SH(D:Nat)(K:Hl)(s0:World):World->Prop:=λw=>∃ L s,w=fill L s/\jX D L s/\Le D s0 s/\∀ x∈K,x∈L
def Vl(Q:Exit->Act->World->Prop):Exit->Act->World->Prop
 | .panic _,_,_=>False
 | e,a,w=>Q e a w
def CM(D n:Nat)(Q:qd):Exit->Act->World->Prop
 | .panic ch,a,w=>jE n a []/\∃ L s,jX D L s/\w=fill L s/\∀ fr,Q (.panic ch) fr L s
 | e,a,w=>yG D n Q e a w
def jE.bare{a:Act}{fr:Fr}(h:jE n a fr):jE n a []:=⟨h.size,h.defers,λt ht v hv=>by simp [kO] at hv,λt v hv=>by simp [kO] at hv⟩
def jE.unput{a:Act}{d:Option Nat}(h:jE n (a.put d v) []):jE n a []:=by
  refine ⟨?_,?_,λt ht v hv=>by simp [kO] at hv,λt v hv=>by simp [kO] at hv⟩
  . have:=h.size
    cases d<;>simpa [Act.put] using this
  . have:=h.defers
    cases d<;>simpa [Act.put] using this
def JA(P:Program)(TT:kG)(D n:Nat)(ops:Array Oper)(Q:qd)(K:Hl)(s0:World)(jr:Nat)(iK:Array Bool)(fr:Fr)(L:Hl)(s:World):Prop:=
 jZ P TT->∀ a,jE n a fr->jX D L s->Le D s0 s->(∀ x∈K,x∈L)->wpAnyH P .any ops (CM D n Q) (SH D K s0) jr iK a (fill L s)
def JB(P:Program)(TT:kG)(D n:Nat)(ops:Array Oper)(Q:qd)(K:Hl)(s0:World)(jr:Nat)(iK:Array Bool)(i:Nat)(fr:Fr)(L:Hl)(s:World):Prop:=
 jZ P TT->∀ a,jE n a fr->jX D L s->Le D s0 s->(∀ x∈K,x∈L) ->
  wpOp P ops (CM D n Q) i (λa' w'=>SH D K s0 w'/\wpAnyH P .any ops (CM D n Q) (SH D K s0) jr (iK.setIfInBounds i true) a' w') a (fill L s)
def rz(ops:Array Oper)(fr:Fr):Option (Nat×Bool)->Prop
 | none=>True
 | some (j,w)=>∃ t,vF ops j=some t/\kO fr t=some (.bool w)
section
variable{TT:kG}{Q:qd}{fr:Fr}{ops:Array Oper}{op:Op}{g:Option (Nat×Bool)}{iK:Array Bool}
def rz.wanted{a:Act}(hr:jE n a fr)(h:rz ops fr g):Region.wanted ⟨dst,op,ty,iS,af,g⟩ (yielded ops a.tmps)=true:=by
 cases g with
 | none=>rfl
 | some jw=>
  obtain ⟨j,w⟩:=jw;obtain ⟨t,h1,h2⟩:=h;have h3:=hr.slot t (hr.ai _ _ h2) _ h2;unfold vF at h1;simp [Region.wanted,yielded,h1,h3]
def YG{x:Nat×Obj}(h:x∈L.eraseIdx i):x∈lO L i o:=by
 induction L generalizing i with
 | nil=>simp at h
 | cons y L ih=>
  cases i with
  | zero=>exact aq _ Q4
  | succ i=>
   simp only [fa,aW] at h;rcases h with rfl|h
   . exact cV ..
   . exact aq _ (ih h)
def mT{a b:List α}{x:α}(h:a.Sublist b):(x::a).Sublist (x::b):=List.cons_sublist_cons.2 h
def lq{a b:List α}{x:α}(h:a.Sublist b):a.Sublist (x::b):=List.Sublist.cons _ h
def FB{a b:List α}{x0 x1:α}(h:a.Sublist b):(a).Sublist (x0::x1::b):=lq (lq (h))
def nK{a b:List α}{x0 x1 x2:α}(h:a.Sublist b):(a).Sublist (x0::x1::x2::b):=lq (lq (lq (h)))
def sbn4{a b:List α}{x0 x1 x2 x3:α}(h:a.Sublist b):(a).Sublist (x0::x1::x2::x3::b):=lq (lq (lq (lq (h))))
def kX{a b:List α}{x0 x1:α}(h:a.Sublist b):(x0::x1::a).Sublist (x0::x1::b):=mT (mT (h))
def vG{a b:List α}{x0 x1 x2:α}(h:a.Sublist b):(x0::x1::x2::a).Sublist (x0::x1::x2::b):=mT (mT (mT (h)))
def kP{a b:List α}{x0 x1 x2 x3:α}(h:a.Sublist b):(x0::x1::x2::x3::a).Sublist (x0::x1::x2::x3::b):=mT (mT (mT (mT (h))))
def jT{a:List α}:a.Sublist a:=gr a
def pG{a:List α}:([]:List α).Sublist a:=cZ a
def qJH{a b:List α}{x:α}(h:a.Sublist b)(hx:x∈a):x∈b:=h.subset hx
def sM{a b:List α}(h:a.Sublist b):∀ x∈a,x∈b:=λ_ hx=>h.subset hx
def ma{id:Nat}{l:List Oper}(hm:P.follows .mixedOrders=true)(N:Nat)(hN:l.length=N)(K:Hl)(hK:∀ x∈K,x∈L)
  (h:∀ s',Le D s s'->JA P TT D n l.toArray Q K s' N (Array.replicate N false) fr L s'):JC P TT D n Q (.region id l.toArray true) fr L s:=λht a hr ho=>by
 subst hN;have h1:=h s.drew (Le.drew s) ht a hr ho.drew (Le.refl _) hK;refine eU (wp_region_held (Q:=CM D n Q) (S:=SH D K s.drew) hm ?_) (λe a w hq=>by
  cases e with
  | panic ch=>obtain ⟨h1,L1,s1,h2,h3,h4⟩:=hq;exact ⟨[],L1,s1,h1,h2,h3,h4 []⟩
  | _=>exact hq)
 rw [<- ZB] at h1;simpa using h1
def jq(hr:Region.ready .any ops iK=[])(h:Q .normal fr L s):JA P TT D n ops Q K s0 jr iK fr L s:=λ_ a hf ho _ _=>
 wpAnyH_done hr ⟨fr,L,s,hf,ho,rfl,h⟩ jr
def IP(i:Nat)(hi:ops[i]?=some ⟨some d,op,ty,iS,af,g⟩)(hs:Region.noSelect ops=true)(hf:Region.free .any ops iK i=true)(hr:(Region.ready .any ops iK).contains i=true)(hg:rz ops fr g)
  (hq:QE P TT D fr op ty K s0 v) (hd:Nat.blt d n=true) (k:JA P TT D n ops Q K s0 jr (iK.setIfInBounds i true) ((d,v)::fr) L s):JA P TT D n ops Q K s0 (jr+1) iK fr L s:=λht a ou ho hl hK=>by
 refine wpAnyH_take hi hs hf hr (λ_ _ _ h=>⟨h.1.unput,h.2⟩) (v:=v) (.inl ⟨hg.wanted ou,?_⟩) ⟨L,s,Z,ho,hl,hK⟩ (k ht _ (ou.put hd v) ho hl hK);rintro w ⟨L2,s2,rfl,h1,h2,h3⟩;exact hq ht _ _ _ _ _ (λx v hx=>ou.ev hx) L2 s2 h1 h2 h3
def qIf(i:Nat){t:Nat}{w b:Bool}(hi:ops[i]?=some ⟨some d,op,ty,iS,af,some (j,w)⟩)(hs:Region.noSelect ops=true)(hf:Region.free .any ops iK i=true)(hr:(Region.ready .any ops iK).contains i=true)
  (hj:vF ops j=some t) (hv:kO fr t=some (.bool b)) (hb:(b != w)=true) (hd:Nat.blt d n=true) (k:JA P TT D n ops Q K s0 jr (iK.setIfInBounds i true) ((d,undef)::fr) L s):JA P TT D n ops Q K s0 (jr+1) iK fr L s:=λht a ou ho hl hK=>by
 refine wpAnyH_take hi hs hf hr (λ_ _ _ h=>⟨h.1.unput,h.2⟩) (v:=undef) (.inr ⟨?_,Z⟩) ⟨L,s,Z,ho,hl,hK⟩ (k ht _ (ou.put hd undef) ho hl hK);have h3:=ou.slot t (ou.ai _ _ hv) _ hv;unfold vF at hj;have mB:(some b == some w)=false:=by cases b<;>cases w<;>simp_all
 simp [Region.wanted,yielded,hj,h3,mB]
def qyR{t:Nat}{b:Bool}(hv:kO fr t=some (.bool b))(h1:b=true->JA P TT D n ops Q K s0 jr iK ((t,.bool true)::fr) L s)(h2:b=false->JA P TT D n ops Q K s0 jr iK ((t,.bool false)::fr) L s):
  JA P TT D n ops Q K s0 jr iK fr L s:=λht a hr ho hl hK=>by
 cases b with
 | true=>exact h1 rfl ht a (hr.sub λt' v' h=>by rw [vz] at h;split at h<;>simp_all) ho hl hK
 | false=>exact h2 rfl ht a (hr.sub λt' v' h=>by rw [vz] at h;split at h<;>simp_all) ho hl hK
def Sv{t:Nat}[Decidable p](hv:kO fr t=some (.bool (decide p)))(h1:p->JA P TT D n ops Q K s0 jr iK ((t,.bool true)::fr) L s)(h2:¬ p->JA P TT D n ops Q K s0 jr iK ((t,.bool false)::fr) L s):
  JA P TT D n ops Q K s0 jr iK fr L s:=qyR hv (λh=>h1 (cU h)) (λh=>h2 (dx h))
def NR{rs:List Nat}(hr:Region.ready .any ops iK=rs)(mB:rs≠[])(h:∀ i∈rs,JB P TT D n ops Q K s0 jr iK i fr L s):JA P TT D n ops Q K s0 (jr+1) iK fr L s:=λht a hf ho hl hK=>
 wpAnyH_all hr mB λi hi=>h i hi ht a hf ho hl hK
def iM(i:Nat)(hr:Region.ready .any ops iK=[i])(h:JB P TT D n ops Q K s0 jr iK i fr L s):JA P TT D n ops Q K s0 (jr+1) iK fr L s:=
 NR hr (by simp) Q4
def kD(i j:Nat)(hr:Region.ready .any ops iK=[i,j])(h:JB P TT D n ops Q K s0 jr iK i fr L s)(h':JB P TT D n ops Q K s0 jr iK j fr L s):JA P TT D n ops Q K s0 (jr+1) iK fr L s:=
 NR hr (by simp) (by simpa using ⟨h,h'⟩)
def xF(i j m:Nat)(hr:Region.ready .any ops iK=[i,j,m])(h:JB P TT D n ops Q K s0 jr iK i fr L s)(h':JB P TT D n ops Q K s0 jr iK j fr L s)(h'':JB P TT D n ops Q K s0 jr iK m fr L s):JA P TT D n ops Q K s0 (jr+1) iK fr L s:=
 NR hr (by simp) (by simpa using ⟨h,h',h''⟩)
def Ca(hi:ops[i]?=some ⟨some d,op,ty,iS,af,g⟩)(hg:rz ops fr g)(h:Ev P TT D fr op ty L s (.value v) L' s')(ka:Le D s s')(AO:∀ x∈K,x∈L->x∈L')(hd:Nat.blt d n=true)(k:JA P TT D n ops Q K s0 jr (iK.setIfInBounds i true) ((d,v)::fr) L' s'):
  JB P TT D n ops Q K s0 jr iK i fr L s:=λht a hf ho hl hK=>by
 obtain ⟨h1,h2⟩:=h ht ho (some d) iS af g a.eval (λx v hx=>hf.ev hx);simp only [wpOp,hi,hg.wanted hf,bS];refine .inl ?_;simp only [Oper.wp,h1,Oper.upon];have hK2:∀ x∈K,x∈L':=λx hx=>AO x hx (hK x hx);exact ⟨⟨L',s',rfl,h2,hl.trans ka,hK2⟩,k ht _ (hf.put hd v) h2 (hl.trans ka) hK2⟩
def Wz(hi:ops[i]?=some ⟨none,op,ty,iS,af,g⟩)(hg:rz ops fr g)(h:Ev P TT D fr op ty L s .skip L' s')(ka:Le D s s')(AO:∀ x∈K,x∈L->x∈L')(k:JA P TT D n ops Q K s0 jr (iK.setIfInBounds i true) fr L' s'):
  JB P TT D n ops Q K s0 jr iK i fr L s:=λht a hf ho hl hK=>by
 obtain ⟨h1,h2⟩:=h ht ho none iS af g a.eval (λx v hx=>hf.ev hx);simp only [wpOp,hi,hg.wanted hf,bS];refine .inl ?_;simp only [Oper.wp,h1,Oper.upon];have hK2:∀ x∈K,x∈L':=λx hx=>AO x hx (hK x hx);exact ⟨⟨L',s',rfl,h2,hl.trans ka,hK2⟩,k ht _ hf h2 (hl.trans ka) hK2⟩
def j5(hi:ops[i]?=some ⟨some d,op,ty,iS,af,g⟩)(hg:rz ops fr g)(h:QE P TT D fr op ty L s v)(hd:Nat.blt d n=true)(k:JA P TT D n ops Q K s0 jr (iK.setIfInBounds i true) ((d,v)::fr) L s):
  JB P TT D n ops Q K s0 jr iK i fr L s:=
 Ca hi hg (λht ho dst iS af g ρ hρ=>⟨h ht dst iS af g ρ hρ L s ho (Le.refl _) (λ_ hx=>hx),ho⟩) (Le.refl _) (λ_ _ h=>h) hd k
def Vz{p:Prop} (h:p:=by
 have hK2:∀ x∈K,x∈L':=λx hx=>k1 x hx (hK x hx);exact ⟨⟨L',s',rfl,h4,hl.trans h5,hK2⟩,k2 hT _ (hf.put hd v) h4 (hl.trans h5) hK2⟩):p:=h
def qyT{f:FuncId}{first captured:LVal9}{R:Value->Hl->World->Prop}(hi:ops[i]?=some ⟨some d,.call { callee:=.value x,args:=xs.toArray,argTypes:=ts },ty,iS,af,g⟩)(hg:rz ops fr g)
  (hx:lk fr x=some (.func (.func f) first.toArray captured.toArray)) (hv:tN fr xs=some vs) (hd:Nat.blt d n=true) (h:AC P D f (first++vs++captured) L s R)
  (k:∀ v L' s',Le D s s'->R v L' s'->(∀ x∈K,x∈L->x∈L')/\JA P TT D n ops Q K s0 jr (iK.setIfInBounds i true) ((d,v)::fr) L' s') :
  JB P TT D n ops Q K s0 jr iK i fr L s:=λhT a hf ho hl hK=>by
 obtain ⟨⟨fn,h1,h2,h3⟩,hc⟩:=h;have hρ:∀ x v,lk fr x=some v->a.eval x=v:=λx v hx=>hf.ev hx;simp only [wpOp,hi,hg.wanted hf,bS];refine .inl ?_;have jO:(execOp a.eval ⟨some d,.call { callee:=.value x,args:=xs.toArray,argTypes:=ts },ty,iS,af,g⟩).run P (fill L s)=.ok (.enter f (first++vs++captured).toArray) (fill L s):=by
  exact E7
 simp only [Oper.wp,jO,Oper.upon];refine (hc ho).mono ?_;rintro e w' ⟨v,L',s',rfl,rfl,h4,h5,h6⟩;obtain ⟨k1,k2⟩:=k v L' s' h5 h6;exact Vz
def Jb{f:FuncId}{R:Value->Hl->World->Prop}(hi:ops[i]?=some ⟨some d,.call { callee:=.value x,args:=xs.toArray,argTypes:=ts },ty,iS,af,g⟩)(hg:rz ops fr g)
  (hx:lk fr x=some (.func (.func f) ([]:LVal9).toArray ([]:LVal9).toArray)) (hv:tN fr xs=some vs) (hd:Nat.blt d n=true) (h:AC P D f (([]:LVal9)++vs++[]) L s R)
  (k:∀ v L' s',Le D s s'->R v L' s'->(∀ x∈K,x∈L->x∈L')/\JA P TT D n ops Q K s0 jr (iK.setIfInBounds i true) ((d,v)::fr) L' s') :
  JB P TT D n ops Q K s0 jr iK i fr L s:=qyT (first:=[]) (captured:=[]) hi hg hx hv hd h k
def Jf{f:FuncId}{w:Value}(hi:ops[i]?=some ⟨some d,.call { callee:=.value x,args:=xs.toArray,argTypes:=ts },ty,iS,af,g⟩)(hg:rz ops fr g)
  (hx:lk fr x=some (.func (.func f) ([]:LVal9).toArray ([]:LVal9).toArray)) (hv:tN fr xs=some vs) (hd:Nat.blt d n=true) (h:AC P D f (([]:LVal9)++vs++[]) L s λv L' _=>v=w/\L=L')
  (k:∀ s',Le D s s'->JA P TT D n ops Q K s0 jr (iK.setIfInBounds i true) ((d,w)::fr) L s') :
  JB P TT D n ops Q K s0 jr iK i fr L s:=Jb hi hg hx hv hd h (λv L' s' hl e=>by obtain ⟨rfl,rfl⟩:=e;exact ⟨λ_ _ h=>h,k s' hl⟩)
def kA{t:Nat}{ti:TI}(hi:ops[i]?=some ⟨some d,.alloc t,ty,iS,af,g⟩)(hg:rz ops fr g)(ht:jH TT t=some ti)(zs:LVal9)(hY:ti.J=zs/\Nat.blt d n=true)
  (k:∀ β s',Le D s s'->JA P TT D n ops Q K s0 jr (iK.setIfInBounds i true) ((d,jc β)::fr) ((β,cb zs t)::L) s'):JB P TT D n ops Q K s0 jr iK i fr L s:=have ⟨hz,hd⟩:=hY;λhT a hf ho hl hK=>by
 subst hz;exact Ca hi hg (Nl ht ho) (pU ho (cb ti.J t)).2.2 (λx _ h=>aq _ h) hd (k _ _ (pU ho (cb ti.J t)).2.2) hT a hf ho hl hK
def ye{t b:Nat}{ti:TI}(rf:ops[i0]?=some ⟨none,.store t x y,ty,iS,af,g⟩)(hg:rz ops fr g)(i:Nat)(qX:LVal9)(hY:lk fr x=some (.pointer (some ⟨b,off,none⟩))/\lk fr y=some v/\L[i]?=some (b,cb zs t')/\jH TT t=some ti/\(mZ v).length=ti.size) (ka:Nat.ble (off+ti.size) zs.length=true) (h1:(mZ v).all (·.oneCell')=true) (hs:oO zs off (mZ v)=qX) (hL:lO L i (cb qX t')=L') (AO:∀ x∈K,x∈L.eraseIdx i)
  (k:JA P TT D n ops Q K s0 jr (iK.setIfInBounds i0 true) fr L' s):JB P TT D n ops Q K s0 jr iK i0 fr L s:=by
 obtain ⟨hx,hy,hi,ht,hl⟩:=hY
 subst hL;exact Wz rf hg (On i qX hx hy hi ht hl ka h1 hs) (Le.refl _) (λx hx _=>YG (AO x hx)) k
def Wu{t b:Nat}{ti:TI}(rf:ops[i0]?=some ⟨none,.store t x y,ty,iS,af,g⟩)(hg:rz ops fr g)(i:Nat)(qX:LVal9)(hY:(lk fr x=some (.pointer (some ⟨b,off,none⟩)))/\(lk fr y=some v)/\(L[i]?=some (b,cb zs t'))/\(jH TT t=some ti)/\((mZ v).length=ti.size)/\(Nat.ble (off+ti.size) zs.length=true)/\((mZ v).all (·.oneCell')=true)/\(oO zs off (mZ v)=qX)/\(lO L i (cb qX t')=L'))(AO:∀ x∈K,x∈L.eraseIdx i)
  (k:JA P TT D n ops Q K s0 jr (iK.setIfInBounds i0 true) fr L' s):JB P TT D n ops Q K s0 jr iK i0 fr L s:=ye rf hg i qX ⟨hY.1,hY.2.1,hY.2.2.1,hY.2.2.2.1,hY.2.2.2.2.1⟩ hY.2.2.2.2.2.1 hY.2.2.2.2.2.2.1 hY.2.2.2.2.2.2.2.1 hY.2.2.2.2.2.2.2.2 AO k
def tr{A:Hl}(h:A.Perm B):∀ s,jX D A s->fill A s=fill B s:=by
 induction h with
 | nil=>intro s _;rfl
 | cons x _ ih=>intro s ho;simp only [fill];rw [ih s ho.tail]
 | swap x y l=>
  intro s ho;simp only [fill];have:=ho.nd;simp only [aS,dv,aW,il] at this;exact Ry _ _ (λe=>this.1.1 e.symm)
 | trans h1 h2 ih1 ih2=>
  intro s ho;rw [ih1 s ho,ih2 s ⟨(h1.map _).nodup_iff.1 ho.nd,λx hx=>ho.dm x (h1.mem_iff.2 hx)⟩]
def jX.perm{A:Hl}(h:A.Perm B)(ho:jX D A s):jX D B s:=⟨(h.map _).nodup_iff.1 ho.nd,λx hx=>ho.dm x (h.mem_iff.2 hx)⟩
def mq{γ:Type}(S:γ->Fr)(H:γ->Hl)(I:γ->World->Prop):Fr->Hl->World->Prop:=λjS L' s'=>∃ g A,je jS (S g)/\L'.Perm (A++H g)/\I g s'
def mq.mk{γ:Type}{S:γ->Fr}{H:γ->Hl}{I:γ->World->Prop}(g:γ)(A:Hl)(h1:je fr (S g))(h2:L.Perm (A++H g))(h3:I g s):mq S H I fr L s:=⟨g,A,h1,h2,h3⟩
def qEI{γ:Type}{x y:Code}(S:γ->Fr)(H:γ->Hl)(I:γ->World->Prop)(mono:∀ g s s',I g s->Le D s s'->I g s')(h1:JC P TT D n (lZ (mq S H I) Q) x fr L s)
  (h2:∀ g s',I g s'->JC P TT D n Q y (S g) (H g) s'):JC P TT D n Q (.seq x y) fr L s:=λht a hr ho=>
 iF (eU (h1 ht a hr ho) λe a w ⟨jS,L',s',k1,k2,k3,k4⟩=>by
  cases e with
  | normal=>
   subst k3;obtain ⟨g,A,j1,j2,j3⟩:=k4;rw [tr j2 _ k2];obtain ⟨e,d1,d2⟩:=sK (k2.perm j2);rw [e];exact h2 g _ (mono _ _ _ j3 d2) ht a (k1.sub j1) d1
  | _=>exact ⟨jS,L',s',k1,k2,k3,k4⟩)
end
def jB(h1:-9223372036854775808<=a)(h2:a<=9223372036854775807):IntKind.i64.wrap a=a:=by
 rw [IntKind.wrap_i64];omega
def xM(places:List (Nat×Nat)):LVal9->List (Nat×Value)->Option LVal9
 | zs,[]=>some zs
 | zs,(i,v)::iP=>match places[i]? with
  | none=>none
  | some (off,size)=>bif (Nat.beq (mZ v).length size && Nat.ble (off+size) zs.length) then xM places (oO zs off (mZ v)) iP else none
def XT(vs:LVal9)(off k:Nat)(zs:LVal9)(h:off+k+vs.length<=zs.length):
  (vs.zipIdx k).foldl (λ(cs:Array Value) (x:Value×Nat)=>cs.setIfInBounds (off+x.2) x.1) zs.toArray=(oO zs (off+k) vs).toArray:=by
 induction vs generalizing k zs with
 | nil=>cases zs<;>simp [oO]
 | cons v vs ih=>
  simp only [List.zipIdx_cons,gW];have h0:off+k < zs.length:=by simp at h;omega
  rw [List.setIfInBounds_toArray,ih (k+1) _ (by simp at h ⊢;omega)];congr 1;rw [Dd _ _ _ (by simp at h ⊢;omega),Dd _ _ _ Q4];simp only [au];rw [show off+(k+1)=off+k+1 by omega];rw [bM (by simpa using h0),List.take_set_of_le O,List.drop_set];simp [show ¬ (off+k+1+vs.length<=off+k) by omega,show off+k < off+k+1+vs.length by omega];congr 1;omega
def V_(places:List (Nat×Nat))(f:Nat->Option (Nat×Nat))(hf:∀ i,f i=places[i]?)(zs:LVal9)(parts:List (Nat×Value))(h:xM places zs parts=some vs):
    Instr.fill f zs.toArray parts=some vs.toArray:=by
  induction parts generalizing zs with
  | nil=>simp [xM] at h;subst h;rfl
  | cons p iP ih=>
    obtain ⟨i,v⟩:=p;simp only [xM] at h;simp only [Instr.fill,hf];cases hp:places[i]? with
    | none=>simp [hp] at h
    | some os=>
      obtain ⟨off,size⟩:=os;simp only [hp,cond_eq_ite] at h;by_cases hc:(Nat.beq (mZ v).length size && Nat.ble (off+size) zs.length)=true
      . simp only [hc,bS] at h
        simp only [aA] at hc;have h1:(mZ v).length=size:=ez hc.1;have h2:off+size<=zs.length:=bE hc.2;have h3:=XT (mZ v) off 0 zs O;simp only [MI,eC,h1,fO,gG,iy,ep,gt_iff_lt,aF,show ¬ zs.length < off+size by omega,cm];have e:(mZ v).toArray.zipIdx=((mZ v).zipIdx 0).toArray:=by simp
        rw [e];simp only [List.foldl_toArray,bB] at h3 ⊢;rw [h3];exact ih _ h
      . simp only [hc] at h;cases h
section
variable{TT:kG}{Q:qd}{fr:Fr}{ops:Array Oper}{op:Op}
def Be(fr:Fr):List (Nat×Operand)->Option (List (Nat×Value))
 | []=>some []
 | (i,x)::r=>match lk fr x with
  | some v=>match Be fr r with
   | some vs=>some ((i,v)::vs)
   | none=>none
  | none=>none
def qre{fr:Fr}{ρ:Operand->Value}(hρ:∀ x v,lk fr x=some v->ρ x=v){xs:List (Nat×Operand)}{vs:List (Nat×Value)}(h:Be fr xs=some vs):xs.map (λp=>(p.1,ρ p.2))=vs:=by
 induction xs generalizing vs with
 | nil=>simp [Be] at h;subst h;rfl
 | cons p xs ih=>
  obtain ⟨i,x⟩:=p;simp only [Be] at h;cases h1:lk fr x with
  | none=>simp [h1] at h
  | some v=>
   cases h2:Be fr xs with
   | none=>simp [h1,h2] at h
   | some r=>simp [h1,h2] at h;subst h;simp [hρ x v h1,ih h2]
def qo5{fs:List Field}{l:List Nat}(h:fs.map (λf=>P.cellsOf f.type)=l)(hp:fs.all (λf=>decide (0 < P.cellsOf f.type))=true)(w:World):
  (fs.mapM (m:=Sem) λf=>do pure (f.offset,<- sizeOf f.type)).run P w=.ok ((fs.map (·.offset)).zip l) w:=by
 induction fs generalizing l with
 | nil=>subst h;simp
 | cons f fs ih=>
  subst h;simp only [eb,aA,aF] at hp;have jA:(sizeOf f.type).run P w=.ok (P.cellsOf f.type) w:=by
   have mC:=hp.1;unfold Program.cellsOf at mC ⊢;cases hi:P.info? f.type with
   | none=>simp [hi] at mC
   | some i=>simp [sizeOf,typeInfo,hi]
  simp only [fZ,bA,jA,aP,bG,ih rfl hp.2,aS,List.zip_cons_cons]
def jC{t:Nat}{ti:TI}(lx:List (Nat×Value))(vs:LVal9)(hY:jH TT t=some ti/\ti.kind=.st os/\Be fr ps=some lx){zs fz:List _}(hz:ti.J=zs)(hfz:ti.fsz=fz)
  (hb:xM (os.zip fz) zs lx=some vs):QE P TT D fr (.build t ps.toArray) ty K s0 (.agg vs.toArray):=have ⟨ht,hk,hv⟩:=hY;QE.pure λhT dst iS af g ρ hρ w=>by
  subst hz;subst hfz;have l9:=hT.at_ ht;have hok2:=l9;obtain ⟨h1,h2,_,_,_,_,_,h8,h9⟩:=hok2;rw [hk] at h2;cases hd:ti.desc with
  | struct fs=>
   rw [hd] at h1 h2 h8 h9;simp only [TK.fits] at h2;have Bb:=qo5 (P:=P) (w:=w) (fs:=fs.toList) (show fs.toList.map (λf=>P.cellsOf f.type)=ti.fsz from h9) h8;have hz:ti.zero.cells=ti.J.toArray:=EE l9;have hpl':(fs.mapM (m:=Sem) λf=>do pure (f.offset,<- sizeOf f.type)).run P w=.ok (os.zip ti.fsz).toArray w:=by
    rw [eS];simp only [gH,bA,Bb,aP,bG,h2]
   have hfill:=V_ (os.zip ti.fsz) ((os.zip ti.fsz).toArray[·]?) (λi=>by simp) ti.J lx hb;have hm:(ps.toArray.map λp=>(p.1,ρ p.2)).toList=lx:=by simpa using qre hρ hv
   simp only [execOp,Instr.build,bA,Db l9,aP,aQ h1,hpl',hz];have hm':(ps.toArray.map λ(x:Nat×Operand)=>match x with|(i,x)=>(i,ρ x)).toList=lx:=hm;rw [hm',hfill];rfl
  | _=>rw [hd] at h2;simp [TK.fits] at h2
def S5{t b len:Nat}{ti te:TI}(j:Nat){sz:Nat}(hx:lk fr x=some (.pointer (some ⟨b,off,none⟩)))(hy:lk fr y=some (.int ik (Int.ofNat j)))(ht:jH TT t=some ti)(hk:ti.kind=.ar len e)(he:jH TT e=some te)
  (hs:te.size=1) (h1:j < len):QE P TT D fr (.indexAddr t x y) ty K s0 (.pointer (some ⟨b,off+j,none⟩)):=by
 have:=qxo (P:=P) (D:=D) (ty:=ty) (K:=K) (s0:=s0) (j:=j) hx hy ht hk he hs h1
 rwa [eG] at this
def Nq(L:Hl):List Nat->Hl
 | []=>L
 | i::r=>Nq (L.eraseIdx i) r
def qax{L:Hl}{x:Nat×Obj}(h:x∈Nq L r):x∈L:=by
 induction r generalizing L with
 | nil=>exact h
 | cons i r ih=>exact List.mem_of_mem_eraseIdx (ih h)
def pm{id:Nat}{l:List Oper}(hm:P.follows .mixedOrders=true)(N:Nat)(hN:l.length=N)(r:List Nat)(hK:∀ x∈Nq L r,x∈L)
  (h:∀ s',Le D s s'->JA P TT D n l.toArray Q (Nq L r) s' N (Array.replicate N false) fr L s'):JC P TT D n Q (.region id l.toArray true) fr L s:=ma hm N hN _ hK h
def qtY(zs:LVal9)(len i:Nat)(h:i < len * zs.length):((List.replicate len zs).flatten)[i]?=zs[i % zs.length]?:=by
 induction len generalizing i with
 | zero=>simp at h
 | succ len ih=>
  rw [eT,bt];by_cases hi:i < zs.length
  . rw [aR hi,eN hi]
  . rw [aY O,ih (i - zs.length) (by rw [gO] at h;omega),Nat.mod_eq_sub_mod (by omega:i≥zs.length)]
def qC5(zs:LVal9)(len:Nat)(h:0 < zs.length):(Array.range (len * zs.length)).map (λi=>zs.toArray[i % zs.toArray.size]!)=((List.replicate len zs).flatten).toArray:=by
  apply eW;intro i;by_cases hi:i < len * zs.length
  . have hm:i % zs.length < zs.length:=Nat.mod_lt _ h
    have:=qtY zs len i hi;simp only [eA,this];simp [hi,hm]
  . have hl:((List.replicate len zs).flatten).length=len * zs.length:=by simp
    rw [bU Q8,bU (by simp only [eC,hl];omega)]
def zp(size:Nat):Nat->Nat->List (Nat×Nat)
 | _,0=>[]
 | o,n+1=>(o,size)::zp size (o+size) n
def qrU(size o n i:Nat)(h:i < n):(zp size o n)[i]?=some (o+i * size,size):=by
 induction n generalizing o i with
 | zero=>omega
 | succ n ih=>
  cases i with
  | zero=>simp [zp]
  | succ i=>simp only [zp,bH];rw [ih (o+size) i O,gO];congr 2;omega
def qtU(size len:Nat)(zs:LVal9)(parts:List (Nat×Value))(hp:parts.all (λx=>Nat.blt x.1 len)=true)(h:xM (zp size 0 len) zs parts=some vs):
    Instr.fill (λi=>some (i * size,size)) zs.toArray parts=some vs.toArray:=by
  induction parts generalizing zs with
  | nil=>simp [xM] at h;subst h;rfl
  | cons x iP ih=>
    obtain ⟨i,v⟩:=x;simp only [eb,aA] at hp;have hi:i < len:=bE hp.1;have hg:=qrU size 0 len i hi;rw [aZ] at hg;have h1:=V_ (zp size 0 len) ((zp size 0 len)[·]?) (λ_=>rfl) zs ((i,v)::iP) h;simp only [xM,hg,cond_eq_ite] at h;simp only [Instr.fill,hg] at h1 ⊢;by_cases hc:(Nat.beq (mZ v).length size && Nat.ble (i * size+size) zs.length)=true
    . simp only [hc,bS] at h
      simp only [aA] at hc;have e1:(mZ v).length=size:=ez hc.1;have e2:i * size+size<=zs.length:=bE hc.2;have h3:=XT (mZ v) (i * size) 0 zs O;simp only [MI,eC,e1,fO,gG,iy,ep,gt_iff_lt,aF,show ¬ zs.length < i * size+size by omega,cm];have e:(mZ v).toArray.zipIdx=((mZ v).zipIdx 0).toArray:=by simp
      rw [e];simp only [List.foldl_toArray,bB] at h3 ⊢;rw [h3];exact ih _ hp.2 h
    . simp only [hc] at h;cases h
def qiG{t len:Nat}{ti te:TI}(hti:ti.ok P t)(hk:ti.kind=.sl e)(pg:te.ok P e)(jA:Nat.ble (len * te.size) 16777216=true)(mC:0 < len)(lx:List (Nat×Value))(vs:LVal9)(hp:lx.all (λx=>Nat.blt x.1 len)=true)
  (hb:xM (zp te.size 0 len) (List.replicate len te.J).flatten lx=some vs) (w:World):(Instr.buildSlice t len lx.toArray).run P w=.ok (.slice (some ⟨w.heap.size,0,none⟩) len len) (w.alloc (cb vs e)):=by
 obtain ⟨k1,k2,_⟩:=hti;rw [hk] at k2;simp only [TK.fits] at k2;rw [k2] at k1;have hte2:=pg;obtain ⟨_,_,_,z1,_,z3,_⟩:=hte2;have hz:=EE pg;have ka:¬ (2 ^ 24 < len * te.size):=by have:=bE jA;omega
 have mB:¬ (len * te.size=0):=by
  intro h0;have:=iC mC z3;omega
 have hrow:=qC5 te.J len O;rw [z1] at hrow;have ou:=qtU te.size len _ lx hp hb;simp only [Instr.buildSlice,bA,aQ k1,aP,Bk pg,gt_iff_lt,ka,cm,bG,mB,Db pg,hz];rw [hrow,ou];simp only [bA,Ka,aP,bG];rfl
def qH7{t len:Nat}{ti te:TI}(lx:List (Nat×Value))(vs:LVal9)(ht:jH TT t=some ti)(hk:ti.kind=.sl e)(he:jH TT e=some te)(hv:Be fr ps=some lx)(jA:Nat.ble (len * te.size) 16777216=true)(mC:Nat.blt 0 len=true)(hp:lx.all (λx=>Nat.blt x.1 len)=true)
  (hb:xM (zp te.size 0 len) (List.replicate len te.J).flatten lx=some vs) (ho:jX D L s):Ev P TT D fr (.buildSlice t len ps.toArray) ty L s (.value (.slice (some ⟨s.heap.size,0,none⟩) len len)) ((s.heap.size,cb vs e)::L) (s.alloc (mA D)):=λhT _ dst iS af g ρ hρ=>by
 obtain ⟨h1,h2,h3⟩:=pU ho (cb vs e);refine ⟨?_,h2⟩;have hm:(ps.toArray.map λ(x:Nat×Operand)=>match x with|(i,x)=>(i,ρ x))=lx.toArray:=by
  have:=qre hρ hv;rw [<- this];simp
 have hpos':0 < len:=bE mC;simp only [execOp,hm,bA,qiG (hT.at_ ht) hk (hT.at_ he) jA hpos' lx vs hp hb,aP,bG,nR];rw [<- h1]
def Js{b t:Nat}(ho:jX D ((b,cb vs t)::L) s):iH (fill [(b,cb vs t)] s) b 0 vs:=λj v hj=>by
 have h1:jX D [(b,cb vs t)] s:=⟨by simp,λx hx=>ho.dm x (by simp at hx;subst hx;exact cV ..)⟩;rw [BO h1 Mc,aZ];exact hj
def Ov{p:Prop} (h:p:=by
 rw [<- d1];exact (qH7 lx vs ht hk he hv jA mC hp hb ho hT ho dst iS af g ρ hρ).1):p:=h
def kF{t len:Nat}{ti te:TI}(lx:List (Nat×Value))(vs:LVal9)(hY:jH TT t=some ti/\ti.kind=.sl e/\jH TT e=some te/\Be fr ps=some lx/\Nat.ble (len * te.size) 16777216=true/\Nat.blt 0 len=true/\(lx.all (λx=>Nat.blt x.1 len)=true)/\xM (zp te.size 0 len) (List.replicate len te.J).flatten lx=some vs/\Nat.blt d n=true) (k:∀ β s',Le D s s'->iH s' β 0 vs->JO P TT D n ops Q iP ((d,.slice (j6 β) len len)::fr) L s') :
  JO P TT D n ops Q (⟨some d,.buildSlice t len ps.toArray,ty,iS,af,none⟩::iP) fr L s:=have ⟨ht,hk,he,hv,jA,mC,hp,hb,hd⟩:=hY;λhT a hr ho=>by
 obtain ⟨h1,h2,h3⟩:=pU ho (cb vs e);obtain ⟨d1,d2,d3⟩:=sK (A:=[(s.heap.size,cb vs e)]) (B:=L) h2;refine zY (L':=L) (s':=fill [(s.heap.size,cb vs e)] (s.alloc (mA D))) hd (λhT _ dst iS af g ρ hρ=>⟨?_,d2⟩) (k _ _ (h3.trans d3) (Js h2)) hT a hr ho;exact Ov
def pV{t len:Nat}{g:Option (Nat×Bool)}{iK:Array Bool}{ti te:TI}(hi:ops[i]?=some ⟨some d,.buildSlice t len ps.toArray,ty,iS,af,g⟩)(hg:rz ops fr g)(lx:List (Nat×Value))(vs:LVal9)(hY:jH TT t=some ti/\ti.kind=.sl e/\jH TT e=some te/\Be fr ps=some lx/\Nat.ble (len * te.size) 16777216=true/\Nat.blt 0 len=true/\(lx.all (λx=>Nat.blt x.1 len)=true)/\xM (zp te.size 0 len) (List.replicate len te.J).flatten lx=some vs/\Nat.blt d n=true) (k:∀ β s',Le D s s'->iH s' β 0 vs->JA P TT D n ops Q K s0 jr (iK.setIfInBounds i true) ((d,.slice (j6 β) len len)::fr) L s') :
  JB P TT D n ops Q K s0 jr iK i fr L s:=have ⟨ht,hk,he,hv,jA,mC,hp,hb,hd⟩:=hY;λhT a hr ho hl hK=>by
 obtain ⟨h1,h2,h3⟩:=pU ho (cb vs e);obtain ⟨d1,d2,d3⟩:=sK (A:=[(s.heap.size,cb vs e)]) (B:=L) h2;refine Ca (L':=L) (s':=fill [(s.heap.size,cb vs e)] (s.alloc (mA D))) hi hg (λhT _ dst iS af g ρ hρ=>⟨?_,d2⟩) (h3.trans d3) (λ_ _ h=>h) hd (k _ _ (h3.trans d3) (Js h2)) hT a hr ho hl hK;exact Ov
end
section
variable{TT:kG}{Q:qd}{fr:Fr}{ops:Array Oper}{op:Op}
def JI{y:Nat}{c:BoundsCode}(h:j<=y)(w:World):(Instr.sliceBound (.int ik (j:Int)) y c).run P w=.ok j w:=by simp_all [Instr.sliceBound,asIntOf]
def qj0{t:Nat}{x:Value}(h:ti.ok P t)(hk:ti.kind=.sl e):∀ w,(Instr.sliceAt t x lo hi mx).run P w=(Instr.slice t x lo hi mx).run P w:=by
 obtain ⟨k1,k2,_⟩:=h;rw [hk] at k2;simp only [TK.fits] at k2;rw [k2] at k1;intro w;simp [Instr.sliceAt,aQ k1]
def XP{t:Nat}{c:Nat}{ti te:TI}(h:ti.ok P t)(hk:ti.kind=.sl e)(he:te.ok P e){l u:Nat}(w:World)
  (hb:(Instr.sliceBounds true m c lo hi none).run P w=.ok (l,u,c) w):(Instr.sliceAt t (.slice A m c) lo hi none).run P w=.ok (.slice (if c=l then A else A.map (·.add (l * te.size))) (u - l) (c - l)) w:=by
 rw [qj0 h hk];obtain ⟨k1,k2,_⟩:=h;rw [hk] at k2;simp only [TK.fits] at k2;rw [k2] at k1;simp [Instr.slice,aQ k1,hb,Bk he]
def PG(A:OAdr9)(k:Nat):A.map (·.add (0 * k))=A:=by cases A<;>simp [Addr.add]
def Gc{t:Nat}{c:Nat}(hx:lk fr x=some (.slice A m c))(hy:lk fr y=some (.int ik (j:Int)))(ht:jH TT t=some ti)(hk:ti.kind=.sl e)(he:jH TT e=some te)(hj:j<=c):
  QE P TT D fr (.slice t x none (some y) none) ty K s0 (.slice A j c):=
 QE.pure λhT dst iS af g ρ hρ w=>by
  have hb:(Instr.sliceBounds true m c none (some (.int ik (j:Int))) none).run P w=.ok (0,j,c) w:=by simp [Instr.sliceBounds,JI hj]
  have hr:=XP (A:=A) (hT.at_ ht) hk (hT.at_ he) w hb;simp only [execOp,hρ x _ hx,fJ,eV,hρ y _ hy,bA,hr,aP,bG,PG];simp
def VY{p:Prop} (h:p:=by
 simp only [execOp,hρ x _ hx,fJ,eV,hρ y _ hy,bA,hr,aP,bG]):p:=h
def S6{t:Nat}{c:Nat}(hx:lk fr x=some (.slice A m c))(hy:lk fr y=some (.int ik (j:Int)))(ht:jH TT t=some ti)(hk:ti.kind=.sl e)(he:jH TT e=some te)(hj:j<=m):
  QE P TT D fr (.slice t x (some y) none none) ty K s0 (.slice (if c=j then A else A.map (·.add (j * te.size))) (m - j) (c - j)):=
 QE.pure λhT dst iS af g ρ hρ w=>by
  have hb:(Instr.sliceBounds true m c (some (.int ik (j:Int))) none none).run P w=.ok (j,m,c) w:=by simp [Instr.sliceBounds,JI hj]
  have hr:=XP (A:=A) (hT.at_ ht) hk (hT.at_ he) w hb;exact VY
def qk1(l:List UInt8)(lo hi:Nat)(h:lo<=hi):(⟨l.toArray⟩:ByteArray).extract lo hi=⟨((l.drop lo).take (hi - lo)).toArray⟩:=by
 apply fu;simp [List.take_drop,Nat.add_sub_cancel' h]
def XU{t:Nat}(h:ti.ok P t)(hk:ti.desc=.string){a u:Nat}(hau:a<=u)(w:World)(hb:(Instr.sliceBounds false l.length l.length lo hi none).run P w=.ok (a,u,l.length) w):
  (Instr.sliceAt t (St l) lo hi none).run P w=.ok (St ((l.drop a).take (u - a))) w:=by
 have k1:=h.1;rw [hk] at k1;have jA:(⟨l.toArray⟩:ByteArray).size=l.length:=by simp [ByteArray.size]
 have hx:=qk1 l a u hau;simp only [Instr.sliceAt,bA,aQ k1,aP,Instr.slice,Option.isSome_none,dr,cm,jA,hb,bG,hx]
def qEV{t:Nat}{u:Nat}(hx:lk fr x=some (St l))(hy:lk fr y=some (.int ik (u:Int)))(ht:jH TT t=some ti)(hk:ti.desc=.string)(hu:u<=l.length):
  QE P TT D fr (.slice t x none (some y) none) ty K s0 (St (l.take u)):=
 QE.pure λhT dst iS af g ρ hρ w=>by
  have hb:(Instr.sliceBounds false l.length l.length none (some (.int ik (u:Int))) none).run P w=.ok (0,u,l.length) w:=by simp [Instr.sliceBounds,JI hu]
  have hr:=XU (hT.at_ ht) hk (aB u) w hb;simp only [execOp,hρ x _ hx,fJ,eV,hρ y _ hy,bA,hr,aP,bG];simp
def qEW{t:Nat}{a:Nat}(hx:lk fr x=some (St l))(hy:lk fr y=some (.int ik (a:Int)))(ht:jH TT t=some ti)(hk:ti.desc=.string)(ha:a<=l.length):
  QE P TT D fr (.slice t x (some y) none none) ty K s0 (St (l.drop a)):=
 QE.pure λhT dst iS af g ρ hρ w=>by
  have hb:(Instr.sliceBounds false l.length l.length (some (.int ik (a:Int))) none none).run P w=.ok (a,l.length,l.length) w:=by simp [Instr.sliceBounds,JI ha]
  have hr:=XU (hT.at_ ht) hk ha w hb;simp only [execOp,hρ x _ hx,fJ,eV,hρ y _ hy,bA,hr,aP,bG];have:(l.drop a).take (l.length - a)=l.drop a:=aI (by simp);rw [this]
end
end
end Go.Proofs.YtapeaicongaggaaGreatDoor
