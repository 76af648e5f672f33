/- Part 1. -/
import Derived.OrdersHeld
import Derived.Shelf.Strings.OnBuilder
import Derived.Shelf.Small.Wraps
import Derived.Shelf.Utf8.RuneCount
import Derived.Shelf.Strconv.Itoa3
import Derived.Shelf.Strconv.ToError
import Derived.Shelf.Strconv.ParseUint10Any
import Derived.Shelf.Strconv.ToErrorRange
import Derived.Shelf.Strconv.ParseUint10At
import Derived.Shelf.Pu.ErrVarParseUint
import Derived.Shelf.Strings.Shaped
import Derived.Shelf.Sort.Plain
import Derived.Shelf.GgClosure.StringsRunes
import Derived.Shelf.Strings.SplitShaped
import Derived.Shelf.Strings.Explode
import Derived.Shelf.Strings.Repeat
import Derived.Shelf.Strings.FieldsAny
import Derived.Shelf.Unicode.ExclAny
import Derived.Shelf.Strings.FieldsFuncGrows
import Derived.Shelf.Strings.BuilderCap
import Derived.Shelf.Slices.Turned
import Derived.Shelf.Slices.CompactI
import Derived.Shelf.Slices.In.SortNone
import Derived.Test.YtemgonlhniicbaaGreatDoorProg
set_option linter.unusedVariables false
set_option linter.defProp false
set_option linter.unusedSimpArgs false
set_option linter.unnecessarySimpa false
set_option maxRecDepth 100000
set_option maxHeartbeats 8000000
namespace Go.Proofs.YtemgonlhniicbaaGreatDoor
open Go Go.RowKit Go.Proofs.Tryz
def ac:=@List.length_append
def ak:=@if_neg
def al:=@List.getElem?_eq_some_iff
def am:=@List.append_assoc
def an:=@List.mem_cons_of_mem
def ao:=@List.cons_append
def ap:=@List.getElem?_eq_getElem
def aq:=@List.length_nil
def au:=@if_pos
def aw:=@List.length_cons
def ax:=@List.mem_of_getElem?
def ay:=@Nat.le_refl
def aA:=@Bool.and_eq_true
def aB:=@Nat.zero_le
def aD:=@Int.toNat_natCast
def aF:=@List.mem_append_right
def aH:=@decide_eq_true_eq
def aI:=@List.mem_append_left
def aJ:=@List.eq_nil_of_length_eq_zero
def aK:=@List.take_of_length_le
def aN:=@List.map_cons
def aP:=@Result.andThen_ok
def aQ:=@run_underlying
def aR:=@List.mem_cons
def aS:=@List.mem_append
def aU:=@List.mem_singleton
def aV:=@List.getElem?_append_left
def aW:=@List.mem_map
def aX:=@Nat.zero_add
def aY:=@List.getElem?_append_right
def bj:=@List.flatten_cons
def bl:=@congrArg
def bA:=@Sem.run_bind
def bB:=@List.length_map
def bC:=@Nat.add_zero
def bE:=@Nat.le_of_ble_eq_true
def bG:=@Sem.run_pure
def bH:=@List.getElem?_cons_succ
def bI:=@List.nodup_append
def bM:=@List.take_succ_eq_append_getElem
def bO:=@List.map_append
def bQ:=@List.getElem?_map
def bS:=@Array.getElem?_eq_none
def bU:=@List.all_eq_true
def bV:=@if_true
def bW:=@Array.getElem?_setIfInBounds_ne
def bY:=@if_false
def cK:=@List.nil_sublist
def cQ:=@List.mem_cons_self
def cV:=@of_decide_eq_true
def cY:=@List.length_take
def cZ:=@Option.some.injEq
def dj:=@List.getElem?_cons_zero
def dq:=@Bool.false_eq_true
def du:=@List.nodup_cons
def dw:=@of_decide_eq_false
def dA:=@Nat.add_assoc
def dE:=@List.map_nil
def dK:=@List.perm_append_comm
def dM:=@Nat.lt_of_lt_of_le
def dN:=@Int.natCast_nonneg
def dO:=@List.not_mem_nil
def dU:=@or_false
def ea:=@Nat.le_trans
def ec:=@List.all_cons
def ep:=@Bool.false_or
def ez:=@Nat.eq_of_beq_eq_true
def eA:=@List.getElem?_toArray
def eB:=@List.take_append_drop
def eC:=@List.size_toArray
def eJ:=@List.Perm.refl
def eK:=@Nat.mul_one
def eM:=@Nat.lt_or_ge
def eQ:=@Array.mapM_eq_mapM_toList
def eR:=@List.replicate_succ
def eS:=@wp_mono
def eT:=@Option.map_some
def eU:=@Array.ext_getElem?
def eV:=@Nat.add_right_comm
def eZ:=@List.eraseIdx_cons_succ
def fb:=@ByteArray.getElem_eq_getElem_data
def fj:=@List.mem_nil_iff
def fu:=@ByteArray.ext
def fH:=@Option.map_none
def fM:=@ne_eq
def fW:=@heap_alloc_new
def fX:=@List.mapM_cons
def gq:=@List.Sublist.refl
def gC:=@List.length_drop
def gD:=@not_true
def gF:=@map_eq_pure_bind
def gG:=@Nat.mod_eq_of_lt
def gH:=@List.map_toArray
def gK:=@Nat.succ_mul
def gP:=@List.foldl_cons
def gQ:=@Nat.min_eq_left
def gV:=@Array.getElem?_append
def gY:=@World.cell?_of_block
def gZ:=@not_or
def ig:=@decide_false
def io:=@Nat.mul_pos
def ir:=@true_or
def iu:=@wp_seq
variable{x y:Operand}{ts:Array TypeId}{P:Program}{v z v5:Value}{af:Array Edge}{iI:List Oper}{off D d i t' e ty jd n j m i0 d4 dl dc k d5:Nat}{iL:String}{ps:List (Nat×Operand)}{ik jk ik':IntKind}{s0 s s' w':World}{x0 x1 x2 x3:Nat×Obj}{os r:List Nat}{rs:List ResultVar}{dst:Option Nat}{o:Obj}{lo hi mx:Option Value}{fs:Array Field}{fz:Nat×Nat}{fld:Field}{bo:BinOp}{fn:Func}
abbrev iB(x:Int):Value:=.int .i64 x
abbrev iJ(x:Int):Value:=.int .u32 x
abbrev iT(b:Nat):Value:=.pointer (some ⟨b,0,none⟩)
abbrev iE:=Option Addr
variable{A1:iE}
abbrev jZ(b:Nat):iE:=some ⟨b,0,none⟩
section
abbrev iz:=List Value
variable{α:Type}{p A B:Prop}{w:World}{α0 α1 α2 α3 α4 α5 β γ:Type _}{a:Int}{b d0 d1 d2 d3 f fo sz:Nat}{c:Operand}{u v0 v1 v2 v3 v4:Value}{l:List UInt8}{vs xs ys zs args news:iz}
def jC{α:Type _}{a:α}{x y:List α}:a::x++y=a::(x++y):=rfl
def jD{α:Type _}{x:List α}:[]++x=x:=rfl
def _root_.Go.V(h:p:=by kernel_rfl):p:=h
def _root_.Go.X1(a:A)(h:A->B:=by intro h;refine iF 10 V<|Wu Z Tt 0 [_,_,_,_,_] Y9 (sM (ql))<|H1 ?_;refine iF 12 V<|Wu Z Tt 0 [_,_,_,_,_] Y9 (sM (ql))<|H1 ?_;refine iF 14 V<|Wu Z Tt 0 [_,_,_,_,_] Y9 (sM (ql))<|ji V ?_;exact h):B:=h a
def _root_.Go.X2(a:A)(h:A->B:=by intro h;refine iF 10 V<|Wu Z Tt 0 [_,_,_,_] Y9 (sM (ql))<|H1 ?_;refine iF 12 V<|Wu Z Tt 0 [_,_,_,_] Y9 (sM (ql))<|H1 ?_;refine iF 14 V<|Wu Z Tt 0 [_,_,_,_] Y9 (sM (ql))<|ji V ?_;exact h):B:=h a
def _root_.Go.X3(a:A)(h:A->B:=by intro h;refine jW Z Tt (Wd 0 Y5) Z ?_;exact h):B:=h a
def _root_.Go.X4(a:A)(h:A->B:=by intro h;refine iF 2 V<|Wu Z Tt 1 [_,_] Y9 (sM (lj (jL)))<|ji V<|G3 ?_;exact h):B:=h a
def _root_.Go.X5(a:A)(h:A->B:=by intro h;refine G5 ?_;refine xS 2 (_::_::_::_::_::_::_::_::_::_::_::_) Y5 Z Z Z Z<|G3 ?_;exact h):B:=h a
def _root_.Go.X6(a:A)(h:A->B:=by intro h;refine H2 ?_;refine iF 12 V<|Wu Z Tt 2 [_,_,_,_,_,_] Y9 (sM (lj (ql)))<|ji V<|G3 ?_;exact h):B:=h a
def _root_.Go.X7(a:A)(h:A->B:=by intro h;refine iF 6 V<|Wu Z Tt 1 [_,_] Y9 (sM (lz (kN (ql))))<|iF 7 V<|Wu Z Tt 0 [_,_,_] Y9 (sM (lz (kN (ql))))<|ji V ?_;exact h):B:=h a
def _root_.Go.X8(a:A)(h:A->B:=by intro h;refine iF 6 V<|Wu Z Tt 0 [_,_] Y9 (sM (lz (kN (ql))))<|iF 7 V<|Wu Z Tt 1 [_,_,_] Y9 (sM (lz (kN (ql))))<|ji V ?_;exact h):B:=h a
def _root_.Go.X9(a:A)(h:A->B:=by intro h;refine iF 6 V<|w8 Z Tt 2 (_::_::_::_::_::_::_::_::_::_::_::_) Y5 Z Z Z Z (sM (kN (jL)))<|H3 ?_;refine iF 10 V<|w8 Z Tt 2 (_::_::_::_::_::_::_::_::_::_::_::_) Y5 Z Z Z Z (sM (kN (jL))) ?_;refine ji V<|Zb ?_;exact h):B:=h a
def _root_.Go.X10(a:A)(h:A->B:=by intro h;refine iF 10 V<|Wu Z Tt 1 [_] Y9 (sM (lz (wi (jL))))<|iF 11 V<|Wu Z Tt 0 [_] Y9 (sM (lz (wi (jL))))<|ji V ?_;exact h):B:=h a
def _root_.Go.X11(a:A)(h:A->B:=by intro h;refine iF 10 V<|Wu Z Tt 0 [_] Y9 (sM (lz (wi (jL))))<|iF 11 V<|Wu Z Tt 1 [_] Y9 (sM (lz (wi (jL))))<|ji V ?_;exact h):B:=h a
def _root_.Go.X12(a:A)(h:A->B:=by intro h;refine iF 7 V<|jW Z Tt (Wd 0 Y5) Z<|H1 ?_;exact h):B:=h a
def _root_.Go.X13(a:A)(h:A->B:=by intro h;refine Ys<|Yr<|xx Z Z<|Yn<|Yt<|Yo<|Yc<|Yu<|Yu<|Yc<|Yu<|?_;exact h):B:=h a
def _root_.Go.X14(a:A)(h:A->B:=by intro h;refine Sr<|iA (iZ 2 [_,_,_,_,_,_] Y5) Z<|G2 ?_;exact h):B:=h a
def _root_.Go.X15(a:A)(h:A->B:=by intro h;refine Yf Z Z Z Z<|Yf Z Z Z Z<|Yf Z Z Z Z<|Yf Z Z Z Z<|Yf Z Z Z Z<|Yf Z Z Z Z<|Yf Z Z Z Z<|Yf Z Z Z Z<|Wx Z Z Z<|Yn<|Yt<|Yy Z<|?_;exact h):B:=h a
def _root_.Go.X16(a:A)(h:A->B:=by intro h;refine iF 10 V<|Wu Z Tt 2 [_] Y9 (sM (oh (kN (lj (jL)))))<|iF 11 V<|Wu Z Tt 1 [_] Y9 (sM (oh (kN (lj (jL)))))<|ji V ?_;exact h):B:=h a
def _root_.Go.X17(a:A)(h:A->B:=by intro h;refine iF 10 V<|Wu Z Tt 1 [_] Y9 (sM (oh (kN (lj (jL)))))<|iF 11 V<|Wu Z Tt 2 [_] Y9 (sM (oh (kN (lj (jL)))))<|ji V ?_;exact h):B:=h a
def _root_.Go.X18(a:A)(h:A->B:=by intro h;refine iF 10 V<|Wu Z Tt 3 [_] Y9 (sM (oh (kN (lj (jL)))))<|iF 11 V<|Wu Z Tt 1 [_] Y9 (sM (oh (kN (lj (jL)))))<|ji V ?_;exact h):B:=h a
def _root_.Go.X19(a:A)(h:A->B:=by intro h;refine iF 10 V<|Wu Z Tt 3 [_] Y9 (sM (oh (kN (lj (jL)))))<|iF 11 V<|Wu Z Tt 2 [_] Y9 (sM (oh (kN (lj (jL)))))<|ji V ?_;exact h):B:=h a
def _root_.Go.X20(a:A)(h:A->B:=by intro h;refine iF 10 V<|Wu Z Tt 1 [_] Y9 (sM (oh (kN (lj (jL)))))<|iF 11 V<|Wu Z Tt 3 [_] Y9 (sM (oh (kN (lj (jL)))))<|ji V ?_;exact h):B:=h a
def _root_.Go.X21(a:A)(h:A->B:=by intro h;refine iF 10 V<|Wu Z Tt 2 [_] Y9 (sM (oh (kN (lj (jL)))))<|iF 11 V<|Wu Z Tt 3 [_] Y9 (sM (oh (kN (lj (jL)))))<|ji V ?_;exact h):B:=h a
def _root_.Go.X22(a:A)(h:A->B:=by intro h;refine iA (jB [] [_,_] Y3 Z Z Z) Z<|mo Y2<|Wt 1 [_,_] Y9<|G3 ?_;exact h):B:=h a
def _root_.Go.X23(a:A)(h:A->B:=by intro h;refine G4 ?_;refine Wt 0 [_,_,_,_,_] Y9<|At Z Z<|Sr<|iA (iZ 0 [_,_,_,_,_] Y5) Z<|kb Y2<|Wt 1 [_,_,_,_,_] Y9<|G4 ?_;exact h):B:=h a
def _root_.Go.X24(a:A)(h:A->B:=by intro h;refine iA (kK (v':=.bool false) (rD Z Z) (bF Z)) Z<|lM ?_;refine iA (kK (v':=.bool false) (KO Z Z) (bF Z)) Z<|lw ?_;exact h):B:=h a
def _root_.Go.X25(a:A)(h:A->B:=by intro h;refine jW Z Tt (Wd 0 Y5) Z<|H1 ?_;exact h):B:=h a
def _root_.Go.X26(a:A)(h:A->B:=by intro h;refine H1 ?_;refine za 1 Z (iZ 0 [_,_] Y5) Z<|za 2 Z (jB [] [_,_] Y3 Z Z Z) Z<|za 3 Z (KN Z Z (sp)) Z<|H2 ?_;exact h):B:=h a
def _root_.Go.X27(a:A)(h:A->B:=by intro h;refine jW Z Tt (Wd 1 Y5) Z<|iF 10 V<|jW Z Tt (Wd 1 Y5) Z<|H1 ?_;exact h):B:=h a
def _root_.Go.X28(a:A)(h:A->B:=by intro h;refine iA (jS Y3 (pH.le (Lr D)) Z) Z<|iA (lK Y6 nE) Z<|iA (jS Y3 (hcE.le (Lr D)) Z) Z<|kb Y2 ?_;exact h):B:=h a
def _root_.Go.X29(a:A)(h:A->B:=by intro h;refine za 2 Z (kK (v':=.bool false) (uj Z Z) (bZ g4)) Z<|H13 ?_;refine za 16 Z (FZ Z Z) Z<|H1 ?_;refine ji V<|G2 ?_;exact h):B:=h a
def _root_.Go.X30(a:A)(h:A->B:=by intro h;refine Zk<|Zt<|Sr<|iA (iZ 0 [_,_] Y5) Z<|iA (jB [] [_,_] Y3 Z Z Z) Z<|Wt 3 [_,_] Y9<|Wt 2 [_,_] Y9<|G3 ?_;exact h):B:=h a
def _root_.Go.X31(a:A)(h:A->B:=by intro h;refine jW Z Tt (Wd 0 Y5) Z<|iF 4 V<|jW Z Tt (Wd 0 Y5) Z<|H1 ?_;exact h):B:=h a
def _root_.Go.X32(a:A)(h:A->B:=by intro h;refine Wt 0 [_,_,_,_,_,_,_,_,_,_,_,_] Y9<|G8 ?_;exact h):B:=h a
def _root_.Go.X33(a:A)(h:A->B:=by intro h;refine iA (kK (v':=.bool false) (rD Z Z) (bF Z)) Z<|mY ?_;exact h):B:=h a
def _root_.Go.X34(a:A)(h:A->B:=by intro h;refine iA (kK (v':=.bool false) (rD Z Z) (bF Z)) Z<|lw ?_;exact h):B:=h a
def _root_.Go.X35(a:A)(h:A->B:=by intro h;refine Sr<|iA (qZ Z) Z<|G6 ?_;exact h):B:=h a
def _root_.Go.X36(a:A)(h:A->B:=by intro h;refine iA (iZ 0 [_,_] Y5) Z<|G5 ?_;exact h):B:=h a
def _root_.Go.X37(a:A)(h:A->B:=by intro h;refine za 3 Z (jK Y6 hk) Z<|H1 ?_;exact h):B:=h a
def _root_.Go.X38(a:A)(h:A->B:=by intro h;refine za 2 Z (kK (v':=.bool true) (uj Z Z) (bT g4)) Z<|H5 ?_;refine zg 8 Z ⟨_,Z,Z⟩ (Wd 4 Y5) Z<|H2 ?_;exact h):B:=h a
def _root_.Go.Q1(h:p:=by first|omega|(simp only [ln,lD,ac,aq];omega)):p:=h
def _root_.Go.Q2(h:p:=by simpa using h):p:=h
def _root_.Go.Q3(h:p:=by simp [ti4];omega):p:=h
def _root_.Go.Q4(h:p:=by intro x hx;exact qax hx):p:=h
def _root_.Go.Q5(h:p:=by simpa using h1):p:=h
def _root_.Go.Q6(h:p:=by simp;omega):p:=h
def _root_.Go.Q7(h:p:=by rw [jq O O];omega):p:=h
def _root_.Go.Q8(h:p:=by rw [jq O O];simp):p:=h
def _root_.Go.Q9(h:p:=by simpa using h2):p:=h
def _root_.Go.Q10(h:p:=by simp only [aw,aq];omega):p:=h
def _root_.Go.Q11(h:p:=by simpa using hb):p:=h
def _root_.Go.Q12(h:p:=by simp [pY];omega):p:=h
def _root_.Go.Q13(h:p:=by (try simp only [ac,aw,aq,pT]);omega):p:=h
def _root_.Go.Q14(h:p:=by have:=A.hi;omega):p:=h
def _root_.Go.Q15(h:p:=by first|rfl|(simp only [ac,aw,aq];refine bl some (bl (Value.int .i64) ?_);omega)):p:=h
def _root_.Go.Q16(h:p:=by simp only [iP.kind];omega):p:=h
def _root_.Go.Q17(h:p:=by rw [pj];rfl):p:=h
def _root_.Go.Q18(h:p:=by simpa using hj):p:=h
def _root_.Go.Q19(h:p:=by simpa using hc):p:=h
def _root_.Go.Q20(h:p:=by rw [hu];exact hn9):p:=h
def _root_.Go.Q21(h:p:=by rw [hc];omega):p:=h
def _root_.Go.Q22(h:p:=by first|exact ⟨S9 (qkX vP o2 (OI Bp)) o3 (OI Bp),ZR ew1 xM hhas,rfl,qls ew1 xM hhas uR,rfl⟩|exact ⟨S9 vP o3 (OI Bp),ZR ew1 xM hhas,rfl,qgf uR,rfl⟩|exact ⟨vP,qrn ew1 xM hhas,rfl,qge hhas,rfl⟩):p:=h
def _root_.Go.Q23(h:p:=by rw [qlj hU h];exact ⟨rfl,rfl⟩):p:=h
def _root_.Go.Q24(h:p:=by simp only [ac];omega):p:=h
def _root_.Go.Q25(h:p:=by first|exact ⟨qqE (ck:=sI) hg0 o1 (OI O) hrep,Z,Z,(ak tZ).symm,λ_=>hrep⟩|exact ⟨hg0,Z,Z,(au tZ).symm,λh=>absurd tZ h⟩):p:=h
def _root_.Go.Q26(h:p:=by rintro _ _ _ _ ⟨rfl,rfl⟩;exact ⟨rfl,rfl⟩):p:=h
def _root_.Go.Q27(h:p:=by rw [ac,bB,cY,gC];omega):p:=h
def _root_.Go.Q28(h:p:=by rw [m3];exact (by simpa using hq:y.name=mu).symm):p:=h
def _root_.Go.Q29(h:p:=by rw [oA];exact cQ ..):p:=h
def _root_.Go.Q30(h:p:=by rw [aV (al.1 hj).1];exact hj):p:=h
def _root_.Go.Q31(h:p:=by first|exact an _ (ax hw2)|exact ax hw2):p:=h
def _root_.Go.Q32(h:p:=by first|exact ⟨S9 hg0 o1 hyc,by simp [pw],rfl,rfl,rfl⟩|exact ⟨hg0,by simp [pw],rfl,rfl,rfl⟩):p:=h
def _root_.Go.Q33(h:p:=by first|exact λh=>absurd h.1 (by rw [show (rZ t.U xo).isSome=true by assumption];decide)|exact ⟨λh=>h.2,λh=>⟨by assumption,h⟩⟩):p:=h
def _root_.Go.Q34(h:p:=by first|exact λh=>absurd h.1 As|exact ⟨λh=>h.2,λh=>⟨by assumption,h⟩⟩):p:=h
def _root_.Go.Q35(h:p:=by simp only [ac,aw,aq,pT];omega):p:=h
def _root_.Go.Q36(h:p:=by have e1:=oT _ _ _ nJ;have e2:=CM oT sQ;have e3:=CM oT hr3;omega):p:=h
def _root_.Go.Q37(h:p:=by simp only [ac,aw,aq] at hcv;omega):p:=h
def _root_.Go.Tt:True:=True.intro
def _root_.Go.Oz(h:p:=by simp only;omega):p:=h
def _root_.Go.Dc(h:p:=by decide):p:=h
def _root_.Go.Pr{α:Type _}{l:List α}:l.Perm l:=eJ l
def _root_.Go.Mc{α:Type _}{a:α}{l:List α}:a∈a::l:=cQ ..
def _root_.Go.O(h:p:=by omega):p:=h
def _root_.Go.Θ(h:p:=by decide):p:=h
def _root_.Go.Ξ(h:p:=by simp):p:=h
def _root_.Go.As(h:p:=by assumption):p:=h
theorem _root_.Go.Og(h:p:=by first|omega|grind):p:=h
def _root_.Go.Ut(h:p:=by (try simp only [ac,aw,aq]);omega):p:=h
def _root_.Go.Uo(h:p:=by simp only [ac,aw,aq];omega):p:=h
abbrev Hl:=List (Nat×Obj)
variable{L:Hl}{R R':Value->Hl->World->Prop}
def mJ(D:Nat):Obj:=.mapIter none D #[] 0
def pz(w:World)(b:Nat)(o:Obj):World:={ w with heap:=w.heap.setIfInBounds b o }
def fill:Hl->World->World
 | [],s=>s
 | x::L,s=>pz (fill L s) x.1 x.2
structure jQ(D:Nat)(L:Hl)(s:World):Prop where
 nd:(L.map (·.1)).Nodup
 dm:∀ x∈L,s.heap[x.1]?=some (mJ D)
structure Le(D:Nat)(s s':World):Prop where
 os:s'.os=s.os
 tape:s'.tape=s.tape
 output:s'.output=s.output
 size:s.heap.size<=s'.heap.size
 block:∀ k,k < s.heap.size->s.heap[k]?=some (mJ D)\/s'.heap[k]?=s.heap[k]?
def Le.refl(s:World):Le D s s:=⟨rfl,rfl,rfl,ay _,λ_ _=>.inr rfl⟩
def Lr(D:Nat):Le D s s:=Le.refl s
def Z{α:Sort _}{a:α}:a=a:=rfl
theorem Y2 {α0:Type _}{a0:α0}{α1:Type _}{a1:α1}:a0=a0/\a1=a1:=⟨rfl,rfl⟩
theorem Y3 {α0:Type _}{a0:α0}{α1:Type _}{a1:α1}{α2:Type _}{a2:α2}:a0=a0/\a1=a1/\a2=a2:=⟨rfl,rfl,rfl⟩
theorem Y7 {α0:Type _}{a0:α0}{α1:Type _}{a1:α1}{α2:Type _}{a2:α2}{α3:Type _}{a3:α3}{α4:Type _}{a4:α4}{α5:Type _}{a5:α5}{α6:Type _}{a6:α6}:a0=a0/\a1=a1/\a2=a2/\a3=a3/\a4=a4/\a5=a5/\a6=a6:=⟨rfl,rfl,rfl,rfl,rfl,rfl,rfl⟩
def Y4{a0:α0}{a1:α1}{a2:α2}{a3:α3}:a0=a0/\a1=a1/\a2=a2/\a3=a3:=⟨rfl,rfl,rfl,rfl⟩
def Y5{a0:α0}{a1:α1}{a2:α2}{a3:α3}{a4:α4}:a0=a0/\a1=a1/\a2=a2/\a3=a3/\a4=a4:=⟨rfl,rfl,rfl,rfl,rfl⟩
def Y6{a0:α0}{a1:α1}{a2:α2}{a3:α3}{a4:α4}{a5:α5}:a0=a0/\a1=a1/\a2=a2/\a3=a3/\a4=a4/\a5=a5:=⟨rfl,rfl,rfl,rfl,rfl,rfl⟩
def Y9{a0:α0}{a1:α1}{a2:α2}{a3:α3}{a4:α4}{a5:α5}{α6:Type _}{a6:α6}{α7:Type _}{a7:α7}{α8:Type _}{a8:α8}:a0=a0/\a1=a1/\a2=a2/\a3=a3/\a4=a4/\a5=a5/\a6=a6/\a7=a7/\a8=a8:=⟨rfl,rfl,rfl,rfl,rfl,rfl,rfl,rfl,rfl⟩
def Le.trans{a b c:World}(h:Le D a b)(k:Le D b c):Le D a c:=
  ⟨k.os.trans h.os,k.tape.trans h.tape,k.output.trans h.output,ea h.size k.size,λi hi=>by
    rcases h.block i hi with h1|h1
    . exact .inl h1
    . rcases k.block i (dM hi h.size) with h2|h2
      . exact .inl (h1▸h2)
      . exact .inr (h2.trans h1)⟩
def Le.t{a b c:World}(h:Le D a b)(k:Le D b c):Le D a c:=Le.trans h k
def Dv{a:Addr}(h:w.cell? a=some u):a.block < w.heap.size:=World.block_lt_of_cell? w a h
def Z0{a:Addr}(h:w.cell? a=some u):w.heap[a.block]?≠some (mJ D):=by
 intro e;simp [World.cell?,e,mJ] at h
def Le.cell(h:Le D s s'){a:Addr}(hc:s.cell? a=some u):s'.cell? a=some u:=by
 rcases h.block a.block (Dv hc) with h1|h1
 . exact absurd h1 (Z0 hc)
 . rw [<- hc];exact gY h1
@[simp] theorem D7 {w:World} {b:Nat} :(pz w b o).heap.size=w.heap.size:=by simp [pz]
def J0(o:Obj)(h:b < w.heap.size):(pz w b o).heap[b]?=some o:=by
 simp [pz,h]
theorem E5(o:Obj)(h:b≠k):(pz w b o).heap[k]?=w.heap[k]?:=by grind [pz]
def oB(L:Hl)(s:World):(fill L s).heap.size=s.heap.size:=by
 induction L with
 | nil=>rfl
 | cons x L ih=>simp [fill,ih]
def zt(L:Hl)(s:World):(fill L s).os=s.os:=by induction L with
 | nil=>rfl
 | cons x L ih=>exact ih
def zo(L:Hl)(s:World):(fill L s).tape=s.tape:=by induction L with
 | nil=>rfl
 | cons x L ih=>exact ih
def FW(L:Hl)(s:World):(fill L s).drawn=s.drawn:=by induction L with
 | nil=>rfl
 | cons x L ih=>exact ih
def zp(L:Hl)(s:World):(fill L s).output=s.output:=by induction L with
 | nil=>rfl
 | cons x L ih=>exact ih
def vV(h:k ∉ L.map (·.1)):(fill L s).heap[k]?=s.heap[k]?:=by
 induction L with
 | nil=>rfl
 | cons x L ih=>
  simp only [aN,aR,gZ] at h;rw [fill,E5 _ (λe=>h.1 e.symm),ih h.2]
def jQ.lt(h:jQ D L s){x:Nat×Obj}(hx:x∈L):x.1 < s.heap.size:=by
 have:=h.dm x hx;rcases eM x.1 s.heap.size with h1|h1
 . exact h1
 . rw [bS h1] at this;cases this
def jQ.tail{x:Nat×Obj}(h:jQ D (x::L) s):jQ D L s:=
 ⟨by have:=h.nd;simp only [aN,du] at this;exact this.2,λy hy=>h.dm y (an _ hy)⟩
def qM(h:jQ D L s)(hx:(b,o)∈L):(fill L s).heap[b]?=some o:=by
  induction L with
  | nil=>cases hx
  | cons x L ih=>
    have kO:=h.nd;simp only [aN,du] at kO;rcases aR.1 hx with rfl|hx
    . rw [fill];exact J0 _ (by rw [oB];exact h.lt Mc)
    . rw [fill,E5]
      . exact ih h.tail hx
      . intro e;exact kO.1 (by rw [e];exact aW.2 ⟨_,hx,rfl⟩)
def OM(h:jQ D L s)(hk:s.heap[k]?≠some (mJ D)):k ∉ L.map (·.1):=by
 intro hm;obtain ⟨x,hx,rfl⟩:=aW.1 hm;exact hk (h.dm x hx)
def E7(h:jQ D L s){a:Addr}(hc:s.cell? a=some u):(fill L s).cell? a=some u:=by
 rw [<- hc];exact gY (vV (OM h (Z0 hc)))
def BC(h:jQ D L s):Le D s (fill L s):=
 ⟨zt L s,zo L s,zp L s,by rw [oB];exact ay _,λk hk=>by
  by_cases hd:s.heap[k]?=some (mJ D)
  . exact .inl hd
  . exact .inr (vV (OM h hd))⟩
def Dz(h1:w.heap=w'.heap)(h2:w.tape=w'.tape)(h3:w.drawn=w'.drawn)(h4:w.os=w'.os)(h5:w.output=w'.output):w=w':=by
 cases w;cases w';simp_all
def Dy{a b:Array Obj}(h:∀ k:Nat,a[k]?=b[k]?):a=b:=eU h
def Tg(A B:Hl)(s:World):fill (A++B) s=fill A (fill B s):=by
 induction A with
 | nil=>rfl
 | cons x A ih=>simp [fill,ih]
def Tc{c:Nat}(o p:Obj)(h:b≠c):pz (pz w b o) c p=pz (pz w c p) b o:=by
 unfold pz;simp [Array.setIfInBounds_comm _ _ h]
def qmV(h:b ∉ L.map (·.1)):fill L (pz s b o)=pz (fill L s) b o:=by
 induction L with
 | nil=>rfl
 | cons x L ih=>
  simp only [aN,aR,gZ] at h;rw [fill,ih h.2,fill,Tc _ _ h.1]
def qrx{A B:Hl}(h:((A++B).map (·.1)).Nodup):fill A (fill B s)=fill B (fill A s):=by
 induction A with
 | nil=>rfl
 | cons x A ih=>
  simp only [ao,aN,du] at h;rw [fill,ih h.2,fill,qmV];intro hb;exact h.1 (by rw [bO];exact aF _ hb)
def jQ.left{A B:Hl}(h:jQ D (A++B) s):jQ D A s:=
 ⟨by have:=h.nd;rw [bO] at this;exact (bI.1 this).1,λx hx=>h.dm x (aI _ hx)⟩
def jQ.right{A B:Hl}(h:jQ D (A++B) s):jQ D B s:=
 ⟨by have:=h.nd;rw [bO] at this;exact (bI.1 this).2.1,λx hx=>h.dm x (aF _ hx)⟩
def tI{A B:Hl}(h:jQ D (A++B) s):fill (A++B) s=fill B (fill A s)/\jQ D B (fill A s)/\Le D s (fill A s):=by
  refine ⟨by rw [Tg,qrx h.nd],⟨h.right.nd,λx hx=>?_⟩,BC h.left⟩;rw [vV]
  . exact h.right.dm x hx
  . intro hm
    have:=h.nd;rw [bO] at this;exact (bI.1 this).2.2 _ hm _ (aW.2 ⟨x,hx,rfl⟩) rfl
def rE(D:Nat):Hl->World->World
 | [],w=>w
 | x::L,w=>pz (rE D L w) x.1 (mJ D)
def Tl(L:Hl)(w:World):(rE D L w).heap.size=w.heap.size:=by
 induction L with
 | nil=>rfl
 | cons x L ih=>simp [rE,ih]
def J1(h:k ∉ L.map (·.1)):(rE D L w).heap[k]?=w.heap[k]?:=by
 induction L with
 | nil=>rfl
 | cons x L ih=>
  simp only [aN,aR,gZ] at h;rw [rE,E5 _ (λe=>h.1 e.symm),ih h.2]
def qld(kZ:∀ x∈L,x.1 < w.heap.size)(h:k∈L.map (·.1)):(rE D L w).heap[k]?=some (mJ D):=by
  induction L with
  | nil=>cases h
  | cons x L ih=>
    by_cases hk:x.1=k
    . subst hk;rw [rE];exact J0 _ (by rw [Tl];exact kZ x Mc)
    . rw [rE,E5 _ hk]
      simp only [aN,aR] at h;exact ih (λy hy=>kZ y (an _ hy)) (h.resolve_left (λe=>hk e.symm))
def Of(L:Hl)(s:World):(rE D L s).os=s.os:=by induction L with
 | nil=>rfl
 | cons x L ih=>exact ih
def NI(L:Hl)(s:World):(rE D L s).tape=s.tape:=by induction L with
 | nil=>rfl
 | cons x L ih=>exact ih
def ZZ(L:Hl)(s:World):(rE D L s).drawn=s.drawn:=by induction L with
 | nil=>rfl
 | cons x L ih=>exact ih
def NB(L:Hl)(s:World):(rE D L s).output=s.output:=by induction L with
 | nil=>rfl
 | cons x L ih=>exact ih
def qIw(h:jQ D L s)(hb:Below (fill L s).heap.size (fill L s) w'):
    w'=fill L (rE D L w')/\jQ D L (rE D L w')/\Le D s (rE D L w'):=by
  have jp:s.heap.size<=w'.heap.size:=by have:=hb.size;rwa [oB] at this
  have kZ:∀ x∈L,x.1 < w'.heap.size:=λx hx=>dM (h.lt hx) jp;have me:jQ D L (rE D L w'):=⟨h.nd,λx hx=>qld kZ (aW.2 ⟨x,hx,rfl⟩)⟩;refine ⟨Dz (Dy λk=>?_) ?_ ?_ ?_ ?_,me,⟨?_,?_,?_,by rw [Tl];exact jp,λk hk=>?_⟩⟩
  . by_cases hk:k∈L.map (·.1)
    . obtain ⟨x,hx,rfl⟩:=aW.1 hk
      rw [qM me hx,hb.block x.1 (by rw [oB];exact h.lt hx),qM h hx]
    . rw [vV hk,J1 hk]
  . rw [zo,NI]
  . rw [FW,ZZ]
  . rw [zt,Of]
  . rw [zp,NB]
  . rw [Of,hb.os,zt]
  . rw [NI,hb.tape,zo]
  . rw [NB,hb.output,zp]
  . by_cases hd:s.heap[k]?=some (mJ D)
    . exact .inl hd
    . have sN:=OM h hd
      exact .inr (by rw [J1 sN,hb.block k (by rw [oB];exact hk),vV sN])
def qB(h:jQ D L s)(o:Obj):
    (fill L s).alloc o=fill ((s.heap.size,o)::L) (s.alloc (mJ D))/\jQ D ((s.heap.size,o)::L) (s.alloc (mJ D))/\Le D s (s.alloc (mJ D)):=by
  have hold:∀ k,k < s.heap.size->(s.alloc (mJ D)).heap[k]?=s.heap[k]?:=λk hk=>Below.heap_alloc s _ k hk;have me:jQ D ((s.heap.size,o)::L) (s.alloc (mJ D)):=by
    refine ⟨?_,?_⟩
    . simp only [aN,du]
      refine ⟨λhm=>?_,h.nd⟩;obtain ⟨x,hx,he⟩:=aW.1 hm;have:=h.lt hx;omega
    . intro x hx
      rcases aR.1 hx with rfl|hx
      . exact fW s _
      . rw [hold _ (h.lt hx)];exact h.dm x hx
  refine ⟨Dz (Dy λk=>?_) ?_ ?_ ?_ ?_,me,⟨Z,Z,Z,Ξ,λk hk=>.inr (hold k hk)⟩⟩
  . rcases Nat.lt_trichotomy k s.heap.size with hk|rfl|hk
    . rw [Below.heap_alloc _ _ _ (by rw [oB];exact hk)]
      by_cases hm:k∈L.map (·.1)
      . obtain ⟨x,hx,rfl⟩:=aW.1 hm
        rw [qM h hx,qM me (an _ hx)]
      . rw [vV hm,vV (by simp only [aN,aR,gZ];exact ⟨O,hm⟩),hold k hk]
    . rw [qM me Mc,<- oB L s];exact fW _ _
    . rw [bS (by simp [oB];omega),bS (by rw [oB];simp;omega)]
  . show (fill L s).tape=_;rw [zo,zo];rfl
  . show (fill L s).drawn=_;rw [FW,FW];rfl
  . show (fill L s).os=_;rw [zt,zt];rfl
  . show (fill L s).output=_;rw [zp,zp];rfl
def lV(L:Hl)(i:Nat)(o:Obj):Hl:=match L,i with
 | [],_=>[]
 | x::L,0=>(x.1,o)::L
 | x::L,i+1=>x::lV L i o
def qmg(L:Hl)(i:Nat)(o:Obj):(lV L i o).map (·.1)=L.map (·.1):=by
 induction L generalizing i with
 | nil=>cases i<;>rfl
 | cons x L ih=>cases i with
  | zero=>rfl
  | succ i=>simp [lV,ih]
def DB(h:jQ D L s)(i:Nat)(o:Obj):jQ D (lV L i o) s:=by
 refine ⟨by rw [qmg];exact h.nd,λx hx=>?_⟩;have:x.1∈(lV L i o).map (·.1):=aW.2 ⟨x,hx,rfl⟩;rw [qmg] at this;obtain ⟨y,hy,he⟩:=aW.1 this;rw [<- he];exact h.dm y hy
def qkr(w:World)(b:Nat)(o p:Obj):pz (pz w b o) b p=pz w b p:=by
 unfold pz;simp
def Dr(h:jQ D L s){p:Obj}(hi:L[i]?=some (b,p))(o:Obj):fill (lV L i o) s=pz (fill L s) b o:=by
 induction L generalizing i with
 | nil=>cases hi
 | cons x L ih=>
  cases i with
  | zero=>
   simp only [dj,cZ] at hi;subst hi;simp only [lV,fill];rw [qkr]
  | succ i=>
   simp only [bH] at hi;have kO:=h.nd;simp only [aN,du] at kO;simp only [lV,fill];rw [ih h.tail hi,Tc];intro e;exact kO.1 (by rw [<- e];exact aW.2 ⟨_,ax hi,rfl⟩)
def qlq(L:Hl)(s:World):(fill L s).drew=fill L s.drew:=by
 induction L with
 | nil=>rfl
 | cons x L ih=>show pz (fill L s).drew x.1 x.2=pz (fill L s.drew) x.1 x.2;rw [ih]
def Le.drew(s:World):Le D s s.drew:=⟨rfl,rfl,rfl,ay _,λ_ _=>.inr rfl⟩
def jQ.drew(h:jQ D L s):jQ D L s.drew:=⟨h.nd,h.dm⟩
def Lc(h:p:=by first|assumption|exact Le.refl _|(repeat (first|assumption|refine Le.trans ?_ ‹Le _ _ _› | exact (‹Le _ _ _/\_›).1|refine Le.trans ?_ (‹Le _ _ _/\_›).1))):p:=h
def Pz(h:p:=by first|assumption|exact GP.le ‹_› Lc|exact iy.le ‹_› Lc|exact iO.le ‹_› Lc|exact ja.le ‹_› Lc|exact jl.le ‹_› Lc|exact j8.le ‹_› Lc|exact jo.le ‹_› Lc|exact lP.le ‹_› Lc|exact lX.le ‹_› Lc|exact tk.le ‹_› Lc|exact MG.le ‹_› Lc|exact ki.le ‹_› Lc|exact GW.le ‹_› Lc|exact oJ.le ‹_› Lc|exact vH.le ‹_› Lc|exact yT.le ‹_› Lc|exact re.le ‹_› Lc|exact BS.le ‹_› Lc|exact tR.le ‹_› Lc|exact qn.le ‹_› Lc|exact uK.le ‹_› Lc|exact AU.le ‹_› Lc|exact xv.le ‹_› Lc|exact Nb.le ‹_› Lc|exact StT.le ‹_› Lc|exact sG.le ‹_› Lc|exact Row.le ‹_› Lc|exact CT.le ‹_› Lc|exact lZ.le Lc ‹_› | exact qI.le Lc ‹_›):p:=h
abbrev Fr:=List (Nat×Value)
def kQ:Fr->Nat->Option Value
 | [],_=>none
 | (d,v)::r,t=>bif Nat.beq d t then some v else kQ r t
def lk(fr:Fr):Operand->Option Value
 | .tmp t=>kQ fr t
 | .const v=>some v
 | .global g=>some (iT g)
 | .func f=>some (.func (.func f) #[] #[])
structure jr(n:Nat)(a:Act)(fr:Fr):Prop where
 size:a.tmps.size=n
 defers:a.defers=[]
 slot:∀ t,t < n->∀ v,kQ fr t=some v->a.tmps[t]?=some v
 ah:∀ t v,kQ fr t=some v->t < n
def jr.ev{a:Act}{fr:Fr}(h:jr n a fr)(hx:lk fr x=some v):a.eval x=v:=by
 cases x with
 | tmp t=>
  have:=h.slot t (h.ah t v hx) v hx;simp [Act.eval,this]
 | const u=>simpa [lk,Act.eval] using hx
 | global g=>simpa [lk,Act.eval] using hx
 | func f=>simpa [lk,Act.eval] using hx
def vW(d:Nat)(v:Value)(fr:Fr)(t:Nat):kQ ((d,v)::fr) t=if d=t then some v else kQ fr t:=by
  simp only [kQ,cond_eq_ite];by_cases h:d=t
  . subst h;simp
  . have:Nat.beq d t=false:=by
      cases hb:Nat.beq d t with
      | false=>rfl
      | true=>exact absurd (ez hb) h
    simp [h,this]
def jr.put{a:Act}{fr:Fr}(h:jr n a fr)(hd:Nat.blt d n=true)(v:Value):jr n (a.put (some d) v) ((d,v)::fr):=by
  have hd':d < n:=bE hd;refine ⟨by simp [Act.put,h.size],by simp [Act.put,h.defers],λt ht u hu=>?_,λt u hu=>?_⟩
  . rw [vW] at hu
    by_cases he:d=t
    . subst he;simp at hu;subst hu;simp [Act.put,h.size,hd']
    . simp only [he,bY] at hu
      simp only [Act.put,bW he];exact h.slot t ht u hu
  . rw [vW] at hu
    by_cases he:d=t
    . subst he;exact hd'
    . simp only [he,bY] at hu;exact h.ah t u hu
inductive TK where
 | sc
 | sl (elem:Nat)
 | st (offs:List Nat)
 | ar (len elem:Nat)
def uY:TK->Bool
 | .sc=>true
 | .sl _=>true
 | _=>false
structure TI where
 kind:TK
 desc:TypeDesc
 size:Nat
 bytes:Nat
 J:iz
 fsz:List Nat:=[]
variable{ti te:TI}
def TI.zero(x:TI):Value:=match x.kind with
 | .st _=>.agg x.J.toArray
 | .ar _ _=>.agg x.J.toArray
 | _=>x.J.headD undef
abbrev kD:=List (Nat×TI)
def TK.fits:TK->TypeDesc->Prop
 | .sc,.struct _=>False
 | .sc,.array _ _=>False
 | .sc,_=>True
 | .sl e,d=>d=.slice e
 | .st offs,.struct fs=>fs.toList.map (·.offset)=offs
 | .st _,_=>False
 | .ar n e,d=>d=.array n e
def qrv(P:Program):TypeDesc->Bool
 | .struct fs=>fs.toList.all (λf=>decide (0 < P.cellsOf f.type))
 | _=>true
def qpl(P:Program):TypeDesc->List Nat
 | .struct fs=>fs.toList.map λf=>P.cellsOf f.type
 | _=>[]
def TI.ok(P:Program)(t:Nat)(x:TI):Prop:=
 P.underlying t=some x.desc/\x.kind.fits x.desc/\(P.info? t).map (λi=>(i.size,i.bytes,i.zero))=some (x.size,x.bytes,some x.zero)/\x.J.length=x.size/\x.J.all (·.oneCell')=true/\0 < x.size/\(uY x.kind=true->x.size=1) /\
 qrv P x.desc=true/\qpl P x.desc=x.fsz
def jV(P:Program)(TT:kD):Prop:=∀ x∈TT,x.2.ok P x.1
def jz:kD->Nat->Option TI
 | [],_=>none
 | (d,v)::r,t=>bif Nat.beq d t then some v else jz r t
def qtz{TT:kD}{t:Nat}{x:TI}(h:jz TT t=some x):(t,x)∈TT:=by
  induction TT with
  | nil=>cases h
  | cons y TT ih=>
    obtain ⟨d,v⟩:=y;simp only [jz,cond_eq_ite] at h;by_cases he:Nat.beq d t=true
    . simp only [he,bV,cZ] at h
      have:d=t:=by simpa using he
      subst h;subst this;exact cQ ..
    . simp only [he] at h;exact an _ (ih h)
def jV.at_{TT:kD}(h:jV P TT){t:Nat}{x:TI}(hx:jz TT t=some x):x.ok P t:=h _ (qtz hx)
abbrev pS:=Exit->Fr->Hl->World->Prop
def y0(D n:Nat)(Q:pS):Exit->Act->World->Prop:=λe a w=>∃ fr L s,jr n a fr/\jQ D L s/\w=fill L s/\Q e fr L s
def JC(P:Program)(TT:kD)(D n:Nat)(Q:pS)(c:Code)(fr:Fr)(L:Hl)(s:World):Prop:=
 jV P TT->∀ a,jr n a fr->jQ D L s->c.wp P (y0 D n Q) a (fill L s)
def JO(P:Program)(TT:kD)(D n:Nat)(ops:Array Oper)(Q:pS)(l:List Oper)(fr:Fr)(L:Hl)(s:World):Prop:=
 jV P TT->∀ a,jr n a fr->jQ D L s->wpList P ops (y0 D n Q) l a (fill L s)
section control
variable{TT:kD}{Q:pS}{fr:Fr}{L:Hl}
def ma(J:Fr->Hl->World->Prop)(Q:pS):pS
 | .normal,fr,L,s=>J fr L s
 | e,fr,L,s=>Q e fr L s
def mO(id:Nat)(Q:pS):pS
 | .exit i,fr,L,s=>if i=id then Q .normal fr L s else Q (.exit i) fr L s
 | e,fr,L,s=>Q e fr L s
def qAF(h:Q .normal fr L s):JC P TT D n Q .skip fr L s:=λ_ _ hr ho=>wp_skip ⟨fr,L,s,hr,ho,rfl,h⟩
def qAE{id:Nat}(h:Q (.exit id) fr L s):JC P TT D n Q (.exit id) fr L s:=λ_ _ hr ho=>wp_exit ⟨fr,L,s,hr,ho,rfl,h⟩
def qGw(h:Q .ret fr L s):JC P TT D n Q .ret fr L s:=λ_ _ hr ho=>wp_ret ⟨fr,L,s,hr,ho,rfl,h⟩
def qyP{x y:Code}(h:JC P TT D n (ma (JC P TT D n Q y) Q) x fr L s):JC P TT D n Q (.seq x y) fr L s:=λht a hr ho=>
 iu (eS (h ht a hr ho) λe a w ⟨jN,L',s',h1,h2,h3,h4⟩=>by
  cases e with
  | normal=>subst h3;exact h4 ht a h1 h2
  | _=>exact ⟨jN,L',s',h1,h2,h3,h4⟩)
def qt6{id:Nat}{c:Code}(h:JC P TT D n (mO id Q) c fr L s):JC P TT D n Q (.block id c) fr L s:=λht a hr ho=>
 wp_block (eS (h ht a hr ho) λe a w ⟨jN,L',s',h1,h2,h3,h4⟩=>by
  cases e with
  | exit i=>
   simp only [mO] at h4;simp only [Exit.inBlock];by_cases hi:i=id
   . simp only [hi,bV] at h4 ⊢;exact ⟨jN,L',s',h1,h2,h3,h4⟩
   . simp only [hi,bY] at h4 ⊢;exact ⟨jN,L',s',h1,h2,h3,h4⟩
  | _=>exact ⟨jN,L',s',h1,h2,h3,h4⟩)
def su{x y:Code}{b:Bool}(hc:lk fr c=some (.bool b))(h1:b=true->JC P TT D n Q x fr L s)(h2:b=false->JC P TT D n Q y fr L s):JC P TT D n Q (.cond c x y) fr L s:=
 λht a hr ho=>wp_cond_split (hr.ev hc) (λhb=>h1 hb ht a hr ho) (λhb=>h2 hb ht a hr ho)
def mG{x y:Code}[Decidable p](hc:lk fr c=some (.bool (decide p)))(h1:p->JC P TT D n Q x fr L s)(h2:¬ p->JC P TT D n Q y fr L s):JC P TT D n Q (.cond c x y) fr L s:=
 su hc (λhb=>h1 (cV hb)) (λhb=>h2 (dw hb))
def lL{x y:Code}[Decidable p](hc:lk fr c=some (.bool (!decide p)))(h1:¬ p->JC P TT D n Q x fr L s)(h2:p->JC P TT D n Q y fr L s):JC P TT D n Q (.cond c x y) fr L s:=
 su hc (λhb=>h1 Q11) (λhb=>h2 Q11)
def vZ{x y:Code}{b:Bool}(hc:lk fr c=some (.bool (!b)))(h1:b=false->JC P TT D n Q x fr L s)(h2:b=true->JC P TT D n Q y fr L s):JC P TT D n Q (.cond c x y) fr L s:=
 su hc (λhb=>h1 Q11) (λhb=>h2 Q11)
def qGv{c:Operand}{x y:Code}(hc:lk fr c=some (.bool true))(h1:JC P TT D n Q x fr L s):JC P TT D n Q (.cond c x y) fr L s:=
 su hc (λ_=>h1) (λhb=>by cases hb)
def qGu{c:Operand}{x y:Code}(hc:lk fr c=some (.bool false))(h2:JC P TT D n Q y fr L s):JC P TT D n Q (.cond c x y) fr L s:=
 su hc (λhb=>by cases hb) (λ_=>h2)
def To{id:Nat}{l:List Oper}(h:JO P TT D n l.toArray Q l fr L s):JC P TT D n Q (.region id l.toArray false) fr L s:=
 λht a hr ho=>wp_region_lit (h ht a hr ho)
def qyR{ops:Array Oper}(h:Q .normal fr L s):JO P TT D n ops Q [] fr L s:=λ_ _ hr ho=>⟨fr,L,s,hr,ho,rfl,h⟩
def qlC{l fr:Fr}(t:Nat):kQ (l++fr) t=(kQ l t).or (kQ fr t):=by
 induction l with
 | nil=>simp [kQ]
 | cons x l ih=>
  obtain ⟨d,v⟩:=x;rw [ao,vW,vW];by_cases h:d=t<;>simp [h,ih]
def jr.sub{a:Act}{fr l:Fr}(h:jr n a fr)(hs:∀ t v,kQ l t=some v->kQ fr t=some v):jr n a l:=
 ⟨h.size,h.defers,λt ht v hv=>h.slot t ht v (hs t v hv),λt v hv=>h.ah t v (hs t v hv)⟩
def iY(fr l:Fr):Prop:=∀ t v,kQ l t=some v->kQ fr t=some v
def iY.nil(fr:Fr):iY fr []:=λ_ _ h=>by cases h
def iY.cons{fr l:Fr}(h1:kQ fr d=some v)(h:iY fr l):iY fr ((d,v)::l):=λt u hu=>by
 rw [vW] at hu;by_cases he:d=t
 . subst he;simp at hu;subst hu;exact h1
 . simp only [he,bY] at hu;exact h t u hu
def iY.c6{fr l:Fr}(h0:kQ fr d0=some v0)(h1:kQ fr d1=some v1)(h2:kQ fr d2=some v2)(h3:kQ fr d3=some v3)(h4:kQ fr d4=some v4)(h5:kQ fr d5=some v5)(h:iY fr l):iY fr ((d0,v0)::(d1,v1)::(d2,v2)::(d3,v3)::(d4,v4)::(d5,v5)::l):=iY.cons h0 (iY.cons h1 (iY.cons h2 (iY.cons h3 (iY.cons h4 (iY.cons h5 (h))))))
def iY.c5{fr l:Fr}(h0:kQ fr d0=some v0)(h1:kQ fr d1=some v1)(h2:kQ fr d2=some v2)(h3:kQ fr d3=some v3)(h4:kQ fr d4=some v4)(h:iY fr l):iY fr ((d0,v0)::(d1,v1)::(d2,v2)::(d3,v3)::(d4,v4)::l):=iY.cons h0 (iY.cons h1 (iY.cons h2 (iY.cons h3 (iY.cons h4 (h)))))
def iY.c4{fr l:Fr}(h0:kQ fr d0=some v0)(h1:kQ fr d1=some v1)(h2:kQ fr d2=some v2)(h3:kQ fr d3=some v3)(h:iY fr l):iY fr ((d0,v0)::(d1,v1)::(d2,v2)::(d3,v3)::l):=iY.cons h0 (iY.cons h1 (iY.cons h2 (iY.cons h3 (h))))
def iY.c3{fr l:Fr}(h0:kQ fr d0=some v0)(h1:kQ fr d1=some v1)(h2:kQ fr d2=some v2)(h:iY fr l):iY fr ((d0,v0)::(d1,v1)::(d2,v2)::l):=iY.cons h0 (iY.cons h1 (iY.cons h2 (h)))
def iY.c2{fr l:Fr}(h0:kQ fr d0=some v0)(h1:kQ fr d1=some v1)(h:iY fr l):iY fr ((d0,v0)::(d1,v1)::l):=iY.cons h0 (iY.cons h1 (h))
def RD{p:Prop} (h:p:=by
 obtain ⟨e,d1,d2⟩:=tI k2;exact ⟨μ g',j4,g',_,rfl,k1.sub j1,d1,e,mono _ _ _ j3 d2⟩):p:=h
def lJ{γ:Type}{c:Code}(S:γ->Fr)(H:γ->Hl)(I:γ->World->Prop)(μ:γ->Nat)(mono:∀ g s s',I g s->Le D s s'->I g s')(g0:γ)
  (hS:iY fr (S g0)) (hL:L=H g0) (hI:I g0 s)
  (round:∀ g s,I g s->JC P TT D n (ma (λjN L' s'=>∃ g' A,iY jN (S g')/\L'=A++H g'/\I g' s'/\μ g' < μ g) Q) c (S g) (H g) s) :
  JC P TT D n Q (.loop c) fr L s:=λht a hr ho=>by
 refine wp_loop_ghost (λm a w=>∃ g s,μ g=m/\jr n a (S g)/\jQ D (H g) s/\w=fill (H g) s/\I g s) (μ g0) ⟨g0,s,Z,hr.sub hS,hL▸ho,hL▸Z,hI⟩ ?_;rintro m a w ⟨g,s,rfl,h1,h2,rfl,h4⟩;refine eS (round g s h4 ht a h1 h2) ?_;rintro e a' w' ⟨jN,L',s',k1,k2,rfl,k4⟩;cases e with
 | normal=>
  obtain ⟨g',A,j1,rfl,j3,j4⟩:=k4;exact RD
 | _=>exact ⟨jN,L',s',k1,k2,rfl,k4⟩
end control
def cb(zs:iz)(t:Nat):Obj:=.cells zs.toArray t (0,0)
abbrev St(l:List UInt8):Value:=.string ⟨l.toArray⟩
def Ev(P:Program)(TT:kD)(D:Nat)(fr:Fr)(op:Op)(ty:Nat)(L:Hl)(s:World)(r:Next)(L':Hl)(s':World):Prop:=
 jV P TT->jQ D L s->∀ (dst:Option Nat) (iL:String) (af:Array Edge) (g:Option (Nat×Bool)) (ρ:Operand->Value),(∀ x v,lk fr x=some v->ρ x=v)->(execOp ρ ⟨dst,op,ty,iL,af,g⟩).run P (fill L s)=.ok r (fill L' s')/\jQ D L' s'
def QE(P:Program)(TT:kD)(D:Nat)(fr:Fr)(op:Op)(ty:Nat)(K:Hl)(s0:World)(v:Value):Prop:=
 jV P TT->∀ (dst:Option Nat) (iL:String) (af:Array Edge) (g:Option (Nat×Bool)) (ρ:Operand->Value),(∀ x v,lk fr x=some v->ρ x=v) ->
  ∀ L s,jQ D L s->Le D s0 s->(∀ x∈K,x∈L)->(execOp ρ ⟨dst,op,ty,iL,af,g⟩).run P (fill L s)=.ok (.value v) (fill L s)
def QE.pure{TT:kD}{fr:Fr}{op:Op}{K:Hl}
  (h:jV P TT->∀ (dst:Option Nat) (iL:String) (af:Array Edge) (g:Option (Nat×Bool)) (ρ:Operand->Value),(∀ x v,lk fr x=some v->ρ x=v)->∀ w,(execOp ρ ⟨dst,op,ty,iL,af,g⟩).run P w=.ok (.value v) w):QE P TT D fr op ty K s0 v:=
 λht dst iL af g ρ hρ L s _ _ _=>h ht dst iL af g ρ hρ _
section
variable{TT:kD}{Q:pS}{fr:Fr}{L L':Hl}{ops:Array Oper}{op:Op}
def AH(hd:Nat.blt d n=true)(h:Ev P TT D fr op ty L s (.value v) L' s')(k:JO P TT D n ops Q iI ((d,v)::fr) L' s'):
  JO P TT D n ops Q (⟨some d,op,ty,iL,af,none⟩::iI) fr L s:=λht a hr ho=>by
 obtain ⟨h1,h2⟩:=h ht ho (some d) iL af none a.eval (λx v hx=>hr.ev hx);simp only [wpList,Region.wanted,bV];refine .inl ?_;simp only [Oper.wp,h1,Oper.upon];exact k ht _ (hr.put hd v) h2
def Pp(h:Ev P TT D fr op ty L s .skip L' s')(k:JO P TT D n ops Q iI fr L' s'):
  JO P TT D n ops Q (⟨none,op,ty,iL,af,none⟩::iI) fr L s:=λht a hr ho=>by
 obtain ⟨h1,h2⟩:=h ht ho none iL af none a.eval (λx v hx=>hr.ev hx);simp only [wpList,Region.wanted,bV];refine .inl ?_;simp only [Oper.wp,h1,Oper.upon];exact k ht _ hr h2
def iA(h:QE P TT D fr op ty L s v)(hd:Nat.blt d n=true)(k:JO P TT D n ops Q iI ((d,v)::fr) L s):JO P TT D n ops Q (⟨some d,op,ty,iL,af,none⟩::iI) fr L s:=
 AH hd (λht ho dst iL af g ρ hρ=>⟨h ht dst iL af g ρ hρ L s ho (Le.refl _) (λ_ hx=>hx),ho⟩) k
def we(ops:Array Oper)(j:Nat):Option Nat:=(ops[j]?).bind (·.dst)
def qJ8{t:Nat}{w:Bool}(hj:we ops j=some t)(hv:kQ fr t=some (.bool w))
  (k:JO P TT D n ops Q (⟨dst,op,ty,iL,af,none⟩::iI) fr L s):JO P TT D n ops Q (⟨dst,op,ty,iL,af,some (j,w)⟩::iI) fr L s:=λht a hr ho=>by
 have k1:=k ht a hr ho;have hy:yielded ops a.tmps j=some w:=by
  have h1:=hr.slot t (hr.ah _ _ hv) _ hv;unfold we at hj;simp [yielded,hj,h1]
 simp only [wpList,Region.wanted,bV] at k1;simp only [wpList,Region.wanted,hy,beq_self_eq_true,bV];exact k1
def YJ{t:Nat}{w b:Bool}(hd:Nat.blt d n=true)(hj:we ops j=some t)(hv:kQ fr t=some (.bool b))(hb:(b != w)=true)
  (k:JO P TT D n ops Q iI ((d,undef)::fr) L s):JO P TT D n ops Q (⟨some d,op,ty,iL,af,some (j,w)⟩::iI) fr L s:=λht a hr ho=>by
 have hy:yielded ops a.tmps j=some b:=by
  have h1:=hr.slot t (hr.ah _ _ hv) _ hv;unfold we at hj;simp [yielded,hj,h1]
 have mL:(some b == some w)=false:=by cases b<;>cases w<;>simp_all
 simp only [wpList,Region.wanted,hy,mL,dq,bY];exact k ht _ (hr.put hd undef) ho
def Wf{t:Nat}{w b:Bool}(hY:(Nat.blt d n=true)/\(we ops j=some t)/\(kQ fr t=some (.bool b))/\((b != w)=true))
  (k:JO P TT D n ops Q iI ((d,undef)::fr) L s):JO P TT D n ops Q (⟨some d,op,ty,iL,af,some (j,w)⟩::iI) fr L s:=YJ hY.1 hY.2.1 hY.2.2.1 hY.2.2.2 k
def qJ9{t:Nat}{w:Bool}(hd:Nat.blt d n=true)(hj:we ops j=some t)(hv:kQ fr t=some undef)
  (k:JO P TT D n ops Q iI ((d,undef)::fr) L s):JO P TT D n ops Q (⟨some d,op,ty,iL,af,some (j,w)⟩::iI) fr L s:=λht a hr ho=>by
 have hy:yielded ops a.tmps j=none:=by
  have h1:=hr.slot t (hr.ah _ _ hv) _ hv;unfold we at hj;simp [yielded,hj,h1,undef]
 simp only [wpList,Region.wanted,hy];exact k ht _ (hr.put hd undef) ho
def IF{p:Prop} (h:p:=by
 cases b with
 | true=>exact h1 rfl ht a (hr.sub λt' v' h=>by rw [vW] at h;split at h<;>simp_all) ho
 | false=>exact h2 rfl ht a (hr.sub λt' v' h=>by rw [vW] at h;split at h<;>simp_all) ho):p:=h
def Gs{l:List Oper}{t:Nat}{b:Bool}(hv:kQ fr t=some (.bool b))(h1:b=true->JO P TT D n ops Q l ((t,.bool true)::fr) L s)(h2:b=false->JO P TT D n ops Q l ((t,.bool false)::fr) L s):
  JO P TT D n ops Q l fr L s:=λht a hr ho=>by
 exact IF
def ld{l:List Oper}{t:Nat}[Decidable p](hv:kQ fr t=some (.bool (decide p)))(h1:p->JO P TT D n ops Q l ((t,.bool true)::fr) L s)(h2:¬ p->JO P TT D n ops Q l ((t,.bool false)::fr) L s):
  JO P TT D n ops Q l fr L s:=Gs hv (λh=>h1 (cV h)) (λh=>h2 (dw h))
def Fa{l:List Oper}{t:Nat}{b:Bool}(hv:kQ fr t=some (.bool (!b)))(h1:b=false->JO P TT D n ops Q l ((t,.bool true)::fr) L s)(h2:b=true->JO P TT D n ops Q l ((t,.bool false)::fr) L s):
  JO P TT D n ops Q l fr L s:=Gs hv (λh=>h1 Q2) (λh=>h2 Q2)
def tG{l:List Oper}{t:Nat}[Decidable p](hv:kQ fr t=some (.bool (!decide p)))(h1:¬ p->JO P TT D n ops Q l ((t,.bool true)::fr) L s)(h2:p->JO P TT D n ops Q l ((t,.bool false)::fr) L s):
  JO P TT D n ops Q l fr L s:=Gs hv (λh=>h1 Q2) (λh=>h2 Q2)
end
section
variable{TT:kD}{fr:Fr}{K:Hl}
def E3(hx:lk fr x=some v):QE P TT D fr (.move x) ty K s0 v:=QE.pure λ_ dst iL af g ρ hρ w=>by simp [execOp,hρ x v hx]
def Ny(hx:lk fr x=some v):QE P TT D fr (.assign x) ty K s0 v:=QE.pure λ_ dst iL af g ρ hρ w=>by simp [execOp,hρ x v hx]
def FU(hc:lk fr c=some (.bool true))(hx:lk fr x=some v):QE P TT D fr (.pick c x y) ty K s0 v:=QE.pure λ_ dst iL af g ρ hρ w=>by simp [execOp,hρ x v hx,hρ c _ hc,asBool]
def FZ(hc:lk fr c=some (.bool false))(hx:lk fr y=some v):QE P TT D fr (.pick c x y) ty K s0 v:=QE.pure λ_ dst iL af g ρ hρ w=>by simp [execOp,hρ y v hx,hρ c _ hc,asBool]
def O0{b:Bool}{t:Nat}(hx:lk fr x=some (.bool b)):QE P TT D fr (.unOp .not t x) ty K s0 (.bool (!b)):=QE.pure λ_ dst iL af g ρ hρ w=>by simp [execOp,hρ x _ hx,Op.unary]
def qAR{t:Nat}(hx:lk fr x=some (.bool true)):QE P TT D fr (.unOp .not t x) ty K s0 (.bool false):=O0 hx
def qAQ{t:Nat}(hx:lk fr x=some (.bool false)):QE P TT D fr (.unOp .not t x) ty K s0 (.bool true):=O0 hx
def nth:iz->Nat->Option Value
 | [],_=>none
 | x::_,0=>some x
 | _::r,k+1=>nth r k
theorem wc(l:iz)(i:Nat):nth l i=l[i]?:=by
 induction l generalizing i with
 | nil=>rfl
 | cons x l ih=>cases i<;>simp [nth,ih]
def S6(hx:lk fr x=some (.tuple vs.toArray))(hi:nth vs i=some v):QE P TT D fr (.extract x i) ty K s0 v:=
 QE.pure λ_ dst iL af g ρ hρ w=>by rw [wc] at hi;simp [execOp,hρ x _ hx,Instr.extract,hi]
def S4{a:Addr}(hx:lk fr x=some (.pointer (some a))):QE P TT D fr (.nilCheck x) ty K s0 (.pointer (some a)):=QE.pure λ_ dst iL af g ρ hρ w=>by simp [execOp,hρ x _ hx]
def uj{b:Int}{t:Nat}(hx:lk fr x=some (.int ik a))(hy:lk fr y=some (.int ik b)):QE P TT D fr (.binOp .eql t x y t') ty K s0 (.bool (decide (a=b))):=
 QE.pure λ_ dst iL af g ρ hρ w=>by simp [execOp,hρ x _ hx,hρ y _ hy,eqGuard,binOp,Op.intCmp];rfl
def rD{b:Int}{t:Nat}(hx:lk fr x=some (.int ik a))(hy:lk fr y=some (.int ik b)):QE P TT D fr (.binOp .neq t x y t') ty K s0 (.bool (!decide (a=b))):=
 QE.pure λ_ dst iL af g ρ hρ w=>by simp [execOp,hρ x _ hx,hρ y _ hy,eqGuard,binOp,Op.intCmp];rfl
def Ru{b:Int}{t:Nat}(hx:lk fr x=some (.int ik a))(hy:lk fr y=some (.int ik b)):QE P TT D fr (.binOp .lss t x y t') ty K s0 (.bool (decide (a < b))):=
 QE.pure λ_ dst iL af g ρ hρ w=>by simp [execOp,hρ x _ hx,hρ y _ hy,eqGuard,binOp,Op.intCmp]
def K8{b:Int}{t:Nat}(hx:lk fr x=some (.int ik a))(hy:lk fr y=some (.int ik b)):QE P TT D fr (.binOp .leq t x y t') ty K s0 (.bool (decide (a<=b))):=
 QE.pure λ_ dst iL af g ρ hρ w=>by simp [execOp,hρ x _ hx,hρ y _ hy,eqGuard,binOp,Op.intCmp]
def Rt{b:Int}{t:Nat}(hx:lk fr x=some (.int ik a))(hy:lk fr y=some (.int ik b)):QE P TT D fr (.binOp .gtr t x y t') ty K s0 (.bool (decide (b < a))):=
 QE.pure λ_ dst iL af g ρ hρ w=>by simp [execOp,hρ x _ hx,hρ y _ hy,eqGuard,binOp,Op.intCmp]
def PB{b:Int}{t:Nat}(hx:lk fr x=some (.int ik a))(hy:lk fr y=some (.int ik b)):QE P TT D fr (.binOp .geq t x y t') ty K s0 (.bool (decide (b<=a))):=
 QE.pure λ_ dst iL af g ρ hρ w=>by simp [execOp,hρ x _ hx,hρ y _ hy,eqGuard,binOp,Op.intCmp]
def OY{b:Int}{t:Nat}(hx:lk fr x=some (.int ik a))(hy:lk fr y=some (.int ik b)):QE P TT D fr (.binOp .add t x y t') ty K s0 (.int ik (ik.wrap (a+b))):=
 QE.pure λ_ dst iL af g ρ hρ w=>by simp [execOp,hρ x _ hx,hρ y _ hy,eqGuard,binOp,Op.intArith]
def nV{b c:Int}{t:Nat}(hx:lk fr x=some (.int ik a))(hy:lk fr y=some (.int ik b))(hc:ik.wrap (a+b)=c):QE P TT D fr (.binOp .add t x y t') ty K s0 (.int ik c):=hc▸OY hx hy
def O4{b:Int}{t:Nat}(hx:lk fr x=some (.int ik a))(hy:lk fr y=some (.int ik b)):QE P TT D fr (.binOp .sub t x y t') ty K s0 (.int ik (ik.wrap (a - b))):=
 QE.pure λ_ dst iL af g ρ hρ w=>by simp [execOp,hρ x _ hx,hρ y _ hy,eqGuard,binOp,Op.intArith]
def tD{b c:Int}{t:Nat}(hx:lk fr x=some (.int ik a))(hy:lk fr y=some (.int ik b))(hc:ik.wrap (a - b)=c):QE P TT D fr (.binOp .sub t x y t') ty K s0 (.int ik c):=hc▸O4 hx hy
def UQ{b:Int}{t:Nat}(hx:lk fr x=some (.int ik a))(hy:lk fr y=some (.int ik b)):QE P TT D fr (.binOp .mul t x y t') ty K s0 (.int ik (ik.wrap (a * b))):=
 QE.pure λ_ dst iL af g ρ hρ w=>by simp [execOp,hρ x _ hx,hρ y _ hy,eqGuard,binOp,Op.intArith]
def Uj{b c:Int}{t:Nat}(hx:lk fr x=some (.int ik a))(hy:lk fr y=some (.int ik b))(hc:ik.wrap (a * b)=c):QE P TT D fr (.binOp .mul t x y t') ty K s0 (.int ik c):=hc▸UQ hx hy
def qyW{b:Int}{t:Nat}(hx:lk fr x=some (.int ik a))(hy:lk fr y=some (.int ik b))(hb:b≠0):QE P TT D fr (.binOp .quo t x y t') ty K s0 (.int ik (ik.wrap (a.tdiv b))):=
 QE.pure λ_ dst iL af g ρ hρ w=>by simp [execOp,hρ x _ hx,hρ y _ hy,eqGuard,binOp,Op.intDiv,hb]
def qyX{b:Int}{t:Nat}(hx:lk fr x=some (.int ik a))(hy:lk fr y=some (.int ik b))(hb:b≠0):QE P TT D fr (.binOp .rem t x y t') ty K s0 (.int ik (a.tmod b)):=
 QE.pure λ_ dst iL af g ρ hρ w=>by simp [execOp,hρ x _ hx,hρ y _ hy,eqGuard,binOp,Op.intDiv,hb]
def Ci{b:Int}{t:Nat}(hx:lk fr x=some (.int ik a))(hy:lk fr y=some (.int jk b))(mL:bo≠.eql/\bo≠.neq)(h:∀ w,(binOp bo t (.int ik a) (.int jk b)).run P w=.ok v w):QE P TT D fr (.binOp bo t x y t') ty K s0 v:=
 QE.pure λ_ dst iL af g ρ hρ w=>by
  have hg:(eqGuard bo t x y (.int ik a) (.int jk b)).run P w=.ok () w:=by cases bo<;>simp_all [eqGuard]
  simp [execOp,hρ x _ hx,hρ y _ hy,hg,h w]
def qGF{a b:List UInt8}{t:Nat}(hx:lk fr x=some (St a))(hy:lk fr y=some (St b)):QE P TT D fr (.binOp .eql t x y t') ty K s0 (.bool (decide (a=b))):=
 QE.pure λ_ dst iL af g ρ hρ w=>by simp [execOp,hρ x _ hx,hρ y _ hy,eqGuard,binOp,Op.stringOp];by_cases h:a=b<;>simp [h]
def KO{a b:List UInt8}{t:Nat}(hx:lk fr x=some (St a))(hy:lk fr y=some (St b)):QE P TT D fr (.binOp .neq t x y t') ty K s0 (.bool (!decide (a=b))):=
 QE.pure λ_ dst iL af g ρ hρ w=>by simp [execOp,hρ x _ hx,hρ y _ hy,eqGuard,binOp,Op.stringOp];by_cases h:a=b<;>simp [h]
def ql4{t:Nat}(h:P.underlying t=some .bool)(a b:Bool)(w:World):(Op.equal t (.bool a) (.bool b)).run P w=.ok (decide (a=b)) w:=by
 rw [run_equal_bool w t a b h];cases a<;>cases b<;>rfl
def HF(P:Program)(t:Nat)(xs ys:iz)(b:Bool):Prop:=P.eqGuardType P.depth t=false/\∀ w,(Op.equal t (.agg xs.toArray) (.agg ys.toArray)).run P w=.ok b w
def KN{b:Bool}{t:Nat}(hx:lk fr x=some (.agg xs.toArray))(hy:lk fr y=some (.agg ys.toArray))(hE:HF P t xs ys b):QE P TT D fr (.binOp .eql t x y t') ty K s0 (.bool b):=
 QE.pure λht dst iL af g ρ hρ w=>by simp [execOp,hρ x _ hx,hρ y _ hy,eqGuard,binOp,hE.1,hE.2 w]
def ui{b:Bool}{t:Nat}(hx:lk fr x=some (.agg xs.toArray))(hy:lk fr y=some (.agg ys.toArray))(hE:HF P t xs ys b):QE P TT D fr (.binOp .neq t x y t') ty K s0 (.bool (!b)):=
 QE.pure λht dst iL af g ρ hρ w=>by simp [execOp,hρ x _ hx,hρ y _ hy,eqGuard,binOp,hE.1,hE.2 w]
def qyS{a b:Bool}{t:Nat}(hx:lk fr x=some (.bool a))(hy:lk fr y=some (.bool b))(hu:jz TT t=some ti)(hu':ti.desc=.bool):QE P TT D fr (.binOp .neq t x y t') ty K s0 (.bool (!decide (a=b))):=
 QE.pure λht dst iL af g ρ hρ w=>by
  have h1:=(ht.at_ hu).1;rw [hu'] at h1;simp [execOp,hρ x _ hx,hρ y _ hy,eqGuard,binOp,ql4 h1]
end
def iy(s:World)(b off:Nat)(vs:iz):Prop:=∀ j v,vs[j]?=some v->s.cell? ⟨b,off+j,none⟩=some v
def iy.le(h:iy s b off vs)(hl:Le D s s'):iy s' b off vs:=λj v hj=>hl.cell (h j v hj)
def iy.one(h:s.cell? ⟨b,off,none⟩=some v):iy s b off [v]:=λj u hj=>by
 cases j with
 | zero=>simp at hj;subst hj;exact h
 | succ j=>simp at hj
def add_lit(b off j:Nat):(⟨b,off,none⟩:Addr).add j=⟨b,off+j,none⟩:=by unfold Addr.add;split<;>simp_all
section
variable{TT:kD}
def Jg{p:Prop} (h:p:=by
 obtain ⟨h1,h2,_⟩:=h;rw [hk] at h2;unfold isAgg;simp only [bA,aQ h1,aP];generalize ti.desc=dd at h2;cases dd<;>simp_all [TK.fits]):p:=h
def ql7{t:Nat}(h:ti.ok P t)(hk:ti.kind=.sc)(w:World):(isAgg t).run P w=.ok false w:=by
 exact Jg
def W4{p:Prop} (h:p:=by
 obtain ⟨h1,h2,_⟩:=h;rw [hk] at h2;unfold isAgg;simp only [TK.fits] at h2;simp [aQ h1,h2]):p:=h
def ql8{t:Nat}(h:ti.ok P t)(hk:ti.kind=.sl e)(w:World):(isAgg t).run P w=.ok false w:=by
 exact W4
def ql9{t:Nat}(h:ti.ok P t)(hk:ti.kind=.st os)(w:World):(isAgg t).run P w=.ok true w:=by
 exact Jg
def ql6{t:Nat}(h:ti.ok P t)(hk:ti.kind=.ar m e)(w:World):(isAgg t).run P w=.ok true w:=by
 exact W4
def Cc{t:Nat}(h:ti.ok P t):∃ i,P.info? t=some i/\i.size=ti.size/\i.bytes=ti.bytes/\i.zero=some ti.zero:=by
 obtain ⟨_,_,h3,_⟩:=h;cases hi:P.info? t with
 | none=>simp [hi] at h3
 | some i=>simp [hi] at h3;exact ⟨i,rfl,h3.1,h3.2.1,h3.2.2⟩
def Bv{t:Nat}(h:ti.ok P t)(w:World):(sizeOf t).run P w=.ok ti.size w:=by
 obtain ⟨i,h1,h2,_,_⟩:=Cc h;simp [sizeOf,typeInfo,h1,h2]
def Dt{t:Nat}(h:ti.ok P t)(w:World):(zeroValue t).run P w=.ok ti.zero w:=by
 obtain ⟨i,h1,_,_,h2⟩:=Cc h;simp [zeroValue,typeInfo,h1,h2]
def NF{t:Nat}(h:ti.ok P t)(w:World):(isAgg t).run P w=.ok (!uY ti.kind) w:=by
 cases hk:ti.kind with
 | sc=>exact ql7 h hk w
 | sl e=>exact ql8 h hk w
 | st os=>exact ql9 h hk w
 | ar m e=>exact ql6 h hk w
def IH{p:Prop} (h:p:=by
 have hl:ti.J.length=1:=by rw [h4];exact h7 (by rw [hk];rfl)
 match hz:ti.J,hl with
 | [z],_=>rw [hz] at h5;simp at h5;simp only [List.headD];cases z<;>simp_all [Value.oneCell',Value.cells]):p:=h
def E9{t:Nat}(h:ti.ok P t):ti.zero.cells=ti.J.toArray:=by
 obtain ⟨h1,h2,h3,h4,h5,h6,h7,_⟩:=h;unfold TI.zero;cases hk:ti.kind with
 | st os=>rfl
 | ar m e=>rfl
 | sc=>
  exact IH
 | sl e=>
  exact IH
def KC(t:TypeId)(cs:Array Value)(w:World):(newRow t cs).run P w=.ok ⟨w.heap.size,0,none⟩ (w.alloc (.cells cs t)):=by
 simp [newRow]
def nN:Value->iz
 | .agg cs=>cs.toList
 | v=>[v]
def NC(v:Value):v.cells=(nN v).toArray:=by cases v<;>simp [Value.cells,nN]
def S8{t:Nat}(h:ti.ok P t)(hk:uY ti.kind=true){a:Addr}(hc:w.cell? a=some v):(loadVar t a).run P w=.ok v w:=by
 simp [loadVar,NF h,hk,hc]
def S7{t:Nat}{ti:TI}(h:ti.ok P t)(hk:uY ti.kind=false){w:World}{b:Nat}{vs:iz}(hl:vs.length=ti.size)
  (hc:∀ j v,vs[j]?=some v->w.cell? ⟨b,off+j,none⟩=some v):(loadVar t ⟨b,off,none⟩).run P w=.ok (.agg vs.toArray) w:=by
 have h1:=run_loadCells_list (P:=P) w ⟨b,off,none⟩ vs (λj v hj=>by rw [add_lit];exact hc j v hj);simp [loadVar,NF h,hk,Bv h,<- hl,h1]
def qq5(ho:jQ D L s){t:Nat}(hi:L[i]?=some (b,cb zs t))(j:Nat):(fill L s).cell? ⟨b,j,none⟩=zs[j]?:=by
 have:=qM ho (ax hi);simp [World.cell?,this,cb]
def cut(zs:iz)(off:Nat):Nat->Option iz
 | 0=>some []
 | n+1=>match nth zs off with
  | some v=>match cut zs (off+1) n with
   | some r=>some (v::r)
   | none=>none
  | none=>none
def TQ(h:cut zs off n=some vs):vs.length=n/\∀ j v,vs[j]?=some v->zs[off+j]?=some v:=by
 induction n generalizing off vs with
 | zero=>simp [cut] at h;subst h;simp
 | succ n ih=>
  simp only [cut] at h;cases h1:nth zs off with
  | none=>simp [h1] at h
  | some x=>
   cases h2:cut zs (off+1) n with
   | none=>simp [h1,h2] at h
   | some r=>
    simp [h1,h2] at h;subst h;obtain ⟨k1,k2⟩:=ih h2;refine ⟨by simp [k1],λj v hj=>?_⟩;cases j with
    | zero=>simp at hj;subst hj;rw [wc] at h1;exact h1
    | succ j=>simp at hj;have:=k2 j v hj;rwa [eV,dA] at this
end
section
variable{TT:kD}{Q:pS}{fr:Fr}{L L' K:Hl}{ops:Array Oper}{op:Op}
def Oc{t:Nat}(ht:jz TT t=some ti)(ho:jQ D L s):Ev P TT D fr (.alloc t) ty L s (.value (.pointer (some ⟨s.heap.size,0,none⟩))) ((s.heap.size,cb ti.J t)::L) (s.alloc (mJ D)):=λhT _ dst iL af g ρ _=>by
 obtain ⟨h1,h2,h3⟩:=qB ho (cb ti.J t);refine ⟨?_,h2⟩;have hz:=E9 (hT.at_ ht);simp only [execOp,Instr.alloc,bA,Dt (hT.at_ ht),aP,newVar,KC,hz,bG,oB];rw [<- h1];rfl
def UL{t:Nat}(hx:lk fr x=some v)(hz:nN v=zs)(ho:jQ D L s):Ev P TT D fr (.box t x) ty L s (.value (.pointer (some ⟨s.heap.size,0,none⟩))) ((s.heap.size,cb zs t)::L) (s.alloc (mJ D)):=λhT _ dst iL af g ρ hρ=>by
 obtain ⟨h1,h2,h3⟩:=qB ho (cb zs t);refine ⟨?_,h2⟩;simp only [execOp,Instr.box,bA,aP,newVar,KC,bG,oB,hρ x v hx,NC,hz];rw [<- h1];rfl
def qt7{t:Nat}{ti:TI}(ht:jz TT t=some ti)(hd:Nat.blt d n=true)
  (k:∀ β s',Le D s s'->JO P TT D n ops Q iI ((d,iT β)::fr) ((β,cb ti.J t)::L) s'):JO P TT D n ops Q (⟨some d,.alloc t,ty,iL,af,none⟩::iI) fr L s:=λhT a hr ho=>
 AH hd (Oc ht ho) (k _ _ (qB ho (cb ti.J t)).2.2) hT a hr ho
def jh{t:Nat}{ti:TI}(ht:jz TT t=some ti)(zs:iz)(hY:ti.J=zs/\Nat.blt d n=true)
  (k:∀ β s',Le D s s'->JO P TT D n ops Q iI ((d,iT β)::fr) ((β,cb zs t)::L) s'):JO P TT D n ops Q (⟨some d,.alloc t,ty,iL,af,none⟩::iI) fr L s:=by obtain ⟨hz,hd⟩:=hY;subst hz;exact qt7 ht hd k
def BG{t:Nat}{zs:iz}(hx:lk fr x=some v)(hz:nN v=zs)(hd:Nat.blt d n=true)
  (k:∀ β s',Le D s s'->JO P TT D n ops Q iI ((d,iT β)::fr) ((β,cb zs t)::L) s'):JO P TT D n ops Q (⟨some d,.box t x,ty,iL,af,none⟩::iI) fr L s:=λhT a hr ho=>
 AH hd (UL hx hz ho) (k _ _ (qB ho (cb zs t)).2.2) hT a hr ho
def kF{t:Nat}{zs:iz}(hY:lk fr x=some (.agg zs.toArray)/\Nat.blt d n=true)
  (k:∀ β s',Le D s s'->JO P TT D n ops Q iI ((d,iT β)::fr) ((β,cb zs t)::L) s'):JO P TT D n ops Q (⟨some d,.box t x,ty,iL,af,none⟩::iI) fr L s:=have ⟨hx,hd⟩:=hY;BG hx (by simp [nN]) hd k
def Ca{t:Nat}(ho:jQ D L s)(hi:(b,cb zs t)∈L):(fill L s).cell? ⟨b,j,none⟩=zs[j]?:=by
 have:=qM ho hi;simp [World.cell?,this,cb]
def rS{t b:Nat}{ti:TI}{zs:iz}(i:Nat)(hY:lk fr x=some (.pointer (some ⟨b,off,none⟩))/\K[i]?=some (b,cb zs t')/\jz TT t=some ti/\uY ti.kind=true)
  (hv:nth zs off=some v):QE P TT D fr (.load t x) ty K s0 v:=have ⟨hx,hi,ht,hk⟩:=hY;λhT dst iL af g ρ hρ L s ho _ hK=>by
 have hc:(fill L s).cell? ⟨b,off,none⟩=some v:=by rw [Ca ho (hK _ (ax hi)),<- wc];exact hv
 simp [execOp,hρ x _ hx,Instr.loadAt,Instr.sureAddr,S8 (hT.at_ ht) hk hc]
def Wd{t:Nat}(i:Nat)(hY:(lk fr x=some (.pointer (some ⟨b,off,none⟩)))/\(K[i]?=some (b,cb zs t'))/\(jz TT t=some ti)/\(uY ti.kind=true)/\(nth zs off=some v)):QE P TT D fr (.load t x) ty K s0 v:=rS i ⟨hY.1,hY.2.1,hY.2.2.1,hY.2.2.2.1⟩ hY.2.2.2.2
def iZ{t b:Nat}{ti:TI}{zs:iz}(i:Nat)(vs:iz)(hY:lk fr x=some (.pointer (some ⟨b,off,none⟩))/\K[i]?=some (b,cb zs t')/\jz TT t=some ti/\uY ti.kind=false/\cut zs off ti.size=some vs):QE P TT D fr (.load t x) ty K s0 (.agg vs.toArray):=have ⟨hx,hi,ht,hk,hv⟩:=hY;λhT dst iL af g ρ hρ L s ho _ hK=>by
 obtain ⟨h1,h2⟩:=TQ hv;have hc:∀ j v,vs[j]?=some v->(fill L s).cell? ⟨b,off+j,none⟩=some v:=λj v hj=>by rw [Ca ho (hK _ (ax hi))];exact h2 j v hj
 simp [execOp,hρ x _ hx,Instr.loadAt,Instr.sureAddr,S7 (hT.at_ ht) hk h1 hc]
def qyU{t b:Nat}{ti:TI}(hx:lk fr x=some (.pointer (some ⟨b,off,none⟩)))(ht:jz TT t=some ti)(hk:uY ti.kind=true)
  (hv:s0.cell? ⟨b,off,none⟩=some v):QE P TT D fr (.load t x) ty K s0 v:=λhT dst iL af g ρ hρ L s ho hl _=>by
 simp [execOp,hρ x _ hx,Instr.loadAt,Instr.sureAddr,S8 (hT.at_ ht) hk (E7 ho (hl.cell hv))]
def ku{t b:Nat}{ti:TI}{vs:iz}(hY:lk fr x=some (.pointer (some ⟨b,off,none⟩))/\jz TT t=some ti/\uY ti.kind=false)
  (hv:iy s0 b off vs) (hl:vs.length=ti.size):QE P TT D fr (.load t x) ty K s0 (.agg vs.toArray):=have ⟨hx,ht,hk⟩:=hY;λhT dst iL af g ρ hρ L s ho j9 _=>by
 simp [execOp,hρ x _ hx,Instr.loadAt,Instr.sureAddr,S7 (hT.at_ ht) hk hl (λj v hj=>E7 ho (j9.cell (hv j v hj)))]
def nK{t b:Nat}{ti:TI}{vs:iz}(j:Nat)(hY:lk fr x=some (.pointer (some ⟨b,off+j,none⟩))/\jz TT t=some ti/\uY ti.kind=true)
  (hv:iy s0 b off vs) (hj:nth vs j=some v):QE P TT D fr (.load t x) ty K s0 v:=have ⟨hx,ht,hk⟩:=hY;qyU hx ht hk (hv j v (by rw [<- wc];exact hj))
def jS{t b:Nat}{ti:TI}{vs:iz}(hY:lk fr x=some (.pointer (some ⟨b,off,none⟩))/\jz TT t=some ti/\uY ti.kind=true)
  (hv:iy s0 b off vs) (hj:nth vs 0=some v):QE P TT D fr (.load t x) ty K s0 v:=have ⟨hx,ht,hk⟩:=hY;qyU hx ht hk (hv 0 v (by rw [<- wc];exact hj))
def pk(zs:iz)(off:Nat)(vs:iz):iz:=match vs with
 | []=>zs
 | v::vs=>match zs,off with
  | [],_=>[]
  | _::zs,0=>v::pk zs 0 vs
  | z::zs,o+1=>z::pk zs o (v::vs)
def Du(zs:iz)(off:Nat)(vs:iz)(h:off+vs.length<=zs.length):pk zs off vs=zs.take off++vs++zs.drop (off+vs.length):=by
 induction zs generalizing off vs with
 | nil=>cases vs<;>simp_all [pk]
 | cons z zs ih=>
  cases vs with
  | nil=>simp [pk]
  | cons v vs=>
   cases off with
   | zero=>simp only [pk];rw [ih 0 vs (by simp at h ⊢;omega)];simp
   | succ o=>simp only [pk];rw [ih o (v::vs) (by simp at h ⊢;omega)];simp;rw [show o+1+(vs.length+1)=(o+(vs.length+1))+1 by omega];rfl
def ZT{t:Nat}{cs:Array Value}(h:w.heap[b]?=some (.cells cs t fz))(ds:Array Value):w.setRow b ds=pz w b (.cells ds t fz):=by
  refine Dz (Dy λk=>?_) Z Z Z Z;by_cases hk:k=b
  . subst hk
    rw [setRow_heap w k cs ds t fz h,J0];rcases eM k w.heap.size with h1|h1
    . exact h1
    . rw [bS h1] at h;cases h
  . rw [setRow_other w b k ds hk,E5 _ (λe=>hk e.symm)]
def Pq{t b:Nat}{ti:TI}{zs:iz}(i:Nat)(rG:iz)(hx:lk fr x=some (.pointer (some ⟨b,off,none⟩)))(hy:lk fr y=some v)(hi:L[i]?=some (b,cb zs t'))(ht:jz TT t=some ti)
  (hl:(nN v).length=ti.size) (j9:Nat.ble (off+ti.size) zs.length=true) (h1:(nN v).all (·.oneCell')=true) (hs:pk zs off (nN v)=rG):Ev P TT D fr (.store t x y) ty L s .skip (lV L i (cb rG t')) s:=λhT ho dst iL af g ρ hρ=>⟨by
  have hg:=qM ho (ax hi);have hle':off+ti.size<=zs.length:=bE j9;have nJ:=run_storeCells_at (P:=P) b off t' (nN v) 0 zs.toArray (fill L s) hg (by simp [hl];omega) Q5;rw [Dr ho hi,<- hs,Du zs off (nN v) (by rw [hl];exact hle'),cb,<- ZT hg];simp only [bC,List.toList_toArray] at nJ;have jp:(nN v).toArray.size=ti.size:=by simpa using hl
  simp only [execOp,hρ x _ hx,hρ y _ hy,Instr.storeAt,Instr.sureAddr,storeVar,NC,bA,bG,aP,Bv (hT.at_ ht),jp,fM,gD,bY,nJ,List.toList_toArray],DB ho _ _⟩
def xS{t b:Nat}{ti:TI}{zs:iz}(i:Nat)(rG:iz){L':Hl}(hY:lk fr x=some (.pointer (some ⟨b,off,none⟩))/\lk fr y=some v/\L[i]?=some (b,cb zs t')/\jz TT t=some ti/\(nN v).length=ti.size) (j9:Nat.ble (off+ti.size) zs.length=true) (h1:(nN v).all (·.oneCell')=true) (hs:pk zs off (nN v)=rG) (hL:lV L i (cb rG t')=L')
  (k:JO P TT D n ops Q iI fr L' s):JO P TT D n ops Q (⟨none,.store t x y,ty,iL,af,none⟩::iI) fr L s:=by
 obtain ⟨hx,hy,hi,ht,hl⟩:=hY
 subst hL;exact Pp (Pq i rG hx hy hi ht hl j9 h1 hs) k
def Wt{t b:Nat}{ti:TI}{zs:iz}(i:Nat)(rG:iz){L':Hl}(hY:(lk fr x=some (.pointer (some ⟨b,off,none⟩)))/\(lk fr y=some v)/\(L[i]?=some (b,cb zs t'))/\(jz TT t=some ti)/\((nN v).length=ti.size)/\(Nat.ble (off+ti.size) zs.length=true)/\((nN v).all (·.oneCell')=true)/\(pk zs off (nN v)=rG)/\(lV L i (cb rG t')=L'))
  (k:JO P TT D n ops Q iI fr L' s):JO P TT D n ops Q (⟨none,.store t x y,ty,iL,af,none⟩::iI) fr L s:=xS i rG ⟨hY.1,hY.2.1,hY.2.2.1,hY.2.2.2.1,hY.2.2.2.2.1⟩ hY.2.2.2.2.2.1 hY.2.2.2.2.2.2.1 hY.2.2.2.2.2.2.2.1 hY.2.2.2.2.2.2.2.2 k
end
section
variable{TT:kD}{Q:pS}{fr:Fr}{L L' K:Hl}{ops:Array Oper}{op:Op}
def xX:List Nat->Nat->Option Nat
 | [],_=>none
 | x::_,0=>some x
 | _::r,k+1=>xX r k
def qsr(l:List Nat)(i:Nat):xX l i=l[i]?:=by
 induction l generalizing i with
 | nil=>rfl
 | cons x l ih=>cases i<;>simp [xX,ih]
def qnj{t:Nat}(h:ti.ok P t)(hk:ti.kind=.st os)(hf:xX os f=some fo)(w:World):
  (Instr.fieldAt t (.pointer (some ⟨b,off,none⟩)) f).run P w=.ok (.pointer (some ⟨b,off+fo,none⟩)) w:=by
 obtain ⟨h1,h2,_,_,_,_,_,h8,_⟩:=h;rw [hk] at h2;cases hd:ti.desc with
 | struct fs=>
  rw [hd] at h1 h2 h8;simp only [TK.fits] at h2;rw [qsr,<- h2,bQ] at hf;cases hff:fs.toList[f]? with
  | none=>simp [hff] at hf
  | some fld=>
   simp [hff] at hf;have mM:0 < P.cellsOf fld.type:=by
    have:=bU.1 (show fs.toList.all (λf=>decide (0 < P.cellsOf f.type))=true from h8) fld (ax hff);simpa using this
   have hff':fs[f]?=some fld:=by simpa using hff
   have jp:∀ w,(sizeOf fld.type).run P w=.ok (P.cellsOf fld.type) w:=by
    intro w;unfold Program.cellsOf at mM ⊢;cases hi:P.info? fld.type with
    | none=>simp [hi] at mM
    | some i=>simp [sizeOf,typeInfo,hi]
   simp [Instr.fieldAt,aQ h1,hff',Instr.sureAddr,fieldPlace,jp,Nat.pos_iff_ne_zero.1 mM,add_lit,hf]
 | _=>rw [hd] at h2;simp [TK.fits] at h2
def pU{t:Nat}(hY:lk fr x=some (.pointer (some ⟨b,off,none⟩))/\jz TT t=some ti/\ti.kind=.st os/\xX os f=some fo):QE P TT D fr (.fieldAddr t x f) ty K s0 (.pointer (some ⟨b,off+fo,none⟩)):=have ⟨hx,ht,hk,hf⟩:=hY;QE.pure λhT dst iL af g ρ hρ w=>by simp [execOp,hρ x _ hx,qnj (hT.at_ ht) hk hf]
def S3{t:Nat}(hx:lk fr x=some (.pointer (some ⟨b,off,none⟩)))(ht:jz TT t=some ti)(hk:ti.kind=.st os)(hf:xX os f=some 0):QE P TT D fr (.fieldAddr t x f) ty K s0 (.pointer (some ⟨b,off,none⟩)):=pU ⟨hx,ht,hk,hf⟩
def UO{t:Nat}(hx:lk fr x=some (iT b))(ht:jz TT t=some ti)(hk:ti.kind=.st os)(hf:xX os f=some fo):QE P TT D fr (.fieldAddr t x f) ty K s0 (.pointer (some ⟨b,fo,none⟩)):=by
 have:=pU (P:=P) (D:=D) (ty:=ty) (K:=K) (s0:=s0) ⟨hx,ht,hk,hf⟩;simpa using this
def We{t:Nat}(hY:(lk fr x=some (iT b))/\(jz TT t=some ti)/\(ti.kind=.st os)/\(xX os f=some fo)):QE P TT D fr (.fieldAddr t x f) ty K s0 (.pointer (some ⟨b,fo,none⟩)):=UO hY.1 hY.2.1 hY.2.2.1 hY.2.2.2
def Gc{t f fo:Nat}{ti:TI}{vs:iz}(hx:lk fr x=some (.agg vs.toArray))(ht:jz TT t=some ti)(hk:ti.kind=.st os)(hf:xX os f=some fo)
    (hdesc:ti.desc=.struct fs) (hfld:fs[f]?=some fld) {BR:TI} (ht':jz TT fld.type=some BR) (sN:uY BR.kind=true) (hv:nth vs fo=some v):QE P TT D fr (.field t x f) ty K s0 v:=
 QE.pure λhT dst iL af g ρ hρ w=>by
  obtain ⟨h1,h2,_⟩:=hT.at_ ht;rw [hk,hdesc] at h2;rw [hdesc] at h1;simp only [TK.fits] at h2;rw [qsr,<- h2] at hf;simp [hfld] at hf;rw [wc] at hv;simp [execOp,hρ x _ hx,Instr.field,aQ h1,hfld,asAgg,part,NF (hT.at_ ht'),sN,hf,hv]
def qha{t len cap:Nat}{i:Int}(h:ti.ok P t)(hk:ti.kind=.sl e)(he:te.ok P e)(h0:0<=i)(h1:i < len)(w:World):
  (Instr.indexAt t (.slice (some ⟨b,off,none⟩) len cap) (.int ik i)).run P w=.ok (.pointer (some ⟨b,off+i.toNat * te.size,none⟩)) w:=by
 obtain ⟨k1,k2,_⟩:=h;rw [hk] at k2;simp only [TK.fits] at k2;rw [k2] at k1;simp [Instr.indexAt,asIntOf,aQ k1,h0,h1,Bv he,add_lit]
def qKb{t b len cap:Nat}{ti te:TI}{i:Int}(hx:lk fr x=some (.slice (some ⟨b,off,none⟩) len cap))(hy:lk fr y=some (.int ik i))(ht:jz TT t=some ti)(hk:ti.kind=.sl e)(he:jz TT e=some te)
  (h0:0<=i) (h1:i < len):QE P TT D fr (.indexAddr t x y) ty K s0 (.pointer (some ⟨b,off+i.toNat * te.size,none⟩)):=
 QE.pure λhT dst iL af g ρ hρ w=>by simp [execOp,hρ x _ hx,hρ y _ hy,qha (hT.at_ ht) hk (hT.at_ he) h0 h1]
def jK{t b len cap:Nat}{ti te:TI}{sz:Nat}(hY:lk fr x=some (.slice (some ⟨b,off,none⟩) len cap)/\lk fr y=some (.int ik (j:Int))/\jz TT t=some ti/\ti.kind=.sl e/\jz TT e=some te/\te.size=sz) (h1:j < len):QE P TT D fr (.indexAddr t x y) ty K s0 (.pointer (some ⟨b,off+j * sz,none⟩)):=by
 obtain ⟨hx,hy,ht,hk,he,hs⟩:=hY
 have:=qKb (P:=P) (D:=D) (ty:=ty) (K:=K) (s0:=s0) hx hy ht hk he (dN _) O
 rwa [aD,hs] at this
def lK{t b len cap:Nat}{ti te:TI}(hY:lk fr x=some (.slice (some ⟨b,off,none⟩) len cap)/\lk fr y=some (.int ik (j:Int))/\jz TT t=some ti/\ti.kind=.sl e/\jz TT e=some te/\te.size=1) (h1:j < len):QE P TT D fr (.indexAddr t x y) ty K s0 (.pointer (some ⟨b,off+j,none⟩)):=by
 obtain ⟨hx,hy,ht,hk,he,hs⟩:=hY
 have:=jK (P:=P) (D:=D) (ty:=ty) (K:=K) (s0:=s0) ⟨hx,hy,ht,hk,he,hs⟩ h1
 rwa [eK] at this
def qyT{t b len:Nat}{ti te:TI}{sz:Nat}(hx:lk fr x=some (.pointer (some ⟨b,off,none⟩)))(hy:lk fr y=some (.int ik (j:Int)))(ht:jz TT t=some ti)(hk:ti.kind=.ar len e)(he:jz TT e=some te)
  (hs:te.size=sz) (h1:j < len):QE P TT D fr (.indexAddr t x y) ty K s0 (.pointer (some ⟨b,off+j * sz,none⟩)):=
 QE.pure λhT dst iL af g ρ hρ w=>by
  obtain ⟨k1,k2,_⟩:=hT.at_ ht;rw [hk] at k2;simp only [TK.fits] at k2;rw [k2] at k1;simp [execOp,hρ x _ hx,hρ y _ hy,Instr.indexAt,asIntOf,aQ k1,Instr.sureAddr,h1,Bv (hT.at_ he),add_lit,hs]
def Co{t:Nat}{c:UInt8}(hY:lk fr x=some (St l)/\lk fr y=some (.int ik (j:Int))/\jz TT t=some ti/\ti.desc=.string)(hc:l[j]?=some c):QE P TT D fr (.index t x y) ty K s0 (.int .u8 (c.toNat:Int)):=have ⟨hx,hy,ht,hk⟩:=hY;QE.pure λhT dst iL af g ρ hρ w=>by
  have k1:=(hT.at_ ht).1;rw [hk] at k1;have hb:(⟨l.toArray⟩:ByteArray)[j]?=some c:=by
   obtain ⟨kZ,hv⟩:=al.1 hc;have hlt':j < (⟨l.toArray⟩:ByteArray).size:=by simpa [ByteArray.size] using kZ
   rw [getElem?_pos (⟨l.toArray⟩:ByteArray) j hlt'];simp only [fb,List.getElem_toArray,hv]
  simp [execOp,hρ x _ hx,hρ y _ hy,Instr.index,asIntOf,aQ k1,hb]
def S5{t:Nat}{A:iE}{c:Nat}(hx:lk fr x=some (.slice A m c))(ht:jz TT t=some ti)(hk:ti.kind=.sl e):QE P TT D fr (.call { callee:=.builtin .len,args:=#[x],argTypes:=#[t] }) ty K s0 (iB (m:Int)):=
 QE.pure λhT dst iL af g ρ hρ w=>by
  obtain ⟨k1,k2,_⟩:=hT.at_ ht;rw [hk] at k2;simp only [TK.fits] at k2;rw [k2] at k1;simp [execOp,resolve,invoke,builtin,hρ x _ hx,Builtin.len_,aQ k1,goInt]
def qqr{t:Nat}(hx:lk fr x=some (St l))(ht:jz TT t=some ti)(hk:ti.desc=.string):QE P TT D fr (.call { callee:=.builtin .len,args:=#[x],argTypes:=#[t] }) ty K s0 (iB (l.length:Int)):=
 QE.pure λhT dst iL af g ρ hρ w=>by
  have k1:=(hT.at_ ht).1;rw [hk] at k1;have jp:(⟨l.toArray⟩:ByteArray).size=l.length:=by simp [ByteArray.size]
  simp [execOp,resolve,invoke,builtin,hρ x _ hx,Builtin.len_,aQ k1,goInt,jp]
def Kx{t:Nat}{BR:TI}(hx:lk fr x=some (.int ik a))(ht:jz TT t=some ti)(ht':jz TT t'=some BR)(hk:ti.desc=.int ik)(sN:BR.desc=.int ik'):QE P TT D fr (.convert t t' x) ty K s0 (.int ik' (ik'.wrap a)):=
 QE.pure λhT dst iL af g ρ hρ w=>by
  have k1:=(hT.at_ ht).1;have k2:=(hT.at_ ht').1;rw [hk] at k1;rw [sN] at k2;simp [execOp,hρ x _ hx,convert,aQ k1,aQ k2,Conv.intToInt]
def sW{t:Nat}{c:Int}{BR:TI}(hY:lk fr x=some (.int ik a)/\jz TT t=some ti/\jz TT t'=some BR/\ti.desc=.int ik/\BR.desc=.int ik')(hc:ik'.wrap a=c):QE P TT D fr (.convert t t' x) ty K s0 (.int ik' c):=have ⟨hx,ht,ht',hk,sN⟩:=hY;hc▸Kx hx ht ht' hk sN
def qY(fr:Fr):List Operand->Option iz
 | []=>some []
 | x::r=>match lk fr x with
  | some v=>match qY fr r with
   | some vs=>some (v::vs)
   | none=>none
  | none=>none
def Ug{fr:Fr}{ρ:Operand->Value}(hρ:∀ x v,lk fr x=some v->ρ x=v){xs:List Operand}(h:qY fr xs=some vs):xs.map ρ=vs:=by
 induction xs generalizing vs with
 | nil=>simp [qY] at h;subst h;rfl
 | cons x xs ih=>
  simp only [qY] at h;cases h1:lk fr x with
  | none=>simp [h1] at h
  | some v=>
   cases h2:qY fr xs with
   | none=>simp [h1,h2] at h
   | some r=>simp [h1,h2] at h;subst h;simp [hρ x v h1,ih h2]
def qZ{f:FuncId}{xs:List Operand}(hv:qY fr xs=some vs):QE P TT D fr (.makeFunc (.func f) #[] xs.toArray) ty K s0 (.func (.func f) #[] vs.toArray):=
 QE.pure λhT dst iL af g ρ hρ w=>by simp [execOp,Instr.makeFunc,Ug hρ hv]
def tM(P:Program)(f:FuncId):Prop:=∃ fn,P.funcs[f]?=some fn/\(fn.name == "runtime.NumGoroutine")=false/\fn.body.isNone=false
def AC(P:Program)(D:Nat)(f:FuncId)(args:iz)(L:Hl)(s:World)(R:Value->Hl->World->Prop):Prop:=
 tM P f/\(jQ D L s->Calls P f args.toArray (fill L s) λe w'=>∃ v L' s',e=.returned v/\w'=fill L' s'/\jQ D L' s'/\Le D s s'/\R v L' s')
def AC.mono{f:FuncId}(h:AC P D f args L s R)(hr:∀ v L' s',Le D s s'->R v L' s'->R' v L' s'):AC P D f args L s R':=
 ⟨h.1,λho=>(h.2 ho).mono λ_ _ ⟨v,L',s',h1,h2,h3,h4,h5⟩=>⟨v,L',s',h1,h2,h3,h4,hr _ _ _ h4 h5⟩⟩
def RJ{p:Prop} (h:p:=by
 rintro e w' ⟨v,L',s',rfl,rfl,h4,h5,h6⟩;exact k v L' s' h5 h6 hT _ (hr.put hd v) h4):p:=h
def ET{p:Prop} (h:p:=by
 have h2':¬ fn.name = "runtime.NumGoroutine" := by simpa using h2
 have h3':¬ fn.body=none:=by intro e;simp [e] at h3
 simp [execOp,resolve,Deferred.ofValue,invoke,callFunc,hρ x _ hx,Ug hρ hv,h1,h2',h3']):p:=h
def ub{f:FuncId}{xs:List Operand}{first captured vs:iz}{R:Value->Hl->World->Prop}(hx:lk fr x=some (.func (.func f) first.toArray captured.toArray))(hv:qY fr xs=some vs)
  (hd:Nat.blt d n=true) (h:AC P D f (first++vs++captured) L s R) (k:∀ v L' s',Le D s s'->R v L' s'->JO P TT D n ops Q iI ((d,v)::fr) L' s') :
  JO P TT D n ops Q (⟨some d,.call { callee:=.value x,args:=xs.toArray,argTypes:=ts },ty,iL,af,none⟩::iI) fr L s:=λhT a hr ho=>by
 obtain ⟨⟨fn,h1,h2,h3⟩,hc⟩:=h;have hρ:∀ x v,lk fr x=some v->a.eval x=v:=λx v hx=>hr.ev hx;simp only [wpList,Region.wanted,bV];refine .inl ?_;have jH:(execOp a.eval ⟨some d,.call { callee:=.value x,args:=xs.toArray,argTypes:=ts },ty,iL,af,none⟩).run P (fill L s)=.ok (.enter f (first++vs++captured).toArray) (fill L s):=by
  exact ET
 simp only [Oper.wp,jH,Oper.upon];refine (hc ho).mono ?_;exact RJ
def Jc{f:FuncId}{xs:List Operand}{vs:iz}{R:Value->Hl->World->Prop}(hY:(lk fr x=some (.func (.func f) ([]:iz).toArray ([]:iz).toArray))/\qY fr xs=some vs/\Nat.blt d n=true) (h:AC P D f (([]:iz)++vs++[]) L s R) (k:∀ v L' s',Le D s s'->R v L' s'->JO P TT D n ops Q iI ((d,v)::fr) L' s') :
  JO P TT D n ops Q (⟨some d,.call { callee:=.value x,args:=xs.toArray,argTypes:=ts },ty,iL,af,none⟩::iI) fr L s:=have ⟨hx,hv,hd⟩:=hY;ub (first:=[]) (captured:=[]) hx hv hd h k
def Je{f:FuncId}{xs:List Operand}{vs:iz}{w:Value}(hY:(lk fr x=some (.func (.func f) ([]:iz).toArray ([]:iz).toArray))/\qY fr xs=some vs/\Nat.blt d n=true) (h:AC P D f (([]:iz)++vs++[]) L s λv L' _=>v=w/\L=L') (k:∀ s',Le D s s'->JO P TT D n ops Q iI ((d,w)::fr) L s') :
  JO P TT D n ops Q (⟨some d,.call { callee:=.value x,args:=xs.toArray,argTypes:=ts },ty,iL,af,none⟩::iI) fr L s:=have ⟨hx,hv,hd⟩:=hY;Jc ⟨hx,hv,hd⟩ h (λv L' s' hl e=>by obtain ⟨rfl,rfl⟩:=e;exact k s' hl)
inductive qQ(TT:kD)(fr:Fr)(L:Hl):List ResultVar->iz->Prop
 | nil:qQ TT fr L [] []
 | tmp {t:Nat} {v:Value} {rs vs} (h:kQ fr t=some v) (k:qQ TT fr L rs vs):qQ TT fr L (.tmp t::rs) (v::vs)
 | one {a t t' b:Nat} {ti:TI} {zs:iz} {v:Value} {rs vs} (i:Nat) (h:kQ fr a=some (.pointer (some ⟨b,0,none⟩))) (hi:L[i]?=some (b,cb zs t')) (ht:jz TT t=some ti) (hk:uY ti.kind=true) (hv:nth zs 0=some v) (k:qQ TT fr L rs vs):qQ TT fr L (.cell a t::rs) (v::vs)
 | agg {a t t' b:Nat} {ti:TI} {zs us:iz} {rs vs} (i:Nat) (h:kQ fr a=some (.pointer (some ⟨b,0,none⟩))) (hi:L[i]?=some (b,cb zs t')) (ht:jz TT t=some ti) (hk:uY ti.kind=false) (hv:cut zs 0 ti.size=some us) (k:qQ TT fr L rs vs):qQ TT fr L (.cell a t::rs) (.agg us.toArray::vs)
def qQ.t1{TT:kD}{fr:Fr}{L:Hl}{t:Nat}(h:kQ fr t=some v):qQ TT fr L [.tmp t] [v]:=.tmp h .nil
def kU:iz->Value
 | [v]=>v
 | vs=>.tuple vs.toArray
def D3(tmps:Array Value):ResultVar->Sem Value
 | .tmp t=>pure (tmps.getD t undef)
 | .cell a t=>do loadVar t (<- asAddr (tmps.getD a undef))
def Tk(fn:Func)(tmps:Array Value):results fn tmps=(do let vs <- fn.results.mapM (D3 tmps);pure (if h:vs.size=1 then vs[0] else .tuple vs)):=by
 unfold results;congr 1
def qQ.run(hT:jV P TT){a:Act}(hr:jr n a fr)(ho:jQ D L s)(h:qQ TT fr L rs vs):
  (rs.mapM (D3 a.tmps)).run P (fill L s)=.ok vs (fill L s):=by
 have hs:∀ t v,kQ fr t=some v->a.tmps.getD t undef=v:=λt v hv=>by
  have:=hr.slot t (hr.ah t v hv) v hv;simp [this]
 induction h with
 | nil=>simp
 | tmp h k ih=>simp only [fX,D3,hs _ _ h,bA,bG,aP,ih]
 | one i h hi ht hk hv k ih=>
  rename_i b _ zs v _ _;have hc:(fill L s).cell? ⟨b,0,none⟩=some v:=by rw [qq5 ho hi,<- wc];exact hv
  simp only [fX,D3,hs _ _ h,asAddr,bA,bG,aP,S8 (hT.at_ ht) hk hc,ih]
 | agg i h hi ht hk hv k ih=>
  rename_i b _ zs us _ _;obtain ⟨h1,h2⟩:=TQ hv;have hc:∀ j v,us[j]?=some v->(fill L s).cell? ⟨b,0+j,none⟩=some v:=λj v hj=>by rw [qq5 ho hi];exact h2 j v hj
  simp only [fX,D3,hs _ _ h,asAddr,bA,bG,aP,S7 (hT.at_ ht) hk h1 hc,ih]
def mX(TT:kD)(D:Nat)(rs:List ResultVar)(s0:World)(R:Value->Hl->World->Prop):pS:=λe fr L s=>
 (e=.normal\/e=.ret)/\∃ vs A L',qQ TT fr L rs vs/\L=A++L'/\Le D s0 s/\∀ s',Le D s s'->R (kU vs) L' s'
def nP(k:Nat):iz->Fr
 | []=>[]
 | v::vs=>(k,v)::nP (k+1) vs
def Nz(vs:iz)(k t:Nat):kQ (nP k vs) t=if k<=t then vs[t - k]? else none:=by
  induction vs generalizing k with
  | nil=>simp [nP,kQ]
  | cons v vs ih=>
    rw [nP,vW,ih];by_cases h:k=t
    . subst h;simp
    . by_cases h2:k+1<=t
      . have:t - k=(t - (k+1))+1:=O
        simp [h,h2,show k<=t by omega,this]
      . simp [h,h2,show ¬ k<=t by omega]
def SL{p:Prop} (h:p:=by
  refine ⟨by simp [hnt];omega,Z,λt ht v hv=>?_,λt v hv=>?_⟩
  . rw [Nz] at hv
    simp at hv;obtain ⟨kZ,_⟩:=al.1 hv;simp [gV,kZ];exact (al.1 hv).2
  . rw [Nz] at hv
    simp at hv;obtain ⟨kZ,_⟩:=al.1 hv;omega):p:=h
def Ig{p:Prop} (h:p:=by
 have h1:=qQ.run hT k1 k2 hres;have h2:(fn.results.mapM (D3 a.tmps)).run P (fill (A++L') s1)=.ok vs.toArray (fill (A++L') s1):=by
  rw [eQ];simp only [gF,bA,h1,aP,bG]
 rw [Tk];simp only [bA,h2,aP,bG];congr 1;match vs with
 | []=>rfl
 | [v]=>rfl
 | v::u::r=>simp [kU]):p:=h
def jn{f:FuncId}{c:Code}{args:iz}{R:Value->Hl->World->Prop}(hT:jV P TT)(hf:P.funcs[f]?=some fn)(hn:(fn.name == "runtime.NumGoroutine")=false)(hb:fn.body=some c)(hnt:fn.ntmps=n)(j9:Nat.ble args.length n=true)(z6:fn.results.toList=rs)(yf:Fr)(oU:nP 0 args=yf)
  (h:JC P TT D n (mX TT D rs s R) c yf L s):AC P D f args L s R:=by
 subst oU;subst z6;refine ⟨⟨fn,hf,hn,by simp [hb]⟩,λho=>calls_of_wp hf hb ?_⟩;have hle':args.length<=n:=bE j9;have hr:jr n { tmps:=args.toArray++Array.replicate (fn.ntmps - args.toArray.size) undef,defers:=[] } (nP 0 args):=by
  exact SL
 refine eS (h hT _ hr ho) ?_;rintro e a w ⟨jN,L1,s1,k1,k2,rfl,he,vs,A,L',hres,rfl,hle1,hR⟩;obtain ⟨d1,d2,d3⟩:=tI k2;have jH:(results fn a.tmps).run P (fill (A++L') s1)=.ok (kU vs) (fill (A++L') s1):=by
  exact Ig
 have hpost:∃ v,(results fn a.tmps).run P (fill (A++L') s1)=.ok v (fill (A++L') s1)/\∃ v_1 L'_1 s',Ending.returned v=.returned v_1/\fill (A++L') s1=fill L'_1 s'/\jQ D L'_1 s'/\Le D s s'/\R v_1 L'_1 s':=
  ⟨_,jH,_,L',fill A s1,rfl,d1,d2,hle1.trans d3,hR _ d3⟩
 rcases he with rfl|rfl
 . exact ⟨k1.defers,hpost⟩
 . exact ⟨k1.defers,hpost⟩
def iU{J:Fr->Hl->World->Prop}(h:J fr L s):ma J Q .normal fr L s:=h
def qDF{J:Fr->Hl->World->Prop}(h:Q .ret fr L s):ma J Q .ret fr L s:=h
def qDG{J:Fr->Hl->World->Prop}(h:Q (.exit i) fr L s):ma J Q (.exit i) fr L s:=h
def quI{id:Nat}(h:Q .normal fr L s):mO id Q .normal fr L s:=h
def quJ{id:Nat}(h:Q .ret fr L s):mO id Q .ret fr L s:=h
def quK{id:Nat}(h:Q .normal fr L s):mO id Q (.exit id) fr L s:=by simpa [mO] using h
def qqV{id:Nat}(hi:Nat.beq i id=false)(h:Q (.exit i) fr L s):mO id Q (.exit i) fr L s:=by
 have:i≠id:=λe=>by subst e;simp at hi
 simpa [mO,this] using h
def lF{e:Exit}(A L':Hl)(he:e=.normal\/e=.ret)(h:qQ TT fr L rs vs)(hL:L=A++L')(hl:Le D s0 s)(hR:∀ s',Le D s s'->R (kU vs) L' s'):mX TT D rs s0 R e fr L s:=
 ⟨he,vs,A,L',h,hL,hl,hR⟩
def rR(A L':Hl)(h:qQ TT fr L rs vs)(hL:L=A++L')(hl:Le D s0 s)(hR:∀ s',Le D s s'->R (kU vs) L' s'):mX TT D rs s0 R .ret fr L s:=lF A L' (.inr rfl) h hL hl hR
def rX{r:Nat}{TT:kD}{fr:Fr}{L:Hl}(A L':Hl)(h:kQ fr r=some v)(hl:Le D s0 s)(hR:∀ s',Le D s s'->R (kU [v]) L' s')(hL:L=A++L':=by exact Z):mX TT D [.tmp r] s0 R .ret fr L s:=rR A L' (.t1 h) hL hl hR
def rY{r:Nat}{TT:kD}{fr:Fr}{L:Hl}(h:kQ fr r=some v)(hR:∀ s',Le D s s'->R (kU [v]) L s'):mX TT D [.tmp r] s R .ret fr L s:=rR [] L (.t1 h) Z (Lr D) hR
end
def SH(D:Nat)(K:Hl)(s0:World):World->Prop:=λw=>∃ L s,w=fill L s/\jQ D L s/\Le D s0 s/\∀ x∈K,x∈L
def WJ(Q:Exit->Act->World->Prop):Exit->Act->World->Prop
 | .panic _,_,_=>False
 | e,a,w=>Q e a w
def C7(D n:Nat)(Q:pS):Exit->Act->World->Prop
 | .panic ch,a,w=>jr n a []/\∃ L s,jQ D L s/\w=fill L s/\∀ fr,Q (.panic ch) fr L s
 | e,a,w=>y0 D n Q e a w
def jr.bare{a:Act}{fr:Fr}(h:jr n a fr):jr n a []:=⟨h.size,h.defers,λt ht v hv=>by simp [kQ] at hv,λt v hv=>by simp [kQ] at hv⟩
def jr.unput{a:Act}{d:Option Nat}(h:jr n (a.put d v) []):jr n a []:=by
  refine ⟨?_,?_,λt ht v hv=>by simp [kQ] at hv,λt v hv=>by simp [kQ] at hv⟩
  . have:=h.size
    cases d<;>simpa [Act.put] using this
  . have:=h.defers
    cases d<;>simpa [Act.put] using this
def JA(P:Program)(TT:kD)(D n:Nat)(ops:Array Oper)(Q:pS)(K:Hl)(s0:World)(jd:Nat)(iC:Array Bool)(fr:Fr)(L:Hl)(s:World):Prop:=
 jV P TT->∀ a,jr n a fr->jQ D L s->Le D s0 s->(∀ x∈K,x∈L)->wpAnyH P .any ops (C7 D n Q) (SH D K s0) jd iC a (fill L s)
def JB(P:Program)(TT:kD)(D n:Nat)(ops:Array Oper)(Q:pS)(K:Hl)(s0:World)(jd:Nat)(iC:Array Bool)(i:Nat)(fr:Fr)(L:Hl)(s:World):Prop:=
 jV P TT->∀ a,jr n a fr->jQ D L s->Le D s0 s->(∀ x∈K,x∈L) ->
  wpOp P ops (C7 D n Q) i (λa' w'=>SH D K s0 w'/\wpAnyH P .any ops (C7 D n Q) (SH D K s0) jd (iC.setIfInBounds i true) a' w') a (fill L s)
def sf(ops:Array Oper)(fr:Fr):Option (Nat×Bool)->Prop
 | none=>True
 | some (j,w)=>∃ t,we ops j=some t/\kQ fr t=some (.bool w)
section
variable{TT:kD}{Q:pS}{fr:Fr}{L L' K:Hl}{ops:Array Oper}{op:Op}{g:Option (Nat×Bool)}{iC:Array Bool}
def sf.wanted{a:Act}(hr:jr n a fr)(h:sf ops fr g):Region.wanted ⟨dst,op,ty,iL,af,g⟩ (yielded ops a.tmps)=true:=by
 cases g with
 | none=>rfl
 | some jw=>
  obtain ⟨j,w⟩:=jw;obtain ⟨t,h1,h2⟩:=h;have h3:=hr.slot t (hr.ah _ _ h2) _ h2;unfold we at h1;simp [Region.wanted,yielded,h1,h3]
def r_{L:Hl}{x:Nat×Obj}(h:x∈L.eraseIdx i):x∈lV L i o:=by
 induction L generalizing i with
 | nil=>simp at h
 | cons y L ih=>
  cases i with
  | zero=>exact an _ Q2
  | succ i=>
   simp only [eZ,aR] at h;rcases h with rfl|h
   . exact cQ ..
   . exact an _ (ih h)
def nD{a b:List α}{x:α}(h:a.Sublist b):(x::a).Sublist (x::b):=List.cons_sublist_cons.2 h
def lz{a b:List α}{x:α}(h:a.Sublist b):a.Sublist (x::b):=List.Sublist.cons _ h
def FS{a b:List α}{x0 x1:α}(h:a.Sublist b):(a).Sublist (x0::x1::b):=lz (lz (h))
def oh{a b:List α}{x0 x1 x2:α}(h:a.Sublist b):(a).Sublist (x0::x1::x2::b):=lz (lz (lz (h)))
def sbn4{a b:List α}{x0 x1 x2 x3:α}(h:a.Sublist b):(a).Sublist (x0::x1::x2::x3::b):=lz (lz (lz (lz (h))))
def lj{a b:List α}{x0 x1:α}(h:a.Sublist b):(x0::x1::a).Sublist (x0::x1::b):=nD (nD (h))
def wi{a b:List α}{x0 x1 x2:α}(h:a.Sublist b):(x0::x1::x2::a).Sublist (x0::x1::x2::b):=nD (nD (nD (h)))
def kN{a b:List α}{x0 x1 x2 x3:α}(h:a.Sublist b):(x0::x1::x2::x3::a).Sublist (x0::x1::x2::x3::b):=nD (nD (nD (nD (h))))
def jL{a:List α}:a.Sublist a:=gq a
def ql{a:List α}:([]:List α).Sublist a:=cK a
def qLO{a b:List α}{x:α}(h:a.Sublist b)(hx:x∈a):x∈b:=h.subset hx
def sM{a b:List α}(h:a.Sublist b):∀ x∈a,x∈b:=λ_ hx=>h.subset hx
def mr{id:Nat}{l:List Oper}(hm:P.follows .mixedOrders=true)(N:Nat)(hN:l.length=N)(K:Hl)(hK:∀ x∈K,x∈L)
  (h:∀ s',Le D s s'->JA P TT D n l.toArray Q K s' N (Array.replicate N false) fr L s'):JC P TT D n Q (.region id l.toArray true) fr L s:=λht a hr ho=>by
 subst hN;have h1:=h s.drew (Le.drew s) ht a hr ho.drew (Le.refl _) hK;refine eS (wp_region_held (Q:=C7 D n Q) (S:=SH D K s.drew) hm ?_) (λe a w hq=>by
  cases e with
  | panic ch=>obtain ⟨h1,L1,s1,h2,h3,h4⟩:=hq;exact ⟨[],L1,s1,h1,h2,h3,h4 []⟩
  | _=>exact hq)
 rw [<- qlq] at h1;simpa using h1
def ji(hr:Region.ready .any ops iC=[])(h:Q .normal fr L s):JA P TT D n ops Q K s0 jd iC fr L s:=λ_ a hf ho _ _=>
 wpAnyH_done hr ⟨fr,L,s,hf,ho,rfl,h⟩ jd
def Jp(i:Nat)(hi:ops[i]?=some ⟨some d,op,ty,iL,af,g⟩)(hs:Region.noSelect ops=true)(hf:Region.free .any ops iC i=true)(hr:(Region.ready .any ops iC).contains i=true)(hg:sf ops fr g)
  (hq:QE P TT D fr op ty K s0 v) (hd:Nat.blt d n=true) (k:JA P TT D n ops Q K s0 jd (iC.setIfInBounds i true) ((d,v)::fr) L s):JA P TT D n ops Q K s0 (jd+1) iC fr L s:=λht a oU ho hl hK=>by
 refine wpAnyH_take hi hs hf hr (λ_ _ _ h=>⟨h.1.unput,h.2⟩) (v:=v) (.inl ⟨hg.wanted oU,?_⟩) ⟨L,s,Z,ho,hl,hK⟩ (k ht _ (oU.put hd v) ho hl hK);rintro w ⟨L2,s2,rfl,h1,h2,h3⟩;exact hq ht _ _ _ _ _ (λx v hx=>oU.ev hx) L2 s2 h1 h2 h3
def qJ5(i:Nat){t:Nat}{w b:Bool}(hi:ops[i]?=some ⟨some d,op,ty,iL,af,some (j,w)⟩)(hs:Region.noSelect ops=true)(hf:Region.free .any ops iC i=true)(hr:(Region.ready .any ops iC).contains i=true)
  (hj:we ops j=some t) (hv:kQ fr t=some (.bool b)) (hb:(b != w)=true) (hd:Nat.blt d n=true) (k:JA P TT D n ops Q K s0 jd (iC.setIfInBounds i true) ((d,undef)::fr) L s):JA P TT D n ops Q K s0 (jd+1) iC fr L s:=λht a oU ho hl hK=>by
 refine wpAnyH_take hi hs hf hr (λ_ _ _ h=>⟨h.1.unput,h.2⟩) (v:=undef) (.inr ⟨?_,Z⟩) ⟨L,s,Z,ho,hl,hK⟩ (k ht _ (oU.put hd undef) ho hl hK);have h3:=oU.slot t (oU.ah _ _ hv) _ hv;unfold we at hj;have mL:(some b == some w)=false:=by cases b<;>cases w<;>simp_all
 simp [Region.wanted,yielded,hj,h3,mL]
def qAA{t:Nat}{b:Bool}(hv:kQ fr t=some (.bool b))(h1:b=true->JA P TT D n ops Q K s0 jd iC ((t,.bool true)::fr) L s)(h2:b=false->JA P TT D n ops Q K s0 jd iC ((t,.bool false)::fr) L s):
  JA P TT D n ops Q K s0 jd iC fr L s:=λht a hr ho hl hK=>by
 cases b with
 | true=>exact h1 rfl ht a (hr.sub λt' v' h=>by rw [vW] at h;split at h<;>simp_all) ho hl hK
 | false=>exact h2 rfl ht a (hr.sub λt' v' h=>by rw [vW] at h;split at h<;>simp_all) ho hl hK
def TV{t:Nat}[Decidable p](hv:kQ fr t=some (.bool (decide p)))(h1:p->JA P TT D n ops Q K s0 jd iC ((t,.bool true)::fr) L s)(h2:¬ p->JA P TT D n ops Q K s0 jd iC ((t,.bool false)::fr) L s):
  JA P TT D n ops Q K s0 jd iC fr L s:=qAA hv (λh=>h1 (cV h)) (λh=>h2 (dw h))
def OW{rs:List Nat}(hr:Region.ready .any ops iC=rs)(mL:rs≠[])(h:∀ i∈rs,JB P TT D n ops Q K s0 jd iC i fr L s):JA P TT D n ops Q K s0 (jd+1) iC fr L s:=λht a hf ho hl hK=>
 wpAnyH_all hr mL λi hi=>h i hi ht a hf ho hl hK
def iF(i:Nat)(hr:Region.ready .any ops iC=[i])(h:JB P TT D n ops Q K s0 jd iC i fr L s):JA P TT D n ops Q K s0 (jd+1) iC fr L s:=
 OW hr Ξ Q2
def kA(i j:Nat)(hr:Region.ready .any ops iC=[i,j])(h:JB P TT D n ops Q K s0 jd iC i fr L s)(h':JB P TT D n ops Q K s0 jd iC j fr L s):JA P TT D n ops Q K s0 (jd+1) iC fr L s:=
 OW hr Ξ (by simpa using ⟨h,h'⟩)
def xW(i j m:Nat)(hr:Region.ready .any ops iC=[i,j,m])(h:JB P TT D n ops Q K s0 jd iC i fr L s)(h':JB P TT D n ops Q K s0 jd iC j fr L s)(h'':JB P TT D n ops Q K s0 jd iC m fr L s):JA P TT D n ops Q K s0 (jd+1) iC fr L s:=
 OW hr Ξ (by simpa using ⟨h,h',h''⟩)
def Cn(hi:ops[i]?=some ⟨some d,op,ty,iL,af,g⟩)(hg:sf ops fr g)(h:Ev P TT D fr op ty L s (.value v) L' s')(j9:Le D s s')(AZ:∀ x∈K,x∈L->x∈L')(hd:Nat.blt d n=true)(k:JA P TT D n ops Q K s0 jd (iC.setIfInBounds i true) ((d,v)::fr) L' s'):
  JB P TT D n ops Q K s0 jd iC i fr L s:=λht a hf ho hl hK=>by
 obtain ⟨h1,h2⟩:=h ht ho (some d) iL af g a.eval (λx v hx=>hf.ev hx);simp only [wpOp,hi,hg.wanted hf,bV];refine .inl ?_;simp only [Oper.wp,h1,Oper.upon];have hK2:∀ x∈K,x∈L':=λx hx=>AZ x hx (hK x hx);exact ⟨⟨L',s',rfl,h2,hl.trans j9,hK2⟩,k ht _ (hf.put hd v) h2 (hl.trans j9) hK2⟩
def YG(hi:ops[i]?=some ⟨none,op,ty,iL,af,g⟩)(hg:sf ops fr g)(h:Ev P TT D fr op ty L s .skip L' s')(j9:Le D s s')(AZ:∀ x∈K,x∈L->x∈L')(k:JA P TT D n ops Q K s0 jd (iC.setIfInBounds i true) fr L' s'):
  JB P TT D n ops Q K s0 jd iC i fr L s:=λht a hf ho hl hK=>by
 obtain ⟨h1,h2⟩:=h ht ho none iL af g a.eval (λx v hx=>hf.ev hx);simp only [wpOp,hi,hg.wanted hf,bV];refine .inl ?_;simp only [Oper.wp,h1,Oper.upon];have hK2:∀ x∈K,x∈L':=λx hx=>AZ x hx (hK x hx);exact ⟨⟨L',s',rfl,h2,hl.trans j9,hK2⟩,k ht _ hf h2 (hl.trans j9) hK2⟩
def jW(hi:ops[i]?=some ⟨some d,op,ty,iL,af,g⟩)(hg:sf ops fr g)(h:QE P TT D fr op ty L s v)(hd:Nat.blt d n=true)(k:JA P TT D n ops Q K s0 jd (iC.setIfInBounds i true) ((d,v)::fr) L s):
  JB P TT D n ops Q K s0 jd iC i fr L s:=
 Cn hi hg (λht ho dst iL af g ρ hρ=>⟨h ht dst iL af g ρ hρ L s ho (Le.refl _) (λ_ hx=>hx),ho⟩) (Le.refl _) (λ_ _ h=>h) hd k
def XE{p:Prop} (h:p:=by
 have hK2:∀ x∈K,x∈L':=λx hx=>k1 x hx (hK x hx);exact ⟨⟨L',s',rfl,h4,hl.trans h5,hK2⟩,k2 hT _ (hf.put hd v) h4 (hl.trans h5) hK2⟩):p:=h
def Kz{f:FuncId}{xs:List Operand}{first captured vs:iz}{R:Value->Hl->World->Prop}(hi:ops[i]?=some ⟨some d,.call { callee:=.value x,args:=xs.toArray,argTypes:=ts },ty,iL,af,g⟩)(hg:sf ops fr g)
  (hx:lk fr x=some (.func (.func f) first.toArray captured.toArray)) (hv:qY fr xs=some vs) (hd:Nat.blt d n=true) (h:AC P D f (first++vs++captured) L s R)
  (k:∀ v L' s',Le D s s'->R v L' s'->(∀ x∈K,x∈L->x∈L')/\JA P TT D n ops Q K s0 jd (iC.setIfInBounds i true) ((d,v)::fr) L' s') :
  JB P TT D n ops Q K s0 jd iC i fr L s:=λhT a hf ho hl hK=>by
 obtain ⟨⟨fn,h1,h2,h3⟩,hc⟩:=h;have hρ:∀ x v,lk fr x=some v->a.eval x=v:=λx v hx=>hf.ev hx;simp only [wpOp,hi,hg.wanted hf,bV];refine .inl ?_;have jH:(execOp a.eval ⟨some d,.call { callee:=.value x,args:=xs.toArray,argTypes:=ts },ty,iL,af,g⟩).run P (fill L s)=.ok (.enter f (first++vs++captured).toArray) (fill L s):=by
  exact ET
 simp only [Oper.wp,jH,Oper.upon];refine (hc ho).mono ?_;rintro e w' ⟨v,L',s',rfl,rfl,h4,h5,h6⟩;obtain ⟨k1,k2⟩:=k v L' s' h5 h6;exact XE
def Jb{f:FuncId}{xs:List Operand}{vs:iz}{R:Value->Hl->World->Prop}(hi:ops[i]?=some ⟨some d,.call { callee:=.value x,args:=xs.toArray,argTypes:=ts },ty,iL,af,g⟩)(hg:sf ops fr g)
  (hx:lk fr x=some (.func (.func f) ([]:iz).toArray ([]:iz).toArray)) (hv:qY fr xs=some vs) (hd:Nat.blt d n=true) (h:AC P D f (([]:iz)++vs++[]) L s R)
  (k:∀ v L' s',Le D s s'->R v L' s'->(∀ x∈K,x∈L->x∈L')/\JA P TT D n ops Q K s0 jd (iC.setIfInBounds i true) ((d,v)::fr) L' s') :
  JB P TT D n ops Q K s0 jd iC i fr L s:=Kz (first:=[]) (captured:=[]) hi hg hx hv hd h k
def Jf{f:FuncId}{xs:List Operand}{vs:iz}{w:Value}(hi:ops[i]?=some ⟨some d,.call { callee:=.value x,args:=xs.toArray,argTypes:=ts },ty,iL,af,g⟩)(hg:sf ops fr g)
  (hx:lk fr x=some (.func (.func f) ([]:iz).toArray ([]:iz).toArray)) (hv:qY fr xs=some vs) (hd:Nat.blt d n=true) (h:AC P D f (([]:iz)++vs++[]) L s λv L' _=>v=w/\L=L')
  (k:∀ s',Le D s s'->JA P TT D n ops Q K s0 jd (iC.setIfInBounds i true) ((d,w)::fr) L s') :
  JB P TT D n ops Q K s0 jd iC i fr L s:=Jb hi hg hx hv hd h (λv L' s' hl e=>by obtain ⟨rfl,rfl⟩:=e;exact ⟨λ_ _ h=>h,k s' hl⟩)
def ky{t:Nat}{ti:TI}(hi:ops[i]?=some ⟨some d,.alloc t,ty,iL,af,g⟩)(hg:sf ops fr g)(ht:jz TT t=some ti)(zs:iz)(hY:ti.J=zs/\Nat.blt d n=true)
  (k:∀ β s',Le D s s'->JA P TT D n ops Q K s0 jd (iC.setIfInBounds i true) ((d,iT β)::fr) ((β,cb zs t)::L) s'):JB P TT D n ops Q K s0 jd iC i fr L s:=have ⟨hz,hd⟩:=hY;λhT a hf ho hl hK=>by
 subst hz;exact Cn hi hg (Oc ht ho) (qB ho (cb ti.J t)).2.2 (λx _ h=>an _ h) hd (k _ _ (qB ho (cb ti.J t)).2.2) hT a hf ho hl hK
def w8{t b:Nat}{ti:TI}{zs:iz}(rO:ops[i0]?=some ⟨none,.store t x y,ty,iL,af,g⟩)(hg:sf ops fr g)(i:Nat)(rG:iz){L':Hl}(hY:lk fr x=some (.pointer (some ⟨b,off,none⟩))/\lk fr y=some v/\L[i]?=some (b,cb zs t')/\jz TT t=some ti/\(nN v).length=ti.size) (j9:Nat.ble (off+ti.size) zs.length=true) (h1:(nN v).all (·.oneCell')=true) (hs:pk zs off (nN v)=rG) (hL:lV L i (cb rG t')=L') (AZ:∀ x∈K,x∈L.eraseIdx i)
  (k:JA P TT D n ops Q K s0 jd (iC.setIfInBounds i0 true) fr L' s):JB P TT D n ops Q K s0 jd iC i0 fr L s:=by
 obtain ⟨hx,hy,hi,ht,hl⟩:=hY
 subst hL;exact YG rO hg (Pq i rG hx hy hi ht hl j9 h1 hs) (Le.refl _) (λx hx _=>r_ (AZ x hx)) k
def Wu{t b:Nat}{ti:TI}{zs:iz}(rO:ops[i0]?=some ⟨none,.store t x y,ty,iL,af,g⟩)(hg:sf ops fr g)(i:Nat)(rG:iz){L':Hl}(hY:(lk fr x=some (.pointer (some ⟨b,off,none⟩)))/\(lk fr y=some v)/\(L[i]?=some (b,cb zs t'))/\(jz TT t=some ti)/\((nN v).length=ti.size)/\(Nat.ble (off+ti.size) zs.length=true)/\((nN v).all (·.oneCell')=true)/\(pk zs off (nN v)=rG)/\(lV L i (cb rG t')=L'))(AZ:∀ x∈K,x∈L.eraseIdx i)
  (k:JA P TT D n ops Q K s0 jd (iC.setIfInBounds i0 true) fr L' s):JB P TT D n ops Q K s0 jd iC i0 fr L s:=w8 rO hg i rG ⟨hY.1,hY.2.1,hY.2.2.1,hY.2.2.2.1,hY.2.2.2.2.1⟩ hY.2.2.2.2.2.1 hY.2.2.2.2.2.2.1 hY.2.2.2.2.2.2.2.1 hY.2.2.2.2.2.2.2.2 AZ k
def uc{A B:Hl}(h:A.Perm B):∀ s,jQ D A s->fill A s=fill B s:=by
 induction h with
 | nil=>intro s _;rfl
 | cons x _ ih=>intro s ho;simp only [fill];rw [ih s ho.tail]
 | swap x y l=>
  intro s ho;simp only [fill];have:=ho.nd;simp only [aN,du,aR,gZ] at this;exact Tc _ _ (λe=>this.1.1 e.symm)
 | trans h1 h2 ih1 ih2=>
  intro s ho;rw [ih1 s ho,ih2 s ⟨(h1.map _).nodup_iff.1 ho.nd,λx hx=>ho.dm x (h1.mem_iff.2 hx)⟩]
def jQ.perm{A B:Hl}(h:A.Perm B)(ho:jQ D A s):jQ D B s:=⟨(h.map _).nodup_iff.1 ho.nd,λx hx=>ho.dm x (h.mem_iff.2 hx)⟩
def my{γ:Type}(S:γ->Fr)(H:γ->Hl)(I:γ->World->Prop):Fr->Hl->World->Prop:=λjN L' s'=>∃ g A,iY jN (S g)/\L'.Perm (A++H g)/\I g s'
def my.mk{γ:Type}{S:γ->Fr}{H:γ->Hl}{I:γ->World->Prop}(g:γ)(A:Hl)(h1:iY fr (S g))(h2:L.Perm (A++H g))(h3:I g s):my S H I fr L s:=⟨g,A,h1,h2,h3⟩
def qGt{γ:Type}{x y:Code}(S:γ->Fr)(H:γ->Hl)(I:γ->World->Prop)(mono:∀ g s s',I g s->Le D s s'->I g s')(h1:JC P TT D n (ma (my S H I) Q) x fr L s)
  (h2:∀ g s',I g s'->JC P TT D n Q y (S g) (H g) s'):JC P TT D n Q (.seq x y) fr L s:=λht a hr ho=>
 iu (eS (h1 ht a hr ho) λe a w ⟨jN,L',s',k1,k2,k3,k4⟩=>by
  cases e with
  | normal=>
   subst k3;obtain ⟨g,A,j1,j2,j3⟩:=k4;rw [uc j2 _ k2];obtain ⟨e,d1,d2⟩:=tI (k2.perm j2);rw [e];exact h2 g _ (mono _ _ _ j3 d2) ht a (k1.sub j1) d1
  | _=>exact ⟨jN,L',s',k1,k2,k3,k4⟩)
end
def jq(h1:-9223372036854775808<=a)(h2:a<=9223372036854775807):IntKind.i64.wrap a=a:=by
 rw [IntKind.wrap_i64];omega
def yb(places:List (Nat×Nat)):iz->List (Nat×Value)->Option iz
 | zs,[]=>some zs
 | zs,(i,v)::iI=>match places[i]? with
  | none=>none
  | some (off,size)=>bif (Nat.beq (nN v).length size && Nat.ble (off+size) zs.length) then yb places (pk zs off (nN v)) iI else none
def Z4(vs:iz)(off k:Nat)(zs:iz)(h:off+k+vs.length<=zs.length):
  (vs.zipIdx k).foldl (λ(cs:Array Value) (x:Value×Nat)=>cs.setIfInBounds (off+x.2) x.1) zs.toArray=(pk zs (off+k) vs).toArray:=by
 induction vs generalizing k zs with
 | nil=>cases zs<;>simp [pk]
 | cons v vs ih=>
  simp only [List.zipIdx_cons,gP];have h0:off+k < zs.length:=by simp at h;omega
  rw [List.setIfInBounds_toArray,ih (k+1) _ (by simp at h ⊢;omega)];congr 1;rw [Du _ _ _ (by simp at h ⊢;omega),Du _ _ _ Q2];simp only [aw];rw [show off+(k+1)=off+k+1 by omega];rw [bM (by simpa using h0),List.take_set_of_le O,List.drop_set];simp [show ¬ (off+k+1+vs.length<=off+k) by omega,show off+k < off+k+1+vs.length by omega];congr 1;omega
def qn4(places:List (Nat×Nat))(f:Nat->Option (Nat×Nat))(hf:∀ i,f i=places[i]?)(zs:iz)(parts:List (Nat×Value))(h:yb places zs parts=some vs):
    Instr.fill f zs.toArray parts=some vs.toArray:=by
  induction parts generalizing zs with
  | nil=>simp [yb] at h;subst h;rfl
  | cons p iI ih=>
    obtain ⟨i,v⟩:=p;simp only [yb] at h;simp only [Instr.fill,hf];cases hp:places[i]? with
    | none=>simp [hp] at h
    | some os=>
      obtain ⟨off,size⟩:=os;simp only [hp,cond_eq_ite] at h;by_cases hc:(Nat.beq (nN v).length size && Nat.ble (off+size) zs.length)=true
      . simp only [hc,bV] at h
        simp only [aA] at hc;have h1:(nN v).length=size:=ez hc.1;have h2:off+size<=zs.length:=bE hc.2;have h3:=Z4 (nN v) off 0 zs O;simp only [NC,eC,h1,fM,gD,ig,ep,gt_iff_lt,aH,show ¬ zs.length < off+size by omega,bY];have e:(nN v).toArray.zipIdx=((nN v).zipIdx 0).toArray:=Ξ
        rw [e];simp only [List.foldl_toArray,bC] at h3 ⊢;rw [h3];exact ih _ h
      . simp only [hc] at h;cases h
section
variable{TT:kD}{Q:pS}{fr:Fr}{L L' K:Hl}{ops:Array Oper}{op:Op}
def Bq(fr:Fr):List (Nat×Operand)->Option (List (Nat×Value))
 | []=>some []
 | (i,x)::r=>match lk fr x with
  | some v=>match Bq fr r with
   | some vs=>some ((i,v)::vs)
   | none=>none
  | none=>none
def qr8{fr:Fr}{ρ:Operand->Value}(hρ:∀ x v,lk fr x=some v->ρ x=v){xs:List (Nat×Operand)}{vs:List (Nat×Value)}(h:Bq fr xs=some vs):xs.map (λp=>(p.1,ρ p.2))=vs:=by
 induction xs generalizing vs with
 | nil=>simp [Bq] at h;subst h;rfl
 | cons p xs ih=>
  obtain ⟨i,x⟩:=p;simp only [Bq] at h;cases h1:lk fr x with
  | none=>simp [h1] at h
  | some v=>
   cases h2:Bq fr xs with
   | none=>simp [h1,h2] at h
   | some r=>simp [h1,h2] at h;subst h;simp [hρ x v h1,ih h2]
def qpQ{fs:List Field}{l:List Nat}(h:fs.map (λf=>P.cellsOf f.type)=l)(hp:fs.all (λf=>decide (0 < P.cellsOf f.type))=true)(w:World):
  (fs.mapM (m:=Sem) λf=>do pure (f.offset,<- sizeOf f.type)).run P w=.ok ((fs.map (·.offset)).zip l) w:=by
 induction fs generalizing l with
 | nil=>subst h;simp
 | cons f fs ih=>
  subst h;simp only [ec,aA,aH] at hp;have jp:(sizeOf f.type).run P w=.ok (P.cellsOf f.type) w:=by
   have mM:=hp.1;unfold Program.cellsOf at mM ⊢;cases hi:P.info? f.type with
   | none=>simp [hi] at mM
   | some i=>simp [sizeOf,typeInfo,hi]
  simp only [fX,bA,jp,aP,bG,ih rfl hp.2,aN,List.zip_cons_cons]
def jB{t:Nat}{ti:TI}(lC:List (Nat×Value))(vs:iz)(hY:jz TT t=some ti/\ti.kind=.st os/\Bq fr ps=some lC){zs fz:List _}(hz:ti.J=zs)(hfz:ti.fsz=fz)
  (hb:yb (os.zip fz) zs lC=some vs):QE P TT D fr (.build t ps.toArray) ty K s0 (.agg vs.toArray):=have ⟨ht,hk,hv⟩:=hY;QE.pure λhT dst iL af g ρ hρ w=>by
  subst hz;subst hfz;have me:=hT.at_ ht;have hok2:=me;obtain ⟨h1,h2,_,_,_,_,_,h8,h9⟩:=hok2;rw [hk] at h2;cases hd:ti.desc with
  | struct fs=>
   rw [hd] at h1 h2 h8 h9;simp only [TK.fits] at h2;have zi:=qpQ (P:=P) (w:=w) (fs:=fs.toList) (show fs.toList.map (λf=>P.cellsOf f.type)=ti.fsz from h9) h8;have hz:ti.zero.cells=ti.J.toArray:=E9 me;have hpl':(fs.mapM (m:=Sem) λf=>do pure (f.offset,<- sizeOf f.type)).run P w=.ok (os.zip ti.fsz).toArray w:=by
    rw [eQ];simp only [gF,bA,zi,aP,bG,h2]
   have hfill:=qn4 (os.zip ti.fsz) ((os.zip ti.fsz).toArray[·]?) (λi=>Ξ) ti.J lC hb;have hm:(ps.toArray.map λp=>(p.1,ρ p.2)).toList=lC:=by simpa using qr8 hρ hv
   simp only [execOp,Instr.build,bA,Dt me,aP,aQ h1,hpl',hz];have hm':(ps.toArray.map λ(x:Nat×Operand)=>match x with|(i,x)=>(i,ρ x)).toList=lC:=hm;rw [hm',hfill];rfl
  | _=>rw [hd] at h2;simp [TK.fits] at h2
def UP{t b len:Nat}{ti te:TI}(j:Nat){sz:Nat}(hx:lk fr x=some (.pointer (some ⟨b,off,none⟩)))(hy:lk fr y=some (.int ik (Int.ofNat j)))(ht:jz TT t=some ti)(hk:ti.kind=.ar len e)(he:jz TT e=some te)
  (hs:te.size=1) (h1:j < len):QE P TT D fr (.indexAddr t x y) ty K s0 (.pointer (some ⟨b,off+j,none⟩)):=by
 have:=qyT (P:=P) (D:=D) (ty:=ty) (K:=K) (s0:=s0) (j:=j) hx hy ht hk he hs h1
 rwa [eK] at this
def Oh(L:Hl):List Nat->Hl
 | []=>L
 | i::r=>Oh (L.eraseIdx i) r
def qax{L:Hl}{x:Nat×Obj}(h:x∈Oh L r):x∈L:=by
 induction r generalizing L with
 | nil=>exact h
 | cons i r ih=>exact List.mem_of_mem_eraseIdx (ih h)
def pM{id:Nat}{l:List Oper}(hm:P.follows .mixedOrders=true)(N:Nat)(hN:l.length=N)(r:List Nat)(hK:∀ x∈Oh L r,x∈L)
  (h:∀ s',Le D s s'->JA P TT D n l.toArray Q (Oh L r) s' N (Array.replicate N false) fr L s'):JC P TT D n Q (.region id l.toArray true) fr L s:=mr hm N hN _ hK h
def qve(zs:iz)(len i:Nat)(h:i < len * zs.length):((List.replicate len zs).flatten)[i]?=zs[i % zs.length]?:=by
 induction len generalizing i with
 | zero=>simp at h
 | succ len ih=>
  rw [eR,bj];by_cases hi:i < zs.length
  . rw [aV hi,gG hi]
  . rw [aY O,ih (i - zs.length) (by rw [gK] at h;omega),Nat.mod_eq_sub_mod (by omega:i≥zs.length)]
def qEQ(zs:iz)(len:Nat)(h:0 < zs.length):(Array.range (len * zs.length)).map (λi=>zs.toArray[i % zs.toArray.size]!)=((List.replicate len zs).flatten).toArray:=by
  apply eU;intro i;by_cases hi:i < len * zs.length
  . have hm:i % zs.length < zs.length:=Nat.mod_lt _ h
    have:=qve zs len i hi;simp only [eA,this];simp [hi,hm]
  . have hl:((List.replicate len zs).flatten).length=len * zs.length:=Ξ
    rw [bS Q6,bS (by simp only [eC,hl];omega)]
def zD(size:Nat):Nat->Nat->List (Nat×Nat)
 | _,0=>[]
 | o,n+1=>(o,size)::zD size (o+size) n
def qsY(size o n i:Nat)(h:i < n):(zD size o n)[i]?=some (o+i * size,size):=by
 induction n generalizing o i with
 | zero=>omega
 | succ n ih=>
  cases i with
  | zero=>simp [zD]
  | succ i=>simp only [zD,bH];rw [ih (o+size) i O,gK];congr 2;omega
def qva(size len:Nat)(zs:iz)(parts:List (Nat×Value))(hp:parts.all (λx=>Nat.blt x.1 len)=true)(h:yb (zD size 0 len) zs parts=some vs):
    Instr.fill (λi=>some (i * size,size)) zs.toArray parts=some vs.toArray:=by
  induction parts generalizing zs with
  | nil=>simp [yb] at h;subst h;rfl
  | cons x iI ih=>
    obtain ⟨i,v⟩:=x;simp only [ec,aA] at hp;have hi:i < len:=bE hp.1;have hg:=qsY size 0 len i hi;rw [aX] at hg;have h1:=qn4 (zD size 0 len) ((zD size 0 len)[·]?) (λ_=>rfl) zs ((i,v)::iI) h;simp only [yb,hg,cond_eq_ite] at h;simp only [Instr.fill,hg] at h1 ⊢;by_cases hc:(Nat.beq (nN v).length size && Nat.ble (i * size+size) zs.length)=true
    . simp only [hc,bV] at h
      simp only [aA] at hc;have e1:(nN v).length=size:=ez hc.1;have e2:i * size+size<=zs.length:=bE hc.2;have h3:=Z4 (nN v) (i * size) 0 zs O;simp only [NC,eC,e1,fM,gD,ig,ep,gt_iff_lt,aH,show ¬ zs.length < i * size+size by omega,bY];have e:(nN v).toArray.zipIdx=((nN v).zipIdx 0).toArray:=Ξ
      rw [e];simp only [List.foldl_toArray,bC] at h3 ⊢;rw [h3];exact ih _ hp.2 h
    . simp only [hc] at h;cases h
def qjb{t len:Nat}{ti te:TI}(hti:ti.ok P t)(hk:ti.kind=.sl e)(pJ:te.ok P e)(jp:Nat.ble (len * te.size) 16777216=true)(mM:0 < len)(lC:List (Nat×Value))(vs:iz)(hp:lC.all (λx=>Nat.blt x.1 len)=true)
  (hb:yb (zD te.size 0 len) (List.replicate len te.J).flatten lC=some vs) (w:World):(Instr.buildSlice t len lC.toArray).run P w=.ok (.slice (some ⟨w.heap.size,0,none⟩) len len) (w.alloc (cb vs e)):=by
 obtain ⟨k1,k2,_⟩:=hti;rw [hk] at k2;simp only [TK.fits] at k2;rw [k2] at k1;have hte2:=pJ;obtain ⟨_,_,_,z1,_,z3,_⟩:=hte2;have hz:=E9 pJ;have j9:¬ (2 ^ 24 < len * te.size):=by have:=bE jp;omega
 have mL:¬ (len * te.size=0):=by
  intro h0;have:=io mM z3;omega
 have hrow:=qEQ te.J len O;rw [z1] at hrow;have oU:=qva te.size len _ lC hp hb;simp only [Instr.buildSlice,bA,aQ k1,aP,Bv pJ,gt_iff_lt,j9,bY,bG,mL,Dt pJ,hz];rw [hrow,oU];simp only [bA,KC,aP,bG];rfl
def qJX{t len:Nat}{ti te:TI}(lC:List (Nat×Value))(vs:iz)(ht:jz TT t=some ti)(hk:ti.kind=.sl e)(he:jz TT e=some te)(hv:Bq fr ps=some lC)(jp:Nat.ble (len * te.size) 16777216=true)(mM:Nat.blt 0 len=true)(hp:lC.all (λx=>Nat.blt x.1 len)=true)
  (hb:yb (zD te.size 0 len) (List.replicate len te.J).flatten lC=some vs) (ho:jQ D L s):Ev P TT D fr (.buildSlice t len ps.toArray) ty L s (.value (.slice (some ⟨s.heap.size,0,none⟩) len len)) ((s.heap.size,cb vs e)::L) (s.alloc (mJ D)):=λhT _ dst iL af g ρ hρ=>by
 obtain ⟨h1,h2,h3⟩:=qB ho (cb vs e);refine ⟨?_,h2⟩;have hm:(ps.toArray.map λ(x:Nat×Operand)=>match x with|(i,x)=>(i,ρ x))=lC.toArray:=by
  have:=qr8 hρ hv;rw [<- this];simp
 have hpos':0 < len:=bE mM;simp only [execOp,hm,bA,qjb (hT.at_ ht) hk (hT.at_ he) jp hpos' lC vs hp hb,aP,bG,oB];rw [<- h1]
def Kf{t:Nat}(ho:jQ D ((b,cb vs t)::L) s):iy (fill [(b,cb vs t)] s) b 0 vs:=λj v hj=>by
 have h1:jQ D [(b,cb vs t)] s:=⟨Ξ,λx hx=>ho.dm x (by simp at hx;subst hx;exact cQ ..)⟩;rw [Ca h1 Mc,aX];exact hj
def Pm{p:Prop} (h:p:=by
 rw [<- d1];exact (qJX lC vs ht hk he hv jp mM hp hb ho hT ho dst iL af g ρ hρ).1):p:=h
def lx{t len:Nat}{ti te:TI}(lC:List (Nat×Value))(vs:iz)(hY:jz TT t=some ti/\ti.kind=.sl e/\jz TT e=some te/\Bq fr ps=some lC/\Nat.ble (len * te.size) 16777216=true/\Nat.blt 0 len=true/\(lC.all (λx=>Nat.blt x.1 len)=true)/\yb (zD te.size 0 len) (List.replicate len te.J).flatten lC=some vs/\Nat.blt d n=true) (k:∀ β s',Le D s s'->iy s' β 0 vs->JO P TT D n ops Q iI ((d,.slice (jZ β) len len)::fr) L s') :
  JO P TT D n ops Q (⟨some d,.buildSlice t len ps.toArray,ty,iL,af,none⟩::iI) fr L s:=have ⟨ht,hk,he,hv,jp,mM,hp,hb,hd⟩:=hY;λhT a hr ho=>by
 obtain ⟨h1,h2,h3⟩:=qB ho (cb vs e);obtain ⟨d1,d2,d3⟩:=tI (A:=[(s.heap.size,cb vs e)]) (B:=L) h2;refine AH (L':=L) (s':=fill [(s.heap.size,cb vs e)] (s.alloc (mJ D))) hd (λhT _ dst iL af g ρ hρ=>⟨?_,d2⟩) (k _ _ (h3.trans d3) (Kf h2)) hT a hr ho;exact Pm
def qC{t len:Nat}{g:Option (Nat×Bool)}{iC:Array Bool}{ti te:TI}(hi:ops[i]?=some ⟨some d,.buildSlice t len ps.toArray,ty,iL,af,g⟩)(hg:sf ops fr g)(lC:List (Nat×Value))(vs:iz)(hY:jz TT t=some ti/\ti.kind=.sl e/\jz TT e=some te/\Bq fr ps=some lC/\Nat.ble (len * te.size) 16777216=true/\Nat.blt 0 len=true/\(lC.all (λx=>Nat.blt x.1 len)=true)/\yb (zD te.size 0 len) (List.replicate len te.J).flatten lC=some vs/\Nat.blt d n=true) (k:∀ β s',Le D s s'->iy s' β 0 vs->JA P TT D n ops Q K s0 jd (iC.setIfInBounds i true) ((d,.slice (jZ β) len len)::fr) L s') :
  JB P TT D n ops Q K s0 jd iC i fr L s:=have ⟨ht,hk,he,hv,jp,mM,hp,hb,hd⟩:=hY;λhT a hr ho hl hK=>by
 obtain ⟨h1,h2,h3⟩:=qB ho (cb vs e);obtain ⟨d1,d2,d3⟩:=tI (A:=[(s.heap.size,cb vs e)]) (B:=L) h2;refine Cn (L':=L) (s':=fill [(s.heap.size,cb vs e)] (s.alloc (mJ D))) hi hg (λhT _ dst iL af g ρ hρ=>⟨?_,d2⟩) (h3.trans d3) (λ_ _ h=>h) hd (k _ _ (h3.trans d3) (Kf h2)) hT a hr ho hl hK;exact Pm
end
section
variable{TT:kD}{Q:pS}{fr:Fr}{L L' K:Hl}{ops:Array Oper}{op:Op}
def Kn{y:Nat}{c:BoundsCode}(h:j<=y)(w:World):(Instr.sliceBound (.int ik (j:Int)) y c).run P w=.ok j w:=by simp_all [Instr.sliceBound,asIntOf]
def qku{t:Nat}{x:Value}(h:ti.ok P t)(hk:ti.kind=.sl e):∀ w,(Instr.sliceAt t x lo hi mx).run P w=(Instr.slice t x lo hi mx).run P w:=by
 obtain ⟨k1,k2,_⟩:=h;rw [hk] at k2;simp only [TK.fits] at k2;rw [k2] at k1;intro w;simp [Instr.sliceAt,aQ k1]
def Z7{t:Nat}{A:iE}{c:Nat}{ti te:TI}(h:ti.ok P t)(hk:ti.kind=.sl e)(he:te.ok P e){l u:Nat}(w:World)
  (hb:(Instr.sliceBounds true m c lo hi none).run P w=.ok (l,u,c) w):(Instr.sliceAt t (.slice A m c) lo hi none).run P w=.ok (.slice (if c=l then A else A.map (·.add (l * te.size))) (u - l) (c - l)) w:=by
 rw [qku h hk];obtain ⟨k1,k2,_⟩:=h;rw [hk] at k2;simp only [TK.fits] at k2;rw [k2] at k1;simp [Instr.slice,aQ k1,hb,Bv he]
def QC(A:iE)(k:Nat):A.map (·.add (0 * k))=A:=by cases A<;>simp [Addr.add]
def GB{t:Nat}{A:iE}{c:Nat}(hx:lk fr x=some (.slice A m c))(hy:lk fr y=some (.int ik (j:Int)))(ht:jz TT t=some ti)(hk:ti.kind=.sl e)(he:jz TT e=some te)(hj:j<=c):
  QE P TT D fr (.slice t x none (some y) none) ty K s0 (.slice A j c):=
 QE.pure λhT dst iL af g ρ hρ w=>by
  have hb:(Instr.sliceBounds true m c none (some (.int ik (j:Int))) none).run P w=.ok (0,j,c) w:=by simp [Instr.sliceBounds,Kn hj]
  have hr:=Z7 (A:=A) (hT.at_ ht) hk (hT.at_ he) w hb;simp only [execOp,hρ x _ hx,fH,eT,hρ y _ hy,bA,hr,aP,bG,QC];simp
def Xc{p:Prop} (h:p:=by
 simp only [execOp,hρ x _ hx,fH,eT,hρ y _ hy,bA,hr,aP,bG]):p:=h
def UR{t:Nat}{A:iE}{c:Nat}(hx:lk fr x=some (.slice A m c))(hy:lk fr y=some (.int ik (j:Int)))(ht:jz TT t=some ti)(hk:ti.kind=.sl e)(he:jz TT e=some te)(hj:j<=m):
  QE P TT D fr (.slice t x (some y) none none) ty K s0 (.slice (if c=j then A else A.map (·.add (j * te.size))) (m - j) (c - j)):=
 QE.pure λhT dst iL af g ρ hρ w=>by
  have hb:(Instr.sliceBounds true m c (some (.int ik (j:Int))) none none).run P w=.ok (j,m,c) w:=by simp [Instr.sliceBounds,Kn hj]
  have hr:=Z7 (A:=A) (hT.at_ ht) hk (hT.at_ he) w hb;exact Xc
def qlz(l:List UInt8)(lo hi:Nat)(h:lo<=hi):(⟨l.toArray⟩:ByteArray).extract lo hi=⟨((l.drop lo).take (hi - lo)).toArray⟩:=by
 apply fu;simp [List.take_drop,Nat.add_sub_cancel' h]
def ZS{t:Nat}(h:ti.ok P t)(hk:ti.desc=.string){a u:Nat}(hau:a<=u)(w:World)(hb:(Instr.sliceBounds false l.length l.length lo hi none).run P w=.ok (a,u,l.length) w):
  (Instr.sliceAt t (St l) lo hi none).run P w=.ok (St ((l.drop a).take (u - a))) w:=by
 have k1:=h.1;rw [hk] at k1;have jp:(⟨l.toArray⟩:ByteArray).size=l.length:=by simp [ByteArray.size]
 have hx:=qlz l a u hau;simp only [Instr.sliceAt,bA,aQ k1,aP,Instr.slice,Option.isSome_none,dq,bY,jp,hb,bG,hx]
def qGG{t:Nat}{u:Nat}(hx:lk fr x=some (St l))(hy:lk fr y=some (.int ik (u:Int)))(ht:jz TT t=some ti)(hk:ti.desc=.string)(hu:u<=l.length):
  QE P TT D fr (.slice t x none (some y) none) ty K s0 (St (l.take u)):=
 QE.pure λhT dst iL af g ρ hρ w=>by
  have hb:(Instr.sliceBounds false l.length l.length none (some (.int ik (u:Int))) none).run P w=.ok (0,u,l.length) w:=by simp [Instr.sliceBounds,Kn hu]
  have hr:=ZS (hT.at_ ht) hk (aB u) w hb;simp only [execOp,hρ x _ hx,fH,eT,hρ y _ hy,bA,hr,aP,bG];simp
def qGH{t:Nat}{a:Nat}(hx:lk fr x=some (St l))(hy:lk fr y=some (.int ik (a:Int)))(ht:jz TT t=some ti)(hk:ti.desc=.string)(ha:a<=l.length):
  QE P TT D fr (.slice t x (some y) none none) ty K s0 (St (l.drop a)):=
 QE.pure λhT dst iL af g ρ hρ w=>by
  have hb:(Instr.sliceBounds false l.length l.length (some (.int ik (a:Int))) none none).run P w=.ok (a,l.length,l.length) w:=by simp [Instr.sliceBounds,Kn ha]
  have hr:=ZS (hT.at_ ht) hk ha w hb;simp only [execOp,hρ x _ hx,fH,eT,hρ y _ hy,bA,hr,aP,bG];have:(l.drop a).take (l.length - a)=l.drop a:=aK Ξ;rw [this]
end
def T7{L L':Hl}(h:jQ D L s)(hos:w'.os=s.os)(htp:w'.tape=s.tape)(sP:w'.output=s.output)(jp:s.heap.size<=w'.heap.size)(kO:(L'.map (·.1)).Nodup)
    (sL:∀ x∈L',w'.heap[x.1]?=some x.2) (hkeys:∀ x∈L',x.1∈L.map (·.1)\/s.heap.size<=x.1) (hold:∀ k,k < s.heap.size->k ∉ L.map (·.1)->w'.heap[k]?=s.heap[k]?) :
    w'=fill L' (rE D L' w')/\jQ D L' (rE D L' w')/\Le D s (rE D L' w'):=by
  have kZ:∀ x∈L',x.1 < w'.heap.size:=λx hx=>by
    have:=sL x hx;rcases eM x.1 w'.heap.size with h1|h1
    . exact h1
    . rw [bS h1] at this;cases this
  have me:jQ D L' (rE D L' w'):=⟨kO,λx hx=>qld kZ (aW.2 ⟨x,hx,rfl⟩)⟩;refine ⟨Dz (Dy λk=>?_) ?_ ?_ ?_ ?_,me,⟨?_,?_,?_,by rw [Tl];exact jp,λk hk=>?_⟩⟩
  . by_cases hk:k∈L'.map (·.1)
    . obtain ⟨x,hx,rfl⟩:=aW.1 hk
      rw [qM me hx,sL x hx]
    . rw [vV hk,J1 hk]
  . rw [zo,NI]
  . rw [FW,ZZ]
  . rw [zt,Of]
  . rw [zp,NB]
  . rw [Of,hos]
  . rw [NI,htp]
  . rw [NB,sP]
  . by_cases hd:s.heap[k]?=some (mJ D)
    . exact .inl hd
    . have uQ:=OM h hd
      have xI:k ∉ L'.map (·.1):=λhm=>by
        obtain ⟨x,hx,rfl⟩:=aW.1 hm;rcases hkeys x hx with h1|h1
        . exact uQ h1
        . omega
      exact .inr (by rw [J1 xI,hold k hk uQ])
inductive Own(e sz:Nat):Hl->Value->Nat->iz->Prop
 | nil:Own e sz [] (.slice none 0 0) 0 []
 | blk (b cap n:Nat) (xs ys:iz) (hn:xs.length=n * sz) (hc:xs.length+ys.length=cap * sz) (rz:n<=cap) (hm:cap<=9223372036854775807):Own e sz [(b,cb (xs++ys) e)] (.slice (some ⟨b,0,none⟩) n cap) n xs
def Row(s:World)(A:iE)(m sz:Nat)(news:iz):Prop:=
 news.length=m * sz/\(∀ u∈news,u.oneCell'=true)/\∀ j u,news[j]?=some u->∃ b off,A=some ⟨b,off,none⟩/\s.cell? ⟨b,off+j,none⟩=some u
def Row.of_cells(h:iy s b off news)(hl:news.length=m * sz)(h1:news.all (·.oneCell')=true):Row s (some ⟨b,off,none⟩) m sz news:=
 ⟨hl,λu hu=>bU.1 h1 u hu,λj u hj=>⟨b,off,rfl,h j u hj⟩⟩
def Row.le{A:iE}(h:Row s A m sz news)(hl:Le D s s'):Row s' A m sz news:=
 ⟨h.1,h.2.1,λj u hj=>by obtain ⟨b,off,h1,h2⟩:=h.2.2 j u hj;exact ⟨b,off,h1,hl.cell h2⟩⟩
def Own.owns{A:Hl}(h:Own e sz A v n xs)(hw:∀ x∈A,w.heap[x.1]?=some x.2):w.ownsRow 0 e sz v n xs:=by
 cases h with
 | nil=>exact World.ownsRow_nil w 0 e sz
 | blk b cap n xs ys hn hc rz hm=>
  refine ⟨hn,.inr ⟨b,cap,(xs++ys).toArray,Z,aB _,hw _ Mc,rz,by simpa [maxLen] using hm,by simpa using hc,?_⟩⟩;rw [<- hn];simp
def Own.key{A:Hl}(h:Own e sz A v n xs)(k:Nat):k∈A.map (·.1)↔v.ownBlock=some k:=by
 cases h with
 | nil=>simp [Value.ownBlock]
 | blk b cap n xs ys=>simp [Value.ownBlock,eq_comm]
def Own.of_owns(h:w.ownsRow 0 e sz v n xs):∃ A,Own e sz A v n xs/\∀ x∈A,w.heap[x.1]?=some x.2:=by
  obtain ⟨h1,h2⟩:=h;rcases h2 with ⟨rfl,rfl⟩|⟨g,cap,lI,rfl,_,hg,rz,hcm,tW,ht⟩
  . have:xs=[]:=aJ Q5
    subst this;exact ⟨[],.nil,λx hx=>by cases hx⟩
  . have he:lI=(xs++lI.toList.drop (n * sz)).toArray:=by
      rw [<- ht,eB]
    have hcs':xs.length+(lI.toList.drop (n * sz)).length=cap * sz:=by
      rw [<- tW,<- ac];have:=bl Array.size he;simpa using this.symm
    refine ⟨[(g,cb (xs++lI.toList.drop (n * sz)) e)],.blk g cap n xs _ h1 hcs' rz (by simpa [maxLen] using hcm),λx hx=>?_⟩;simp only [aU] at hx;subst hx;rw [hg,cb,<- he]
def mN{B A L0:Hl}{x:Nat×Obj}:x∈B++(A++L0)↔x∈B\/x∈A\/x∈L0:=by simp
def qzM{B A A' L0:Hl}{sz:Nat}{v':Value}{n':Nat}{xs xs':iz}(h:jQ D (B++(A++L0)) s)(hO:Own e sz A v n xs)(hO':Own e sz A' v' n' xs')(hA':∀ x∈A',w'.heap[x.1]?=some x.2)
    (hg:(fill (B++(A++L0)) s).grownBy w' v.ownBlock) (hat:v'.ownBlock=v.ownBlock\/v'.ownBlock=some s.heap.size) :
    w'=fill (B++(A'++L0)) (rE D (B++(A'++L0)) w')/\jQ D (B++(A'++L0)) (rE D (B++(A'++L0)) w')/\Le D s (rE D (B++(A'++L0)) w'):=by
  have kO:=h.nd;have hkA':∀ k,k∈A'.map (·.1)->k∈A.map (·.1)\/k=s.heap.size:=λk hk=>by
    rw [hO'.key] at hk;rcases hat with h1|h1
    . exact .inl ((hO.key k).2 (h1▸hk))
    . rw [h1] at hk;injection hk with hk;exact .inr hk.symm
  have hsize:=hg.size;rw [oB] at hsize;have kZ:∀ x∈B++(A++L0),x.1 < s.heap.size:=λx hx=>h.lt hx;simp only [bO,bI,aS] at kO;obtain ⟨nB,⟨nA,nL,dAL⟩,dB⟩:=kO;have hrest:∀ x,x∈B\/x∈L0->w'.heap[x.1]?=some x.2:=λx hx=>by
    have pv:x∈B++(A++L0):=mN.2 (by rcases hx with h1|h1;exact .inl h1;exact .inr (.inr h1));rw [hg.block x.1 (by rw [oB];exact kZ x pv),qM h pv];intro he;have hk:=(hO.key x.1).2 he.symm;rcases hx with h1|h1
    . exact dB _ (aW.2 ⟨x,h1,rfl⟩) _ (.inl hk) rfl
    . exact dAL _ hk _ (aW.2 ⟨x,h1,rfl⟩) rfl
  refine T7 h (hg.os.trans (zt _ _)) (hg.tape.trans (zo _ _)) (hg.output.trans (zp _ _)) hsize ?_ ?_ ?_ ?_
  . have nA':(A'.map (·.1)).Nodup:=by cases hO'<;>simp
    simp only [bO,bI,aS];refine ⟨nB,⟨nA',nL,λa ha b hb he=>?_⟩,λa ha b hb he=>?_⟩
    . subst he
      rcases hkA' a ha with h1|h1
      . exact dAL _ h1 _ hb rfl
      . obtain ⟨x,hx,rfl⟩:=aW.1 hb
        have:=kZ x (mN.2 (.inr (.inr hx)));omega
    . subst he
      rcases hb with hb|hb
      . rcases hkA' a hb with h1|h1
        . exact dB _ ha _ (.inl h1) rfl
        . obtain ⟨x,hx,rfl⟩:=aW.1 ha
          have:=kZ x (mN.2 (.inl hx));omega
      . exact dB _ ha _ (.inr hb) rfl
  . intro x hx
    rcases mN.1 hx with h1|h1|h1
    . exact hrest x (.inl h1)
    . exact hA' x h1
    . exact hrest x (.inr h1)
  . intro x hx
    rcases mN.1 hx with h1|h1|h1
    . exact .inl (aW.2 ⟨x,mN.2 (.inl h1),rfl⟩)
    . rcases hkA' x.1 (aW.2 ⟨x,h1,rfl⟩) with h2|h2
      . exact .inl (by rw [bO,bO];simp only [aS];exact .inr (.inl h2))
      . exact .inr O
    . exact .inl (aW.2 ⟨x,mN.2 (.inr (.inr h1)),rfl⟩)
  . intro k hk hn
    rw [hg.block k (by rw [oB];exact hk),vV hn];intro he;exact hn (by rw [bO,bO];simp only [aS];exact .inr (.inl ((hO.key k).2 he.symm)))
section
variable{TT:kD}{Q:pS}{fr:Fr}{L L' K:Hl}{ops:Array Oper}{op:Op}
def Sy{p:Prop} (h:p:=by
 rw [<- r1];simp only [execOp,resolve,invoke,builtin,bA,bG,aP,gH,aN,dE,hρ x _ hx,hρ y _ hy,jH]):p:=h
def Su{p:Prop} (h:p:=by
 obtain ⟨b,off,h1,_⟩:=hR.2.2 0 news[0] (ap hl);refine ⟨b,off,h1,λj u hj=>?_⟩;obtain ⟨b',off',h1',h2⟩:=hR.2.2 j u hj;rw [h1] at h1';injection h1' with h1';injection h1' with e1 e2;subst e1;subst e2
 exact h2):p:=h
def UF{t c sz:Nat}{ti te:TI}{news xs:iz}(B A L0:Hl)(hT:jV P TT)(hx:lk fr x=some v)(hy:lk fr y=some (.slice A1 m c))(ht:jz TT t=some ti)(hk:ti.kind=.sl e)(he:jz TT e=some te)(jp:te.size=sz)
    (hO:Own e sz A v k xs) (hR:Row s A1 m sz news) (rK:(k+m) * te.bytes<=140737488355328/\k+m<=9223372036854775807) (ho:jQ D (B++(A++L0)) s) :
    ∃ v' A' s',Ev P TT D fr (.call { callee:=.builtin .append,args:=#[x,y],argTypes:=#[t,t] }) ty (B++(A++L0)) s (.value v') (B++(A'++L0)) s'/\Le D s s'/\Own e sz A' v' (k+m) (xs++news):=by
  have me:=hT.at_ ht;obtain ⟨k1,k2,_⟩:=me;rw [hk] at k2;simp only [TK.fits] at k2;rw [k2] at k1;have pJ:=hT.at_ he;obtain ⟨i,i1,i2,i3,i4⟩:=Cc pJ;have mM:0 < te.size:=pJ.2.2.2.2.2.1;have hzs:te.zero.cells.size=te.size:=by rw [E9 pJ];simpa using pJ.2.2.2.1
  have sL:∀ x∈A,(fill (B++(A++L0)) s).heap[x.1]?=some x.2:=λx hx=>qM ho (mN.2 (.inr (.inl hx)));have pw:=hO.owns sL;by_cases hm:m=0
  . subst hm
    have hn:news=[]:=aJ (by simpa using hR.1);subst hn;refine ⟨v,A,s,λhT ho dst iL af g ρ hρ=>⟨?_,ho⟩,Le.refl _,by simpa using hO⟩;have j9:∀ (A2:iE) (w:World),(Builtin.firstCells te.size 0 (.slice A2 0 c)).run P w=.ok #[] w:=λA2 w=>by
      cases A2<;>simp [Builtin.firstCells,loadCells,loadCellsFrom]
    cases hO with
    | nil=>simp [execOp,resolve,invoke,builtin,Builtin.append_,hρ x _ hx,hρ y _ hy,aQ k1,Bv pJ,Builtin.lenOf,j9]
    | blk b cap n xs ys hn hc rz hm=>simp [execOp,resolve,invoke,builtin,Builtin.append_,hρ x _ hx,hρ y _ hy,aQ k1,Bv pJ,Builtin.lenOf,j9,rz,storeCells]
  . have h0:∃ b off,A1=some ⟨b,off,none⟩/\iy s b off news:=by
      have hl:0 < news.length:=by rw [hR.1,<- jp];exact io (Nat.pos_of_ne_zero hm) mM
      exact Su
    obtain ⟨b,off,rfl,hcells⟩:=h0;obtain ⟨v',w',jH,hown',vQ,_,hat⟩:=run_append_own_at (P:=P) (fill (B++(A++L0)) s) 0 t ty e i te.zero sz te.bytes k1 i1 i4 (i2.trans jp) i3 (by rw [hzs,jp]) (by rw [<- jp];exact mM) v k xs pw ⟨b,off,none⟩ m c news hR.1
      (λj u hj=>by rw [add_lit];exact E7 ho (hcells j u hj)) hR.2.1 (by simpa [maxLen] using rK.2) rK.1 (aB _)
    obtain ⟨A',hO',hA'⟩:=Own.of_owns hown';rw [oB] at hat;obtain ⟨r1,r2,r3⟩:=qzM (D:=D) ho hO hO' hA' vQ hat;refine ⟨v',A',rE D (B++(A'++L0)) w',λhT ho dst iL af g ρ hρ=>⟨?_,r2⟩,r3,hO'⟩;exact Sy
def rQ{t c sz:Nat}{ti te:TI}{news xs:iz}(B A L0:Hl)(hY:L=B++(A++L0)/\lk fr x=some v/\lk fr y=some (.slice A1 m c)/\jz TT t=some ti/\ti.kind=.sl e/\jz TT e=some te/\te.size=sz)
  (hO:Own e sz A v k xs) (hR:Row s A1 m sz news) (rK:(k+m) * te.bytes<=140737488355328/\k+m<=9223372036854775807) (hd:Nat.blt d n=true)
  (kk:∀ v' A' s',Le D s s'->Own e sz A' v' (k+m) (xs++news)->JO P TT D n ops Q iI ((d,v')::fr) (B++(A'++L0)) s') :
  JO P TT D n ops Q (⟨some d,.call { callee:=.builtin .append,args:=#[x,y],argTypes:=#[t,t] },ty,iL,af,none⟩::iI) fr L s:=have ⟨hL,hx,hy,ht,hk,he,jp⟩:=hY;λhT a hr ho=>by
 subst hL;obtain ⟨v',A',s',h1,h2,h3⟩:=UF (ty:=ty) B A L0 hT hx hy ht hk he jp hO hR rK ho;exact AH hd h1 (kk v' A' s' h2 h3) hT a hr ho
def wT{t c sz:Nat}{g:Option (Nat×Bool)}{iC:Array Bool}{ti te:TI}{news xs:iz}(rO:ops[i0]?=some ⟨some d,.call { callee:=.builtin .append,args:=#[x,y],argTypes:=#[t,t] },ty,iL,af,g⟩)(ri:sf ops fr g)
  (B A:Hl){L0:Hl} (hL:L=B++(A++L0)) (hx:lk fr x=some v) (hy:lk fr y=some (.slice A1 m c)) (ht:jz TT t=some ti) (hk:ti.kind=.sl e) (he:jz TT e=some te) (jp:te.size=sz)
  (hO:Own e sz A v k xs) (hR:Row s A1 m sz news) (rK:(k+m) * te.bytes<=140737488355328/\k+m<=9223372036854775807) (hd:Nat.blt d n=true) (hK:∀ A',∀ x∈K,x∈B++(A++L0)->x∈B++(A'++L0))
  (kk:∀ v' A' s',Le D s s'->Own e sz A' v' (k+m) (xs++news)->JA P TT D n ops Q K s0 jd (iC.setIfInBounds i0 true) ((d,v')::fr) (B++(A'++L0)) s') :
  JB P TT D n ops Q K s0 jd iC i0 fr L s:=λhT a hr ho hl hKL=>by
 subst hL;obtain ⟨v',A',s',h1,h2,h3⟩:=UF (ty:=ty) B A L0 hT hx hy ht hk he jp hO hR rK ho;exact Cn rO ri h1 h2 (hK A') hd (kk v' A' s' h2 h3) hT a hr ho hl hKL
def KQ{t:Nat}(ht:jz TT t=some ti)(hk:ti.kind=.sl e)(he:jz TT e=some te)(hd:Nat.blt d n=true)(k:∀ β s',Le D s s'->Own e sz [(β,cb [] e)] (.slice (jZ β) 0 0) 0 []->JO P TT D n ops Q iI ((d,.slice (jZ β) 0 0)::fr) ((β,cb [] e)::L) s'):
  JO P TT D n ops Q (⟨some d,.buildSlice t 0 #[],ty,iL,af,none⟩::iI) fr L s:=λhT a hr ho=>by
 obtain ⟨h1,h2,h3⟩:=qB ho (cb [] e);obtain ⟨k1,k2,_⟩:=hT.at_ ht;rw [hk] at k2;simp only [TK.fits] at k2;rw [k2] at k1;refine AH hd (L':=(s.heap.size,cb [] e)::L) (s':=s.alloc (mJ D)) (v:=.slice (some ⟨s.heap.size,0,none⟩) 0 0) (λhT _ dst iL af g ρ hρ=>⟨?_,h2⟩) (k _ _ h3 (.blk s.heap.size 0 0 [] [] Ξ Ξ (ay _) O)) hT a hr ho;rw [<- h1];simp [execOp,Instr.buildSlice,aQ k1,Bv (hT.at_ he),Instr.fill,KC,oB,cb,show Array.range 0=#[] from rfl]
def WM{t:Nat}(hT:jV P TT)(hx:lk fr x=some (.int ik (m:Int)))(ht:jz TT t=some ti)(hk:ti.kind=.sl e)(he:jz TT e=some te)(hz:te.J=[z])(hb:te.bytes * m<=281474976710656)(hm:m<=9223372036854775807)(ho:jQ D L s):
  Ev P TT D fr (.makeSlice t x x) ty L s (.value (.slice (some ⟨s.heap.size,0,none⟩) m m)) ((s.heap.size,cb (List.replicate m z) e)::L) (s.alloc (mJ D)):=λ_ _ dst iL af g ρ hρ=>by
 obtain ⟨h1,h2,h3⟩:=qB ho (cb (List.replicate m z) e);refine ⟨?_,h2⟩;obtain ⟨k1,k2,_⟩:=hT.at_ ht;rw [hk] at k2;simp only [TK.fits] at k2;rw [k2] at k1;have pJ:=hT.at_ he;obtain ⟨i,i1,i2,i3,i4⟩:=Cc pJ;have qp:te.size=1:=by rw [<- pJ.2.2.2.1,hz];rfl
 have hb':(i.bytes:Int) * (m:Int)<=281474976710656:=by
  have h:((te.bytes * m:Nat):Int)<=281474976710656:=O
  rwa [Int.natCast_mul,<- i3] at h
 have hr:=run_make (P:=P) (fill L s) t e i te.zero k1 i1 i4 ik ik m m O O hb' O;have hc:madeCells te.zero.cells ((m:Int).toNat * i.size)=(List.replicate m z).toArray:=by
  rw [i2,qp,E9 pJ,hz];apply eU;intro j;simp only [madeCells,aD,eK];by_cases hj:j < m
  . simp [hj,Nat.mod_one]
  . rw [bS Q6,bS Q6]
 rw [hc] at hr;simp only [execOp,hρ x _ hx,bA,hr,aP,bG,oB,aD];rw [<- h1];rfl
def qKa{t:Nat}{ti te:TI}(hx:lk fr x=some (.int ik (m:Int)))(ht:jz TT t=some ti)(hk:ti.kind=.sl e)(he:jz TT e=some te)(hz:te.J=[z])(hb:te.bytes * m<=281474976710656)(hm:m<=9223372036854775807)(hd:Nat.blt d n=true)
  (k:∀ β s',Le D s s'->JO P TT D n ops Q iI ((d,.slice (jZ β) m m)::fr) ((β,cb (List.replicate m z) e)::L) s'):JO P TT D n ops Q (⟨some d,.makeSlice t x x,ty,iL,af,none⟩::iI) fr L s:=λhT a hr ho=>
 AH hd (WM hT hx ht hk he hz hb hm ho) (k _ _ (qB ho (cb (List.replicate m z) e)).2.2) hT a hr ho
def mV{t:Nat}{g:Option (Nat×Bool)}{iC:Array Bool}{ti te:TI}(rO:ops[i0]?=some ⟨some d,.makeSlice t x x,ty,iL,af,g⟩)(ri:sf ops fr g)(hY:lk fr x=some (.int ik (m:Int))/\jz TT t=some ti/\ti.kind=.sl e/\jz TT e=some te/\te.J=[z])(hb:te.bytes * m<=281474976710656)(hm:m<=9223372036854775807)(hd:Nat.blt d n=true)
  (k:∀ β s',Le D s s'->JA P TT D n ops Q K s0 jd (iC.setIfInBounds i0 true) ((d,.slice (jZ β) m m)::fr) ((β,cb (List.replicate m z) e)::L) s'):JB P TT D n ops Q K s0 jd iC i0 fr L s:=have ⟨hx,ht,hk,he,hz⟩:=hY;λhT a hr ho hl hK=>
 Cn rO ri (WM hT hx ht hk he hz hb hm ho) (qB ho (cb (List.replicate m z) e)).2.2 (λx _ h=>an _ h) hd (k _ _ (qB ho (cb (List.replicate m z) e)).2.2) hT a hr ho hl hK
def qqc{t b c:Nat}{ti te:TI}{news zs:iz}(i:Nat)(ho:jQ D L s)(hx:lk fr x=some (.slice (jZ b) dl dc))(hy:lk fr y=some (.slice A1 m c))(ht:jz TT t=some ti)(hk:ti.kind=.sl e)(he:jz TT e=some te)(jp:te.size=1)
    (hi:L[i]?=some (b,cb zs t')) (hR:Row s A1 m 1 news) (hm:m<=dl) (hdl:dl<=zs.length):Ev P TT D fr (.call { callee:=.builtin .copy,args:=#[x,y],argTypes:=#[t,t] }) ty L s (.value (iB (m:Int))) (lV L i (cb (news++zs.drop m) t')) s:=λhT _ dst iL af g ρ hρ=>by
  obtain ⟨k1,k2,_⟩:=hT.at_ ht;rw [hk] at k2;simp only [TK.fits] at k2;rw [k2] at k1;have pJ:=hT.at_ he;obtain ⟨inf,i1,i2,i3,i4⟩:=Cc pJ;have hg:=qM ho (ax hi);have kL:news.length=m:=by simpa using hR.1
  refine ⟨?_,DB ho _ _⟩;rw [Dr ho hi];by_cases h0:m=0
  . subst h0
    have hn:news=[]:=aJ kL;subst hn;have hself:pz (fill L s) b (cb ([]++zs.drop 0) t')=fill L s:=by
      refine Dz (Dy λj=>?_) Z Z Z Z;by_cases hj:b=j
      . subst hj
        rw [J0 _ (by rcases eM b (fill L s).heap.size with h1|h1;exact h1;rw [bS h1] at hg;cases hg),hg];simp
      . rw [E5 _ hj]
    rw [hself];have j9:∀ (A2:iE) (w:World),(Builtin.firstCells te.size 0 (.slice A2 0 c)).run P w=.ok #[] w:=λA2 w=>by
      cases A2<;>simp [Builtin.firstCells,loadCells,loadCellsFrom]
    simp [execOp,resolve,invoke,builtin,Builtin.copy_,hρ x _ hx,hρ y _ hy,aQ k1,Bv pJ,Builtin.lenOf,j9,storeCells,goInt]
  . have h0:∃ b off,A1=some ⟨b,off,none⟩/\iy s b off news:=by
      have hl:0 < news.length:=O
      exact Su
    obtain ⟨b1,off1,rfl,hcells⟩:=h0;have jH:=run_copy_row (P:=P) (fill L s) t t ty e b 0 dl dc ⟨b1,off1,none⟩ m c zs.toArray t' news k1 (by rw [i1];simp [i2,jp]) hg (by rw [kL];exact (gQ hm).symm) (λj u hj=>by rw [add_lit];exact E7 ho (hcells j u hj)) Q6 hR.2.1;simp only [execOp,resolve,invoke,builtin,bA,bG,aP,gH,aN,dE,hρ x _ hx,hρ y _ hy,jH,goInt,kL];rw [ZT hg];simp [cb]
def Kw{t b c:Nat}{ti te:TI}{news zs:iz}(i:Nat){L':Hl}(hY:lk fr x=some (.slice (jZ b) dl dc)/\lk fr y=some (.slice A1 m c)/\jz TT t=some ti/\ti.kind=.sl e/\jz TT e=some te/\te.size=1/\L[i]?=some (b,cb zs t')) (hR:Row s A1 m 1 news) (hm:m<=dl) (hdl:dl<=zs.length) (hL:lV L i (cb (news++zs.drop m) t')=L') (hd:Nat.blt d n=true) (k:JO P TT D n ops Q iI ((d,iB (m:Int))::fr) L' s) :
  JO P TT D n ops Q (⟨some d,.call { callee:=.builtin .copy,args:=#[x,y],argTypes:=#[t,t] },ty,iL,af,none⟩::iI) fr L s:=have ⟨hx,hy,ht,hk,he,jp,hi⟩:=hY;λhT a hr ho=>by
 subst hL;exact AH hd (qqc i ho hx hy ht hk he jp hi hR hm hdl) k hT a hr ho
def qAC{g:Option (Nat×Bool)}{iC:Array Bool}{t b c:Nat}{ti te:TI}{news zs:iz}(rO:ops[i0]?=some ⟨some d,.call { callee:=.builtin .copy,args:=#[x,y],argTypes:=#[t,t] },ty,iL,af,g⟩)(ri:sf ops fr g)(i:Nat){L':Hl}(hx:lk fr x=some (.slice (jZ b) dl dc))(hy:lk fr y=some (.slice A1 m c))(ht:jz TT t=some ti)(hk:ti.kind=.sl e)(he:jz TT e=some te)(jp:te.size=1)
  (hi:L[i]?=some (b,cb zs t')) (hR:Row s A1 m 1 news) (hm:m<=dl) (hdl:dl<=zs.length) (hL:lV L i (cb (news++zs.drop m) t')=L') (hd:Nat.blt d n=true) (AZ:∀ x∈K,x∈L->x∈L') (k:JA P TT D n ops Q K s0 jd (iC.setIfInBounds i0 true) ((d,iB (m:Int))::fr) L' s) :
  JB P TT D n ops Q K s0 jd iC i0 fr L s:=λhT a hr ho hl hK=>by
 subst hL;exact Cn rO ri (qqc i ho hx hy ht hk he jp hi hR hm hdl) (Le.refl _) AZ hd k hT a hr ho hl hK
def Pk{p:Prop} (h:p:=by
 rw [<- am,<- am];exact (dK).append_right Y):p:=h
def AC.mid{f:FuncId}(X M Y:Hl)(h:AC P D f args (M++(X++Y)) s (λv L' s'=>∃ M',L'=M'++(X++Y)/\R v M' s')):
  AC P D f args (X++(M++Y)) s (λv L' s'=>∃ M',L'=X++(M'++Y)/\R v M' s'):=by
 have hp:∀ M':Hl,(X++(M'++Y)).Perm (M'++(X++Y)):=λM'=>by
  exact Pk
 refine ⟨h.1,λho=>?_⟩;rw [uc (hp M) _ ho];refine (h.2 (ho.perm (hp M))).mono ?_;rintro e w' ⟨v,L',s',h1,rfl,h3,h4,M',rfl,h6⟩;exact ⟨v,X++(M'++Y),s',h1,(uc (hp M').symm _ h3),h3.perm (hp M').symm,h4,M',rfl,h6⟩
end
section
variable{TT:kD}{Q:pS}{fr:Fr}{K:Hl}{ops:Array Oper}{iC:Array Bool}
def kv{α:Type _}{a:α}{b:β}{c:γ}:a=a/\b=b/\c=c:=⟨rfl,rfl,rfl⟩
def lr{α δ:Type _}{a:α}{b:β}{c:γ}{d:δ}:a=a/\b=b/\c=c/\d=d:=⟨rfl,rfl,rfl,rfl⟩
def Re{X M Y:Hl}{x:Nat×Obj}(h:x∈X\/x∈Y):x∈X++(M++Y):=by
 rcases h with h|h
 . exact aI _ h
 . exact aF _ (aF _ h)
def lm{f:FuncId}{xs:List Operand}{vs:iz}{R:Value->Hl->World->Prop}(M Y:Hl)(hY:lk fr x=some (.func (.func f) ([]:iz).toArray ([]:iz).toArray)/\qY fr xs=some vs/\Nat.blt d n=true)
  (h:AC P D f (([]:iz)++vs++[]) (M++(x0::Y)) s λv L' s'=>∃ M',L'=M'++(x0::Y)/\R v M' s') (k:∀ v M' s',Le D s s'->R v M' s'->JO P TT D n ops Q iI ((d,v)::fr) (x0::(M'++Y)) s') :
  JO P TT D n ops Q (⟨some d,.call { callee:=.value x,args:=xs.toArray,argTypes:=ts },ty,iL,af,none⟩::iI) fr (x0::(M++Y)) s:=
 ub hY.1 hY.2.1 hY.2.2 (AC.mid [x0] M Y h) λv L' s' hl ⟨M',e,r⟩=>by
  subst e;exact k v M' s' hl r
def Po{p:Prop} (h:p:=by
 subst e;exact ⟨λx hx hL=>Re (hK x hx hL),k v M' s' hl r⟩):p:=h
def mR{f:FuncId}{xs:List Operand}{vs:iz}{R:Value->Hl->World->Prop}(M Y:Hl)(hY:ops[i]?=some ⟨some d,.call { callee:=.value x,args:=xs.toArray,argTypes:=ts },ty,iL,af,none⟩/\lk fr x=some (.func (.func f) ([]:iz).toArray ([]:iz).toArray)/\qY fr xs=some vs/\Nat.blt d n=true)
  (h:AC P D f (([]:iz)++vs++[]) (M++(x0::Y)) s λv L' s'=>∃ M',L'=M'++(x0::Y)/\R v M' s')
  (k:∀ v M' s',Le D s s'->R v M' s'->JA P TT D n ops Q K s0 jd (iC.setIfInBounds i true) ((d,v)::fr) (x0::(M'++Y)) s')
  (hK:∀ x∈K,x∈x0::(M++Y)->x∈[x0]\/x∈Y:=by first|exact λ_ h _=>.inl h|(intro x h _;simp at h;done)|(intro x h _;simp only [aR,fj,dO,dU] at h ⊢;simp only [h,ir,or_true])) :
  JB P TT D n ops Q K s0 jd iC i fr (x0::(M++Y)) s:=
 Kz hY.1 trivial hY.2.1 hY.2.2.1 hY.2.2.2 (AC.mid [x0] M Y h) λv L' s' hl ⟨M',e,r⟩=>by
  exact Po
def CX{f:FuncId}{xs:List Operand}{vs:iz}{R:Value->Hl->World->Prop}(M Y:Hl)(hY:lk fr x=some (.func (.func f) ([]:iz).toArray ([]:iz).toArray)/\qY fr xs=some vs/\Nat.blt d n=true)
  (h:AC P D f (([]:iz)++vs++[]) (M++(x0::x1::Y)) s λv L' s'=>∃ M',L'=M'++(x0::x1::Y)/\R v M' s') (k:∀ v M' s',Le D s s'->R v M' s'->JO P TT D n ops Q iI ((d,v)::fr) (x0::x1::(M'++Y)) s') :
  JO P TT D n ops Q (⟨some d,.call { callee:=.value x,args:=xs.toArray,argTypes:=ts },ty,iL,af,none⟩::iI) fr (x0::x1::(M++Y)) s:=
 ub hY.1 hY.2.1 hY.2.2 (AC.mid [x0,x1] M Y h) λv L' s' hl ⟨M',e,r⟩=>by
  subst e;exact k v M' s' hl r
def Ng{f:FuncId}{xs:List Operand}{vs:iz}{R:Value->Hl->World->Prop}(M Y:Hl)(hY:ops[i]?=some ⟨some d,.call { callee:=.value x,args:=xs.toArray,argTypes:=ts },ty,iL,af,none⟩/\lk fr x=some (.func (.func f) ([]:iz).toArray ([]:iz).toArray)/\qY fr xs=some vs/\Nat.blt d n=true)
  (h:AC P D f (([]:iz)++vs++[]) (M++(x0::x1::Y)) s λv L' s'=>∃ M',L'=M'++(x0::x1::Y)/\R v M' s')
  (k:∀ v M' s',Le D s s'->R v M' s'->JA P TT D n ops Q K s0 jd (iC.setIfInBounds i true) ((d,v)::fr) (x0::x1::(M'++Y)) s')
  (hK:∀ x∈K,x∈x0::x1::(M++Y)->x∈[x0,x1]\/x∈Y:=by first|exact λ_ h _=>.inl h|(intro x h _;simp at h;done)|(intro x h _;simp only [aR,fj,dO,dU] at h ⊢;simp only [h,ir,or_true])) :
  JB P TT D n ops Q K s0 jd iC i fr (x0::x1::(M++Y)) s:=
 Kz hY.1 trivial hY.2.1 hY.2.2.1 hY.2.2.2 (AC.mid [x0,x1] M Y h) λv L' s' hl ⟨M',e,r⟩=>by
  exact Po
def JW{f:FuncId}{xs:List Operand}{vs:iz}{R:Value->Hl->World->Prop}(M Y:Hl)(hY:lk fr x=some (.func (.func f) ([]:iz).toArray ([]:iz).toArray)/\qY fr xs=some vs/\Nat.blt d n=true)
  (h:AC P D f (([]:iz)++vs++[]) (M++(x0::x1::x2::Y)) s λv L' s'=>∃ M',L'=M'++(x0::x1::x2::Y)/\R v M' s') (k:∀ v M' s',Le D s s'->R v M' s'->JO P TT D n ops Q iI ((d,v)::fr) (x0::x1::x2::(M'++Y)) s') :
  JO P TT D n ops Q (⟨some d,.call { callee:=.value x,args:=xs.toArray,argTypes:=ts },ty,iL,af,none⟩::iI) fr (x0::x1::x2::(M++Y)) s:=
 ub hY.1 hY.2.1 hY.2.2 (AC.mid [x0,x1,x2] M Y h) λv L' s' hl ⟨M',e,r⟩=>by
  subst e;exact k v M' s' hl r
def CW{f:FuncId}{xs:List Operand}{vs:iz}{R:Value->Hl->World->Prop}(M Y:Hl)(hY:ops[i]?=some ⟨some d,.call { callee:=.value x,args:=xs.toArray,argTypes:=ts },ty,iL,af,none⟩/\lk fr x=some (.func (.func f) ([]:iz).toArray ([]:iz).toArray)/\qY fr xs=some vs/\Nat.blt d n=true)
  (h:AC P D f (([]:iz)++vs++[]) (M++(x0::x1::x2::Y)) s λv L' s'=>∃ M',L'=M'++(x0::x1::x2::Y)/\R v M' s')
  (k:∀ v M' s',Le D s s'->R v M' s'->JA P TT D n ops Q K s0 jd (iC.setIfInBounds i true) ((d,v)::fr) (x0::x1::x2::(M'++Y)) s')
  (hK:∀ x∈K,x∈x0::x1::x2::(M++Y)->x∈[x0,x1,x2]\/x∈Y:=by first|exact λ_ h _=>.inl h|(intro x h _;simp at h;done)|(intro x h _;simp only [aR,fj,dO,dU] at h ⊢;simp only [h,ir,or_true])) :
  JB P TT D n ops Q K s0 jd iC i fr (x0::x1::x2::(M++Y)) s:=
 Kz hY.1 trivial hY.2.1 hY.2.2.1 hY.2.2.2 (AC.mid [x0,x1,x2] M Y h) λv L' s' hl ⟨M',e,r⟩=>by
  exact Po
def DY{f:FuncId}{xs:List Operand}{vs:iz}{R:Value->Hl->World->Prop}(M Y:Hl)(hY:ops[i]?=some ⟨some d,.call { callee:=.value x,args:=xs.toArray,argTypes:=ts },ty,iL,af,none⟩/\lk fr x=some (.func (.func f) ([]:iz).toArray ([]:iz).toArray)/\qY fr xs=some vs/\Nat.blt d n=true)
  (h:AC P D f (([]:iz)++vs++[]) (M++(x0::x1::x2::x3::Y)) s λv L' s'=>∃ M',L'=M'++(x0::x1::x2::x3::Y)/\R v M' s')
  (k:∀ v M' s',Le D s s'->R v M' s'->JA P TT D n ops Q K s0 jd (iC.setIfInBounds i true) ((d,v)::fr) (x0::x1::x2::x3::(M'++Y)) s')
  (hK:∀ x∈K,x∈x0::x1::x2::x3::(M++Y)->x∈[x0,x1,x2,x3]\/x∈Y:=by first|exact λ_ h _=>.inl h|(intro x h _;simp at h;done)|(intro x h _;simp only [aR,fj,dO,dU] at h ⊢;simp only [h,ir,or_true])) :
  JB P TT D n ops Q K s0 jd iC i fr (x0::x1::x2::x3::(M++Y)) s:=
 Kz hY.1 trivial hY.2.1 hY.2.2.1 hY.2.2.2 (AC.mid [x0,x1,x2,x3] M Y h) λv L' s' hl ⟨M',e,r⟩=>by
  exact Po
def Nh{x4:Nat×Obj}{f:FuncId}{xs:List Operand}{vs:iz}{R:Value->Hl->World->Prop}(M Y:Hl)(hY:lk fr x=some (.func (.func f) ([]:iz).toArray ([]:iz).toArray)/\qY fr xs=some vs/\Nat.blt d n=true)
  (h:AC P D f (([]:iz)++vs++[]) (M++(x0::x1::x2::x3::x4::Y)) s λv L' s'=>∃ M',L'=M'++(x0::x1::x2::x3::x4::Y)/\R v M' s') (k:∀ v M' s',Le D s s'->R v M' s'->JO P TT D n ops Q iI ((d,v)::fr) (x0::x1::x2::x3::x4::(M'++Y)) s') :
  JO P TT D n ops Q (⟨some d,.call { callee:=.value x,args:=xs.toArray,argTypes:=ts },ty,iL,af,none⟩::iI) fr (x0::x1::x2::x3::x4::(M++Y)) s:=
 ub hY.1 hY.2.1 hY.2.2 (AC.mid [x0,x1,x2,x3,x4] M Y h) λv L' s' hl ⟨M',e,r⟩=>by
  subst e;exact k v M' s' hl r
end
end
end Go.Proofs.YtemgonlhniicbaaGreatDoor
namespace Go.Proofs
open Go.Shelf
def Tryz.lays156_ren:Go.Shelf.Ren:=⟨λ|156=>88|165=>134|166=>87|169=>51|240=>133|241=>179|276=>178|277=>223|n=>n,λ|31=>61|9=>9|3=>3|4=>4|0=>0|20=>20|72=>126|76=>196|70=>124|37=>26|75=>195|127=>199|164=>286|5=>5|80=>136|n=>n,λ|n=>n⟩
def Tryz.lays156:Go.Proofs.Lays.n156 Tryz.prog Tryz.lays156_ren:=by repeat' (first|kernel_rfl|(intro _;kernel_rfl)|decide|constructor)
def Tryz.Builder_Extra_156:Builder.Extra Tryz.prog Tryz.lays156_ren:=by repeat' (first|kernel_rfl|(intro _;kernel_rfl)|decide|constructor)
def Tryz.lays104_ren:Go.Shelf.Ren:=⟨λ|104=>192|211=>237|207=>263|n=>n,λ|9=>9|4=>4|24=>297|3=>3|n=>n,λ|n=>n⟩
def Tryz.lays104:Go.Proofs.Lays.n104 Tryz.prog Tryz.lays104_ren:=by repeat' (first|kernel_rfl|(intro _;kernel_rfl)|decide|constructor)
def Tryz.lays283_ren:Go.Shelf.Ren:=⟨λ|283=>224|n=>n,λ|3=>3|9=>9|4=>4|n=>n,λ|n=>n⟩
def Tryz.lays283:Go.Proofs.Lays.n283 Tryz.prog Tryz.lays283_ren:=by repeat' (first|kernel_rfl|(intro _;kernel_rfl)|decide|constructor)
def Tryz.laysM284_ren:Go.Shelf.Ren:=⟨λ|284=>225|129=>162|317=>253|318=>254|n=>n,λ|53=>263|3=>3|212=>346|0=>0|4=>4|46=>225|5=>5|9=>9|n=>n,λ|17=>2|n=>n⟩
def Tryz.laysM284:Go.Proofs.LaysM.n284 Tryz.prog Tryz.laysM284_ren:=by repeat' (first|kernel_rfl|(intro _;kernel_rfl)|decide|constructor)
def Tryz.lays285_ren:Go.Shelf.Ren:=⟨λ|285=>226|n=>n,λ|37=>26|53=>263|3=>3|4=>4|51=>34|9=>9|5=>5|0=>0|n=>n,λ|n=>n⟩
def Tryz.lays285:Go.Proofs.Lays.n285 Tryz.prog Tryz.lays285_ren:=by repeat' (first|kernel_rfl|(intro _;kernel_rfl)|decide|constructor)
def Tryz.laysM171_ren:Go.Shelf.Ren:=⟨λ|171=>89|243=>135|246=>180|283=>224|284=>225|285=>226|286=>227|129=>162|317=>253|318=>254|319=>255|320=>256|337=>270|338=>271|n=>n,λ|3=>3|9=>9|2=>2|4=>4|171=>324|0=>0|53=>263|37=>26|5=>5|173=>326|212=>346|51=>34|20=>20|213=>347|46=>225|232=>375|233=>376|n=>n,λ|17=>2|18=>6|19=>7|n=>n⟩
def Tryz.laysM171:Go.Proofs.LaysM.n171 Tryz.prog Tryz.laysM171_ren:=by repeat' (first|kernel_rfl|(intro _;kernel_rfl)|decide|constructor)
def Tryz.laysPu14_ren:Go.Shelf.Ren:=⟨λ|14=>264|16=>274|17=>275|19=>278|20=>279|21=>280|22=>281|23=>282|24=>283|25=>284|27=>89|26=>285|28=>135|29=>180|30=>224|31=>225|32=>226|33=>227|35=>162|34=>253|36=>254|37=>255|38=>256|39=>270|40=>271|n=>n,λ|9=>9|3=>3|22=>263|24=>195|25=>349|4=>4|34=>377|5=>5|36=>225|37=>26|0=>0|39=>379|21=>21|44=>386|47=>199|50=>390|48=>388|2=>2|52=>324|55=>326|59=>346|60=>34|20=>20|61=>347|65=>375|66=>376|67=>136|n=>n,λ|0=>8|1=>9|2=>2|3=>6|4=>7|n=>n⟩
def Tryz.laysPu14:Go.Proofs.LaysPu.n14 Tryz.prog Tryz.laysPu14_ren:=by repeat' (first|kernel_rfl|(intro _;kernel_rfl)|decide|constructor)
def Tryz.lays219_ren:Go.Shelf.Ren:=⟨λ|219=>235|217=>259|225=>260|224=>261|267=>262|266=>272|314=>273|n=>n,λ|9=>9|3=>3|4=>4|5=>5|46=>225|146=>354|51=>34|n=>n,λ|1=>1|n=>n⟩
def Tryz.lays219:Go.Proofs.Lays.n219 Tryz.prog Tryz.lays219_ren:=by repeat' (first|kernel_rfl|(intro _;kernel_rfl)|decide|constructor)
def Tryz.lays189_ren:Go.Shelf.Ren:=⟨λ|189=>70|125=>118|257=>117|128=>161|129=>162|294=>152|295=>153|296=>154|297=>155|298=>156|299=>157|216=>158|300=>159|301=>160|328=>204|329=>205|330=>206|331=>207|332=>208|215=>209|343=>244|n=>n,λ|28=>72|3=>3|46=>225|0=>0|51=>34|53=>263|4=>4|183=>266|182=>265|131=>271|5=>5|9=>9|218=>305|222=>309|228=>335|229=>318|n=>n,λ|n=>n⟩
def Tryz.lays189:Go.Proofs.Lays.n189 Tryz.prog Tryz.lays189_ren:=by repeat' (first|kernel_rfl|(intro _;kernel_rfl)|decide|constructor)
def Tryz.laysGw17_ren:Go.Shelf.Ren:=⟨λ|17=>213|15=>245|20=>265|n=>n,λ|9=>9|23=>296|4=>4|3=>3|0=>0|21=>21|n=>n,λ|n=>n⟩
def Tryz.laysGw17:Go.Proofs.LaysGw.n17 Tryz.prog Tryz.laysGw17_ren:=by repeat' (first|kernel_rfl|(intro _;kernel_rfl)|decide|constructor)
def Tryz.lays221_ren:Go.Shelf.Ren:=⟨λ|221=>139|268=>186|138=>187|143=>188|195=>232|197=>233|218=>234|219=>235|260=>258|217=>259|225=>260|224=>261|267=>262|266=>272|314=>273|n=>n,λ|9=>9|3=>3|31=>61|4=>4|0=>0|105=>328|21=>21|5=>5|46=>225|119=>338|139=>361|138=>360|146=>354|51=>34|n=>n,λ|1=>1|3=>4|4=>5|n=>n⟩
def Tryz.lays221:Go.Proofs.Lays.n221 Tryz.prog Tryz.lays221_ren:=by repeat' (first|kernel_rfl|(intro _;kernel_rfl)|decide|constructor)
def Tryz.lays157_ren:Go.Shelf.Ren:=⟨λ|157=>215|229=>190|199=>246|261=>266|311=>276|312=>277|n=>n,λ|9=>9|31=>61|3=>3|5=>5|4=>4|119=>338|0=>0|40=>296|152=>331|21=>21|154=>333|51=>34|141=>353|196=>367|193=>364|198=>370|49=>368|194=>365|201=>373|226=>382|46=>225|227=>383|n=>n,λ|0=>0|6=>3|n=>n⟩
def Tryz.lays157:Go.Proofs.Lays.n157 Tryz.prog Tryz.lays157_ren:=by repeat' (first|kernel_rfl|(intro _;kernel_rfl)|decide|constructor)
def Tryz.lays105_ren:Go.Shelf.Ren:=⟨λ|105=>218|212=>247|99=>248|165=>134|166=>87|170=>249|169=>51|263=>267|264=>268|206=>269|240=>133|241=>179|276=>178|277=>223|n=>n,λ|9=>9|3=>3|4=>4|20=>20|0=>0|46=>225|109=>339|5=>5|72=>126|76=>196|51=>34|146=>354|53=>263|148=>356|70=>124|37=>26|75=>195|127=>199|164=>286|80=>136|n=>n,λ|n=>n⟩
def Tryz.lays105:Go.Proofs.Lays.n105 Tryz.prog Tryz.lays105_ren:=by repeat' (first|kernel_rfl|(intro _;kernel_rfl)|decide|constructor)
def Tryz.Builder_Extra_105:Builder.Extra Tryz.prog Tryz.lays105_ren:=by repeat' (first|kernel_rfl|(intro _;kernel_rfl)|decide|constructor)
def Tryz.lays229_ren:Go.Shelf.Ren:=⟨λ|229=>190|n=>n,λ|9=>9|40=>296|31=>61|152=>331|3=>3|0=>0|4=>4|21=>21|154=>333|n=>n,λ|n=>n⟩
def Tryz.lays229:Go.Proofs.Lays.n229 Tryz.prog Tryz.lays229_ren:=by repeat' (first|kernel_rfl|(intro _;kernel_rfl)|decide|constructor)
def Tryz.laysNm220_ren:Go.Shelf.Ren:=⟨λ|20=>71|n=>n,λ|22=>72|3=>3|4=>4|0=>0|n=>n,λ|n=>n⟩
def Tryz.laysNm220:Go.Proofs.Lays2.n20 Tryz.prog Tryz.laysNm220_ren:=by repeat' (first|kernel_rfl|(intro _;kernel_rfl)|decide|constructor)
end Go.Proofs
