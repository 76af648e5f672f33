/- Part 4. -/
import Derived.Test.YtjindleklapakaaGreatDoorM25x3
import Derived.Lib.Builder
import Derived.Lib.UnsafeStr
import Derived.Laws.Externs
import Derived.Shelf.Strings.Builder1
import Derived.Shelf.Small.Wraps
import Derived.Shelf.Strings.BuilderF
import Derived.Shelf.Strings.BuilderK
import Derived.Shelf.Utf8.RuneCount
import Derived.Shelf.Strconv.Itoa0
import Derived.Shelf.Strconv.Itoa1
import Derived.Shelf.LaysM
import Derived.Shelf.Strconv.Itoa2
import Derived.Shelf.Strconv.Itoa3
import Derived.Shelf.Strconv.Clone
import Derived.Shelf.Strconv.SyntaxError
import Derived.Shelf.LaysC
import Derived.Shelf.Strconv.ToError
import Derived.Shelf.Strconv.Lower
import Derived.Shelf.Strconv.ParseUint10
import Derived.Shelf.Strconv.ParseUint10Empty
import Derived.Shelf.Strconv.ParseUint10Any
import Derived.Shelf.Strconv.RangeError
import Derived.Shelf.Strconv.ToErrorRange
import Derived.Shelf.Strconv.ParseUintEmpty
import Derived.Shelf.Strconv.ParseUint10b64
import Derived.Shelf.Strconv.ParseUint10b32
import Derived.Shelf.Strconv.ParseUint10b16
import Derived.Shelf.Strconv.ParseUint10b8
import Derived.Shelf.Strconv.ParseUint10At
import Derived.Ground.MpProg
import Derived.Shelf.Pu.ParseUintPublic10
import Derived.Shelf.Pu.ErrVarParseUint
import Derived.Shelf.Strings.Search1
import Derived.Shelf.Strings.Search2
import Derived.Shelf.Strings.Search3
import Derived.Shelf.Strings.Cut
import Derived.Shelf.Strings.Count
import Derived.Shelf.Strings.Shaped
import Derived.Shelf.GgClosure.StringsIndexFunc
import Derived.Ground.GgwProg
import Derived.Shelf.GgClosure.StringsIndexFuncTop
import Derived.Shelf.GgClosure.StringsRunes
import Derived.Shelf.Strings.Prefix
import Derived.Shelf.Strings.Split
import Derived.Shelf.Strings.SplitShaped
import Derived.Shelf.Unicode.Decode
import Derived.Shelf.Strings.RuneCount
import Derived.Shelf.Strings.Explode
import Derived.Shelf.Unicode.DecodeSlow
import Derived.Shelf.Unicode.DecodeAny
import Derived.Shelf.Strings.FieldsFuncAny
import Derived.Shelf.Strings.FuncGrows
import Derived.Shelf.Strings.FieldsFuncGrows
import Derived.Shelf.Strings.BuilderCap
import Derived.Test.YtjindleklapakaaGreatDoorProg
import Derived.Laws.RangeAny
import Derived.Lib.DecodeN
import Derived.Lib.SmallJoins
import Derived.Lib.ItoaMem
import Derived.Lib.ParseIntBCases
set_option linter.unusedVariables false
set_option linter.unusedSimpArgs false
set_option linter.unnecessarySimpa false
set_option maxRecDepth 100000
set_option maxHeartbeats 8000000
namespace Go.Proofs.YtjindleklapakaaGreatDoor
open Go.Proofs.Tryz
open Go.FL
attribute [local irreducible] JC JO JA JB qa7 qaP qdj AC fill CellsAt QE Ev Mid
def StO(m:Mst)(v:Value)(M:Hl)(s:World):Prop:=∃ bc cc yc Oq9 Ao co Ai ni ci,v=.agg #[.slice (some ⟨bc,0,none⟩) m.cells.length cc,.int .u32 m.r0,.int .u32 m.r1,.int .u32 m.r2,.int .u32 m.r3,.int .u32 m.r4,.slice Ai ni ci,.slice Ao m.output.length co,.int .i64 m.stop,.int .u32 m.code]
 ∧ M=(bc,cb (wv m.cells++yc) 38)::Oq9∧FL.Own 5 1 Oq9 (.slice Ao m.output.length co) m.output.length (bv m.output)∧Bts s Ai ni ci m.input∧m.cells.length+yc.length=cc∧cc≤9223372036854775807
def StX(m:Mst)(v:Value)(cc bc:Nat)(yc:List Value)(Oq9:Hl)(Ao:Option Addr)(co:Nat)(s:World):Prop:=∃ Ai ni ci,v=.agg #[.slice (some ⟨bc,0,none⟩) m.cells.length cc,.int .u32 m.r0,.int .u32 m.r1,.int .u32 m.r2,.int .u32 m.r3,.int .u32 m.r4,.slice Ai ni ci,.slice Ao m.output.length co,.int .i64 m.stop,.int .u32 m.code]
 ∧ FL.Own 5 1 Oq9 (.slice Ao m.output.length co) m.output.length (bv m.output)∧Bts s Ai ni ci m.input∧m.cells.length+yc.length=cc∧cc≤9223372036854775807
section
variable{m:Mst}{a:Ac}{op:Int}
theorem qd7(h:(a.kind=4∨a.kind=5)∧qba m op a.y=0):qbj m a op={ m with stop:=4 }:=by simp only [qbj];rw [if_pos h]
theorem qc5(h1:¬ ((a.kind=4∨a.kind=5)∧qba m op a.y=0))(h:(a.kind=13∨a.kind=14)∧(m.cells.length:Int)≤qba m op a.x):qbj m a op={ m with stop:=3 }:=by simp only [qbj];rw [if_neg h1,if_pos h]
theorem qc2(h1:¬ ((a.kind=4∨a.kind=5)∧qba m op a.y=0))(h2:¬ ((a.kind=13∨a.kind=14)∧(m.cells.length:Int)≤qba m op a.x))(h:a.kind=16∧m.output.length=20000):qbj m a op={ m with stop:=5 }:=by simp only [qbj];rw [if_neg h1,if_neg h2,if_pos h]
theorem qc3(h:a.kind=17∨a.kind=18∧qba m op a.y=0):qbj m a op={ m with stop:=1,code:=qba m op a.x }:=by
 rcases h with h | ⟨h,h2⟩
 · exact qlz h
 · exact qmg h h2
theorem qc1(h0:¬ ((a.kind=4∨a.kind=5)∧qba m op a.y=0))(h:a.kind≤12∨a.kind=19∧qba m op a.y=0):qbj m a op=qd9 m a.tgt (comp a.kind (qba m op a.x) (qba m op a.y)):=by
 simp only [qbj]
 rw [if_neg h0,if_neg O,if_neg O,if_neg O,if_neg O,if_neg O,if_neg O,if_neg O,if_pos h]
theorem qeb(h0:¬ ((a.kind=4∨a.kind=5)∧qba m op a.y=0))(h1:¬ a.kind=13)(h2:¬ a.kind=14)(h3:¬ a.kind=15)(h4:¬ a.kind=16)(h5:¬ (a.kind=17∨a.kind=18∧qba m op a.y=0))(h:¬ (a.kind≤12∨a.kind=19∧qba m op a.y=0)):qbj m a op=m:=by
 simp only [qbj]
 rw [if_neg h0,if_neg O,if_neg O,if_neg h1,if_neg h2,if_neg h3,if_neg h4,if_neg h5,if_neg h]
end
theorem qt4{x:Int}(h:U32 x):IntKind.u8.wrap (x.tmod 256)=((UInt8.ofNat (x.toNat % 256)).toNat:Int):=by
 obtain ⟨h1,h2⟩:=h
 rw [IntKind.wrap_u8,Int.tmod_eq_emod_of_nonneg h1]
 simp [UInt8.toNat_ofNat']
 omega
theorem qbX(m:Mst)(i u v:Int):qd9 (qd9 m i u) i v=qd9 m i v:=by unfold qd9;simp only [Mst.mk.injEq,true_and,and_true];refine ⟨?_,?_,?_,?_,?_⟩ <;> split <;> rfl
theorem qek(D:Nat)(L:Hl)(s:World)(m:Mst)(op:Int)(x:Tm)(hv:x.kind=1→0≤x.val∧x.val≤4):AC prog D 54 [.agg #[.int .i64 x.kind,.int .u32 x.val],.agg #[.int .u32 m.r0,.int .u32 m.r1,.int .u32 m.r2,.int .u32 m.r3,.int .u32 m.r4],.int .u32 op] L s fun v L' _=>v=.int .u32 (qba m op x)∧L=L':=by
 refine qai (fn:=f54) qaG func54 V Z ntmps54 Z (rs:=[.tmp 6]) Z [(0,_),(1,_),(2,_)] Z<|Sr<|qaL Z Z ?_
 intro β1 s1 h1
 refine qaL Z Z ?_
 intro β2 s2 h2
 refine At Z Z<|Zs<|Sr<|W0 Y5<|Wl 1 Y6<|qaJ Z Z Z<|Nt<|?_
 refine qab Z (fun c3=>?_) (fun c3=>?_)
 ·
  have hk:=c3
  refine Sr<|Wb Y5<|Wl 1 Y6<|qae (qeV Z Z Z Z Z Z (hv hk).1 (by have:=(hv hk).2;omega)) Z<|qae (qbL 0 Z Z Z Z (qne m (hv hk) _)) Z<|At Z Z<|Zo<|Zu<|?_
  refine rR [_,_] L (.t1 Z) Z (h1.t h2) fun _ hS2=>?_
  exact ⟨by simp [qaF,qba, *],rfl⟩
 refine Zk<|Zt<|Zs<|Sr<|W0 Y5<|Wl 1 Y6<|qaJ Z Z Z<|Nt<|?_
 refine qab Z (fun c4=>?_) (fun c4=>?_)
 ·
  refine Sr<|Zqm Z Z<|At Z Z<|Zo<|Zu<|?_
  refine rR [_,_] L (.t1 Z) Z (h1.t h2) fun _ hS2=>?_
  exact ⟨by simp [qaF,qba, *],rfl⟩
 refine Zk<|Zt<|Sr<|Wb Y5<|Wl 1 Y6<|At Z Z<|Zo<|?_
 refine rR [_,_] L (.t1 Z) Z (h1.t h2) fun _ hS2=>?_
 exact ⟨by simp [qaF,qba, *],rfl⟩
theorem qgy(D:Nat)(L:Hl)(s:World)(m:Mst)(v:Value)(bc cc:Nat)(yc:List Value)(Oq9:Hl)(Ao:Option Addr)(co:Nat)(hM:StX m v cc bc yc Oq9 Ao co s)(op:Int)(a:Ac)(hok:MOK m)(hop:U32 op)(ha:AcOK a):AC prog D 55 [v,.agg #[.int .i64 a.kind,.int .i64 a.tgt,.int .i64 a.x.kind,.int .u32 a.x.val,.int .i64 a.y.kind,.int .u32 a.y.val],.int .u32 op] ((bc,cb (wv m.cells++yc) 38)::(Oq9++L)) s fun v L' s'=>∃ O' K Ao' co',L'=(bc,cb (wv (qbj m a op).cells++yc) 38)::(O'++(K++L))∧StX (qbj m a op) v cc bc yc O' Ao' co' s'∧((K=[]∧Ao'=Ao∧co'=co)∨K=Oq9):=by
 obtain ⟨Ai,ni,ci,rfl,hO,hI,hcc,hcc2⟩:=hM
 have hux:=qea hok hop ha.ux
 have huy:=qea hok hop ha.uy
 have hux1:=hux.1
 have hux2:=hux.2
 have hnc:=hok.cells
 have hni:=hI.1
 have hno:=hok.output
 refine qai (fn:=f55) qaG func55 V Z ntmps55 Z (rs:=[.cell 6 82]) Z [(0,_),(1,_),(2,_)] Z<|Sr<|qaL Z Z ?_
 intro β1 s1 h1
 refine qaL Z Z ?_
 intro β2 s2 h2
 refine qag Z [_,_,_,_,_,_,_,_,_,_] Z Z ?_
 intro β3 s3 h3
 refine Nt<|Sr<|Wb Y5<|qae (qad 1 [_,_] Z Z Z Z Z) Z<|Wb Y5<|qae (qad 2 [_,_,_,_,_] Z Z Z Z Z) Z<|Zqm Z Z<|Jc Z Z Z (qek D _ _ m op a.x ha.x) ?_
 rintro _ _ s4 h4 ⟨rfl,rfl⟩
 refine At Z Z<|Sr<|Wb Y5<|qae (qad 1 [_,_] Z Z Z Z Z) Z<|Wb Y5<|qae (qad 2 [_,_,_,_,_] Z Z Z Z Z) Z<|Zqm Z Z<|Jc Z Z Z (qek D _ _ m op a.y ha.y) ?_
 rintro _ _ s5 h5 ⟨rfl,rfl⟩
 refine At Z Z<|Sr<|W0 Y5<|Wl 2 Y6<|Ws Y4<|qae (qaH Z Z Z Z Z (qkP O O)) Z<|At Z Z<|Zs<|?_
 refine qbV 37 ((a.kind=4∨a.kind=5)∧qba m op a.y=0) ?_ ?_
 ·
  refine Zr<|W0 Y5<|Wl 1 Y6<|qaJ Z Z Z<|Zqm Z Z<|?_
  refine qam (t:=29) Z (fun c7=>?_) (fun c7=>?_)
  ·
   refine Wf Y4<|Wf Y4<|Wf Y4<|ZqT Z Z Z<|Zqm Z Z<|Zg Z Z<|Zqm Z Z<|Zg Z Z<|qaJ Z Z Z<|ZqT Z Z Z<|Zn<|?_
   refine qaa (MidB.mk (Lr D) Sb Z (decide_eq_decide.2 O))
  refine Zg Z Z<|W0 Y5<|Zg Z Z<|Wl 1 Y6<|Zg Z Z<|qaJ Z Z Z<|ZqF Z Z Z<|Zqm Z Z<|?_
  refine qam (t:=34) Z (fun c8=>?_) (fun c8=>?_)
  ·
   refine Zg Z Z<|Zqm Z Z<|Zg Z Z<|qaJ Z Z Z<|ZqT Z Z Z<|Zn<|?_
   refine qaa (MidB.mk (Lr D) Sb Z (decide_eq_decide.2 O))
  refine Wf Y4<|Wf Y4<|ZqF Z Z Z<|Zn<|?_
  refine qaa (MidB.mk (Lr D) Sb Z ((decide_eq_false O).symm))
 intro s6 h6
 refine qab Z (fun c9=>?_) (fun c9=>?_)
 ·
  have hk4:=c9
  refine Sr<|Wb Y5<|Wt 2 [_,_,_,_,_,_,_,_,_,_] Y9<|Nt<|Sr<|qae (qad 2 [_,_,_,_,_,_,_,_,_,_] Z Z Z Z Z) Z<|Wt 0 [_,_,_,_,_,_,_,_,_,_] Y9<|Nt<|Zo<|Zu<|?_
  refine rR [_,_,_] _ (.agg (us:=[_,_,_,_,_,_,_,_,_,_]) 0 Z Z Z Z Z (.nil)) Z (h1.t h2|>.t h3|>.t h4|>.t h5|>.t h6) fun _ hS2=>?_
  first
    | (have hb:bv (m.output++[UInt8.ofNat ((qba m op a.x).toNat % 256)])=bv m.output++[Value.int .u8 ((UInt8.ofNat ((qba m op a.x).toNat % 256)).toNat:Int)]:=by simp [bv]
       rw [qcw hr16 O]
       refine ⟨A1,K1,Ao1,co1,Z,⟨Ai,ni,ci,by simp [qaF],by simpa [hb] using o1,hI.le (h1.t h2|>.t h3|>.t h4|>.t h5|>.t h6|>.t hS2),hcc,hcc2⟩,?_⟩
       rcases hk1 with ⟨e1,a9,c9,e2,e3⟩ | e1
       · injection e2 with e4 e5 e6;injection e3 with e7 e8 e9
         exact .inl ⟨e1,e7.trans e4.symm,e9.trans e6.symm⟩
       · exact .inr e1)
    | (first
         | (rw [qd7 hk4];exact ⟨Oq9,[],Ao,co,rfl,⟨Ai,ni,ci,rfl,hO,hI.le (h1.t h2|>.t h3|>.t h4|>.t h5|>.t h6|>.t hS2),hcc,hcc2⟩,.inl ⟨rfl,rfl,rfl⟩⟩)
         | (rw [qc5 hk4 hk13];exact ⟨Oq9,[],Ao,co,rfl,⟨Ai,ni,ci,rfl,hO,hI.le (h1.t h2|>.t h3|>.t h4|>.t h5|>.t h6|>.t hS2),hcc,hcc2⟩,.inl ⟨rfl,rfl,rfl⟩⟩)
         | (rw [qc2 hk4 hk13 hk16];exact ⟨Oq9,[],Ao,co,rfl,⟨Ai,ni,ci,rfl,hO,hI.le (h1.t h2|>.t h3|>.t h4|>.t h5|>.t h6|>.t hS2),hcc,hcc2⟩,.inl ⟨rfl,rfl,rfl⟩⟩)
         | (rw [qcJ hr13 hlt];exact ⟨Oq9,[],Ao,co,rfl,⟨Ai,ni,ci,rfl,hO,hI.le (h1.t h2|>.t h3|>.t h4|>.t h5|>.t h6|>.t hS2),hcc,hcc2⟩,.inl ⟨rfl,rfl,rfl⟩⟩)
         | (rw [qcP hr14 hlt];exact ⟨Oq9,[],Ao,co,rfl,⟨Ai,ni,ci,by simp [qaF],hO,hI.le (h1.t h2|>.t h3|>.t h4|>.t h5|>.t h6|>.t hS2),by simp;exact hcc,hcc2⟩,.inl ⟨rfl,rfl,rfl⟩⟩)
         | (obtain ⟨r,hr⟩:=qbs hxi
            rw [qcN hr15 hr,← qbX m a.tgt 4294967295]
            rw [hr] at hI
            exact ⟨Oq9,[],Ao,co,rfl,⟨_,_,_,rfl,hO,(Bts.tail hI).le (h1.t h2|>.t h3|>.t h4|>.t h5|>.t h6|>.t hS2),hcc,hcc2⟩,.inl ⟨rfl,rfl,rfl⟩⟩)
         | (have hi0:m.input=[]:=List.eq_nil_of_length_eq_zero O
            rw [qch hr15 hi0];exact ⟨Oq9,[],Ao,co,rfl,⟨Ai,ni,ci,rfl,hO,hI.le (h1.t h2|>.t h3|>.t h4|>.t h5|>.t h6|>.t hS2),hcc,hcc2⟩,.inl ⟨rfl,rfl,rfl⟩⟩)
         | (rw [qc3 hr17];exact ⟨Oq9,[],Ao,co,rfl,⟨Ai,ni,ci,rfl,hO,hI.le (h1.t h2|>.t h3|>.t h4|>.t h5|>.t h6|>.t hS2),hcc,hcc2⟩,.inl ⟨rfl,rfl,rfl⟩⟩)
         | (rw [qc1 hk4 hr12];exact ⟨Oq9,[],Ao,co,rfl,⟨Ai,ni,ci,rfl,hO,hI.le (h1.t h2|>.t h3|>.t h4|>.t h5|>.t h6|>.t hS2),hcc,hcc2⟩,.inl ⟨rfl,rfl,rfl⟩⟩)
         | (rw [qeb hk4 hr13 hr14 hr15 hr16 hr17 hr12];exact ⟨Oq9,[],Ao,co,rfl,⟨Ai,ni,ci,rfl,hO,hI.le (h1.t h2|>.t h3|>.t h4|>.t h5|>.t h6|>.t hS2),hcc,hcc2⟩,.inl ⟨rfl,rfl,rfl⟩⟩))
 have hk4:=c9
 refine Zk<|Zt<|Zs<|?_
 refine qbV 53 ((a.kind=13∨a.kind=14)∧(m.cells.length:Int)≤qba m op a.x) ?_ ?_
 ·
  refine Zr<|W0 Y5<|Wl 1 Y6<|qaJ Z Z Z<|Zqm Z Z<|?_
  refine qam (t:=43) Z (fun c11=>?_) (fun c11=>?_)
  ·
   refine Wf Y4<|Wf Y4<|Wf Y4<|ZqT Z Z Z<|Zqm Z Z<|Zg Z Z<|Zqm Z Z<|Zg Z Z<|qae (qaH Z Z Z Z Z (qkP O O)) Z<|Zg Z Z<|Zqm Z Z<|Zg Z Z<|qgW Z Z Z<|ZqT Z Z Z<|Zn<|?_
   refine qaa (MidB.mk (Lr D) Sb Z (decide_eq_decide.2 O))
  refine Zg Z Z<|W0 Y5<|Zg Z Z<|Wl 1 Y6<|Zg Z Z<|qaJ Z Z Z<|ZqF Z Z Z<|Zqm Z Z<|?_
  refine qam (t:=48) Z (fun c12=>?_) (fun c12=>?_)
  ·
   refine Zg Z Z<|Zqm Z Z<|Zg Z Z<|qae (qaH Z Z Z Z Z (qkP O O)) Z<|Zg Z Z<|Zqm Z Z<|Zg Z Z<|qgW Z Z Z<|ZqT Z Z Z<|Zn<|?_
   refine qaa (MidB.mk (Lr D) Sb Z (decide_eq_decide.2 O))
  refine Wf Y4<|Wf Y4<|Wf Y4<|Wf Y4<|ZqF Z Z Z<|Zn<|?_
  refine qaa (MidB.mk (Lr D) Sb Z ((decide_eq_false O).symm))
 intro s10 h10
 refine qab Z (fun c13=>?_) (fun c13=>?_)
 ·
  have hk13:=c13
  refine Sr<|Wb Y5<|Wt 2 [_,_,_,_,_,_,_,_,_,_] Y9<|Nt<|Sr<|qae (qad 2 [_,_,_,_,_,_,_,_,_,_] Z Z Z Z Z) Z<|Wt 0 [_,_,_,_,_,_,_,_,_,_] Y9<|Nt<|Zo<|Zu<|?_
  refine rR [_,_,_] _ (.agg (us:=[_,_,_,_,_,_,_,_,_,_]) 0 Z Z Z Z Z (.nil)) Z (h1.t h2|>.t h3|>.t h4|>.t h5|>.t h6|>.t h10) fun _ hS2=>?_
  first
    | (have hb:bv (m.output++[UInt8.ofNat ((qba m op a.x).toNat % 256)])=bv m.output++[Value.int .u8 ((UInt8.ofNat ((qba m op a.x).toNat % 256)).toNat:Int)]:=by simp [bv]
       rw [qcw hr16 O]
       refine ⟨A1,K1,Ao1,co1,Z,⟨Ai,ni,ci,by simp [qaF],by simpa [hb] using o1,hI.le (h1.t h2|>.t h3|>.t h4|>.t h5|>.t h6|>.t h10|>.t hS2),hcc,hcc2⟩,?_⟩
       rcases hk1 with ⟨e1,a9,c9,e2,e3⟩ | e1
       · injection e2 with e4 e5 e6;injection e3 with e7 e8 e9
         exact .inl ⟨e1,e7.trans e4.symm,e9.trans e6.symm⟩
       · exact .inr e1)
    | (first
         | (rw [qd7 hk4];exact ⟨Oq9,[],Ao,co,rfl,⟨Ai,ni,ci,rfl,hO,hI.le (h1.t h2|>.t h3|>.t h4|>.t h5|>.t h6|>.t h10|>.t hS2),hcc,hcc2⟩,.inl ⟨rfl,rfl,rfl⟩⟩)
         | (rw [qc5 hk4 hk13];exact ⟨Oq9,[],Ao,co,rfl,⟨Ai,ni,ci,rfl,hO,hI.le (h1.t h2|>.t h3|>.t h4|>.t h5|>.t h6|>.t h10|>.t hS2),hcc,hcc2⟩,.inl ⟨rfl,rfl,rfl⟩⟩)
         | (rw [qc2 hk4 hk13 hk16];exact ⟨Oq9,[],Ao,co,rfl,⟨Ai,ni,ci,rfl,hO,hI.le (h1.t h2|>.t h3|>.t h4|>.t h5|>.t h6|>.t h10|>.t hS2),hcc,hcc2⟩,.inl ⟨rfl,rfl,rfl⟩⟩)
         | (rw [qcJ hr13 hlt];exact ⟨Oq9,[],Ao,co,rfl,⟨Ai,ni,ci,rfl,hO,hI.le (h1.t h2|>.t h3|>.t h4|>.t h5|>.t h6|>.t h10|>.t hS2),hcc,hcc2⟩,.inl ⟨rfl,rfl,rfl⟩⟩)
         | (rw [qcP hr14 hlt];exact ⟨Oq9,[],Ao,co,rfl,⟨Ai,ni,ci,by simp [qaF],hO,hI.le (h1.t h2|>.t h3|>.t h4|>.t h5|>.t h6|>.t h10|>.t hS2),by simp;exact hcc,hcc2⟩,.inl ⟨rfl,rfl,rfl⟩⟩)
         | (obtain ⟨r,hr⟩:=qbs hxi
            rw [qcN hr15 hr,← qbX m a.tgt 4294967295]
            rw [hr] at hI
            exact ⟨Oq9,[],Ao,co,rfl,⟨_,_,_,rfl,hO,(Bts.tail hI).le (h1.t h2|>.t h3|>.t h4|>.t h5|>.t h6|>.t h10|>.t hS2),hcc,hcc2⟩,.inl ⟨rfl,rfl,rfl⟩⟩)
         | (have hi0:m.input=[]:=List.eq_nil_of_length_eq_zero O
            rw [qch hr15 hi0];exact ⟨Oq9,[],Ao,co,rfl,⟨Ai,ni,ci,rfl,hO,hI.le (h1.t h2|>.t h3|>.t h4|>.t h5|>.t h6|>.t h10|>.t hS2),hcc,hcc2⟩,.inl ⟨rfl,rfl,rfl⟩⟩)
         | (rw [qc3 hr17];exact ⟨Oq9,[],Ao,co,rfl,⟨Ai,ni,ci,rfl,hO,hI.le (h1.t h2|>.t h3|>.t h4|>.t h5|>.t h6|>.t h10|>.t hS2),hcc,hcc2⟩,.inl ⟨rfl,rfl,rfl⟩⟩)
         | (rw [qc1 hk4 hr12];exact ⟨Oq9,[],Ao,co,rfl,⟨Ai,ni,ci,rfl,hO,hI.le (h1.t h2|>.t h3|>.t h4|>.t h5|>.t h6|>.t h10|>.t hS2),hcc,hcc2⟩,.inl ⟨rfl,rfl,rfl⟩⟩)
         | (rw [qeb hk4 hr13 hr14 hr15 hr16 hr17 hr12];exact ⟨Oq9,[],Ao,co,rfl,⟨Ai,ni,ci,rfl,hO,hI.le (h1.t h2|>.t h3|>.t h4|>.t h5|>.t h6|>.t h10|>.t hS2),hcc,hcc2⟩,.inl ⟨rfl,rfl,rfl⟩⟩))
 have hk13:=c13
 refine Zk<|Zt<|Zs<|?_
 refine qbV 64 (a.kind=16∧m.output.length=20000) ?_ ?_
 ·
  refine Zr<|W0 Y5<|Wl 1 Y6<|qaJ Z Z Z<|Zqm Z Z<|?_
  refine qam (t:=59) Z (fun c15=>?_) (fun c15=>?_)
  ·
   refine Zg Z Z<|Wb Y5<|Zg Z Z<|Wl 2 Y6<|Zg Z Z<|Ws Y4<|Zg Z Z<|qaJ Z Z Z<|ZqT Z Z Z<|Zn<|?_
   refine qaa (MidB.mk (Lr D) Sb Z (decide_eq_decide.2 O))
  refine Wf Y4<|Wf Y4<|Wf Y4<|Wf Y4<|ZqF Z Z Z<|Zn<|?_
  refine qaa (MidB.mk (Lr D) Sb Z ((decide_eq_false O).symm))
 intro s14 h14
 refine qab Z (fun c16=>?_) (fun c16=>?_)
 ·
  have hk16:=c16
  refine Sr<|Wb Y5<|Wt 2 [_,_,_,_,_,_,_,_,_,_] Y9<|Nt<|Sr<|qae (qad 2 [_,_,_,_,_,_,_,_,_,_] Z Z Z Z Z) Z<|Wt 0 [_,_,_,_,_,_,_,_,_,_] Y9<|Nt<|Zo<|Zu<|?_
  refine rR [_,_,_] _ (.agg (us:=[_,_,_,_,_,_,_,_,_,_]) 0 Z Z Z Z Z (.nil)) Z (h1.t h2|>.t h3|>.t h4|>.t h5|>.t h6|>.t h10|>.t h14) fun _ hS2=>?_
  first
    | (have hb:bv (m.output++[UInt8.ofNat ((qba m op a.x).toNat % 256)])=bv m.output++[Value.int .u8 ((UInt8.ofNat ((qba m op a.x).toNat % 256)).toNat:Int)]:=by simp [bv]
       rw [qcw hr16 O]
       refine ⟨A1,K1,Ao1,co1,Z,⟨Ai,ni,ci,by simp [qaF],by simpa [hb] using o1,hI.le (h1.t h2|>.t h3|>.t h4|>.t h5|>.t h6|>.t h10|>.t h14|>.t hS2),hcc,hcc2⟩,?_⟩
       rcases hk1 with ⟨e1,a9,c9,e2,e3⟩ | e1
       · injection e2 with e4 e5 e6;injection e3 with e7 e8 e9
         exact .inl ⟨e1,e7.trans e4.symm,e9.trans e6.symm⟩
       · exact .inr e1)
    | (first
         | (rw [qd7 hk4];exact ⟨Oq9,[],Ao,co,rfl,⟨Ai,ni,ci,rfl,hO,hI.le (h1.t h2|>.t h3|>.t h4|>.t h5|>.t h6|>.t h10|>.t h14|>.t hS2),hcc,hcc2⟩,.inl ⟨rfl,rfl,rfl⟩⟩)
         | (rw [qc5 hk4 hk13];exact ⟨Oq9,[],Ao,co,rfl,⟨Ai,ni,ci,rfl,hO,hI.le (h1.t h2|>.t h3|>.t h4|>.t h5|>.t h6|>.t h10|>.t h14|>.t hS2),hcc,hcc2⟩,.inl ⟨rfl,rfl,rfl⟩⟩)
         | (rw [qc2 hk4 hk13 hk16];exact ⟨Oq9,[],Ao,co,rfl,⟨Ai,ni,ci,rfl,hO,hI.le (h1.t h2|>.t h3|>.t h4|>.t h5|>.t h6|>.t h10|>.t h14|>.t hS2),hcc,hcc2⟩,.inl ⟨rfl,rfl,rfl⟩⟩)
         | (rw [qcJ hr13 hlt];exact ⟨Oq9,[],Ao,co,rfl,⟨Ai,ni,ci,rfl,hO,hI.le (h1.t h2|>.t h3|>.t h4|>.t h5|>.t h6|>.t h10|>.t h14|>.t hS2),hcc,hcc2⟩,.inl ⟨rfl,rfl,rfl⟩⟩)
         | (rw [qcP hr14 hlt];exact ⟨Oq9,[],Ao,co,rfl,⟨Ai,ni,ci,by simp [qaF],hO,hI.le (h1.t h2|>.t h3|>.t h4|>.t h5|>.t h6|>.t h10|>.t h14|>.t hS2),by simp;exact hcc,hcc2⟩,.inl ⟨rfl,rfl,rfl⟩⟩)
         | (obtain ⟨r,hr⟩:=qbs hxi
            rw [qcN hr15 hr,← qbX m a.tgt 4294967295]
            rw [hr] at hI
            exact ⟨Oq9,[],Ao,co,rfl,⟨_,_,_,rfl,hO,(Bts.tail hI).le (h1.t h2|>.t h3|>.t h4|>.t h5|>.t h6|>.t h10|>.t h14|>.t hS2),hcc,hcc2⟩,.inl ⟨rfl,rfl,rfl⟩⟩)
         | (have hi0:m.input=[]:=List.eq_nil_of_length_eq_zero O
            rw [qch hr15 hi0];exact ⟨Oq9,[],Ao,co,rfl,⟨Ai,ni,ci,rfl,hO,hI.le (h1.t h2|>.t h3|>.t h4|>.t h5|>.t h6|>.t h10|>.t h14|>.t hS2),hcc,hcc2⟩,.inl ⟨rfl,rfl,rfl⟩⟩)
         | (rw [qc3 hr17];exact ⟨Oq9,[],Ao,co,rfl,⟨Ai,ni,ci,rfl,hO,hI.le (h1.t h2|>.t h3|>.t h4|>.t h5|>.t h6|>.t h10|>.t h14|>.t hS2),hcc,hcc2⟩,.inl ⟨rfl,rfl,rfl⟩⟩)
         | (rw [qc1 hk4 hr12];exact ⟨Oq9,[],Ao,co,rfl,⟨Ai,ni,ci,rfl,hO,hI.le (h1.t h2|>.t h3|>.t h4|>.t h5|>.t h6|>.t h10|>.t h14|>.t hS2),hcc,hcc2⟩,.inl ⟨rfl,rfl,rfl⟩⟩)
         | (rw [qeb hk4 hr13 hr14 hr15 hr16 hr17 hr12];exact ⟨Oq9,[],Ao,co,rfl,⟨Ai,ni,ci,rfl,hO,hI.le (h1.t h2|>.t h3|>.t h4|>.t h5|>.t h6|>.t h10|>.t h14|>.t hS2),hcc,hcc2⟩,.inl ⟨rfl,rfl,rfl⟩⟩))
 have hk16:=c16
 refine Zk<|Zt<|Zs<|Sr<|W0 Y5<|Wl 1 Y6<|qaJ Z Z Z<|Nt<|?_
 refine qab Z (fun c17=>?_) (fun c17=>?_)
 ·
  have hr13:=c17
  have hlt:qba m op a.x < (m.cells.length:Int):=by omega
  refine qaD qaf 10 Z [2] (by intro x hx;exact qan hx) ?_
  intro s18 h18
  refine za 0 Z (We Y4) Z<|za 1 Z (Wd 1 Y5) Z<|za 2 Z (qaw Z Z Z Z) Z<|za 4 Z (qao Z) Z<|za 7 Z (We Y4) Z<|qah 3 V<|qb1 Z Tt (Wd 2 Y5) Z<|za 5 Z (qcb Z Z Z Z Z Z hux1 hlt) Z<|za 6 Z (qbL 2 Z Z Z Z (qcO hux1 hlt)) Z<|za 8 Z (qeV Z Z Z Z Z Z ha.tgt.1 (by have:=ha.tgt.2;omega)) Z<|qah 9 V<|qa9 Z Tt 2 _ Z Z Z Z Z (qgj ha.tgt _ _ _ _ _ _ _) Z (qgz _ ha.tgt _ _ _) Z (fun x hx=>hx)<|qac V<|Zt<|Sr<|qae (qad 2 [_,_,_,_,_,_,_,_,_,_] Z Z Z Z Z) Z ?_
  refine Wt 0 [_,_,_,_,_,_,_,_,_,_] Y9<|Nt<|Zo<|?_
  refine rR [_,_,_] _ (.agg (us:=[_,_,_,_,_,_,_,_,_,_]) 0 Z Z Z Z Z (.nil)) Z (h1.t h2|>.t h3|>.t h4|>.t h5|>.t h6|>.t h10|>.t h14|>.t h18) fun _ hS2=>?_
  first
    | (have hb:bv (m.output++[UInt8.ofNat ((qba m op a.x).toNat % 256)])=bv m.output++[Value.int .u8 ((UInt8.ofNat ((qba m op a.x).toNat % 256)).toNat:Int)]:=by simp [bv]
       rw [qcw hr16 O]
       refine ⟨A1,K1,Ao1,co1,Z,⟨Ai,ni,ci,by simp [qaF],by simpa [hb] using o1,hI.le (h1.t h2|>.t h3|>.t h4|>.t h5|>.t h6|>.t h10|>.t h14|>.t h18|>.t hS2),hcc,hcc2⟩,?_⟩
       rcases hk1 with ⟨e1,a9,c9,e2,e3⟩ | e1
       · injection e2 with e4 e5 e6;injection e3 with e7 e8 e9
         exact .inl ⟨e1,e7.trans e4.symm,e9.trans e6.symm⟩
       · exact .inr e1)
    | (first
         | (rw [qd7 hk4];exact ⟨Oq9,[],Ao,co,rfl,⟨Ai,ni,ci,rfl,hO,hI.le (h1.t h2|>.t h3|>.t h4|>.t h5|>.t h6|>.t h10|>.t h14|>.t h18|>.t hS2),hcc,hcc2⟩,.inl ⟨rfl,rfl,rfl⟩⟩)
         | (rw [qc5 hk4 hk13];exact ⟨Oq9,[],Ao,co,rfl,⟨Ai,ni,ci,rfl,hO,hI.le (h1.t h2|>.t h3|>.t h4|>.t h5|>.t h6|>.t h10|>.t h14|>.t h18|>.t hS2),hcc,hcc2⟩,.inl ⟨rfl,rfl,rfl⟩⟩)
         | (rw [qc2 hk4 hk13 hk16];exact ⟨Oq9,[],Ao,co,rfl,⟨Ai,ni,ci,rfl,hO,hI.le (h1.t h2|>.t h3|>.t h4|>.t h5|>.t h6|>.t h10|>.t h14|>.t h18|>.t hS2),hcc,hcc2⟩,.inl ⟨rfl,rfl,rfl⟩⟩)
         | (rw [qcJ hr13 hlt];exact ⟨Oq9,[],Ao,co,rfl,⟨Ai,ni,ci,rfl,hO,hI.le (h1.t h2|>.t h3|>.t h4|>.t h5|>.t h6|>.t h10|>.t h14|>.t h18|>.t hS2),hcc,hcc2⟩,.inl ⟨rfl,rfl,rfl⟩⟩)
         | (rw [qcP hr14 hlt];exact ⟨Oq9,[],Ao,co,rfl,⟨Ai,ni,ci,by simp [qaF],hO,hI.le (h1.t h2|>.t h3|>.t h4|>.t h5|>.t h6|>.t h10|>.t h14|>.t h18|>.t hS2),by simp;exact hcc,hcc2⟩,.inl ⟨rfl,rfl,rfl⟩⟩)
         | (obtain ⟨r,hr⟩:=qbs hxi
            rw [qcN hr15 hr,← qbX m a.tgt 4294967295]
            rw [hr] at hI
            exact ⟨Oq9,[],Ao,co,rfl,⟨_,_,_,rfl,hO,(Bts.tail hI).le (h1.t h2|>.t h3|>.t h4|>.t h5|>.t h6|>.t h10|>.t h14|>.t h18|>.t hS2),hcc,hcc2⟩,.inl ⟨rfl,rfl,rfl⟩⟩)
         | (have hi0:m.input=[]:=List.eq_nil_of_length_eq_zero O
            rw [qch hr15 hi0];exact ⟨Oq9,[],Ao,co,rfl,⟨Ai,ni,ci,rfl,hO,hI.le (h1.t h2|>.t h3|>.t h4|>.t h5|>.t h6|>.t h10|>.t h14|>.t h18|>.t hS2),hcc,hcc2⟩,.inl ⟨rfl,rfl,rfl⟩⟩)
         | (rw [qc3 hr17];exact ⟨Oq9,[],Ao,co,rfl,⟨Ai,ni,ci,rfl,hO,hI.le (h1.t h2|>.t h3|>.t h4|>.t h5|>.t h6|>.t h10|>.t h14|>.t h18|>.t hS2),hcc,hcc2⟩,.inl ⟨rfl,rfl,rfl⟩⟩)
         | (rw [qc1 hk4 hr12];exact ⟨Oq9,[],Ao,co,rfl,⟨Ai,ni,ci,rfl,hO,hI.le (h1.t h2|>.t h3|>.t h4|>.t h5|>.t h6|>.t h10|>.t h14|>.t h18|>.t hS2),hcc,hcc2⟩,.inl ⟨rfl,rfl,rfl⟩⟩)
         | (rw [qeb hk4 hr13 hr14 hr15 hr16 hr17 hr12];exact ⟨Oq9,[],Ao,co,rfl,⟨Ai,ni,ci,rfl,hO,hI.le (h1.t h2|>.t h3|>.t h4|>.t h5|>.t h6|>.t h10|>.t h14|>.t h18|>.t hS2),hcc,hcc2⟩,.inl ⟨rfl,rfl,rfl⟩⟩))
 have hr13:=c17
 refine Sr<|W0 Y5<|Wl 1 Y6<|qaJ Z Z Z<|Nt<|?_
 refine qab Z (fun c20=>?_) (fun c20=>?_)
 ·
  have hr14:=c20
  have hlt:qba m op a.x < (m.cells.length:Int):=by omega
  refine Zr<|W0 Y5<|Wl 2 Y6<|Zqm Z Z<|Zqm Z Z<|qae (qcb Z Z Z Z Z Z hux1 hlt) Z<|qdc 3 _ Z Z Z Z Z (qfn hux1 hlt) Z (qfC _ hux1 hlt) Z<|Nt<|Sr<|qae (qad 2 [_,_,_,_,_,_,_,_,_,_] Z Z Z Z Z) Z<|Wt 0 [_,_,_,_,_,_,_,_,_,_] Y9<|Nt<|Zo<|?_
  refine rR [_,_,_] _ (.agg (us:=[_,_,_,_,_,_,_,_,_,_]) 0 Z Z Z Z Z (.nil)) Z (h1.t h2|>.t h3|>.t h4|>.t h5|>.t h6|>.t h10|>.t h14) fun _ hS2=>?_
  first
    | (have hb:bv (m.output++[UInt8.ofNat ((qba m op a.x).toNat % 256)])=bv m.output++[Value.int .u8 ((UInt8.ofNat ((qba m op a.x).toNat % 256)).toNat:Int)]:=by simp [bv]
       rw [qcw hr16 O]
       refine ⟨A1,K1,Ao1,co1,Z,⟨Ai,ni,ci,by simp [qaF],by simpa [hb] using o1,hI.le (h1.t h2|>.t h3|>.t h4|>.t h5|>.t h6|>.t h10|>.t h14|>.t hS2),hcc,hcc2⟩,?_⟩
       rcases hk1 with ⟨e1,a9,c9,e2,e3⟩ | e1
       · injection e2 with e4 e5 e6;injection e3 with e7 e8 e9
         exact .inl ⟨e1,e7.trans e4.symm,e9.trans e6.symm⟩
       · exact .inr e1)
    | (first
         | (rw [qd7 hk4];exact ⟨Oq9,[],Ao,co,rfl,⟨Ai,ni,ci,rfl,hO,hI.le (h1.t h2|>.t h3|>.t h4|>.t h5|>.t h6|>.t h10|>.t h14|>.t hS2),hcc,hcc2⟩,.inl ⟨rfl,rfl,rfl⟩⟩)
         | (rw [qc5 hk4 hk13];exact ⟨Oq9,[],Ao,co,rfl,⟨Ai,ni,ci,rfl,hO,hI.le (h1.t h2|>.t h3|>.t h4|>.t h5|>.t h6|>.t h10|>.t h14|>.t hS2),hcc,hcc2⟩,.inl ⟨rfl,rfl,rfl⟩⟩)
         | (rw [qc2 hk4 hk13 hk16];exact ⟨Oq9,[],Ao,co,rfl,⟨Ai,ni,ci,rfl,hO,hI.le (h1.t h2|>.t h3|>.t h4|>.t h5|>.t h6|>.t h10|>.t h14|>.t hS2),hcc,hcc2⟩,.inl ⟨rfl,rfl,rfl⟩⟩)
         | (rw [qcJ hr13 hlt];exact ⟨Oq9,[],Ao,co,rfl,⟨Ai,ni,ci,rfl,hO,hI.le (h1.t h2|>.t h3|>.t h4|>.t h5|>.t h6|>.t h10|>.t h14|>.t hS2),hcc,hcc2⟩,.inl ⟨rfl,rfl,rfl⟩⟩)
         | (rw [qcP hr14 hlt];exact ⟨Oq9,[],Ao,co,rfl,⟨Ai,ni,ci,by simp [qaF],hO,hI.le (h1.t h2|>.t h3|>.t h4|>.t h5|>.t h6|>.t h10|>.t h14|>.t hS2),by simp;exact hcc,hcc2⟩,.inl ⟨rfl,rfl,rfl⟩⟩)
         | (obtain ⟨r,hr⟩:=qbs hxi
            rw [qcN hr15 hr,← qbX m a.tgt 4294967295]
            rw [hr] at hI
            exact ⟨Oq9,[],Ao,co,rfl,⟨_,_,_,rfl,hO,(Bts.tail hI).le (h1.t h2|>.t h3|>.t h4|>.t h5|>.t h6|>.t h10|>.t h14|>.t hS2),hcc,hcc2⟩,.inl ⟨rfl,rfl,rfl⟩⟩)
         | (have hi0:m.input=[]:=List.eq_nil_of_length_eq_zero O
            rw [qch hr15 hi0];exact ⟨Oq9,[],Ao,co,rfl,⟨Ai,ni,ci,rfl,hO,hI.le (h1.t h2|>.t h3|>.t h4|>.t h5|>.t h6|>.t h10|>.t h14|>.t hS2),hcc,hcc2⟩,.inl ⟨rfl,rfl,rfl⟩⟩)
         | (rw [qc3 hr17];exact ⟨Oq9,[],Ao,co,rfl,⟨Ai,ni,ci,rfl,hO,hI.le (h1.t h2|>.t h3|>.t h4|>.t h5|>.t h6|>.t h10|>.t h14|>.t hS2),hcc,hcc2⟩,.inl ⟨rfl,rfl,rfl⟩⟩)
         | (rw [qc1 hk4 hr12];exact ⟨Oq9,[],Ao,co,rfl,⟨Ai,ni,ci,rfl,hO,hI.le (h1.t h2|>.t h3|>.t h4|>.t h5|>.t h6|>.t h10|>.t h14|>.t hS2),hcc,hcc2⟩,.inl ⟨rfl,rfl,rfl⟩⟩)
         | (rw [qeb hk4 hr13 hr14 hr15 hr16 hr17 hr12];exact ⟨Oq9,[],Ao,co,rfl,⟨Ai,ni,ci,rfl,hO,hI.le (h1.t h2|>.t h3|>.t h4|>.t h5|>.t h6|>.t h10|>.t h14|>.t hS2),hcc,hcc2⟩,.inl ⟨rfl,rfl,rfl⟩⟩))
 have hr14:=c20
 refine Sr<|W0 Y5<|Wl 1 Y6<|qaJ Z Z Z<|Nt<|?_
 refine qab Z (fun c22=>?_) (fun c22=>?_)
 ·
  have hr15:=c22
  refine Sr<|Wb Y5<|Wl 1 Y6<|Wb Y5<|qae (qeV Z Z Z Z Z Z ha.tgt.1 (by have:=ha.tgt.2;omega)) Z<|qdc 2 _ Z Z Z Z Z (qgj ha.tgt _ _ _ _ _ _ _) Z (qgz _ ha.tgt _ _ _) Z<|Nt<|Sr<|Wb Y5<|Wl 2 Y6<|Ws Y4<|qdP Z Z Z<|Nt<|?_
  refine qab Z (fun c24=>?_) (fun c24=>?_)
  ·
   have hne:=c24
   obtain ⟨bi,oi,xi,rfl,hxi,hci⟩:=Bts.at_ (hI.le (h1.t h2|>.t h3|>.t h4|>.t h5|>.t h6|>.t h10|>.t h14)) (show 0 < ni by omega)
   refine Zs<|qaD qaf 10 Z [2] (by intro x hx;exact qan hx) ?_
   intro s25 h25
   refine za 0 Z (We Y4) Z<|za 1 Z (Wd 1 Y5) Z<|za 2 Z (We Y4) Z<|za 7 Z (We Y4) Z<|qah 3 V<|qb1 Z Tt (Wd 2 Y5) Z<|za 4 Z (qcb Z Z Z Z Z Z Dc O) Z<|za 5 Z (qaq Z Z Z (hci.le h25) Z) Z<|za 6 Z (qaH Z Z Z Z Z (qcS O (by have:=xi.toNat_lt;omega))) Z<|za 8 Z (qeV Z Z Z Z Z Z ha.tgt.1 (by have:=ha.tgt.2;omega)) Z<|qah 9 V<|qa9 Z Tt 2 _ Z Z Z Z Z (qgj ha.tgt _ _ _ _ _ _ _) Z (qgz _ ha.tgt _ _ _) Z (fun x hx=>hx)<|qac V ?_
   refine Zt<|Zr<|Wb Y5<|Wl 2 Y6<|qae (qgP (j:=1) Z Z Z Z Z O) Z<|Wb Y5<|Wt 2 [_,_,_,_,_,_,_,_,_,_] Y9<|Nt<|Sr<|qae (qad 2 [_,_,_,_,_,_,_,_,_,_] Z Z Z Z Z) Z<|Wt 0 [_,_,_,_,_,_,_,_,_,_] Y9<|Nt<|Zo<|?_
   refine rR [_,_,_] _ (.agg (us:=[_,_,_,_,_,_,_,_,_,_]) 0 Z Z Z Z Z (.nil)) Z (h1.t h2|>.t h3|>.t h4|>.t h5|>.t h6|>.t h10|>.t h14|>.t h25) fun _ hS2=>?_
   first
     | (have hb:bv (m.output++[UInt8.ofNat ((qba m op a.x).toNat % 256)])=bv m.output++[Value.int .u8 ((UInt8.ofNat ((qba m op a.x).toNat % 256)).toNat:Int)]:=by simp [bv]
        rw [qcw hr16 O]
        refine ⟨A1,K1,Ao1,co1,Z,⟨Ai,ni,ci,by simp [qaF],by simpa [hb] using o1,hI.le (h1.t h2|>.t h3|>.t h4|>.t h5|>.t h6|>.t h10|>.t h14|>.t h25|>.t hS2),hcc,hcc2⟩,?_⟩
        rcases hk1 with ⟨e1,a9,c9,e2,e3⟩ | e1
        · injection e2 with e4 e5 e6;injection e3 with e7 e8 e9
          exact .inl ⟨e1,e7.trans e4.symm,e9.trans e6.symm⟩
        · exact .inr e1)
     | (first
          | (rw [qd7 hk4];exact ⟨Oq9,[],Ao,co,rfl,⟨Ai,ni,ci,rfl,hO,hI.le (h1.t h2|>.t h3|>.t h4|>.t h5|>.t h6|>.t h10|>.t h14|>.t h25|>.t hS2),hcc,hcc2⟩,.inl ⟨rfl,rfl,rfl⟩⟩)
          | (rw [qc5 hk4 hk13];exact ⟨Oq9,[],Ao,co,rfl,⟨Ai,ni,ci,rfl,hO,hI.le (h1.t h2|>.t h3|>.t h4|>.t h5|>.t h6|>.t h10|>.t h14|>.t h25|>.t hS2),hcc,hcc2⟩,.inl ⟨rfl,rfl,rfl⟩⟩)
          | (rw [qc2 hk4 hk13 hk16];exact ⟨Oq9,[],Ao,co,rfl,⟨Ai,ni,ci,rfl,hO,hI.le (h1.t h2|>.t h3|>.t h4|>.t h5|>.t h6|>.t h10|>.t h14|>.t h25|>.t hS2),hcc,hcc2⟩,.inl ⟨rfl,rfl,rfl⟩⟩)
          | (rw [qcJ hr13 hlt];exact ⟨Oq9,[],Ao,co,rfl,⟨Ai,ni,ci,rfl,hO,hI.le (h1.t h2|>.t h3|>.t h4|>.t h5|>.t h6|>.t h10|>.t h14|>.t h25|>.t hS2),hcc,hcc2⟩,.inl ⟨rfl,rfl,rfl⟩⟩)
          | (rw [qcP hr14 hlt];exact ⟨Oq9,[],Ao,co,rfl,⟨Ai,ni,ci,by simp [qaF],hO,hI.le (h1.t h2|>.t h3|>.t h4|>.t h5|>.t h6|>.t h10|>.t h14|>.t h25|>.t hS2),by simp;exact hcc,hcc2⟩,.inl ⟨rfl,rfl,rfl⟩⟩)
          | (obtain ⟨r,hr⟩:=qbs hxi
             rw [qcN hr15 hr,← qbX m a.tgt 4294967295]
             rw [hr] at hI
             exact ⟨Oq9,[],Ao,co,rfl,⟨_,_,_,rfl,hO,(Bts.tail hI).le (h1.t h2|>.t h3|>.t h4|>.t h5|>.t h6|>.t h10|>.t h14|>.t h25|>.t hS2),hcc,hcc2⟩,.inl ⟨rfl,rfl,rfl⟩⟩)
          | (have hi0:m.input=[]:=List.eq_nil_of_length_eq_zero O
             rw [qch hr15 hi0];exact ⟨Oq9,[],Ao,co,rfl,⟨Ai,ni,ci,rfl,hO,hI.le (h1.t h2|>.t h3|>.t h4|>.t h5|>.t h6|>.t h10|>.t h14|>.t h25|>.t hS2),hcc,hcc2⟩,.inl ⟨rfl,rfl,rfl⟩⟩)
          | (rw [qc3 hr17];exact ⟨Oq9,[],Ao,co,rfl,⟨Ai,ni,ci,rfl,hO,hI.le (h1.t h2|>.t h3|>.t h4|>.t h5|>.t h6|>.t h10|>.t h14|>.t h25|>.t hS2),hcc,hcc2⟩,.inl ⟨rfl,rfl,rfl⟩⟩)
          | (rw [qc1 hk4 hr12];exact ⟨Oq9,[],Ao,co,rfl,⟨Ai,ni,ci,rfl,hO,hI.le (h1.t h2|>.t h3|>.t h4|>.t h5|>.t h6|>.t h10|>.t h14|>.t h25|>.t hS2),hcc,hcc2⟩,.inl ⟨rfl,rfl,rfl⟩⟩)
          | (rw [qeb hk4 hr13 hr14 hr15 hr16 hr17 hr12];exact ⟨Oq9,[],Ao,co,rfl,⟨Ai,ni,ci,rfl,hO,hI.le (h1.t h2|>.t h3|>.t h4|>.t h5|>.t h6|>.t h10|>.t h14|>.t h25|>.t hS2),hcc,hcc2⟩,.inl ⟨rfl,rfl,rfl⟩⟩))
  have hne:=c24
  refine Zk<|Zt<|Sr<|qae (qad 2 [_,_,_,_,_,_,_,_,_,_] Z Z Z Z Z) Z<|Wt 0 [_,_,_,_,_,_,_,_,_,_] Y9<|Nt<|Zo<|?_
  refine rR [_,_,_] _ (.agg (us:=[_,_,_,_,_,_,_,_,_,_]) 0 Z Z Z Z Z (.nil)) Z (h1.t h2|>.t h3|>.t h4|>.t h5|>.t h6|>.t h10|>.t h14) fun _ hS2=>?_
  first
    | (have hb:bv (m.output++[UInt8.ofNat ((qba m op a.x).toNat % 256)])=bv m.output++[Value.int .u8 ((UInt8.ofNat ((qba m op a.x).toNat % 256)).toNat:Int)]:=by simp [bv]
       rw [qcw hr16 O]
       refine ⟨A1,K1,Ao1,co1,Z,⟨Ai,ni,ci,by simp [qaF],by simpa [hb] using o1,hI.le (h1.t h2|>.t h3|>.t h4|>.t h5|>.t h6|>.t h10|>.t h14|>.t hS2),hcc,hcc2⟩,?_⟩
       rcases hk1 with ⟨e1,a9,c9,e2,e3⟩ | e1
       · injection e2 with e4 e5 e6;injection e3 with e7 e8 e9
         exact .inl ⟨e1,e7.trans e4.symm,e9.trans e6.symm⟩
       · exact .inr e1)
    | (first
         | (rw [qd7 hk4];exact ⟨Oq9,[],Ao,co,rfl,⟨Ai,ni,ci,rfl,hO,hI.le (h1.t h2|>.t h3|>.t h4|>.t h5|>.t h6|>.t h10|>.t h14|>.t hS2),hcc,hcc2⟩,.inl ⟨rfl,rfl,rfl⟩⟩)
         | (rw [qc5 hk4 hk13];exact ⟨Oq9,[],Ao,co,rfl,⟨Ai,ni,ci,rfl,hO,hI.le (h1.t h2|>.t h3|>.t h4|>.t h5|>.t h6|>.t h10|>.t h14|>.t hS2),hcc,hcc2⟩,.inl ⟨rfl,rfl,rfl⟩⟩)
         | (rw [qc2 hk4 hk13 hk16];exact ⟨Oq9,[],Ao,co,rfl,⟨Ai,ni,ci,rfl,hO,hI.le (h1.t h2|>.t h3|>.t h4|>.t h5|>.t h6|>.t h10|>.t h14|>.t hS2),hcc,hcc2⟩,.inl ⟨rfl,rfl,rfl⟩⟩)
         | (rw [qcJ hr13 hlt];exact ⟨Oq9,[],Ao,co,rfl,⟨Ai,ni,ci,rfl,hO,hI.le (h1.t h2|>.t h3|>.t h4|>.t h5|>.t h6|>.t h10|>.t h14|>.t hS2),hcc,hcc2⟩,.inl ⟨rfl,rfl,rfl⟩⟩)
         | (rw [qcP hr14 hlt];exact ⟨Oq9,[],Ao,co,rfl,⟨Ai,ni,ci,by simp [qaF],hO,hI.le (h1.t h2|>.t h3|>.t h4|>.t h5|>.t h6|>.t h10|>.t h14|>.t hS2),by simp;exact hcc,hcc2⟩,.inl ⟨rfl,rfl,rfl⟩⟩)
         | (obtain ⟨r,hr⟩:=qbs hxi
            rw [qcN hr15 hr,← qbX m a.tgt 4294967295]
            rw [hr] at hI
            exact ⟨Oq9,[],Ao,co,rfl,⟨_,_,_,rfl,hO,(Bts.tail hI).le (h1.t h2|>.t h3|>.t h4|>.t h5|>.t h6|>.t h10|>.t h14|>.t hS2),hcc,hcc2⟩,.inl ⟨rfl,rfl,rfl⟩⟩)
         | (have hi0:m.input=[]:=List.eq_nil_of_length_eq_zero O
            rw [qch hr15 hi0];exact ⟨Oq9,[],Ao,co,rfl,⟨Ai,ni,ci,rfl,hO,hI.le (h1.t h2|>.t h3|>.t h4|>.t h5|>.t h6|>.t h10|>.t h14|>.t hS2),hcc,hcc2⟩,.inl ⟨rfl,rfl,rfl⟩⟩)
         | (rw [qc3 hr17];exact ⟨Oq9,[],Ao,co,rfl,⟨Ai,ni,ci,rfl,hO,hI.le (h1.t h2|>.t h3|>.t h4|>.t h5|>.t h6|>.t h10|>.t h14|>.t hS2),hcc,hcc2⟩,.inl ⟨rfl,rfl,rfl⟩⟩)
         | (rw [qc1 hk4 hr12];exact ⟨Oq9,[],Ao,co,rfl,⟨Ai,ni,ci,rfl,hO,hI.le (h1.t h2|>.t h3|>.t h4|>.t h5|>.t h6|>.t h10|>.t h14|>.t hS2),hcc,hcc2⟩,.inl ⟨rfl,rfl,rfl⟩⟩)
         | (rw [qeb hk4 hr13 hr14 hr15 hr16 hr17 hr12];exact ⟨Oq9,[],Ao,co,rfl,⟨Ai,ni,ci,rfl,hO,hI.le (h1.t h2|>.t h3|>.t h4|>.t h5|>.t h6|>.t h10|>.t h14|>.t hS2),hcc,hcc2⟩,.inl ⟨rfl,rfl,rfl⟩⟩))
 have hr15:=c22
 refine Sr<|W0 Y5<|Wl 1 Y6<|qaJ Z Z Z<|Nt<|?_
 refine qab Z (fun c27=>?_) (fun c27=>?_)
 ·
  have hr16:=c27
  refine Zr<|Wb Y5<|Wl 2 Y6<|Zqm Z Z<|qae (qgY Z Z O) Z<|qae (qav (qb9 Z Z Z Z Z) (congrArg (Value.int .u8) (qt4 hux))) Z<|qa0 [(_,_)] [_] Z Z Z Z Z Z Z Z Z ?_
  intro βn s28 h28 hcn
  refine qqQ (sz:=1) [_,_,_,_] Oq9 _ Z Z Z Z Z Z Z hO (Row.of_cells (hcn.le (Lr D)) Z Z) Dc ⟨by simp [ti5];omega,by omega⟩ Z ?_
  intro v1 A1 K1 s29 h29 o1 hk1
  obtain ⟨Ao1,co1,rfl,ko1,ko2⟩:=Own.slice o1
  simp only [cQ9,nQ9]
  refine Wb Y5<|Wt 2 [_,_,_,_,_,_,_,_,_,_] Y9<|Nt<|Sr<|qae (qad 2 [_,_,_,_,_,_,_,_,_,_] Z Z Z Z Z) Z<|Wt 0 [_,_,_,_,_,_,_,_,_,_] Y9<|Nt<|Zo<|?_
  refine rR [_,_,_] _ (.agg (us:=[_,_,_,_,_,_,_,_,_,_]) 0 Z Z Z Z Z (.nil)) Z (h1.t h2|>.t h3|>.t h4|>.t h5|>.t h6|>.t h10|>.t h14|>.t h28|>.t h29) fun _ hS2=>?_
  first
    | (have hb:bv (m.output++[UInt8.ofNat ((qba m op a.x).toNat % 256)])=bv m.output++[Value.int .u8 ((UInt8.ofNat ((qba m op a.x).toNat % 256)).toNat:Int)]:=by simp [bv]
       rw [qcw hr16 O]
       refine ⟨A1,K1,Ao1,co1,Z,⟨Ai,ni,ci,by simp [qaF],by simpa [hb] using o1,hI.le (h1.t h2|>.t h3|>.t h4|>.t h5|>.t h6|>.t h10|>.t h14|>.t h28|>.t h29|>.t hS2),hcc,hcc2⟩,?_⟩
       rcases hk1 with ⟨e1,a9,c9,e2,e3⟩ | e1
       · injection e2 with e4 e5 e6;injection e3 with e7 e8 e9
         exact .inl ⟨e1,e7.trans e4.symm,e9.trans e6.symm⟩
       · exact .inr e1)
    | (first
         | (rw [qd7 hk4];exact ⟨Oq9,[],Ao,co,rfl,⟨Ai,ni,ci,rfl,hO,hI.le (h1.t h2|>.t h3|>.t h4|>.t h5|>.t h6|>.t h10|>.t h14|>.t h28|>.t h29|>.t hS2),hcc,hcc2⟩,.inl ⟨rfl,rfl,rfl⟩⟩)
         | (rw [qc5 hk4 hk13];exact ⟨Oq9,[],Ao,co,rfl,⟨Ai,ni,ci,rfl,hO,hI.le (h1.t h2|>.t h3|>.t h4|>.t h5|>.t h6|>.t h10|>.t h14|>.t h28|>.t h29|>.t hS2),hcc,hcc2⟩,.inl ⟨rfl,rfl,rfl⟩⟩)
         | (rw [qc2 hk4 hk13 hk16];exact ⟨Oq9,[],Ao,co,rfl,⟨Ai,ni,ci,rfl,hO,hI.le (h1.t h2|>.t h3|>.t h4|>.t h5|>.t h6|>.t h10|>.t h14|>.t h28|>.t h29|>.t hS2),hcc,hcc2⟩,.inl ⟨rfl,rfl,rfl⟩⟩)
         | (rw [qcJ hr13 hlt];exact ⟨Oq9,[],Ao,co,rfl,⟨Ai,ni,ci,rfl,hO,hI.le (h1.t h2|>.t h3|>.t h4|>.t h5|>.t h6|>.t h10|>.t h14|>.t h28|>.t h29|>.t hS2),hcc,hcc2⟩,.inl ⟨rfl,rfl,rfl⟩⟩)
         | (rw [qcP hr14 hlt];exact ⟨Oq9,[],Ao,co,rfl,⟨Ai,ni,ci,by simp [qaF],hO,hI.le (h1.t h2|>.t h3|>.t h4|>.t h5|>.t h6|>.t h10|>.t h14|>.t h28|>.t h29|>.t hS2),by simp;exact hcc,hcc2⟩,.inl ⟨rfl,rfl,rfl⟩⟩)
         | (obtain ⟨r,hr⟩:=qbs hxi
            rw [qcN hr15 hr,← qbX m a.tgt 4294967295]
            rw [hr] at hI
            exact ⟨Oq9,[],Ao,co,rfl,⟨_,_,_,rfl,hO,(Bts.tail hI).le (h1.t h2|>.t h3|>.t h4|>.t h5|>.t h6|>.t h10|>.t h14|>.t h28|>.t h29|>.t hS2),hcc,hcc2⟩,.inl ⟨rfl,rfl,rfl⟩⟩)
         | (have hi0:m.input=[]:=List.eq_nil_of_length_eq_zero O
            rw [qch hr15 hi0];exact ⟨Oq9,[],Ao,co,rfl,⟨Ai,ni,ci,rfl,hO,hI.le (h1.t h2|>.t h3|>.t h4|>.t h5|>.t h6|>.t h10|>.t h14|>.t h28|>.t h29|>.t hS2),hcc,hcc2⟩,.inl ⟨rfl,rfl,rfl⟩⟩)
         | (rw [qc3 hr17];exact ⟨Oq9,[],Ao,co,rfl,⟨Ai,ni,ci,rfl,hO,hI.le (h1.t h2|>.t h3|>.t h4|>.t h5|>.t h6|>.t h10|>.t h14|>.t h28|>.t h29|>.t hS2),hcc,hcc2⟩,.inl ⟨rfl,rfl,rfl⟩⟩)
         | (rw [qc1 hk4 hr12];exact ⟨Oq9,[],Ao,co,rfl,⟨Ai,ni,ci,rfl,hO,hI.le (h1.t h2|>.t h3|>.t h4|>.t h5|>.t h6|>.t h10|>.t h14|>.t h28|>.t h29|>.t hS2),hcc,hcc2⟩,.inl ⟨rfl,rfl,rfl⟩⟩)
         | (rw [qeb hk4 hr13 hr14 hr15 hr16 hr17 hr12];exact ⟨Oq9,[],Ao,co,rfl,⟨Ai,ni,ci,rfl,hO,hI.le (h1.t h2|>.t h3|>.t h4|>.t h5|>.t h6|>.t h10|>.t h14|>.t h28|>.t h29|>.t hS2),hcc,hcc2⟩,.inl ⟨rfl,rfl,rfl⟩⟩))
 have hr16:=c27
 refine qbV 133 (a.kind=17∨a.kind=18∧qba m op a.y=0) ?_ ?_
 ·
  refine Zr<|W0 Y5<|Wl 1 Y6<|qaJ Z Z Z<|Zqm Z Z<|?_
  refine qam (t:=125) Z (fun c31=>?_) (fun c31=>?_)
  ·
   refine Wf Y4<|Wf Y4<|Wf Y4<|Wf Y4<|Zh Z Z Z<|Zh Z Z Z<|Wf Y4<|ZqT Z Z Z<|Zn<|?_
   refine qaa (MidB.mk (Lr D) Sb Z ((decide_eq_true O).symm))
  refine Zg Z Z<|W0 Y5<|Zg Z Z<|Wl 1 Y6<|Zg Z Z<|qaJ Z Z Z<|Zg Z Z<|Zqm Z Z<|?_
  refine qam (t:=129) Z (fun c32=>?_) (fun c32=>?_)
  ·
   refine Zg Z Z<|Zqm Z Z<|Zg Z Z<|qaJ Z Z Z<|Zg Z Z<|ZqT Z Z Z<|ZqF Z Z Z<|Zn<|?_
   refine qaa (MidB.mk (Lr D) Sb Z (decide_eq_decide.2 O))
  refine Wf Y4<|Wf Y4<|Zg Z Z<|ZqF Z Z Z<|ZqF Z Z Z<|Zn<|?_
  refine qaa (MidB.mk (Lr D) Sb Z ((decide_eq_false O).symm))
 intro s30 h30
 refine qab Z (fun c33=>?_) (fun c33=>?_)
 ·
  have hr17:=c33
  refine Sr<|Wb Y5<|Wt 2 [_,_,_,_,_,_,_,_,_,_] Y9<|Nt<|Zr<|Zqm Z Z<|Wb Y5<|Wt 2 [_,_,_,_,_,_,_,_,_,_] Y9<|Nt<|Sr<|qae (qad 2 [_,_,_,_,_,_,_,_,_,_] Z Z Z Z Z) Z<|Wt 0 [_,_,_,_,_,_,_,_,_,_] Y9<|Nt<|Zo<|?_
  refine rR [_,_,_] _ (.agg (us:=[_,_,_,_,_,_,_,_,_,_]) 0 Z Z Z Z Z (.nil)) Z (h1.t h2|>.t h3|>.t h4|>.t h5|>.t h6|>.t h10|>.t h14|>.t h30) fun _ hS2=>?_
  first
    | (have hb:bv (m.output++[UInt8.ofNat ((qba m op a.x).toNat % 256)])=bv m.output++[Value.int .u8 ((UInt8.ofNat ((qba m op a.x).toNat % 256)).toNat:Int)]:=by simp [bv]
       rw [qcw hr16 O]
       refine ⟨A1,K1,Ao1,co1,Z,⟨Ai,ni,ci,by simp [qaF],by simpa [hb] using o1,hI.le (h1.t h2|>.t h3|>.t h4|>.t h5|>.t h6|>.t h10|>.t h14|>.t h30|>.t hS2),hcc,hcc2⟩,?_⟩
       rcases hk1 with ⟨e1,a9,c9,e2,e3⟩ | e1
       · injection e2 with e4 e5 e6;injection e3 with e7 e8 e9
         exact .inl ⟨e1,e7.trans e4.symm,e9.trans e6.symm⟩
       · exact .inr e1)
    | (first
         | (rw [qd7 hk4];exact ⟨Oq9,[],Ao,co,rfl,⟨Ai,ni,ci,rfl,hO,hI.le (h1.t h2|>.t h3|>.t h4|>.t h5|>.t h6|>.t h10|>.t h14|>.t h30|>.t hS2),hcc,hcc2⟩,.inl ⟨rfl,rfl,rfl⟩⟩)
         | (rw [qc5 hk4 hk13];exact ⟨Oq9,[],Ao,co,rfl,⟨Ai,ni,ci,rfl,hO,hI.le (h1.t h2|>.t h3|>.t h4|>.t h5|>.t h6|>.t h10|>.t h14|>.t h30|>.t hS2),hcc,hcc2⟩,.inl ⟨rfl,rfl,rfl⟩⟩)
         | (rw [qc2 hk4 hk13 hk16];exact ⟨Oq9,[],Ao,co,rfl,⟨Ai,ni,ci,rfl,hO,hI.le (h1.t h2|>.t h3|>.t h4|>.t h5|>.t h6|>.t h10|>.t h14|>.t h30|>.t hS2),hcc,hcc2⟩,.inl ⟨rfl,rfl,rfl⟩⟩)
         | (rw [qcJ hr13 hlt];exact ⟨Oq9,[],Ao,co,rfl,⟨Ai,ni,ci,rfl,hO,hI.le (h1.t h2|>.t h3|>.t h4|>.t h5|>.t h6|>.t h10|>.t h14|>.t h30|>.t hS2),hcc,hcc2⟩,.inl ⟨rfl,rfl,rfl⟩⟩)
         | (rw [qcP hr14 hlt];exact ⟨Oq9,[],Ao,co,rfl,⟨Ai,ni,ci,by simp [qaF],hO,hI.le (h1.t h2|>.t h3|>.t h4|>.t h5|>.t h6|>.t h10|>.t h14|>.t h30|>.t hS2),by simp;exact hcc,hcc2⟩,.inl ⟨rfl,rfl,rfl⟩⟩)
         | (obtain ⟨r,hr⟩:=qbs hxi
            rw [qcN hr15 hr,← qbX m a.tgt 4294967295]
            rw [hr] at hI
            exact ⟨Oq9,[],Ao,co,rfl,⟨_,_,_,rfl,hO,(Bts.tail hI).le (h1.t h2|>.t h3|>.t h4|>.t h5|>.t h6|>.t h10|>.t h14|>.t h30|>.t hS2),hcc,hcc2⟩,.inl ⟨rfl,rfl,rfl⟩⟩)
         | (have hi0:m.input=[]:=List.eq_nil_of_length_eq_zero O
            rw [qch hr15 hi0];exact ⟨Oq9,[],Ao,co,rfl,⟨Ai,ni,ci,rfl,hO,hI.le (h1.t h2|>.t h3|>.t h4|>.t h5|>.t h6|>.t h10|>.t h14|>.t h30|>.t hS2),hcc,hcc2⟩,.inl ⟨rfl,rfl,rfl⟩⟩)
         | (rw [qc3 hr17];exact ⟨Oq9,[],Ao,co,rfl,⟨Ai,ni,ci,rfl,hO,hI.le (h1.t h2|>.t h3|>.t h4|>.t h5|>.t h6|>.t h10|>.t h14|>.t h30|>.t hS2),hcc,hcc2⟩,.inl ⟨rfl,rfl,rfl⟩⟩)
         | (rw [qc1 hk4 hr12];exact ⟨Oq9,[],Ao,co,rfl,⟨Ai,ni,ci,rfl,hO,hI.le (h1.t h2|>.t h3|>.t h4|>.t h5|>.t h6|>.t h10|>.t h14|>.t h30|>.t hS2),hcc,hcc2⟩,.inl ⟨rfl,rfl,rfl⟩⟩)
         | (rw [qeb hk4 hr13 hr14 hr15 hr16 hr17 hr12];exact ⟨Oq9,[],Ao,co,rfl,⟨Ai,ni,ci,rfl,hO,hI.le (h1.t h2|>.t h3|>.t h4|>.t h5|>.t h6|>.t h10|>.t h14|>.t h30|>.t hS2),hcc,hcc2⟩,.inl ⟨rfl,rfl,rfl⟩⟩))
 have hr17:=c33
 refine qbV 148 (a.kind≤12∨a.kind=19∧qba m op a.y=0) ?_ ?_
 ·
  refine Zr<|W0 Y5<|Wl 1 Y6<|qpt Z Z Z<|Zqm Z Z<|?_
  refine qam (t:=140) Z (fun c35=>?_) (fun c35=>?_)
  ·
   refine Wf Y4<|Wf Y4<|Wf Y4<|Wf Y4<|Zh Z Z Z<|Zh Z Z Z<|Wf Y4<|ZqT Z Z Z<|Zn<|?_
   refine qaa (MidB.mk (Lr D) Sb Z ((decide_eq_true O).symm))
  refine Zg Z Z<|W0 Y5<|Zg Z Z<|Wl 1 Y6<|Zg Z Z<|qaJ Z Z Z<|Zg Z Z<|Zqm Z Z<|?_
  refine qam (t:=144) Z (fun c36=>?_) (fun c36=>?_)
  ·
   refine Zg Z Z<|Zqm Z Z<|Zg Z Z<|qaJ Z Z Z<|Zg Z Z<|ZqT Z Z Z<|ZqF Z Z Z<|Zn<|?_
   refine qaa (MidB.mk (Lr D) Sb Z (decide_eq_decide.2 O))
  refine Wf Y4<|Wf Y4<|Zg Z Z<|ZqF Z Z Z<|ZqF Z Z Z<|Zn<|?_
  refine qaa (MidB.mk (Lr D) Sb Z ((decide_eq_false O).symm))
 intro s34 h34
 refine qab Z (fun c37=>?_) (fun c37=>?_)
 ·
  have hr12:=c37
  refine qaD qaf 10 Z [2] (by intro x hx;exact qan hx) ?_
  intro s38 h38
  refine za 0 Z (We Y4) Z<|za 1 Z (Wd 1 Y5) Z<|za 2 Z (qaw Z Z Z Z) Z<|za 3 Z (Wd 1 Y5) Z<|za 4 Z (qao Z) Z<|za 5 Z (qao Z) Z<|za 7 Z (We Y4) Z<|qah 6 V<|Jb Z Tt Z Z Z (qjr D _ _ _ _ _ hux huy (fun h h0=>hk4 ⟨h,h0⟩)) ?_
  rintro _ _ s39 h39 ⟨rfl,rfl⟩
  refine ⟨fun _ _ h=>h,?_⟩
  refine za 8 Z (qeV Z Z Z Z Z Z ha.tgt.1 (by have:=ha.tgt.2;omega)) Z<|qah 9 V<|qa9 Z Tt 2 _ Z Z Z Z Z (qgj ha.tgt _ _ _ _ _ _ _) Z (qgz _ ha.tgt _ _ _) Z (fun x hx=>hx)<|qac V<|Zt<|Sr<|qae (qad 2 [_,_,_,_,_,_,_,_,_,_] Z Z Z Z Z) Z<|Wt 0 [_,_,_,_,_,_,_,_,_,_] Y9<|Nt<|Zo<|?_
  refine rR [_,_,_] _ (.agg (us:=[_,_,_,_,_,_,_,_,_,_]) 0 Z Z Z Z Z (.nil)) Z (h1.t h2|>.t h3|>.t h4|>.t h5|>.t h6|>.t h10|>.t h14|>.t h30|>.t h34|>.t h38|>.t h39) fun _ hS2=>?_
  first
    | (have hb:bv (m.output++[UInt8.ofNat ((qba m op a.x).toNat % 256)])=bv m.output++[Value.int .u8 ((UInt8.ofNat ((qba m op a.x).toNat % 256)).toNat:Int)]:=by simp [bv]
       rw [qcw hr16 O]
       refine ⟨A1,K1,Ao1,co1,Z,⟨Ai,ni,ci,by simp [qaF],by simpa [hb] using o1,hI.le (h1.t h2|>.t h3|>.t h4|>.t h5|>.t h6|>.t h10|>.t h14|>.t h30|>.t h34|>.t h38|>.t h39|>.t hS2),hcc,hcc2⟩,?_⟩
       rcases hk1 with ⟨e1,a9,c9,e2,e3⟩ | e1
       · injection e2 with e4 e5 e6;injection e3 with e7 e8 e9
         exact .inl ⟨e1,e7.trans e4.symm,e9.trans e6.symm⟩
       · exact .inr e1)
    | (first
         | (rw [qd7 hk4];exact ⟨Oq9,[],Ao,co,rfl,⟨Ai,ni,ci,rfl,hO,hI.le (h1.t h2|>.t h3|>.t h4|>.t h5|>.t h6|>.t h10|>.t h14|>.t h30|>.t h34|>.t h38|>.t h39|>.t hS2),hcc,hcc2⟩,.inl ⟨rfl,rfl,rfl⟩⟩)
         | (rw [qc5 hk4 hk13];exact ⟨Oq9,[],Ao,co,rfl,⟨Ai,ni,ci,rfl,hO,hI.le (h1.t h2|>.t h3|>.t h4|>.t h5|>.t h6|>.t h10|>.t h14|>.t h30|>.t h34|>.t h38|>.t h39|>.t hS2),hcc,hcc2⟩,.inl ⟨rfl,rfl,rfl⟩⟩)
         | (rw [qc2 hk4 hk13 hk16];exact ⟨Oq9,[],Ao,co,rfl,⟨Ai,ni,ci,rfl,hO,hI.le (h1.t h2|>.t h3|>.t h4|>.t h5|>.t h6|>.t h10|>.t h14|>.t h30|>.t h34|>.t h38|>.t h39|>.t hS2),hcc,hcc2⟩,.inl ⟨rfl,rfl,rfl⟩⟩)
         | (rw [qcJ hr13 hlt];exact ⟨Oq9,[],Ao,co,rfl,⟨Ai,ni,ci,rfl,hO,hI.le (h1.t h2|>.t h3|>.t h4|>.t h5|>.t h6|>.t h10|>.t h14|>.t h30|>.t h34|>.t h38|>.t h39|>.t hS2),hcc,hcc2⟩,.inl ⟨rfl,rfl,rfl⟩⟩)
         | (rw [qcP hr14 hlt];exact ⟨Oq9,[],Ao,co,rfl,⟨Ai,ni,ci,by simp [qaF],hO,hI.le (h1.t h2|>.t h3|>.t h4|>.t h5|>.t h6|>.t h10|>.t h14|>.t h30|>.t h34|>.t h38|>.t h39|>.t hS2),by simp;exact hcc,hcc2⟩,.inl ⟨rfl,rfl,rfl⟩⟩)
         | (obtain ⟨r,hr⟩:=qbs hxi
            rw [qcN hr15 hr,← qbX m a.tgt 4294967295]
            rw [hr] at hI
            exact ⟨Oq9,[],Ao,co,rfl,⟨_,_,_,rfl,hO,(Bts.tail hI).le (h1.t h2|>.t h3|>.t h4|>.t h5|>.t h6|>.t h10|>.t h14|>.t h30|>.t h34|>.t h38|>.t h39|>.t hS2),hcc,hcc2⟩,.inl ⟨rfl,rfl,rfl⟩⟩)
         | (have hi0:m.input=[]:=List.eq_nil_of_length_eq_zero O
            rw [qch hr15 hi0];exact ⟨Oq9,[],Ao,co,rfl,⟨Ai,ni,ci,rfl,hO,hI.le (h1.t h2|>.t h3|>.t h4|>.t h5|>.t h6|>.t h10|>.t h14|>.t h30|>.t h34|>.t h38|>.t h39|>.t hS2),hcc,hcc2⟩,.inl ⟨rfl,rfl,rfl⟩⟩)
         | (rw [qc3 hr17];exact ⟨Oq9,[],Ao,co,rfl,⟨Ai,ni,ci,rfl,hO,hI.le (h1.t h2|>.t h3|>.t h4|>.t h5|>.t h6|>.t h10|>.t h14|>.t h30|>.t h34|>.t h38|>.t h39|>.t hS2),hcc,hcc2⟩,.inl ⟨rfl,rfl,rfl⟩⟩)
         | (rw [qc1 hk4 hr12];exact ⟨Oq9,[],Ao,co,rfl,⟨Ai,ni,ci,rfl,hO,hI.le (h1.t h2|>.t h3|>.t h4|>.t h5|>.t h6|>.t h10|>.t h14|>.t h30|>.t h34|>.t h38|>.t h39|>.t hS2),hcc,hcc2⟩,.inl ⟨rfl,rfl,rfl⟩⟩)
         | (rw [qeb hk4 hr13 hr14 hr15 hr16 hr17 hr12];exact ⟨Oq9,[],Ao,co,rfl,⟨Ai,ni,ci,rfl,hO,hI.le (h1.t h2|>.t h3|>.t h4|>.t h5|>.t h6|>.t h10|>.t h14|>.t h30|>.t h34|>.t h38|>.t h39|>.t hS2),hcc,hcc2⟩,.inl ⟨rfl,rfl,rfl⟩⟩))
 have hr12:=c37
 refine Zk<|Zt<|Sr<|qae (qad 2 [_,_,_,_,_,_,_,_,_,_] Z Z Z Z Z) Z<|Wt 0 [_,_,_,_,_,_,_,_,_,_] Y9<|Nt<|Zo<|?_
 refine rR [_,_,_] _ (.agg (us:=[_,_,_,_,_,_,_,_,_,_]) 0 Z Z Z Z Z (.nil)) Z (h1.t h2|>.t h3|>.t h4|>.t h5|>.t h6|>.t h10|>.t h14|>.t h30|>.t h34) fun _ hS2=>?_
 first
   | (have hb:bv (m.output++[UInt8.ofNat ((qba m op a.x).toNat % 256)])=bv m.output++[Value.int .u8 ((UInt8.ofNat ((qba m op a.x).toNat % 256)).toNat:Int)]:=by simp [bv]
      rw [qcw hr16 O]
      refine ⟨A1,K1,Ao1,co1,Z,⟨Ai,ni,ci,by simp [qaF],by simpa [hb] using o1,hI.le (h1.t h2|>.t h3|>.t h4|>.t h5|>.t h6|>.t h10|>.t h14|>.t h30|>.t h34|>.t hS2),hcc,hcc2⟩,?_⟩
      rcases hk1 with ⟨e1,a9,c9,e2,e3⟩ | e1
      · injection e2 with e4 e5 e6;injection e3 with e7 e8 e9
        exact .inl ⟨e1,e7.trans e4.symm,e9.trans e6.symm⟩
      · exact .inr e1)
   | (first
        | (rw [qd7 hk4];exact ⟨Oq9,[],Ao,co,rfl,⟨Ai,ni,ci,rfl,hO,hI.le (h1.t h2|>.t h3|>.t h4|>.t h5|>.t h6|>.t h10|>.t h14|>.t h30|>.t h34|>.t hS2),hcc,hcc2⟩,.inl ⟨rfl,rfl,rfl⟩⟩)
        | (rw [qc5 hk4 hk13];exact ⟨Oq9,[],Ao,co,rfl,⟨Ai,ni,ci,rfl,hO,hI.le (h1.t h2|>.t h3|>.t h4|>.t h5|>.t h6|>.t h10|>.t h14|>.t h30|>.t h34|>.t hS2),hcc,hcc2⟩,.inl ⟨rfl,rfl,rfl⟩⟩)
        | (rw [qc2 hk4 hk13 hk16];exact ⟨Oq9,[],Ao,co,rfl,⟨Ai,ni,ci,rfl,hO,hI.le (h1.t h2|>.t h3|>.t h4|>.t h5|>.t h6|>.t h10|>.t h14|>.t h30|>.t h34|>.t hS2),hcc,hcc2⟩,.inl ⟨rfl,rfl,rfl⟩⟩)
        | (rw [qcJ hr13 hlt];exact ⟨Oq9,[],Ao,co,rfl,⟨Ai,ni,ci,rfl,hO,hI.le (h1.t h2|>.t h3|>.t h4|>.t h5|>.t h6|>.t h10|>.t h14|>.t h30|>.t h34|>.t hS2),hcc,hcc2⟩,.inl ⟨rfl,rfl,rfl⟩⟩)
        | (rw [qcP hr14 hlt];exact ⟨Oq9,[],Ao,co,rfl,⟨Ai,ni,ci,by simp [qaF],hO,hI.le (h1.t h2|>.t h3|>.t h4|>.t h5|>.t h6|>.t h10|>.t h14|>.t h30|>.t h34|>.t hS2),by simp;exact hcc,hcc2⟩,.inl ⟨rfl,rfl,rfl⟩⟩)
        | (obtain ⟨r,hr⟩:=qbs hxi
           rw [qcN hr15 hr,← qbX m a.tgt 4294967295]
           rw [hr] at hI
           exact ⟨Oq9,[],Ao,co,rfl,⟨_,_,_,rfl,hO,(Bts.tail hI).le (h1.t h2|>.t h3|>.t h4|>.t h5|>.t h6|>.t h10|>.t h14|>.t h30|>.t h34|>.t hS2),hcc,hcc2⟩,.inl ⟨rfl,rfl,rfl⟩⟩)
        | (have hi0:m.input=[]:=List.eq_nil_of_length_eq_zero O
           rw [qch hr15 hi0];exact ⟨Oq9,[],Ao,co,rfl,⟨Ai,ni,ci,rfl,hO,hI.le (h1.t h2|>.t h3|>.t h4|>.t h5|>.t h6|>.t h10|>.t h14|>.t h30|>.t h34|>.t hS2),hcc,hcc2⟩,.inl ⟨rfl,rfl,rfl⟩⟩)
        | (rw [qc3 hr17];exact ⟨Oq9,[],Ao,co,rfl,⟨Ai,ni,ci,rfl,hO,hI.le (h1.t h2|>.t h3|>.t h4|>.t h5|>.t h6|>.t h10|>.t h14|>.t h30|>.t h34|>.t hS2),hcc,hcc2⟩,.inl ⟨rfl,rfl,rfl⟩⟩)
        | (rw [qc1 hk4 hr12];exact ⟨Oq9,[],Ao,co,rfl,⟨Ai,ni,ci,rfl,hO,hI.le (h1.t h2|>.t h3|>.t h4|>.t h5|>.t h6|>.t h10|>.t h14|>.t h30|>.t h34|>.t hS2),hcc,hcc2⟩,.inl ⟨rfl,rfl,rfl⟩⟩)
        | (rw [qeb hk4 hr13 hr14 hr15 hr16 hr17 hr12];exact ⟨Oq9,[],Ao,co,rfl,⟨Ai,ni,ci,rfl,hO,hI.le (h1.t h2|>.t h3|>.t h4|>.t h5|>.t h6|>.t h10|>.t h14|>.t h30|>.t h34|>.t hS2),hcc,hcc2⟩,.inl ⟨rfl,rfl,rfl⟩⟩))
theorem qjC(D:Nat)(L:Hl)(s:World)(m:Mst)(v:Value)(M:Hl)(hM:StO m v M s)(op:Int)(a:Ac)(hok:MOK m)(hop:U32 op)(ha:AcOK a):AC prog D 55 [v,.agg #[.int .i64 a.kind,.int .i64 a.tgt,.int .i64 a.x.kind,.int .u32 a.x.val,.int .i64 a.y.kind,.int .u32 a.y.val],.int .u32 op] (M++L) s fun v L' s'=>∃ M',L'=M'++L∧StO (qbj m a op) v M' s':=by
 obtain ⟨bc,cc,yc,Oq9,Ao,co,Ai,ni,ci,h1,rfl,h3,h4,h5,h6⟩:=hM
 refine AC.drop (qgy D L s m v bc cc yc Oq9 Ao co ⟨Ai,ni,ci,h1,h3,h4,h5,h6⟩ op a hok hop ha) ?_
 rintro w L' s' _ ⟨O',K,Ao',co',rfl,⟨Ai',ni',ci',k1,k3,k4,k5,k6⟩,_⟩
 exact ⟨(bc,_)::O',K,L,rfl,fun s2 hl _=>⟨(bc,_)::O',rfl,bc,cc,yc,O',Ao',co',Ai',ni',ci',k1,rfl,k3,k4.le hl,k5,k6⟩⟩
theorem StO.list{m:Mst}{zs:List Value}{M:Hl}{s:World}(h:StO m (.agg zs.toArray) M s):∃ bc cc yc Oq9 Ao co Ai ni ci,zs=[.slice (some ⟨bc,0,none⟩) m.cells.length cc,.int .u32 m.r0,.int .u32 m.r1,.int .u32 m.r2,.int .u32 m.r3,.int .u32 m.r4,.slice Ai ni ci,.slice Ao m.output.length co,.int .i64 m.stop,.int .u32 m.code]
 ∧ M=(bc,cb (wv m.cells++yc) 38)::Oq9∧FL.Own 5 1 Oq9 (.slice Ao m.output.length co) m.output.length (bv m.output)∧Bts s Ai ni ci m.input∧m.cells.length+yc.length=cc∧cc≤9223372036854775807:=by
 obtain ⟨bc,cc,yc,Oq9,Ao,co,Ai,ni,ci,h1,h2⟩:=h
 refine ⟨bc,cc,yc,Oq9,Ao,co,Ai,ni,ci,?_,h2⟩
 injection h1 with h1
 have:=congrArg Array.toList h1
 simpa using this
theorem StO.le{D:Nat}{m:Mst}{v:Value}{M:Hl}{s s':World}(h:StO m v M s)(hl:Le D s s'):StO m v M s':=by
 obtain ⟨bc,cc,yc,Oq9,Ao,co,Ai,ni,ci,h1,h2,h3,h4,h5⟩:=h
 exact ⟨bc,cc,yc,Oq9,Ao,co,Ai,ni,ci,h1,h2,h3,h4.le hl,h5⟩
theorem qe6{m mk:Mst}{t:Tab}{op:Int}{l:List Ac}{k:Nat}{a:Ac}(h:l[k]?=some a)(hs:qbl t m=qca mk op (l.drop k)) :
  ((qbj mk a op).stop=0→qbl t m=qca (qbj mk a op) op (l.drop (k+1)))∧(¬ (qbj mk a op).stop=0→qbl t m=qbj mk a op):=
 ⟨fun h0=>by rw [hs,qjo h h0],fun h0=>by rw [hs,qgs h h0]⟩
theorem qgH(D:Nat)(L:Hl)(s:World)(t:Tab)(A:Option Addr)(n c:Nat)(hA:Inss s A n c t.ins)(m:Mst)(v:Value)(M:Hl)(hM:StO m v M s)(hG:TabG t)(hok:MOK m)(hst:m.stop=0):AC Tryz.prog D 29 [.agg #[.int .i64 t.cells,.slice A n c],v] (M++L) s fun v L' s'=>∃ M',L'=M'++L∧StO (qbl t m) v M' s':=by
 obtain ⟨bc,cc,yc,Oq9,Ao,co,Ai,ni,ci,rfl,rfl,hO,hI,hcc,hcc2⟩:=hM
 have hr1:=hok.u4.1
 have hr2:=hok.u4.2
 have hnc:=hok.cells
 have hn:=hA.1
 have hc1:=hA.2.1
 have hc2:=hA.2.2.1
 simp only [List.cons_append]
 refine qai (fn:=Tryz.f29) qaG Tryz.func29 V Z Tryz.ntmps29 Z (rs:=[.cell 4 82]) Z [(0,_),(1,_)] Z<|Sr<|qaL Z Z ?_
 intro β1 s1 h1
 refine qaL Z Z ?_
 intro β2 s2 h2
 refine qag Z [_,_,_,_,_,_,_,_,_,_] Z Z ?_
 intro β3 s3 h3
 refine Nt<|Sr<|Wb Y5<|qae (qeA (sz:=1) 4 Z Z Z Z Z Z Dc) Z<|Wl 1 Y6<|qae (qaH Z Z Z Z Z (w64 O O)) Z<|At Z Z<|Zs<|Sr<|Zqm Z Z<|W0 Y5<|Wl 1 Y6<|Ws Y4<|qgW Z Z Z<|Nt ?_
 refine qab Z (fun c4=>?_) (fun c4=>?_)
 ·
  have hfar:¬ m.r4 < (m.cells.length:Int):=by omega
  refine Sr<|Wb Y5<|Wt 1 [_,_,_,_,_,_,_,_,_,_] Y9<|Nt<|Sr<|qae (qad 1 [_,_,_,_,_,_,_,_,_,_] Z Z Z Z Z) Z<|Wt 0 [_,_,_,_,_,_,_,_,_,_] Y9<|Nt<|Zo<|Zu<|?_
  refine rR [_,_,_] _ (.agg (us:=[_,_,_,_,_,_,_,_,_,_]) 0 Z Z Z Z Z (.nil)) Z (h1.t h2|>.t h3) fun _ hS2=>?_
  refine ⟨_::Oq9,Z,?_⟩
  rw [qjF hfar];exact ⟨bc,cc,yc,Oq9,Ao,co,Ai,ni,ci,rfl,rfl,hO,hI.le (h1.t h2|>.t h3|>.t hS2),hcc,hcc2⟩
 have hfar:m.r4 < (m.cells.length:Int):=by omega
 refine Zk<|Zt<|Sr<|At Z Z<|Zs<|Sr<|At Z Z<|Zp<|qaQ (γ:=Nat) (fun i=>[(2,_),(3,_),(4,_),(5,_),(6,_),(7,.int .i64 (i:Int))]) (fun _=>_) (fun i tw=>Le D s3 tw∧(i≤n∧∀ j x,j < i→t.ins[j]?=some x→x.code≠m.cells.getD m.r4.toNat 0)) (fun i=>n - i) (fun _ _ _ h hl=>⟨h.1.trans hl,h.2⟩) 0 (.c6 Z Z Z Z Z Z (.nil _)) Z ⟨Le.refl _,⟨Nat.zero_le _,fun j x hj=>by omega⟩⟩ ?_
 intro i s5 I5
 have hi0:=I5.2.1
 have hI0:=I5.2.2
 refine Zs<|Sr<|Zqm Z Z<|Wb Y5<|Wl 2 Y6<|Ws Y4<|qbY Z Z Z<|Nt<|?_
 refine qab Z (fun c6=>?_) (fun c6=>?_)
 ·
  have hk:i < n:=by omega
  obtain ⟨b,off,x,A',n',c',rfl,hx,hcx,hax,_,_⟩:=Inss.at_ (hA.le (h1.t h2|>.t h3|>.t I5.1)) hk
  have hn':=hax.1
  have hfew:=hG.few _ _ hx
  refine Zk<|Zt<|Zs<|Zp<|Zs<|qbH qaf 12 Z _ (fun _ h=>h) ?_
  intro s7 h7
  refine za 0 Z (We Y4) Z<|za 1 Z (Wd 2 Y5) Z<|za 2 Z (qao Z) Z<|za 3 Z (qbw Z Z Z Z Z Z hk) Z<|za 4 Z (qdh Z Z Z Z) Z<|za 5 Z (qcK 1 Z Z Z (hcx.le h7) Z) Z<|za 6 Z (qaw Z Z Z Z) Z<|za 7 Z (Wd 1 Y5) Z<|za 8 Z (qao Z) Z<|za 9 Z (qcb Z Z Z Z Z Z hr1 hfar) Z<|za 10 Z (qbL 3 Z Z Z Z (qcO hr1 hfar)) Z<|za 11 Z (qil Z Z) Z<|qac V<|Zt ?_
  refine qab Z (fun c8=>?_) (fun c8=>?_)
  ·
   have hxc:x.code=m.cells.getD m.r4.toNat 0:=c8
   have hfi:=qem hG hx hxc
   refine Sr<|Zqm Z Z<|At Z Z<|Zl<|Ze Z<|Zv<|Zv<|Zd<|Zt<|Zs<|Sr<|Zqm Z Z<|qbY Z Z Z<|Nt<|?_
   refine qab Z (fun c9=>?_) (fun c9=>?_)
   ·
    exfalso;omega --end
   refine Zk<|Zt<|Sr<|Wb Y5<|Wl 2 Y6<|Zqm Z Z<|qae (qbw Z Z Z Z Z Z hk) Z<|qae (qbG Z Z Z (hcx.le h7) Z) Z<|qag Z [_,_,_,_] Z Z ?_
   intro β10 s10 h10
   refine Wt 0 [_,_,_,_] Y9<|Nt<|Sr<|At Z Z<|Sr<|Zqm Z Z<|qaW Z Z Z (w64 O O)<|At Z Z<|Zs<|Sr<|Wb Y5<|Wl 0 Y6<|Nt<|?_
   refine qcW Z (fun c11=>?_) (fun c11=>?_)
   ·
    have hopd:=c11
    refine Zs<|Sr<|Zqm Z Z<|W0 Y5<|Wl 2 Y6<|Ws Y4<|qaJ Z Z Z<|Nt<|?_
    refine qab Z (fun c12=>?_) (fun c12=>?_)
    ·
     have hnext:¬ m.r4+1 < (m.cells.length:Int):=by omega
     refine Sr<|Wb Y5<|Wt 2 [_,_,_,_,_,_,_,_,_,_] Y9<|Nt<|Sr<|qae (qad 2 [_,_,_,_,_,_,_,_,_,_] Z Z Z Z Z) Z<|Wt 1 [_,_,_,_,_,_,_,_,_,_] Y9<|Nt<|Zo<|Zu<|Zu<|?_
     refine rR [_,_,_,_] _ (.agg (us:=[_,_,_,_,_,_,_,_,_,_]) 1 Z Z Z Z Z (.nil)) Z (h1.t h2|>.t h3|>.t I5.1|>.t h7|>.t h10) fun _ hS2=>?_
     refine ⟨_::Oq9,Z,?_⟩
     rw [qj4 hfar hfi hopd hnext];exact ⟨bc,cc,yc,Oq9,Ao,co,Ai,ni,ci,rfl,rfl,hO,hI.le (h1.t h2|>.t h3|>.t I5.1|>.t h7|>.t h10|>.t hS2),hcc,hcc2⟩
    have hnext:m.r4+1 < (m.cells.length:Int):=by omega
    refine Zk<|Zt<|Sr<|W0 Y5<|Wl 2 Y6<|Zqm Z Z<|qae (qcb Z Z Z Z Z Z O hnext) Z<|qae (qbL 4 Z Z Z Z (qcO O hnext)) Z<|At Z Z<|Zr<|Zqm Z Z<|qae (qby Z Z (show IntKind.i64.wrap (m.r4+1+1)=m.r4+2 by rw [w64 O O];omega)) Z<|At Z Z<|Sr<|Zqm Z Z<|qae (qaH Z Z Z Z Z (qcS O O)) Z<|Wb Y5<|qae (qeA (sz:=1) 4 Z Z Z Z Z Z Dc) Z<|Wt 2 [_,_,_,_,_,_,_,_,_,_] Y9 ?_
    refine Nt<|Zs<|Sr<|At Z Z<|Zp<|?_
    refine qdS [_,_] (γ:=Nat×Mst×Int×List Value×Hl) (fun g=>[(3,_),(4,_),(8,_),(9,.int .u32 g.2.2.1),(11,.int .i64 (g.1:Int))]) (fun g=>(β2,cb g.2.2.2.1 82)::(β1,cb [.int .i64 t.cells,.slice (some ⟨b,off,none⟩) n c] 24)::(g.2.2.2.2++L)) (fun g tw=>Le D s10 tw∧(g.1≤n'∧StO g.2.1 (.agg g.2.2.2.1.toArray) g.2.2.2.2 tw∧MOK g.2.1∧U32 g.2.2.1∧(g.2.1.stop=0→qbl t m=qca g.2.1 g.2.2.1 (x.acts.drop g.1))∧(¬ g.2.1.stop=0→qbl t m=g.2.1))) (fun g=>n' - g.1) (fun _ _ _ h hl=>⟨h.1.trans hl,by obtain ⟨_,k1,k2,k3⟩:=h;exact ⟨k1,k2.le hl,k3⟩⟩) (0,{ m with r4:=m.r4+2 },m.cells.getD (m.r4+1).toNat 0,[_,_,_,_,_,_,_,_,_,_],_::Oq9) (.c5 Z Z Z Z Z (.nil _)) Z ⟨Le.refl _,⟨Nat.zero_le _,⟨bc,cc,yc,Oq9,Ao,co,Ai,ni,ci,Z,Z,hO,hI.le (h1.t h2|>.t h3|>.t I5.1|>.t h7|>.t h10),hcc,hcc2⟩,qkF hok (by constructor <;> omega),by first | exact qaj | exact qdX hok.wide _,fun _=>by first | exact qhk hfar hfi hopd hnext | exact qhe hfar hfi hopd (fun a ha=>(hG.acts _ _ _ hx ha).2 hopd) _,fun h=>absurd hst h⟩⟩ ?_
    intro g s13 I13
    simp only [cQ9,nQ9]
    obtain ⟨k,mk,opk,zk,Mk⟩:=g
    obtain ⟨hk0,hSt1,hok1,hop1,hgo,hhalt⟩:=I13.2
    simp only at hk0 hSt1 hok1 hop1 hgo hhalt
    obtain ⟨bc1,cc1,yc1,O1,Ao1,co1,Ai1,ni1,ci1,hz1,hM1,hO1,hI1,hcc1,hcc21⟩:=StO.list hSt1
    subst hz1
    subst hM1
    simp only [List.cons_append]
    refine Zs<|Sr<|Zqm Z Z<|Wb Y5<|Wl 0 Y6<|Ws Y4<|qbY Z Z Z<|Zqm Z Z<|?_
    refine qam (t:=79) Z (fun c14=>?_) (fun c14=>?_)
    ·
     refine Zg Z Z<|Wb Y5<|Zg Z Z<|Wl 2 Y6<|Zg Z Z<|qaJ Z Z Z<|ZqT Z Z Z<|Nt<|?_
     refine qab Z (fun c15=>?_) (fun c15=>?_)
     ·
      have hs1:mk.stop=0:=c15
      have hk1:k < n':=by omega
      obtain ⟨b2,off2,a,rfl,ha,hca,hau⟩:=Acs.at_ (hax.le (h7.t h10|>.t I13.1)) hk1
      have hacOK:=hG.acts _ _ _ hx (List.mem_of_getElem? ha)
      refine Zk<|Zt<|Zs<|Zp<|qaT qaf 9 Z 2 ?_
      intro s16 h16
      refine za 1 Z (We Y4) Z<|za 2 Z (Wd 0 Y5) Z<|za 3 Z (qao Z) Z<|za 4 Z (qbw Z Z Z Z Z Z hk1) Z<|za 5 Z (qbG Z Z Z (hca.le h16) Z) Z<|za 6 Z (qao Z) Z<|qah 0 V<|qb1 Z Tt (qad 2 [_,_,_,_,_,_,_,_,_,_] Z Z Z Z Z) Z<|qah 7 V<|Jb Z Tt Z Z Z (AC.mid [_,_,_,_] (_::O1) L (qjC D _ _ mk _ _ ⟨bc1,cc1,yc1,O1,Ao1,co1,Ai1,ni1,ci1,Z,Z,hO1,hI1.le h16,hcc1,hcc21⟩ opk a hok1 hop1 hacOK.1)) ?_
      rintro _ _ s17 h17 ⟨M2,rfl,bc2,cc2,yc2,O2,Ao2,co2,Ai2,ni2,ci2,rfl,hM2,hO2,hI2,hcc22,hcc23⟩
      refine ⟨(fun x hx _=>qaK (qew (sb0 _)) hx),?_⟩
      have hSt2:StO (qbj mk a opk) _ M2 s17:=⟨bc2,cc2,yc2,O2,Ao2,co2,Ai2,ni2,ci2,rfl,hM2,hO2,hI2,hcc22,hcc23⟩
      simp only [cQ9,nQ9]
      refine qah 8 V<|Wu Z Tt 2 [_,_,_,_,_,_,_,_,_,_] Y9 (sM (qew (sb0 _)))<|qac V<|Zb<|Zt<|Zr<|Zqm Z Z<|qaW Z Z Z (w64 O O)<|Zqa Z Z<|Zn<|?_
      refine qaa ⟨(k+1,qbj mk a opk,opk,_,M2),[],kp,Z,⟨(I13.1.t h16|>.t h17),⟨by omega,hSt2.le (Lr D),qgu hok1 hacOK.1 hop1,hop1,(qe6 ha (hgo hs1)).1,(qe6 ha (hgo hs1)).2⟩⟩,Oz⟩
     have hfin:qbl t m=mk:=by
       by_cases h0:mk.stop=0
       · rw [hgo h0,qdM (by first | omega | exact absurd h0 c15)]
       · exact hhalt h0
     refine Zl<|Zv<|Zv<|Zd<|Zt<|Sr<|qae (qad 2 [_,_,_,_,_,_,_,_,_,_] Z Z Z Z Z) Z<|Wt 1 [_,_,_,_,_,_,_,_,_,_] Y9<|Nt<|Zo<|?_
     refine rR [_,_,_,_] _ (.agg (us:=[_,_,_,_,_,_,_,_,_,_]) 1 Z Z Z Z Z (.nil)) Z (h1.t h2|>.t h3|>.t I5.1|>.t h7|>.t h10|>.t I13.1) fun _ hS2=>?_
     refine ⟨_::O1,Z,?_⟩
     rw [hfin];exact ⟨bc1,cc1,yc1,O1,Ao1,co1,Ai1,ni1,ci1,rfl,rfl,hO1,hI1.le ((Lr D).t hS2),hcc1,hcc21⟩
    refine Wf Y4<|Wf Y4<|Wf Y4<|ZqF Z Z Z<|Nt<|Zz Z<|?_
    have hfin:qbl t m=mk:=by
      by_cases h0:mk.stop=0
      · rw [hgo h0,qdM (by first | omega | exact absurd h0 trivial)]
      · exact hhalt h0
    refine Zl<|Zv<|Zv<|Zd<|Zt<|Sr<|qae (qad 2 [_,_,_,_,_,_,_,_,_,_] Z Z Z Z Z) Z<|Wt 1 [_,_,_,_,_,_,_,_,_,_] Y9<|Nt<|Zo<|?_
    refine rR [_,_,_,_] _ (.agg (us:=[_,_,_,_,_,_,_,_,_,_]) 1 Z Z Z Z Z (.nil)) Z (h1.t h2|>.t h3|>.t I5.1|>.t h7|>.t h10|>.t I13.1) fun _ hS2=>?_
    refine ⟨_::O1,Z,?_⟩
    rw [hfin];exact ⟨bc1,cc1,yc1,O1,Ao1,co1,Ai1,ni1,ci1,rfl,rfl,hO1,hI1.le ((Lr D).t hS2),hcc1,hcc21⟩
   have hopd:=c11
   refine Zk<|Zt<|Sr<|Zqm Z Z<|qae (qaH Z Z Z Z Z (qcS O O)) Z<|Wb Y5<|qae (qeA (sz:=1) 4 Z Z Z Z Z Z Dc) Z<|Wt 2 [_,_,_,_,_,_,_,_,_,_] Y9<|Nt<|Zs<|Sr<|At Z Z<|Zp<|?_
   refine qdS [_,_] (γ:=Nat×Mst×Int×List Value×Hl) (fun g=>[(3,_),(4,_),(8,_),(9,.int .u32 g.2.2.1),(11,.int .i64 (g.1:Int))]) (fun g=>(β2,cb g.2.2.2.1 82)::(β1,cb [.int .i64 t.cells,.slice (some ⟨b,off,none⟩) n c] 24)::(g.2.2.2.2++L)) (fun g tw=>Le D s10 tw∧(g.1≤n'∧StO g.2.1 (.agg g.2.2.2.1.toArray) g.2.2.2.2 tw∧MOK g.2.1∧U32 g.2.2.1∧(g.2.1.stop=0→qbl t m=qca g.2.1 g.2.2.1 (x.acts.drop g.1))∧(¬ g.2.1.stop=0→qbl t m=g.2.1))) (fun g=>n' - g.1) (fun _ _ _ h hl=>⟨h.1.trans hl,by obtain ⟨_,k1,k2,k3⟩:=h;exact ⟨k1,k2.le hl,k3⟩⟩) (0,{ m with r4:=m.r4+1 },0,[_,_,_,_,_,_,_,_,_,_],_::Oq9) (.c5 Z Z Z Z Z (.nil _)) Z ⟨Le.refl _,⟨Nat.zero_le _,⟨bc,cc,yc,Oq9,Ao,co,Ai,ni,ci,Z,Z,hO,hI.le (h1.t h2|>.t h3|>.t I5.1|>.t h7|>.t h10),hcc,hcc2⟩,qkF hok (by constructor <;> omega),by first | exact qaj | exact qdX hok.wide _,fun _=>by first | exact qhk hfar hfi hopd hnext | exact qhe hfar hfi hopd (fun a ha=>(hG.acts _ _ _ hx ha).2 hopd) _,fun h=>absurd hst h⟩⟩ ?_
   intro g s18 I18
   simp only [cQ9,nQ9]
   obtain ⟨k,mk,opk,zk,Mk⟩:=g
   obtain ⟨hk0,hSt1,hok1,hop1,hgo,hhalt⟩:=I18.2
   simp only at hk0 hSt1 hok1 hop1 hgo hhalt
   obtain ⟨bc1,cc1,yc1,O1,Ao1,co1,Ai1,ni1,ci1,hz1,hM1,hO1,hI1,hcc1,hcc21⟩:=StO.list hSt1
   subst hz1
   subst hM1
   simp only [List.cons_append]
   refine Zs<|Sr<|Zqm Z Z<|Wb Y5<|Wl 0 Y6<|Ws Y4<|qbY Z Z Z<|Zqm Z Z<|?_
   refine qam (t:=79) Z (fun c19=>?_) (fun c19=>?_)
   ·
    refine Zg Z Z<|Wb Y5<|Zg Z Z<|Wl 2 Y6<|Zg Z Z<|qaJ Z Z Z<|ZqT Z Z Z<|Nt<|?_
    refine qab Z (fun c20=>?_) (fun c20=>?_)
    ·
     have hs1:mk.stop=0:=c20
     have hk1:k < n':=by omega
     obtain ⟨b2,off2,a,rfl,ha,hca,hau⟩:=Acs.at_ (hax.le (h7.t h10|>.t I18.1)) hk1
     have hacOK:=hG.acts _ _ _ hx (List.mem_of_getElem? ha)
     refine Zk<|Zt<|Zs<|Zp<|qaT qaf 9 Z 2 ?_
     intro s21 h21
     refine za 1 Z (We Y4) Z<|za 2 Z (Wd 0 Y5) Z<|za 3 Z (qao Z) Z<|za 4 Z (qbw Z Z Z Z Z Z hk1) Z<|za 5 Z (qbG Z Z Z (hca.le h21) Z) Z<|za 6 Z (qao Z) Z<|qah 0 V<|qb1 Z Tt (qad 2 [_,_,_,_,_,_,_,_,_,_] Z Z Z Z Z) Z<|qah 7 V<|Jb Z Tt Z Z Z (AC.mid [_,_,_,_] (_::O1) L (qjC D _ _ mk _ _ ⟨bc1,cc1,yc1,O1,Ao1,co1,Ai1,ni1,ci1,Z,Z,hO1,hI1.le h21,hcc1,hcc21⟩ opk a hok1 hop1 hacOK.1)) ?_
     rintro _ _ s22 h22 ⟨M2,rfl,bc2,cc2,yc2,O2,Ao2,co2,Ai2,ni2,ci2,rfl,hM2,hO2,hI2,hcc22,hcc23⟩
     refine ⟨(fun x hx _=>qaK (qew (sb0 _)) hx),?_⟩
     have hSt2:StO (qbj mk a opk) _ M2 s22:=⟨bc2,cc2,yc2,O2,Ao2,co2,Ai2,ni2,ci2,rfl,hM2,hO2,hI2,hcc22,hcc23⟩
     simp only [cQ9,nQ9]
     refine qah 8 V<|Wu Z Tt 2 [_,_,_,_,_,_,_,_,_,_] Y9 (sM (qew (sb0 _)))<|qac V<|Zb<|Zt<|Zr<|Zqm Z Z<|qaW Z Z Z (w64 O O)<|Zqa Z Z<|Zn<|?_
     refine qaa ⟨(k+1,qbj mk a opk,opk,_,M2),[],kp,Z,⟨(I18.1.t h21|>.t h22),⟨by omega,hSt2.le (Lr D),qgu hok1 hacOK.1 hop1,hop1,(qe6 ha (hgo hs1)).1,(qe6 ha (hgo hs1)).2⟩⟩,Oz⟩
    have hfin:qbl t m=mk:=by
      by_cases h0:mk.stop=0
      · rw [hgo h0,qdM (by first | omega | exact absurd h0 c20)]
      · exact hhalt h0
    refine Zl<|Zv<|Zv<|Zd<|Zt<|Sr<|qae (qad 2 [_,_,_,_,_,_,_,_,_,_] Z Z Z Z Z) Z<|Wt 1 [_,_,_,_,_,_,_,_,_,_] Y9<|Nt<|Zo<|?_
    refine rR [_,_,_,_] _ (.agg (us:=[_,_,_,_,_,_,_,_,_,_]) 1 Z Z Z Z Z (.nil)) Z (h1.t h2|>.t h3|>.t I5.1|>.t h7|>.t h10|>.t I18.1) fun _ hS2=>?_
    refine ⟨_::O1,Z,?_⟩
    rw [hfin];exact ⟨bc1,cc1,yc1,O1,Ao1,co1,Ai1,ni1,ci1,rfl,rfl,hO1,hI1.le ((Lr D).t hS2),hcc1,hcc21⟩
   refine Wf Y4<|Wf Y4<|Wf Y4<|ZqF Z Z Z<|Nt<|Zz Z<|?_
   have hfin:qbl t m=mk:=by
     by_cases h0:mk.stop=0
     · rw [hgo h0,qdM (by first | omega | exact absurd h0 trivial)]
     · exact hhalt h0
   refine Zl<|Zv<|Zv<|Zd<|Zt<|Sr<|qae (qad 2 [_,_,_,_,_,_,_,_,_,_] Z Z Z Z Z) Z<|Wt 1 [_,_,_,_,_,_,_,_,_,_] Y9<|Nt<|Zo<|?_
   refine rR [_,_,_,_] _ (.agg (us:=[_,_,_,_,_,_,_,_,_,_]) 1 Z Z Z Z Z (.nil)) Z (h1.t h2|>.t h3|>.t I5.1|>.t h7|>.t h10|>.t I18.1) fun _ hS2=>?_
   refine ⟨_::O1,Z,?_⟩
   rw [hfin];exact ⟨bc1,cc1,yc1,O1,Ao1,co1,Ai1,ni1,ci1,rfl,rfl,hO1,hI1.le ((Lr D).t hS2),hcc1,hcc21⟩
  have hxc:=c8
  refine Zk<|Zb<|Zt<|Zr<|Zqm Z Z<|qaW Z Z Z (w64 O O)<|Zqa Z Z<|Zn<|?_
  refine qaa ⟨(i+1),[],kp,Z,⟨(I5.1.t h7),⟨by omega,qaS hI0 hx hxc⟩⟩,O⟩
 have hfi:qbZ t.ins (m.cells.getD m.r4.toNat 0)=none:=qgL (fun j x hj hx=>hI0 j x O hx)
 refine Zl<|Zv<|Zv<|Zd<|Zt<|Zs<|Sr<|Zqm Z Z<|qbY Z Z Z<|Nt<|?_
 refine qab Z (fun c23=>?_) (fun c23=>?_)
 ·
  refine Sr<|Wb Y5<|Wt 1 [_,_,_,_,_,_,_,_,_,_] Y9<|Nt<|Sr<|qae (qad 1 [_,_,_,_,_,_,_,_,_,_] Z Z Z Z Z) Z<|Wt 0 [_,_,_,_,_,_,_,_,_,_] Y9<|Nt<|Zo<|Zu<|?_
  refine rR [_,_,_] _ (.agg (us:=[_,_,_,_,_,_,_,_,_,_]) 0 Z Z Z Z Z (.nil)) Z (h1.t h2|>.t h3|>.t I5.1) fun _ hS2=>?_
  refine ⟨_::Oq9,Z,?_⟩
  rw [qkb hfar hfi];exact ⟨bc,cc,yc,Oq9,Ao,co,Ai,ni,ci,rfl,rfl,hO,hI.le (h1.t h2|>.t h3|>.t I5.1|>.t hS2),hcc,hcc2⟩
 exfalso;omega --end
def qaU(t:Tab)(l:List Int)(i:List UInt8):Mst:=⟨l++List.replicate (t.cells.toNat - l.length) 0,0,0,0,0,0,i,[],0,0⟩
def qb7(t:Tab)(l:List Int)(i:List UInt8):Mst×Int×Int:=if (qaM t l i).1≠0 then (qgt,(qaM t l i).1,(qaM t l i).2) else (qaU t l i,0,0)
theorem qdL{s:World}{bc N:Nat}{l:List Int}(hp:CellsAt s bc 0 (wv l++(List.replicate N (Value.int .u32 0)).drop l.length))(hu:∀ x∈l,U32 x)(h:l.length≤N)(hN:N≤65536):Wds s (some ⟨bc,0,none⟩) N N (l++List.replicate (N - l.length) 0):=by
 have e:wv l++(List.replicate N (Value.int .u32 0)).drop l.length=wv (l++List.replicate (N - l.length) 0)++[]:=by simp [wv]
 rw [e] at hp
 have hl:(l++List.replicate (N - l.length) 0).length=N:=by simp;omega
 have:=qgd (cc:=N) hp (fun x hx=>by
  rcases List.mem_append.1 hx with h1 | h1
  · exact hu x h1
  · obtain ⟨_,rfl⟩:=List.mem_replicate.1 h1;exact qaj) (by rw [hl];simp) O
 rwa [hl] at this
theorem ql2{t:Tab}{l:List Int}{i:List UInt8}(h:(qak t).1≠0):qb7 t l i=(qgt,(qak t).1,(qak t).2):=by simp [qb7,qaM,h]
theorem qko{t:Tab}{l:List Int}{i:List UInt8}(h:(qak t).1=0)(h1:t.cells < (l.length:Int)):qb7 t l i=(qgt,3,-2):=by simp [qb7,qaM,h,h1]
theorem qoS{t:Tab}{l:List Int}{i:List UInt8}(h:(qak t).1=0)(h1:¬ t.cells < (l.length:Int))(h2:400000 < i.length):qb7 t l i=(qgt,3,-3):=by simp [qb7,qaM,h,h1,h2]
theorem qev{t:Tab}{l:List Int}{i:List UInt8}(h:(qak t).1=0)(h1:¬ t.cells < (l.length:Int))(h2:¬ 400000 < i.length):qb7 t l i=(qaU t l i,0,0):=by simp [qb7,qaM,h,h1,h2]
theorem qpJ{t:Tab}{l:List Int}{i:List UInt8}(h:(qaM t l i).1≠0):qb7 t l i=(qgt,(qaM t l i).1,(qaM t l i).2):=by simp [qb7,h]
theorem qta{t:Tab}{l:List Int}{i:List UInt8}(h:(qaM t l i).1=0):qb7 t l i=(qaU t l i,0,0):=by simp [qb7,h]
theorem qqm{t:Tab}{l:List Int}{i:List UInt8}(h:(qaM t l i).1=0):(qak t).1=0∧(l.length:Int)≤t.cells∧i.length≤400000:=by
 unfold qaM at h
 split at h
 · contradiction
 split at h
 · exact absurd h Dc
 split at h
 · exact absurd h Dc
 rename_i h1 h2 h3
 exact ⟨by simpa using h1,by omega,by omega⟩
theorem qdE{t:Tab}{l:List Int}{i:List UInt8}(hG:TabG t)(hl:(l.length:Int)≤t.cells)(hi:i.length≤400000)(hu:∀ x∈l,U32 x):MOK (qaU t l i)∧SOK (qaU t l i)∧((qaU t l i).cells.length:Int)=t.cells:=by
 have:=hG.cells
 have hlen:(qaU t l i).cells.length=t.cells.toNat:=by simp [qaU];omega
 refine ⟨⟨by omega,fun x hx=>?_,qaj,qaj,qaj,qaj,qaj,by simp [qaU],hi,qaj⟩,⟨⟨by simp [qaU],by simp [qaU]⟩,fun h=>absurd Z h⟩,by omega⟩
 rcases List.mem_append.1 hx with h1 | h1
 · exact hu x h1
 · obtain ⟨_,rfl⟩:=List.mem_replicate.1 h1;exact qaj
theorem qtF(t:Tab)(l:List Int)(i:List UInt8):MU (qb7 t l i).1:=by
 unfold qb7
 split
 · exact qtU
 · constructor <;> exact qaj
theorem qlo(D:Nat)(L:Hl)(s:World)(t:Tab)(A:Option Addr)(n c:Nat)(hA:Inss s A n c t.ins)(A1:Option Addr)(n1 c1:Nat)(l:List Int)(hIm:Wds s A1 n1 c1 l)(A2:Option Addr)(n2 c2:Nat)(i:List UInt8)(hIn:Bts s A2 n2 c2 i):AC prog D 32 [.agg #[.int .i64 t.cells,.slice A n c],.slice A1 n1 c1,.slice A2 n2 c2] L s fun v L' s'=>∃ M',L'=M'++L∧∀ s2,Le D s' s2→Pub M' s2→∃ vs,StW s2 (qb7 t l i).1 vs∧v=.tuple #[vs,.agg #[.int .i64 (qb7 t l i).2.1,.int .i64 (qb7 t l i).2.2]]:=by
 obtain rfl:=hIm.1
 have hn2:=hIn.1
 have hF:=qeX t
 have hu:=hIm.u32
 refine qai (fn:=f32) qaG func32 V Z ntmps32 Z (rs:=[.cell 6 82,.cell 7 29]) Z [(0,_),(1,_),(2,_)] Z<|Sr<|qaL Z Z ?_
 intro β1 s1 h1
 refine qag Z [_,_,_,_,_,_,_,_,_,_] Z Z ?_
 intro β2 s2 h2
 refine qag Z [_,_] Z Z ?_
 intro β3 s3 h3
 refine Nt<|Zs<|Sr<|qae (qad 2 [_,_] Z Z Z Z Z) Z<|Jc Z Z Z (qdd D _ _ _ _ _ _ (hA.le (h1.t h2|>.t h3))) ?_
 rintro _ _ s4 h4 ⟨rfl,rfl⟩
 refine qag Z [_,_] Z Z ?_
 intro β5 s5 h5
 refine Wt 0 [_,_] Y9<|Nt<|Sr<|qae (qad 0 [_,_] Z Z Z Z Z) Z<|qae (qal [] [_,_] Z Z Z Z Z Z) Z<|qae (qef Z Z (qdD _ _ _ _)) Z<|Nt<|?_
 refine qbc Z (fun c6=>?_) (fun c6=>?_)
 ·
  have hbad:(qak t).1≠0:=fun h=>c6 ⟨h,hF h⟩
  refine Zs<|qaD qaf 4 Z [2,1] (by intro x hx;exact qan hx) ?_
  intro s7 h7
  refine za 0 Z (qal [] [_,_,_,_,_,_,_,_,_,_] Z Z Z Z Z Z) Z<|za 1 Z (qad 0 [_,_] Z Z Z Z Z) Z<|qah 2 V<|Wu Z Tt 2 [_,_,_,_,_,_,_,_,_,_] Y9 (sM (sbY (sbN (sbY (sbE _)))))<|qah 3 V<|Wu Z Tt 1 [_,_] Y9 (sM (sbY (sbN (sbY (sbE _)))))<|qac V<|Zt<|Zo<|Zu<|?_
  refine rR [] _ (.agg (us:=[_,_,_,_,_,_,_,_,_,_]) 2 Z Z Z Z Z (.agg (us:=[_,_]) 1 Z Z Z Z Z (.nil))) Z (h1.t h2|>.t h3|>.t h4|>.t h5|>.t h7) fun _ hS2=>?_
  refine ⟨[_,_,_,_],Z,fun s2 hs2 hp=>?_⟩
  rw [ql2 hbad];exact ⟨_,StW.zero _,rfl⟩
 have hst0:(qak t).1=0:=c6.1
 have hG:=qoc hA hst0
 have hcl:=hG.cells
 obtain ⟨N,hN⟩:=Int.eq_ofNat_of_zero_le (show 0≤t.cells by omega)
 refine Zk<|Zt<|Zs<|Sr<|Zqm Z Z<|Ws Y4<|W0 Y5<|Wl 3 Y6<|qdP Z Z Z<|Nt<|?_
 refine qab Z (fun c8=>?_) (fun c8=>?_)
 ·
  have hlong:t.cells < (l.length:Int):=c8
  refine Sr<|qae (qal [] [_,_,_,_,_,_,_,_,_,_] Z Z Z Z Z Z) Z<|Jc Z Z Z (qbk D _ _ _ _) ?_
  rintro _ _ s9 h9 ⟨rfl,rfl⟩
  refine Wt 2 [_,_,_,_,_,_,_,_,_,_] Y9<|Wt 1 [_,_] Y9<|Nt<|Zo<|Zu<|?_
  refine rR [] _ (.agg (us:=[_,_,_,_,_,_,_,_,_,_]) 2 Z Z Z Z Z (.agg (us:=[_,_]) 1 Z Z Z Z Z (.nil))) Z (h1.t h2|>.t h3|>.t h4|>.t h5|>.t h9) fun _ hS2=>?_
  refine ⟨[_,_,_,_],Z,fun s2 hs2 hp=>?_⟩
  rw [qko hst0 hlong];exact ⟨_,StW.zero _,rfl⟩
 have hlong:¬ t.cells < (l.length:Int):=c8
 refine Zk<|Zt<|Zs<|Sr<|Zqm Z Z<|Ws Y4<|qdP Z Z Z<|Nt<|?_
 refine qab Z (fun c10=>?_) (fun c10=>?_)
 ·
  have hin:400000 < i.length:=by omega
  refine Sr<|qae (qal [] [_,_,_,_,_,_,_,_,_,_] Z Z Z Z Z Z) Z<|Jc Z Z Z (qbk D _ _ _ _) ?_
  rintro _ _ s11 h11 ⟨rfl,rfl⟩
  refine Wt 2 [_,_,_,_,_,_,_,_,_,_] Y9<|Wt 1 [_,_] Y9<|Nt<|Zo<|Zu<|?_
  refine rR [] _ (.agg (us:=[_,_,_,_,_,_,_,_,_,_]) 2 Z Z Z Z Z (.agg (us:=[_,_]) 1 Z Z Z Z Z (.nil))) Z (h1.t h2|>.t h3|>.t h4|>.t h5|>.t h11) fun _ hS2=>?_
  refine ⟨[_,_,_,_],Z,fun s2 hs2 hp=>?_⟩
  rw [qoS hst0 hlong hin];exact ⟨_,StW.zero _,rfl⟩
 have hin:¬ 400000 < i.length:=by omega
 refine Zk<|Zt<|Zs<|qbH qaf 8 Z _ (fun _ h=>h) ?_
 intro s12 h12
 refine za 0 Z (qaw Z Z Z Z) Z<|za 1 Z (qav (Wd 3 Y5) (congrArg (Value.int .i64) hN)) Z<|za 3 Z (qao Z) Z ?_
 refine qsl 2 4 6 V ?_ ?_ ?_
 ·
  refine qlk Z Tt Z Z Z Z Z (by simp [ti38];omega) O Z ?_
  intro bc s13 h13
  refine qcg 4 6 V ?_ ?_
  ·
   refine Jb Z Tt Z Z Z (AC.pub (qaB D _ _ _ _ _ _ (hIn.le (h1.t h2|>.t h3|>.t h4|>.t h5|>.t h12|>.t h13)) O)) ?_
   rintro _ _ s14 h14 ⟨rfl,Mi,swi,⟨Ai1,ci1,rfl,_,_,hOi⟩,hswi,hcwi⟩
   refine ⟨fun _ _ h=>h,?_⟩
   have hBi:=Own.bts hOi hcwi
   refine za 5 Z (qal [(_,_),(_,_)] [_,_,_,_,_,_,_,_,_,_] Z Z Z Z Z Z) Z<|qah 6 V<|qaY Z Tt Z [_,_,_,_,_,_,_,_,_,_] Z Z ?_
   intro β15 s15 h15
   refine qah 7 V<|Wu Z Tt 0 [_,_,_,_,_,_,_,_,_,_] Y9 (sM (sbN (qaI (sbE _))))<|qac V<|Zt<|Sr<|W0 Y5<|Wl 0 Y6<|Zqm Z Z<|qfA 1 Z Z Z Z Z Z Z (hIm.row.le (h1.t h2|>.t h3|>.t h4|>.t h5|>.t h12|>.t h13|>.t h14|>.t h15)) O (by simp) Z Z<|Nt<|Sr<|qae (qad 0 [_,_,_,_,_,_,_,_,_,_] Z Z Z Z Z) Z<|qae (qal [] [_,_] Z Z Z Z Z Z) Z<|Wt 4 [_,_,_,_,_,_,_,_,_,_] Y9<|Wt 3 [_,_] Y9 ?_
   refine Nt<|Zo<|?_
   refine rR [] _ (.agg (us:=[_,_,_,_,_,_,_,_,_,_]) 4 Z Z Z Z Z (.agg (us:=[_,_]) 3 Z Z Z Z Z (.nil))) Z (h1.t h2|>.t h3|>.t h4|>.t h5|>.t h12|>.t h13|>.t h14|>.t h15) fun _ hS2=>?_
   refine ⟨[_,_,_,_,_,_],Z,fun s2 hs2 hp=>?_⟩
   rw [qev hst0 hlong hin]
   have hw:=qdL (hp bc (wv l++(List.replicate N (Value.int .u32 0)).drop l.length) 38 (by simp)) hu O O
   have hNN:t.cells.toNat=N:=by omega
   rw [← hNN] at hw
   exact ⟨_,⟨_,_,_,_,_,_,_,_,_,by rw [← hNN];rfl,hw,hBi.le (h15.t (hS2.t hs2)),Bts.nil _ none 0 O⟩,rfl⟩
  refine qaY Z Tt Z [_,_,_,_,_,_,_,_,_,_] Z Z ?_
  intro β17 s17 h17
  refine qah 4 V<|Jb Z Tt Z Z Z (AC.pub (qaB D _ _ _ _ _ _ (hIn.le (h1.t h2|>.t h3|>.t h4|>.t h5|>.t h12|>.t h13|>.t h17)) O)) ?_
  rintro _ _ s18 h18 ⟨rfl,Mi,swi,⟨Ai1,ci1,rfl,_,_,hOi⟩,hswi,hcwi⟩
  refine ⟨fun _ _ h=>h,?_⟩
  have hBi:=Own.bts hOi hcwi
  refine za 5 Z (qal [(_,_),(_,_)] [_,_,_,_,_,_,_,_,_,_] Z Z Z Z Z Z) Z<|qah 7 V<|Wu Z Tt 0 [_,_,_,_,_,_,_,_,_,_] Y9 (sM (sbN (qaI (sbE _))))<|qac V<|Zt<|Sr<|W0 Y5<|Wl 0 Y6<|Zqm Z Z<|qfA 1 Z Z Z Z Z Z Z (hIm.row.le (h1.t h2|>.t h3|>.t h4|>.t h5|>.t h12|>.t h13|>.t h17|>.t h18)) O (by simp) Z Z<|Nt<|Sr<|qae (qad 0 [_,_,_,_,_,_,_,_,_,_] Z Z Z Z Z) Z<|qae (qal [] [_,_] Z Z Z Z Z Z) Z ?_
  refine Wt 4 [_,_,_,_,_,_,_,_,_,_] Y9<|Wt 3 [_,_] Y9<|Nt<|Zo<|?_
  refine rR [] _ (.agg (us:=[_,_,_,_,_,_,_,_,_,_]) 4 Z Z Z Z Z (.agg (us:=[_,_]) 3 Z Z Z Z Z (.nil))) Z (h1.t h2|>.t h3|>.t h4|>.t h5|>.t h12|>.t h13|>.t h17|>.t h18) fun _ hS2=>?_
  refine ⟨[_,_,_,_,_,_],Z,fun s2 hs2 hp=>?_⟩
  rw [qev hst0 hlong hin]
  have hw:=qdL (hp bc (wv l++(List.replicate N (Value.int .u32 0)).drop l.length) 38 (by simp)) hu O O
  have hNN:t.cells.toNat=N:=by omega
  rw [← hNN] at hw
  exact ⟨_,⟨_,_,_,_,_,_,_,_,_,by rw [← hNN];rfl,hw,hBi.le ((Lr D).t (hS2.t hs2)),Bts.nil _ none 0 O⟩,rfl⟩
 ·
  refine Jb Z Tt Z Z Z (AC.pub (qaB D _ _ _ _ _ _ (hIn.le (h1.t h2|>.t h3|>.t h4|>.t h5|>.t h12)) O)) ?_
  rintro _ _ s20 h20 ⟨rfl,Mi,swi,⟨Ai1,ci1,rfl,_,_,hOi⟩,hswi,hcwi⟩
  refine ⟨fun _ _ h=>h,?_⟩
  have hBi:=Own.bts hOi hcwi
  refine qcg 2 6 V ?_ ?_
  ·
   refine qlk Z Tt Z Z Z Z Z (by simp [ti38];omega) O Z ?_
   intro bc s21 h21
   refine za 5 Z (qal [(_,_),(_,_)] [_,_,_,_,_,_,_,_,_,_] Z Z Z Z Z Z) Z<|qah 6 V<|qaY Z Tt Z [_,_,_,_,_,_,_,_,_,_] Z Z ?_
   intro β22 s22 h22
   refine qah 7 V<|Wu Z Tt 0 [_,_,_,_,_,_,_,_,_,_] Y9 (sM (sbN (qaI (sbE _))))<|qac V<|Zt<|Sr<|W0 Y5<|Wl 0 Y6<|Zqm Z Z<|qfA 1 Z Z Z Z Z Z Z (hIm.row.le (h1.t h2|>.t h3|>.t h4|>.t h5|>.t h12|>.t h20|>.t h21|>.t h22)) O (by simp) Z Z<|Nt<|Sr<|qae (qad 0 [_,_,_,_,_,_,_,_,_,_] Z Z Z Z Z) Z<|qae (qal [] [_,_] Z Z Z Z Z Z) Z<|Wt 4 [_,_,_,_,_,_,_,_,_,_] Y9<|Wt 3 [_,_] Y9 ?_
   refine Nt<|Zo<|?_
   refine rR [] _ (.agg (us:=[_,_,_,_,_,_,_,_,_,_]) 4 Z Z Z Z Z (.agg (us:=[_,_]) 3 Z Z Z Z Z (.nil))) Z (h1.t h2|>.t h3|>.t h4|>.t h5|>.t h12|>.t h20|>.t h21|>.t h22) fun _ hS2=>?_
   refine ⟨[_,_,_,_,_,_],Z,fun s2 hs2 hp=>?_⟩
   rw [qev hst0 hlong hin]
   have hw:=qdL (hp bc (wv l++(List.replicate N (Value.int .u32 0)).drop l.length) 38 (by simp)) hu O O
   have hNN:t.cells.toNat=N:=by omega
   rw [← hNN] at hw
   exact ⟨_,⟨_,_,_,_,_,_,_,_,_,by rw [← hNN];rfl,hw,hBi.le (h21.t h22|>.t (hS2.t hs2)),Bts.nil _ none 0 O⟩,rfl⟩
  refine qaY Z Tt Z [_,_,_,_,_,_,_,_,_,_] Z Z ?_
  intro β24 s24 h24
  refine qah 2 V<|qlk Z Tt Z Z Z Z Z (by simp [ti38];omega) O Z ?_
  intro bc s25 h25
  refine za 5 Z (qal [(_,_),(_,_)] [_,_,_,_,_,_,_,_,_,_] Z Z Z Z Z Z) Z<|qah 7 V<|Wu Z Tt 1 [_,_,_,_,_,_,_,_,_,_] Y9 (sM (sbN (qaI (sbE _))))<|qac V<|Zt<|Sr<|W0 Y5<|Wl 1 Y6<|Zqm Z Z<|qfA 0 Z Z Z Z Z Z Z (hIm.row.le (h1.t h2|>.t h3|>.t h4|>.t h5|>.t h12|>.t h20|>.t h24|>.t h25)) O (by simp) Z Z<|Nt<|Sr<|qae (qad 1 [_,_,_,_,_,_,_,_,_,_] Z Z Z Z Z) Z<|qae (qal [] [_,_] Z Z Z Z Z Z) Z ?_
  refine Wt 4 [_,_,_,_,_,_,_,_,_,_] Y9<|Wt 3 [_,_] Y9<|Nt<|Zo<|?_
  refine rR [] _ (.agg (us:=[_,_,_,_,_,_,_,_,_,_]) 4 Z Z Z Z Z (.agg (us:=[_,_]) 3 Z Z Z Z Z (.nil))) Z (h1.t h2|>.t h3|>.t h4|>.t h5|>.t h12|>.t h20|>.t h24|>.t h25) fun _ hS2=>?_
  refine ⟨[_,_,_,_,_,_],Z,fun s2 hs2 hp=>?_⟩
  rw [qev hst0 hlong hin]
  have hw:=qdL (hp bc (wv l++(List.replicate N (Value.int .u32 0)).drop l.length) 38 (by simp)) hu O O
  have hNN:t.cells.toNat=N:=by omega
  rw [← hNN] at hw
  exact ⟨_,⟨_,_,_,_,_,_,_,_,_,by rw [← hNN];rfl,hw,hBi.le (h24.t h25|>.t (hS2.t hs2)),Bts.nil _ none 0 O⟩,rfl⟩
 refine qaY Z Tt Z [_,_,_,_,_,_,_,_,_,_] Z Z ?_
 intro β27 s27 h27
 refine qcg 2 4 V ?_ ?_
 ·
  refine qlk Z Tt Z Z Z Z Z (by simp [ti38];omega) O Z ?_
  intro bc s28 h28
  refine qah 4 V<|Jb Z Tt Z Z Z (AC.pub (qaB D _ _ _ _ _ _ (hIn.le (h1.t h2|>.t h3|>.t h4|>.t h5|>.t h12|>.t h27|>.t h28)) O)) ?_
  rintro _ _ s29 h29 ⟨rfl,Mi,swi,⟨Ai1,ci1,rfl,_,_,hOi⟩,hswi,hcwi⟩
  refine ⟨fun _ _ h=>h,?_⟩
  have hBi:=Own.bts hOi hcwi
  refine za 5 Z (qal [(_,_),(_,_)] [_,_,_,_,_,_,_,_,_,_] Z Z Z Z Z Z) Z<|qah 7 V<|Wu Z Tt 1 [_,_,_,_,_,_,_,_,_,_] Y9 (sM (sbN (qaI (sbE _))))<|qac V<|Zt<|Sr<|W0 Y5<|Wl 1 Y6<|Zqm Z Z<|qfA 0 Z Z Z Z Z Z Z (hIm.row.le (h1.t h2|>.t h3|>.t h4|>.t h5|>.t h12|>.t h27|>.t h28|>.t h29)) O (by simp) Z Z<|Nt<|Sr<|qae (qad 1 [_,_,_,_,_,_,_,_,_,_] Z Z Z Z Z) Z<|qae (qal [] [_,_] Z Z Z Z Z Z) Z ?_
  refine Wt 4 [_,_,_,_,_,_,_,_,_,_] Y9<|Wt 3 [_,_] Y9<|Nt<|Zo<|?_
  refine rR [] _ (.agg (us:=[_,_,_,_,_,_,_,_,_,_]) 4 Z Z Z Z Z (.agg (us:=[_,_]) 3 Z Z Z Z Z (.nil))) Z (h1.t h2|>.t h3|>.t h4|>.t h5|>.t h12|>.t h27|>.t h28|>.t h29) fun _ hS2=>?_
  refine ⟨[_,_,_,_,_,_],Z,fun s2 hs2 hp=>?_⟩
  rw [qev hst0 hlong hin]
  have hw:=qdL (hp bc (wv l++(List.replicate N (Value.int .u32 0)).drop l.length) 38 (by simp)) hu O O
  have hNN:t.cells.toNat=N:=by omega
  rw [← hNN] at hw
  exact ⟨_,⟨_,_,_,_,_,_,_,_,_,by rw [← hNN];rfl,hw,hBi.le ((Lr D).t (hS2.t hs2)),Bts.nil _ none 0 O⟩,rfl⟩
 refine Jb Z Tt Z Z Z (AC.pub (qaB D _ _ _ _ _ _ (hIn.le (h1.t h2|>.t h3|>.t h4|>.t h5|>.t h12|>.t h27)) O)) ?_
 rintro _ _ s31 h31 ⟨rfl,Mi,swi,⟨Ai1,ci1,rfl,_,_,hOi⟩,hswi,hcwi⟩
 refine ⟨fun _ _ h=>h,?_⟩
 have hBi:=Own.bts hOi hcwi
 refine qah 2 V<|qlk Z Tt Z Z Z Z Z (by simp [ti38];omega) O Z ?_
 intro bc s32 h32
 refine za 5 Z (qal [(_,_),(_,_)] [_,_,_,_,_,_,_,_,_,_] Z Z Z Z Z Z) Z<|qah 7 V<|Wu Z Tt 1 [_,_,_,_,_,_,_,_,_,_] Y9 (sM (sbN (qaI (sbE _))))<|qac V<|Zt<|Sr<|W0 Y5<|Wl 1 Y6<|Zqm Z Z<|qfA 0 Z Z Z Z Z Z Z (hIm.row.le (h1.t h2|>.t h3|>.t h4|>.t h5|>.t h12|>.t h27|>.t h31|>.t h32)) O (by simp) Z Z<|Nt<|Sr<|qae (qad 1 [_,_,_,_,_,_,_,_,_,_] Z Z Z Z Z) Z<|qae (qal [] [_,_] Z Z Z Z Z Z) Z ?_
 refine Wt 4 [_,_,_,_,_,_,_,_,_,_] Y9<|Wt 3 [_,_] Y9<|Nt<|Zo<|?_
 refine rR [] _ (.agg (us:=[_,_,_,_,_,_,_,_,_,_]) 4 Z Z Z Z Z (.agg (us:=[_,_]) 3 Z Z Z Z Z (.nil))) Z (h1.t h2|>.t h3|>.t h4|>.t h5|>.t h12|>.t h27|>.t h31|>.t h32) fun _ hS2=>?_
 refine ⟨[_,_,_,_,_,_],Z,fun s2 hs2 hp=>?_⟩
 rw [qev hst0 hlong hin]
 have hw:=qdL (hp bc (wv l++(List.replicate N (Value.int .u32 0)).drop l.length) 38 (by simp)) hu O O
 have hNN:t.cells.toNat=N:=by omega
 rw [← hNN] at hw
 exact ⟨_,⟨_,_,_,_,_,_,_,_,_,by rw [← hNN];rfl,hw,hBi.le (h32.t (hS2.t hs2)),Bts.nil _ none 0 O⟩,rfl⟩
theorem qmt{l:List Int}{j:Nat}{x:Int}(h:l[j]?=some x):wv (l.take (j+1))=wv (l.take j)++[.int .u32 x]:=by
 obtain ⟨hj,rfl⟩:=List.getElem?_eq_some_iff.1 h
 rw [List.take_succ_eq_append_getElem hj];unfold wv;rw [List.map_append];rfl
theorem qnI{t:Tab}{l:List Int}{i:List UInt8}{j:Nat}{x:Int}(h:l[j]?=some x):(qaU t l i).cells[j]?=some x:=by
 simp only [qaU];rw [List.getElem?_append_left (List.getElem?_eq_some_iff.1 h).1];exact h
theorem qkH{t:Tab}{l:List Int}{i:List UInt8}{j:Nat}(h:¬ j < l.length)(hj:(j:Int) < t.cells):(qaU t l i).cells[j]?=some 0:=by
 simp only [qaU];rw [List.getElem?_append_right O,List.getElem?_replicate,if_pos O]
theorem qjx(D:Nat)(L:Hl)(s:World)(t:Tab)(A:Option Addr)(n c:Nat)(hA:Inss s A n c t.ins)(A1:Option Addr)(n1 c1:Nat)(l:List Int)(hIm:Wds s A1 n1 c1 l)(A2:Option Addr)(n2 c2:Nat)(i:List UInt8)(hIn:Bts s A2 n2 c2 i)(hG:TabG t)(hl:(l.length:Int)≤t.cells)(hi:i.length≤400000):AC prog D 27 [.agg #[.int .i64 t.cells,.slice A n c],.slice A1 n1 c1,.slice A2 n2 c2] L s fun v L' _=>∃ Mi Mj Ac cc Ai ni ci,L'=Mi++(Mj++L)∧v=.agg #[.slice Ac (qaU t l i).cells.length cc,.int .u32 0,.int .u32 0,.int .u32 0,.int .u32 0,.int .u32 0,.slice Ai ni ci,.slice none 0 0,.int .i64 0,.int .u32 0]∧FL.Own 38 1 Mj (.slice Ac (qaU t l i).cells.length cc) (qaU t l i).cells.length (wv (qaU t l i).cells)∧FL.Own 5 1 Mi (.slice Ai ni ci) ni (bv i):=by
 obtain rfl:=hIm.1
 obtain rfl:=hIn.1
 have hcl:=hG.cells
 obtain ⟨hmok,_,hlen⟩:=qdE hG hl hi hIm.u32
 refine qai (fn:=f27) qaG func27 V Z ntmps27 Z (rs:=[.cell 6 82]) Z [(0,_),(1,_),(2,_)] Z<|Sr<|qaL Z Z ?_
 intro β1 s1 h1
 refine qag Z [_,_,_,_,_,_,_,_,_,_] Z Z ?_
 intro β2 s2 h2
 refine Nt<|Sr<|qag Z [_,_,_,_,_,_,_,_,_,_] Z Z ?_
 intro β3 s3 h3
 refine Nt<|Zs<|Sr<|At Z Z<|Zp<|?_
 refine qaQ (γ:=Nat×Value×Hl) (fun g=>[(1,_),(2,_),(3,_),(6,_),(7,_),(8,.int .i64 (g.1:Int))]) (fun g=>(β3,cb [g.2.1,.int .u32 0,.int .u32 0,.int .u32 0,.int .u32 0,.int .u32 0,.slice none 0 0,.slice none 0 0,.int .i64 0,.int .u32 0] 82)::(β2,cb [.slice none 0 0,.int .u32 0,.int .u32 0,.int .u32 0,.int .u32 0,.int .u32 0,.slice none 0 0,.slice none 0 0,.int .i64 0,.int .u32 0] 82)::(β1,cb [.int .i64 t.cells,.slice A n c] 24)::(g.2.2++L)) (fun g tw=>Le D s3 tw∧((g.1:Int)≤t.cells∧FL.Own 38 1 g.2.2 g.2.1 g.1 (wv ((qaU t l i).cells.take g.1)))) (fun g=>t.cells.toNat - g.1) (fun _ _ _ h hl=>⟨h.1.trans hl,h.2⟩) (0,.slice none 0 0,[]) (.c6 Z Z Z Z Z Z (.nil _)) Z ⟨Le.refl _,⟨by simp only;omega,Own.nil⟩⟩ ?_
 intro g s4 I4
 obtain ⟨j,vj,Mj⟩:=g
 obtain ⟨hj0,hOj⟩:=I4.2
 simp only at hj0 hOj
 dsimp only
 refine Zs<|Sr<|Zqm Z Z<|W0 Y5<|Wl 2 Y6<|qbY Z Z Z<|Nt<|?_
 refine qab Z (fun c5=>?_) (fun c5=>?_)
 ·
  have hj:(j:Int) < t.cells:=c5
  refine Zk<|Zt<|Zs<|Zp<|Sr<|At Z Z<|Zs<|Sr<|Zqm Z Z<|Zqm Z Z<|Ws Y4<|qbY Z Z Z<|Nt<|?_
  refine qab Z (fun c6=>?_) (fun c6=>?_)
  ·
   have hk:j < l.length:=by omega
   obtain ⟨b,off,x,rfl,hx,hcx,_⟩:=Wds.at_ (hIm.le (h1.t h2|>.t h3|>.t I4.1)) hk
   have hX:=qnI (t:=t) (i:=i) hx
   refine Zr<|Zqm Z Z<|Zqm Z Z<|qae (qaX Z Z Z Z Z Z hk) Z<|qae (qaq Z Z Z (hcx.le (Lr D)) Z) Z<|At Z Z<|Zr<|W0 Y5<|Wl 0 Y6<|Zqm Z Z<|qa0 [(_,_)] [_] Z Z Z Z Z Z Z Z Z ?_
   intro βn s7 h7 hcn
   refine qbO (sz:=1) [_,_,_] Mj L Z Z Z Z Z Z Z hOj (Row.of_cells (hcn.le (Lr D)) Z Z) ⟨by simp [ti38];omega,by omega⟩ Z ?_
   intro v2 A2x s8 h8 o2
   obtain ⟨Av2,cv2,rfl,_,_⟩:=Own.slice o2
   simp only [cQ9,nQ9]
   refine W0 Y5<|Wt 0 [_,_,_,_,_,_,_,_,_,_] Y9<|Zn<|Zb<|Zt<|Zr<|Zqm Z Z<|qaW Z Z Z (w64 O O)<|Zqa Z Z<|Zn<|?_
   refine qaa ⟨(j+1,.slice Av2 (j+1) cv2,A2x),[],kp,Z,⟨(I4.1.t h7|>.t h8),⟨by simp only;omega,by simp only;rw [qmt hX];exact o2⟩⟩,Oz⟩
  have hX:=qkH (l:=l) (i:=i) (show ¬ j < l.length by omega) hj
  refine Zk<|Zt<|Zr<|W0 Y5<|Wl 0 Y6<|Zqm Z Z<|qa0 [(_,_)] [_] Z Z Z Z Z Z Z Z Z ?_
  intro βn s9 h9 hcn
  refine qbO (sz:=1) [_,_,_] Mj L Z Z Z Z Z Z Z hOj (Row.of_cells (hcn.le (Lr D)) Z Z) ⟨by simp [ti38];omega,by omega⟩ Z ?_
  intro v2 A2x s10 h10 o2
  obtain ⟨Av2,cv2,rfl,_,_⟩:=Own.slice o2
  simp only [cQ9,nQ9]
  refine W0 Y5<|Wt 0 [_,_,_,_,_,_,_,_,_,_] Y9<|Zn<|Zb<|Zt<|Zr<|Zqm Z Z<|qaW Z Z Z (w64 O O)<|Zqa Z Z<|Zn<|?_
  refine qaa ⟨(j+1,.slice Av2 (j+1) cv2,A2x),[],kp,Z,⟨(I4.1.t h9|>.t h10),⟨by simp only;omega,by simp only;rw [qmt hX];exact o2⟩⟩,Oz⟩
 have hcells:(qaU t l i).cells.take j=(qaU t l i).cells:=List.take_of_length_le O
 rw [hcells] at hOj
 obtain ⟨Ac,cc,rfl,kc1,kc2⟩:=Own.slice hOj
 refine Zl<|Zv<|Zv<|Zd<|Zt<|Sr<|Wb Y5<|Wl 0 Y6<|Zqm Z Z<|qbO (sz:=1) [_,_,_] [] _ Z Z Z Z Z Z Z Own.nil (hIn.row.le (h1.t h2|>.t h3|>.t I4.1)) ⟨by simp [ti5];omega,by omega⟩ Z ?_
 intro v11 A11 s11 h11 o11
 simp only [Nat.zero_add,List.nil_append] at o11
 obtain ⟨Ai1,ci1,rfl,ki1,ki2⟩:=Own.slice o11
 have hOi:=o11
 simp only [cQ9,nQ9]
 refine Wb Y5<|Wt 0 [_,_,_,_,_,_,_,_,_,_] Y9<|Nt<|Sr<|qae (qad 0 [_,_,_,_,_,_,_,_,_,_] Z Z Z Z Z) Z<|Wt 1 [_,_,_,_,_,_,_,_,_,_] Y9<|Nt<|Zo<|?_
 refine rR [_,_,_] _ (.agg (us:=[_,_,_,_,_,_,_,_,_,_]) 1 Z Z Z Z Z (.nil)) Z (h1.t h2|>.t h3|>.t I4.1|>.t h11) fun _ hS2=>?_
 obtain rfl:j=(qaU t l i).cells.length:=by omega
 exact ⟨_,_,_,_,_,_,_,rfl,rfl,hOj,hOi⟩
theorem qsp(D:Nat)(L:Hl)(s:World)(t:Tab)(A:Option Addr)(n c:Nat)(hA:Inss s A n c t.ins)(m:Mst)(Ax Bx Ox:Option Addr)(nAx cAx nBx cBx nOx cOx:Nat)(hAx:Wds s Ax nAx cAx m.cells)(hBx:Bts s Bx nBx cBx m.input)(hOx:Bts s Ox nOx cOx m.output)(hU:MU m)(k:Int):AC Tryz.prog D 33 [.agg #[.int .i64 t.cells,.slice A n c],.agg #[.slice Ax nAx cAx,.int .u32 m.r0,.int .u32 m.r1,.int .u32 m.r2,.int .u32 m.r3,.int .u32 m.r4,.slice Bx nBx cBx,.slice Ox nOx cOx,.int .i64 m.stop,.int .u32 m.code],.int .i64 k] L s fun v L' s'=>L=L'∧∃ vs,StW s' (qjt t m k).1 vs∧v=.tuple #[vs,.int .i64 (qjt t m k).2.1,.agg #[.int .i64 (qjt t m k).2.2.1,.int .i64 (qjt t m k).2.2.2]]:=AC.pubW (qqP D L s t A n c hA m Ax Bx Ox nAx cAx nBx cBx nOx cOx hAx hBx hOx hU k)
theorem qnG(D:Nat)(L:Hl)(s:World)(t:Tab)(A:Option Addr)(n c:Nat)(hA:Inss s A n c t.ins)(A1:Option Addr)(n1 c1:Nat)(l:List Int)(hIm:Wds s A1 n1 c1 l)(A2:Option Addr)(n2 c2:Nat)(i:List UInt8)(hIn:Bts s A2 n2 c2 i):AC Tryz.prog D 32 [.agg #[.int .i64 t.cells,.slice A n c],.slice A1 n1 c1,.slice A2 n2 c2] L s fun v L' s'=>L=L'∧∃ vs,StW s' (qb7 t l i).1 vs∧v=.tuple #[vs,.agg #[.int .i64 (qb7 t l i).2.1,.int .i64 (qb7 t l i).2.2]]:=AC.pubW (qlo D L s t A n c hA A1 n1 c1 l hIm A2 n2 c2 i hIn)
def qjp(t:Tab)(l:List Int)(i:List UInt8)(k:Int):List UInt8×Int×Int×Int:=((qeD t (qaU t l i) k.toNat).1.output,(qeD t (qaU t l i) k.toNat).1.stop,(qeD t (qaU t l i) k.toNat).1.code,((qeD t (qaU t l i) k.toNat).2:Int))
def qey(t:Tab)(l:List Int)(i:List UInt8)(k:Int):(List UInt8×Int×Int×Int)×Int×Int:=
 if (qaM t l i).1≠0 then (([],0,0,0),qaM t l i) else if k < 0∨50000000 < k then (([],0,0,0),4,-4) else (qjp t l i k,0,0)
def OutW(s:World)(o:List UInt8×Int×Int×Int)(v:Value):Prop:=∃ A n c,v=.agg #[.slice A n c,.int .i64 o.2.1,.int .u32 o.2.2.1,.int .i64 o.2.2.2]∧Bts s A n c o.1
theorem OutW.zero(s:World):OutW s ([],0,0,0) (.agg #[.slice none 0 0,.int .i64 0,.int .u32 0,.int .i64 0]):=⟨none,0,0,rfl,Bts.nil _ _ _ O⟩
theorem qla{t:Tab}{l:List Int}{i:List UInt8}{s:World}{A A1:Option Addr}{n c n1 c1:Nat}(hA:Inss s A n c t.ins)(h1:Wds s A1 n1 c1 l)(h:(qaM t l i).1=0){k:Int}(hk:¬ (k < 0∨50000000 < k)) :
  qjt t (qb7 t l i).1 k=((qeD t (qaU t l i) k.toNat).1,((qeD t (qaU t l i) k.toNat).2:Int),0,0):=by
 obtain ⟨h0,h2,h3⟩:=qqm h
 obtain ⟨k1,k2,k3⟩:=qdE (qoc hA h0) h2 h3 h1.u32
 rw [qta h,qi5 (by rw [qsb h0 k1 k2 k3]) hk]
theorem qgR(D:Nat)(L:Hl)(s:World)(t:Tab)(A:Option Addr)(n c:Nat)(hA:Inss s A n c t.ins)(A1:Option Addr)(n1 c1:Nat)(l:List Int)(hIm:Wds s A1 n1 c1 l)(A2:Option Addr)(n2 c2:Nat)(i:List UInt8)(hIn:Bts s A2 n2 c2 i)(k:Int):AC Tryz.prog D 10 [.agg #[.int .i64 t.cells,.slice A n c],.slice A1 n1 c1,.slice A2 n2 c2,.int .i64 k] L s fun v L' s'=>L=L'∧∃ vs,OutW s' (qey t l i k).1 vs∧v=.tuple #[vs,.agg #[.int .i64 (qey t l i k).2.1,.int .i64 (qey t l i k).2.2]]:=by
 refine qai (fn:=Tryz.f10) qaG Tryz.func10 V Z Tryz.ntmps10 Z (rs:=[.cell 8 40,.cell 9 29]) Z [(0,_),(1,_),(2,_),(3,_)] Z<|Sr<|qaL Z Z ?_
 intro β1 s1 h1
 refine qag Z [_,_,_,_] Z Z ?_
 intro β2 s2 h2
 refine qag Z [_,_] Z Z ?_
 intro β3 s3 h3
 refine Nt<|Sr<|qae (qad 2 [_,_] Z Z Z Z Z) Z<|Zqm Z Z<|Zqm Z Z<|Jc Z Z Z (qnG D _ _ _ _ _ _ (hA.le (h1.t h2|>.t h3)) _ _ _ _ (hIm.le (h1.t h2|>.t h3)) _ _ _ _ (hIn.le (h1.t h2|>.t h3))) ?_
 rintro _ _ s4 h4 ⟨rfl,_,⟨Aa,na,ca,Ba,nBa,cBa,Oa,nOa,cOa,rfl,hAa,hBa,hOa⟩,rfl⟩
 refine Zqm Z Z<|Zqx Z Z Z<|Zqx Z Z Z<|qag Z [_,_,_,_,_,_,_,_,_,_] Z Z ?_
 intro β5 s5 h5
 refine qag Z [_,_] Z Z ?_
 intro β6 s6 h6
 refine Wt 1 [_,_,_,_,_,_,_,_,_,_] Y9<|Wt 0 [_,_] Y9<|Nt<|Zs<|Sr<|qae (qad 0 [_,_] Z Z Z Z Z) Z<|qae (qal [] [_,_] Z Z Z Z Z Z) Z<|qae (qef Z Z (qdD _ _ _ _)) Z<|Nt<|?_
 refine qbc Z (fun c7=>?_) (fun c7=>?_)
 ·
  have hbad:(qaM t l i).1≠0:=fun h=>c7 (by rw [qta h];exact ⟨rfl,rfl⟩)
  refine Zs<|qaD qaf 4 Z [3,2] (by intro x hx;exact qan hx) ?_
  intro s8 h8
  refine za 0 Z (qal [] [_,_,_,_] Z Z Z Z Z Z) Z<|za 1 Z (qad 0 [_,_] Z Z Z Z Z) Z<|qah 2 V<|Wu Z Tt 3 [_,_,_,_] Y9 (sM (qew (sbN (sbY (sbE _)))))<|qah 3 V<|Wu Z Tt 2 [_,_] Y9 (sM (qew (sbN (sbY (sbE _)))))<|qac V<|Zt<|Zo<|Zu<|?_
  refine rR [_,_,_,_,_] L (.agg (us:=[_,_,_,_]) 3 Z Z Z Z Z (.agg (us:=[_,_]) 2 Z Z Z Z Z (.nil))) Z (h1.t h2|>.t h3|>.t h4|>.t h5|>.t h6|>.t h8) fun _ hS2=>?_
  rw [show qey t l i k=(([],0,0,0),qaM t l i) by simp only [qey];rw [if_pos hbad]]
  exact ⟨rfl,_,OutW.zero _,by rw [qpJ hbad];rfl⟩
 have hsf:(qaM t l i).1=0:=by
   by_cases h:(qaM t l i).1=0
   · exact h
   · have hc:=c7.1;rw [qpJ h] at hc;exact absurd hc h
 refine Zk<|Zt<|Zs<|Sr<|Zqm Z Z<|qbY Z Z Z<|Zqm Z Z<|?_
 refine qam (t:=28) Z (fun c9=>?_) (fun c9=>?_)
 ·
  refine Wf Y4<|Wf Y4<|ZqT Z Z Z<|Nt<|Zy Z<|?_
  have hfar:k < 0∨50000000 < k:=by omega
  refine Sr<|qae (qal [] [_,_,_,_] Z Z Z Z Z Z) Z<|Jc Z Z Z (qbk D _ _ _ _) ?_
  rintro _ _ s10 h10 ⟨rfl,rfl⟩
  refine Wt 3 [_,_,_,_] Y9<|Wt 2 [_,_] Y9<|Nt<|Zo<|Zu<|?_
  refine rR [_,_,_,_,_] L (.agg (us:=[_,_,_,_]) 3 Z Z Z Z Z (.agg (us:=[_,_]) 2 Z Z Z Z Z (.nil))) Z (h1.t h2|>.t h3|>.t h4|>.t h5|>.t h6|>.t h10) fun _ hS2=>?_
  rw [show qey t l i k=(([],0,0,0),4,-4) by simp only [qey];rw [if_neg (by simpa using hsf),if_pos hfar]]
  exact ⟨rfl,_,OutW.zero _,rfl⟩
 refine Zg Z Z<|Zqm Z Z<|Zg Z Z<|qdP Z Z Z<|ZqF Z Z Z<|Nt<|?_
 refine qab Z (fun c11=>?_) (fun c11=>?_)
 ·
  have hfar:k < 0∨50000000 < k:=by omega
  refine Sr<|qae (qal [] [_,_,_,_] Z Z Z Z Z Z) Z<|Jc Z Z Z (qbk D _ _ _ _) ?_
  rintro _ _ s12 h12 ⟨rfl,rfl⟩
  refine Wt 3 [_,_,_,_] Y9<|Wt 2 [_,_] Y9<|Nt<|Zo<|Zu<|?_
  refine rR [_,_,_,_,_] L (.agg (us:=[_,_,_,_]) 3 Z Z Z Z Z (.agg (us:=[_,_]) 2 Z Z Z Z Z (.nil))) Z (h1.t h2|>.t h3|>.t h4|>.t h5|>.t h6|>.t h12) fun _ hS2=>?_
  rw [show qey t l i k=(([],0,0,0),4,-4) by simp only [qey];rw [if_neg (by simpa using hsf),if_pos hfar]]
  exact ⟨rfl,_,OutW.zero _,rfl⟩
 have hin:¬ (k < 0∨50000000 < k):=by omega
 have hrr:=qla hA hIm hsf hin
 refine Zk<|Zt<|Sr<|qae (qad 4 [_,_] Z Z Z Z Z) Z<|qae (qad 1 [_,_,_,_,_,_,_,_,_,_] Z Z Z Z Z) Z<|Zqm Z Z<|Jc Z Z Z (qsp D _ _ _ _ _ _ (hA.le (h1.t h2|>.t h3|>.t h4|>.t h5|>.t h6)) (qb7 t l i).1 _ _ _ _ _ _ _ _ _ (hAa.le (h5.t h6)) (hBa.le (h5.t h6)) (hOa.le (h5.t h6)) (qtF _ _ _) k) ?_
 rintro _ _ s13 h13 ⟨rfl,_,⟨Ar,nr,cr,Br,nBr,cBr,Or,nOr,cOr,rfl,hAr,hBr,hOr⟩,rfl⟩
 refine Zqm Z Z<|Zqx Z Z Z<|Zqx Z Z Z<|Zqx Z Z Z<|qag Z [_,_,_,_,_,_,_,_,_,_] Z Z ?_
 intro β14 s14 h14
 refine Wt 0 [_,_,_,_,_,_,_,_,_,_] Y9<|Zqa Z Z<|Wt 1 [_,_] Y9<|Nt<|Zs<|Sr<|qae (qad 1 [_,_] Z Z Z Z Z) Z<|qae (qal [] [_,_] Z Z Z Z Z Z) Z<|qae (qef Z Z (qdD _ _ _ _)) Z<|Nt<|?_
 refine qbc Z (fun c15=>?_) (fun c15=>?_)
 ·
  exact absurd (by rw [hrr];exact ⟨rfl,rfl⟩) c15 --end
 refine Zk<|Zt<|Sr<|Wb Y5<|Wl 0 Y6<|Wb Y5<|Wl 0 Y6<|Wb Y5<|Wl 0 Y6<|Zqm Z Z<|qae (qal [(_,_),(_,_),(_,_),(_,_)] [_,_,_,_] Z Z Z Z Z Z) Z<|qae (qal [] [_,_] Z Z Z Z Z Z) Z<|Wt 4 [_,_,_,_] Y9<|Wt 3 [_,_] Y9<|Nt<|Zo<|?_
 refine rR [_,_,_,_,_,_] L (.agg (us:=[_,_,_,_]) 4 Z Z Z Z Z (.agg (us:=[_,_]) 3 Z Z Z Z Z (.nil))) Z (h1.t h2|>.t h3|>.t h4|>.t h5|>.t h6|>.t h13|>.t h14) fun _ hS2=>?_
 rw [show qey t l i k=(qjp t l i k,0,0) by simp only [qey];rw [if_neg (by simpa using hsf),if_neg hin]]
 refine ⟨Z,_,⟨Or,nOr,cOr,?_,?_⟩,Z⟩
 · rw [hrr];rfl
 · rw [hrr] at hOr;exact hOr.le (h14.t hS2)
end Go.Proofs.YtjindleklapakaaGreatDoor
namespace Go.FL
open Go Go.RowKit
theorem qo1{e:Nat}{M:Hl}{Ad:Option Addr}{n c:Nat}{xs:List Value}(h:FL.Own e 1 M (.slice Ad n c) n xs)(hn:0 < n):∃ b ys,Ad=some ⟨b,0,none⟩∧M=[(b,cb (xs++ys) e)]∧xs.length=n∧xs.length+ys.length=c∧n≤c∧c≤9223372036854775807:=by
 cases h with
 | nil=>omega
 | blk b cap _ _ ys h1 h2 h3 h4=>exact ⟨b,ys,rfl,rfl,by simpa using h1,by simpa using h2,h3,h4⟩
section
variable{P:Program}{TT:qbf}{D n:Nat}{Q:qbF}{fr:Fr}{L L' K:Hl}{s s' s0:World}{ops:Array Oper}{rest:List Oper}{d ty:Nat}{op:Op}{pos:String}{af:Array Edge}{v:Value}
theorem qs7{x:Operand}{p:Option Addr}{t t' te:Nat}(hp:P.underlying t=some (.pointer te))(hx:lk fr x=some (.pointer p)):QE P TT D fr (.binOp .eql t x (.const (.pointer none)) t') ty K s0 (.bool p.isNone):=
 QE.pure fun _ dst pos af g ρ hρ w=>by
  have hc:=hρ (.const (.pointer none)) _ rfl
  have h:∀ k:Nat,(Op.equalIn (k+1) t (.pointer p) (.pointer none)).run P w=.ok p.isNone w:=fun k=>by cases p <;> simp [Op.equalIn,run_underlying hp]
  have h2:(binOp .eql t (.pointer p) (.pointer none)).run P w=.ok (.bool p.isNone) w:=by simp only [binOp];simp [Op.equal,Op.maxDepth,h 9999]
  simp [execOp,hρ x _ hx,hc,eqGuard,h2]
theorem qpy{x:Operand}{p:Option Addr}{t t' te:Nat}(hp:P.underlying t=some (.pointer te))(hx:lk fr x=some (.pointer p)):QE P TT D fr (.binOp .neq t x (.const (.pointer none)) t') ty K s0 (.bool p.isSome):=
 QE.pure fun _ dst pos af g ρ hρ w=>by
  have hc:=hρ (.const (.pointer none)) _ rfl
  have h:∀ k:Nat,(Op.equalIn (k+1) t (.pointer p) (.pointer none)).run P w=.ok p.isNone w:=fun k=>by cases p <;> simp [Op.equalIn,run_underlying hp]
  have h2:(binOp .neq t (.pointer p) (.pointer none)).run P w=.ok (.bool p.isSome) w:=by simp only [binOp];cases p <;> simp [Op.equal,Op.maxDepth,h 9999]
  simp [execOp,hρ x _ hx,hc,eqGuard,h2]
theorem qs2{x y:Operand}{a:Addr}{t t' te:Nat}{ti:TI}(hp:P.underlying t=some (.pointer te))(hte:qaA TT te=some ti)(hx:lk fr x=some (.pointer (some a)))(hy:lk fr y=some (.pointer (some a))):QE P TT D fr (.binOp .neq t x y t') ty K s0 (.bool false):=
 QE.pure fun hT dst pos af g ρ hρ w=>by
  obtain ⟨i,i1,_⟩:=qdC (hT.at_ hte)
  simp [execOp,hρ x _ hx,hρ y _ hy,eqGuard,Lib.run_neq_ptr_same w a hp i1]
theorem qf7{zs:List Value}{b e:Nat}(ho:OKL D L s)(hi:(b,cb zs e)∈L):(fill L s).shape? b=some (e,zs.length):=by
 have:=qa3 ho hi
 unfold World.shape?
 rw [this]
 simp [cb]
theorem qsZ{t t' te b e:Nat}{x:Operand}{ti:TI}{zs:List Value}(i:Nat)(hs:P.underlying t=some (.pointer te))(hd:P.underlying t'=some .unsafePointer)(hte:qaA TT te=some ti)(hx:lk fr x=some (.pointer (some ⟨b,0,none⟩)))(hi:K[i]?=some (b,cb zs e))(hz:Nat.blt 0 zs.length=true):QE P TT D fr (.convert t t' x) ty K s0 (.pointer (some ⟨b,0,none⟩)):=
 fun hT dst pos af g ρ hρ L s ho hl hK=>by
  obtain ⟨i0,i1,i2,_⟩:=qdC (hT.at_ hte)
  have hpos:0 < ti.size:=(hT.at_ hte).2.2.2.2.2.1
  have hr:=Lib.run_to_unsafe (P:=P) (fill L s) ⟨b,0,none⟩ hs hd i1 (by rw [i2];omega) (qf7 ho (hK _ (List.mem_of_getElem? hi))) (by simpa using hz)
  simp only [execOp,hρ x _ hx,Sem.run_bind,hr,Result.andThen_ok,Sem.run_pure]
theorem qog{t t' te b e:Nat}{x:Operand}{ti:TI}{zs:List Value}(i:Nat)(hs:P.underlying t=some .unsafePointer)(hd:P.underlying t'=some (.pointer te))(hte:qaA TT te=some ti)(hx:lk fr x=some (.pointer (some ⟨b,0,none⟩)))(hi:K[i]?=some (b,cb zs e))(hlies:liesAt P P.depth e (zs.length / P.cellsOf e) 0 te 1=true):QE P TT D fr (.convert t t' x) ty K s0 (.pointer (some ⟨b,0,none⟩)):=
 fun hT dst pos af g ρ hρ L s ho hl hK=>by
  obtain ⟨i0,i1,i2,_⟩:=qdC (hT.at_ hte)
  have hr:=Lib.run_from_unsafe (P:=P) (fill L s) ⟨b,0,none⟩ hs hd i1 (qf7 ho (hK _ (List.mem_of_getElem? hi))) hlies
  simp only [execOp,hρ x _ hx,Sem.run_bind,hr,Result.andThen_ok,Sem.run_pure]
theorem qqh{f:FuncId}{fn:Func}{x y:Operand}{ts:Array TypeId}(hf:P.funcs[f]?=some fn)(hname:(fn.name == "runtime.NumGoroutine")=false)(hb:fn.body.isNone=true)(hn:Extern.findNext fn=none)(he:Extern.find fn=some Extern.AbiNoEscape.same)(hx:lk fr x=some (.func (.func f) #[] #[]))(hy:lk fr y=some v) :
  QE P TT D fr (.call { callee:=.value x,args:=#[y],argTypes:=ts }) ty K s0 v:=
 QE.pure fun hT dst pos af g ρ hρ w=>by
  have hr:=run_callFunc_extern hf hname hb hn he #[v] w
  rw [Lib.run_noEscape] at hr
  simp [execOp,resolve,Deferred.ofValue,invoke,hρ x _ hx,hρ y _ hy,hr]
theorem qsE{x:Operand}{ts:Array TypeId}{A:Option Addr}{m c:Nat}(hx:lk fr x=some (.slice A m c))(hc:A=none∨c≠0):QE P TT D fr (.call { callee:=.builtin .unsafeSliceData,args:=#[x],argTypes:=ts }) ty K s0 (.pointer A):=
  QE.pure fun hT dst pos af g ρ hρ w=>by
    rcases hc with rfl | hc
    · simp [execOp,resolve,invoke,builtin,hρ x _ hx,Lib.run_unsafeSliceData_nil]
    · cases A with
      | none=>simp [execOp,resolve,invoke,builtin,hρ x _ hx,Lib.run_unsafeSliceData_nil]
      | some a=>simp [execOp,resolve,invoke,builtin,hρ x _ hx,Lib.run_unsafeSliceData_row _ _ _ _ _ _ hc]
theorem qki(w:World)(g e k:Nat)(cs:Array Value)(hk:k≠0)(hg:g < w.heap.size):(qbi w g (.cells cs e (0,0))).freeze ⟨g,0,none⟩ k=qbi w g (.cells cs e (0,k)):=by
  unfold World.freeze
  rw [if_neg hk]
  refine qdu (qdr fun j=>?_) Z Z Z Z
  show ((w.heap.setIfInBounds g _).modify g _)[j]?=(w.heap.setIfInBounds g _)[j]?
  rw [Array.getElem?_modify]
  by_cases hj:g=j
  · subst hj
    rw [if_pos rfl,Array.getElem?_setIfInBounds_self,Array.getElem?_setIfInBounds_self]
    simp [hg]
  · rw [if_neg hj,Array.getElem?_setIfInBounds_ne hj,Array.getElem?_setIfInBounds_ne hj]
end
open Go Go.RowKit Go.Proofs.YtjindleklapakaaGreatDoor
section
variable{P:Program}{TT:qbf}{D n:Nat}{Q:qbF}{fr:Fr}{L L' K:Hl}{s s' s0:World}{ops:Array Oper}{rest:List Oper}{d ty:Nat}{op:Op}{pos:String}{af:Array Edge}{v:Value}
theorem qrg{tp ti0 e:Nat}{x y:Operand}{A:Option Addr}{l:List UInt8}{c:Nat}(X M L0:Hl)(hp:P.underlying tp=some (.pointer e))(hce:P.cellsOf e=1)(hx:lk fr x=some (.pointer A))(hy:lk fr y=some (.int .i64 (l.length:Int)))(hO:FL.Own e 1 M (.slice A l.length c) l.length (bv l))(hn:l=[]→M=[])(ho:OKL D (X++(M++L0)) s) :
    ∃ s',Ev P TT D fr (.call { callee:=.builtin .unsafeString,args:=#[x,y],argTypes:=#[tp,ti0] }) ty (X++(M++L0)) s (.value (St l)) (X++L0) s'∧Le D s s':=by
  by_cases h0:l=[]
  · subst h0
    have hM:=hn rfl
    subst hM
    refine ⟨s,fun hT ho dst pos af g ρ hρ=>⟨?_,by simpa using ho⟩,Le.refl _⟩
    simp only [List.length_nil] at hy
    have hr:=Lib.run_unsafeString_none (P:=P) (fill (X++([]++L0)) s) tp ti0 ty A
    simp [execOp,resolve,invoke,builtin,hρ x _ hx,hρ y _ hy]
    simp at hr
    rw [hr]
    rfl
  · have hl0:l.length≠0:=by simpa using h0
    obtain ⟨g,ys,hA,hM,g1,g2,g3,g4⟩:∃ g ys,A=some ⟨g,0,none⟩∧M=[(g,cb (bv l++ys) e)]∧(bv l).length=l.length∧(bv l).length+ys.length=c∧l.length≤c∧c≤9223372036854775807:=qo1 hO O
    subst hA
    subst hM
    have hperm:(X++([(g,cb (bv l++ys) e)]++L0)).Perm ((g,cb (bv l++ys) e)::(X++L0)):=by simpa using List.perm_middle
    have ho2:=ho.perm hperm
    have hgs:g < s.heap.size:=ho2.lt Mc
    have hgs2:g < (fill (X++L0) s).heap.size:=by rw [qaC];exact hgs
    have ho3:OKL D ([(g,Obj.cells (bv l++ys).toArray e (0,l.length))]++(X++L0)) s:=⟨by simpa using ho2.nd,fun x hx=>by
      rcases List.mem_cons.1 hx with rfl | hx
      · exact ho2.dm (g,cb (bv l++ys) e) Mc
      · exact ho2.dm x (List.mem_cons_of_mem _ hx)⟩
    obtain ⟨d1,d2,d3⟩:=qbx ho3
    have hbl:(bv l).length=l.length:=g1
    have hus:=Lib.run_unsafeString_row (P:=P) (fill (X++([(g,cb (bv l++ys) e)]++L0)) s) tp ti0 ty e hp hce g ((bv l++ys).length) (qf7 ho (by simp)) l h0 (by simp [hbl]) O (fun j x hx=>by
      rw [add_lit,Nat.zero_add,qcF ho (zs:=bv l++ys) (t:=e) (by simp),List.getElem?_append_left (by rw [hbl];exact (List.getElem?_eq_some_iff.1 hx).1)]
      simp [bv,hx])
    have hw:(fill (X++([(g,cb (bv l++ys) e)]++L0)) s).freeze ⟨g,0,none⟩ l.length=fill (X++L0) (fill [(g,Obj.cells (bv l++ys).toArray e (0,l.length))] s):=by
      rw [qbn hperm _ ho,← d1]
      exact qki (fill (X++L0) s) g e l.length (bv l++ys).toArray hl0 hgs2
    refine ⟨fill [(g,Obj.cells (bv l++ys).toArray e (0,l.length))] s,fun hT _ dst pos af gg ρ hρ=>⟨?_,d2⟩,d3⟩
    rw [hw] at hus
    simp only [execOp,resolve,invoke,builtin,Sem.run_bind,Sem.run_pure,Result.andThen_ok,List.map_toArray,List.map_cons,List.map_nil,hρ x _ hx,hρ y _ hy,hus]
theorem qrK{i0 tp ti0 e:Nat}{g:Option (Nat×Bool)}{fuel:Nat}{listed:Array Bool}{x y:Operand}{A:Option Addr}{l:List UInt8}{c:Nat}(hi0:ops[i0]?=some ⟨some d,.call { callee:=.builtin .unsafeString,args:=#[x,y],argTypes:=#[tp,ti0] },ty,pos,af,g⟩)(hgk:GOK ops fr g)
  (X M L0:Hl) (hL:L=X++(M++L0)) (hp:P.underlying tp=some (.pointer e)) (hce:P.cellsOf e=1) (hx:lk fr x=some (.pointer A)) (hy:lk fr y=some (.int .i64 (l.length:Int))) (hO:FL.Own e 1 M (.slice A l.length c) l.length (bv l)) (hn:l=[]→M=[]) (hd:Nat.blt d n=true) (hK:∀ x∈K,x∈X++(M++L0)→x∈X++L0)
  (kk:∀ s',Le D s s'→JA P TT D n ops Q K s0 fuel (listed.setIfInBounds i0 true) ((d,St l)::fr) (X++L0) s'):JB P TT D n ops Q K s0 fuel listed i0 fr L s:=fun hT a hr ho hl0 hKL=>by
 subst hL
 obtain ⟨s',h1,h2⟩:=qrg (ty:=ty) X M L0 hp hce hx hy hO hn ho
 exact qju hi0 hgk h1 h2 hK hd (kk s' h2) hT a hr ho hl0 hKL
end
end Go.FL
namespace Go.Proofs
open Go.Shelf
def Tryz.lays104_ren:Go.Shelf.Ren:=⟨fun | 104=>94 | 211=>114 | 207=>128 | n=>n,fun | 9=>9 | 4=>4 | 24=>177 | 3=>3 | n=>n,fun | n=>n⟩
theorem Tryz.lays104:Go.Proofs.Lays.n104 Tryz.prog Tryz.lays104_ren:={
 mixed:=by kernel_rfl
 f104:=Tryz.func94.trans (congrArg some V)
 f207:=Tryz.func128.trans (congrArg some V)
 f211:=Tryz.func114.trans (congrArg some V)
 t3:=Tryz.underlying3
 a3:=Tryz.isAgg3
 z3:=Tryz.sizeOf3
 v3:=Tryz.zeroValue3
 t4:=Tryz.underlying4
 a4:=Tryz.isAgg4
 z4:=Tryz.sizeOf4
 v4:=Tryz.zeroValue4
 t9:=Tryz.underlying9
 a9:=Tryz.isAgg9
 z9:=Tryz.sizeOf9
 v9:=Tryz.zeroValue9
 t24:=Tryz.underlying177
 a24:=Tryz.isAgg177
 z24:=Tryz.sizeOf177
 v24:=Tryz.zeroValue177 }
def Tryz.lays283_ren:Go.Shelf.Ren:=⟨fun | 283=>104 | n=>n,fun | 3=>3 | 9=>9 | 4=>4 | n=>n,fun | n=>n⟩
theorem Tryz.lays283:Go.Proofs.Lays.n283 Tryz.prog Tryz.lays283_ren:={
 mixed:=by kernel_rfl
 f283:=Tryz.func104.trans (congrArg some V)
 t3:=Tryz.underlying3
 a3:=Tryz.isAgg3
 z3:=Tryz.sizeOf3
 v3:=Tryz.zeroValue3
 t4:=Tryz.underlying4
 a4:=Tryz.isAgg4
 z4:=Tryz.sizeOf4
 v4:=Tryz.zeroValue4
 t9:=Tryz.underlying9
 a9:=Tryz.isAgg9
 z9:=Tryz.sizeOf9
 v9:=Tryz.zeroValue9 }
def Tryz.laysM284_ren:Go.Shelf.Ren:=⟨fun | 284=>105 | 129=>119 | 317=>118 | 318=>120 | n=>n,fun | 53=>116 | 3=>3 | 212=>202 | 0=>0 | 4=>4 | 46=>115 | 5=>5 | 9=>9 | n=>n,fun | 17=>0 | n=>n⟩
theorem Tryz.laysM284:Go.Proofs.LaysM.n284 Tryz.prog Tryz.laysM284_ren:={
 mixed:=by kernel_rfl
 f129:=Tryz.func119.trans (congrArg some V)
 f284:=Tryz.func105.trans (congrArg some V)
 f317:=Tryz.func118.trans (congrArg some V)
 f318:=Tryz.func120.trans (congrArg some V)
 t0:=Tryz.underlying0
 a0:=Tryz.isAgg0
 z0:=Tryz.sizeOf0
 v0:=Tryz.zeroValue0
 t3:=Tryz.underlying3
 a3:=Tryz.isAgg3
 z3:=Tryz.sizeOf3
 v3:=Tryz.zeroValue3
 t4:=Tryz.underlying4
 a4:=Tryz.isAgg4
 z4:=Tryz.sizeOf4
 v4:=Tryz.zeroValue4
 t5:=Tryz.underlying5
 a5:=Tryz.isAgg5
 z5:=Tryz.sizeOf5
 v5:=Tryz.zeroValue5
 t9:=Tryz.underlying9
 a9:=Tryz.isAgg9
 z9:=Tryz.sizeOf9
 v9:=Tryz.zeroValue9
 t46:=Tryz.underlying115
 a46:=Tryz.isAgg115
 z46:=Tryz.sizeOf115
 v46:=Tryz.zeroValue115
 t53:=Tryz.underlying116
 a53:=Tryz.isAgg116
 z53:=Tryz.sizeOf116
 v53:=Tryz.zeroValue116
 t212:=Tryz.underlying202
 a212:=Tryz.isAgg202
 z212:=Tryz.sizeOf202
 v212:=Tryz.zeroValue202
 g17:=by kernel_rfl
 i0:=by kernel_rfl
 i3:=by kernel_rfl
 i4:=by kernel_rfl
 i5:=by kernel_rfl
 i9:=by kernel_rfl
 i46:=by kernel_rfl
 i53:=by kernel_rfl
 i212:=by kernel_rfl
 m17:=by kernel_rfl }
def Tryz.lays285_ren:Go.Shelf.Ren:=⟨fun | 285=>106 | n=>n,fun | 37=>26 | 53=>116 | 3=>3 | 4=>4 | 51=>38 | 9=>9 | 5=>5 | 0=>0 | n=>n,fun | n=>n⟩
theorem Tryz.lays285:Go.Proofs.Lays.n285 Tryz.prog Tryz.lays285_ren:={
 mixed:=by kernel_rfl
 f285:=Tryz.func106.trans (congrArg some V)
 t0:=Tryz.underlying0
 a0:=Tryz.isAgg0
 z0:=Tryz.sizeOf0
 v0:=Tryz.zeroValue0
 t3:=Tryz.underlying3
 a3:=Tryz.isAgg3
 z3:=Tryz.sizeOf3
 v3:=Tryz.zeroValue3
 t4:=Tryz.underlying4
 a4:=Tryz.isAgg4
 z4:=Tryz.sizeOf4
 v4:=Tryz.zeroValue4
 t5:=Tryz.underlying5
 a5:=Tryz.isAgg5
 z5:=Tryz.sizeOf5
 v5:=Tryz.zeroValue5
 t9:=Tryz.underlying9
 a9:=Tryz.isAgg9
 z9:=Tryz.sizeOf9
 v9:=Tryz.zeroValue9
 t37:=Tryz.underlying26
 a37:=Tryz.isAgg26
 z37:=Tryz.sizeOf26
 v37:=Tryz.zeroValue26
 t51:=Tryz.underlying38
 a51:=Tryz.isAgg38
 z51:=Tryz.sizeOf38
 v51:=Tryz.zeroValue38
 t53:=Tryz.underlying116
 a53:=Tryz.isAgg116
 z53:=Tryz.sizeOf116
 v53:=Tryz.zeroValue116 }
def Tryz.laysM171_ren:Go.Shelf.Ren:=⟨fun | 171=>42 | 243=>64 | 246=>84 | 283=>104 | 284=>105 | 285=>106 | 286=>107 | 129=>119 | 317=>118 | 318=>120 | 319=>121 | 320=>122 | 337=>131 | 338=>132 | n=>n,fun | 3=>3 | 9=>9 | 2=>2 | 4=>4 | 171=>187 | 0=>0 | 53=>116 | 37=>26 | 5=>5 | 173=>190 | 212=>202 | 51=>38 | 20=>20 | 213=>203 | 46=>115 | 232=>218 | 233=>219 | n=>n,fun | 17=>0 | 18=>4 | 19=>5 | n=>n⟩
theorem Tryz.laysM171:Go.Proofs.LaysM.n171 Tryz.prog Tryz.laysM171_ren:={
 mixed:=by kernel_rfl
 f129:=Tryz.func119.trans (congrArg some V)
 f171:=Tryz.func42.trans (congrArg some V)
 f243:=Tryz.func64.trans (congrArg some V)
 f246:=Tryz.func84.trans (congrArg some V)
 f283:=Tryz.func104.trans (congrArg some V)
 f284:=Tryz.func105.trans (congrArg some V)
 f285:=Tryz.func106.trans (congrArg some V)
 f286:=Tryz.func107.trans (congrArg some V)
 f317:=Tryz.func118.trans (congrArg some V)
 f318:=Tryz.func120.trans (congrArg some V)
 f319:=Tryz.func121.trans (congrArg some V)
 f320:=Tryz.func122.trans (congrArg some V)
 f337:=Tryz.func131.trans (congrArg some V)
 f338:=Tryz.func132.trans (congrArg some V)
 t0:=Tryz.underlying0
 a0:=Tryz.isAgg0
 z0:=Tryz.sizeOf0
 v0:=Tryz.zeroValue0
 t2:=Tryz.underlying2
 a2:=Tryz.isAgg2
 z2:=Tryz.sizeOf2
 v2:=Tryz.zeroValue2
 t3:=Tryz.underlying3
 a3:=Tryz.isAgg3
 z3:=Tryz.sizeOf3
 v3:=Tryz.zeroValue3
 t4:=Tryz.underlying4
 a4:=Tryz.isAgg4
 z4:=Tryz.sizeOf4
 v4:=Tryz.zeroValue4
 t5:=Tryz.underlying5
 a5:=Tryz.isAgg5
 z5:=Tryz.sizeOf5
 v5:=Tryz.zeroValue5
 t9:=Tryz.underlying9
 a9:=Tryz.isAgg9
 z9:=Tryz.sizeOf9
 v9:=Tryz.zeroValue9
 t20:=Tryz.underlying20
 a20:=Tryz.isAgg20
 z20:=Tryz.sizeOf20
 v20:=Tryz.zeroValue20
 t37:=Tryz.underlying26
 a37:=Tryz.isAgg26
 z37:=Tryz.sizeOf26
 v37:=Tryz.zeroValue26
 t46:=Tryz.underlying115
 a46:=Tryz.isAgg115
 z46:=Tryz.sizeOf115
 v46:=Tryz.zeroValue115
 t51:=Tryz.underlying38
 a51:=Tryz.isAgg38
 z51:=Tryz.sizeOf38
 v51:=Tryz.zeroValue38
 t53:=Tryz.underlying116
 a53:=Tryz.isAgg116
 z53:=Tryz.sizeOf116
 v53:=Tryz.zeroValue116
 t171:=Tryz.underlying187
 a171:=Tryz.isAgg187
 z171:=Tryz.sizeOf187
 v171:=Tryz.zeroValue187
 t173:=Tryz.underlying190
 a173:=Tryz.isAgg190
 z173:=Tryz.sizeOf190
 v173:=Tryz.zeroValue190
 t212:=Tryz.underlying202
 a212:=Tryz.isAgg202
 z212:=Tryz.sizeOf202
 v212:=Tryz.zeroValue202
 t213:=Tryz.underlying203
 a213:=Tryz.isAgg203
 z213:=Tryz.sizeOf203
 t232:=Tryz.underlying218
 a232:=Tryz.isAgg218
 z232:=Tryz.sizeOf218
 v232:=Tryz.zeroValue218
 t233:=Tryz.underlying219
 a233:=Tryz.isAgg219
 z233:=Tryz.sizeOf219
 v233:=Tryz.zeroValue219
 g17:=by kernel_rfl
 g18:=by kernel_rfl
 g19:=by kernel_rfl
 i0:=by kernel_rfl
 i2:=by kernel_rfl
 i3:=by kernel_rfl
 i4:=by kernel_rfl
 i5:=by kernel_rfl
 i9:=by kernel_rfl
 i20:=by kernel_rfl
 i37:=by kernel_rfl
 i46:=by kernel_rfl
 i51:=by kernel_rfl
 i53:=by kernel_rfl
 i171:=by kernel_rfl
 i173:=by kernel_rfl
 i212:=by kernel_rfl
 i232:=by kernel_rfl
 i233:=by kernel_rfl
 m17:=by kernel_rfl
 m18:=by kernel_rfl
 m19:=by kernel_rfl }
def Tryz.laysPu14_ren:Go.Shelf.Ren:=⟨fun | 14=>129 | 16=>135 | 17=>136 | 19=>138 | 20=>139 | 21=>140 | 22=>141 | 23=>142 | 24=>143 | 25=>144 | 27=>42 | 26=>145 | 28=>64 | 29=>84 | 30=>104 | 31=>105 | 32=>106 | 33=>107 | 35=>119 | 34=>118 | 36=>120 | 37=>121 | 38=>122 | 39=>131 | 40=>132 | n=>n,fun | 9=>9 | 3=>3 | 22=>116 | 24=>106 | 25=>207 | 4=>4 | 34=>220 | 5=>5 | 36=>115 | 37=>26 | 0=>0 | 39=>222 | 21=>21 | 44=>227 | 47=>142 | 50=>231 | 48=>229 | 2=>2 | 52=>187 | 55=>190 | 59=>202 | 60=>38 | 20=>20 | 61=>203 | 65=>218 | 66=>219 | 67=>112 | n=>n,fun | 0=>6 | 1=>7 | 2=>0 | 3=>4 | 4=>5 | n=>n⟩
theorem Tryz.laysPu14:Go.Proofs.LaysPu.n14 Tryz.prog Tryz.laysPu14_ren:={
 mixed:=by kernel_rfl
 f14:=Tryz.func129.trans (congrArg some V)
 f16:=Tryz.func135.trans (congrArg some V)
 f17:=Tryz.func136.trans (congrArg some V)
 f19:=Tryz.func138.trans (congrArg some V)
 f20:=Tryz.func139.trans (congrArg some V)
 f21:=Tryz.func140.trans (congrArg some V)
 f22:=Tryz.func141.trans (congrArg some V)
 f23:=Tryz.func142.trans (congrArg some V)
 f24:=Tryz.func143.trans (congrArg some V)
 f25:=Tryz.func144.trans (congrArg some V)
 f26:=Tryz.func145.trans (congrArg some V)
 f27:=Tryz.func42.trans (congrArg some V)
 f28:=Tryz.func64.trans (congrArg some V)
 f29:=Tryz.func84.trans (congrArg some V)
 f30:=Tryz.func104.trans (congrArg some V)
 f31:=Tryz.func105.trans (congrArg some V)
 f32:=Tryz.func106.trans (congrArg some V)
 f33:=Tryz.func107.trans (congrArg some V)
 f34:=Tryz.func118.trans (congrArg some V)
 f35:=Tryz.func119.trans (congrArg some V)
 f36:=Tryz.func120.trans (congrArg some V)
 f37:=Tryz.func121.trans (congrArg some V)
 f38:=Tryz.func122.trans (congrArg some V)
 f39:=Tryz.func131.trans (congrArg some V)
 f40:=Tryz.func132.trans (congrArg some V)
 t0:=Tryz.underlying0
 a0:=Tryz.isAgg0
 z0:=Tryz.sizeOf0
 v0:=Tryz.zeroValue0
 i0:=by kernel_rfl
 t2:=Tryz.underlying2
 a2:=Tryz.isAgg2
 z2:=Tryz.sizeOf2
 v2:=Tryz.zeroValue2
 i2:=by kernel_rfl
 t3:=Tryz.underlying3
 a3:=Tryz.isAgg3
 z3:=Tryz.sizeOf3
 v3:=Tryz.zeroValue3
 i3:=by kernel_rfl
 t4:=Tryz.underlying4
 a4:=Tryz.isAgg4
 z4:=Tryz.sizeOf4
 v4:=Tryz.zeroValue4
 i4:=by kernel_rfl
 t5:=Tryz.underlying5
 a5:=Tryz.isAgg5
 z5:=Tryz.sizeOf5
 v5:=Tryz.zeroValue5
 i5:=by kernel_rfl
 t9:=Tryz.underlying9
 a9:=Tryz.isAgg9
 z9:=Tryz.sizeOf9
 v9:=Tryz.zeroValue9
 i9:=by kernel_rfl
 t20:=Tryz.underlying20
 a20:=Tryz.isAgg20
 z20:=Tryz.sizeOf20
 v20:=Tryz.zeroValue20
 i20:=by kernel_rfl
 t21:=Tryz.underlying21
 a21:=Tryz.isAgg21
 z21:=Tryz.sizeOf21
 v21:=Tryz.zeroValue21
 i21:=by kernel_rfl
 t22:=Tryz.underlying116
 a22:=Tryz.isAgg116
 z22:=Tryz.sizeOf116
 v22:=Tryz.zeroValue116
 i22:=by kernel_rfl
 t24:=Tryz.underlying106
 a24:=Tryz.isAgg106
 z24:=Tryz.sizeOf106
 v24:=Tryz.zeroValue106
 i24:=by kernel_rfl
 t25:=Tryz.underlying207
 a25:=Tryz.isAgg207
 z25:=Tryz.sizeOf207
 v25:=Tryz.zeroValue207
 i25:=by kernel_rfl
 t34:=Tryz.underlying220
 a34:=Tryz.isAgg220
 z34:=Tryz.sizeOf220
 v34:=Tryz.zeroValue220
 i34:=by kernel_rfl
 c34:=by kernel_rfl
 t36:=Tryz.underlying115
 a36:=Tryz.isAgg115
 z36:=Tryz.sizeOf115
 v36:=Tryz.zeroValue115
 i36:=by kernel_rfl
 t37:=Tryz.underlying26
 a37:=Tryz.isAgg26
 z37:=Tryz.sizeOf26
 v37:=Tryz.zeroValue26
 i37:=by kernel_rfl
 t39:=Tryz.underlying222
 a39:=Tryz.isAgg222
 z39:=Tryz.sizeOf222
 v39:=Tryz.zeroValue222
 i39:=by kernel_rfl
 t44:=Tryz.underlying227
 a44:=Tryz.isAgg227
 z44:=Tryz.sizeOf227
 v44:=Tryz.zeroValue227
 i44:=by kernel_rfl
 t47:=Tryz.underlying142
 a47:=Tryz.isAgg142
 z47:=Tryz.sizeOf142
 v47:=Tryz.zeroValue142
 i47:=by kernel_rfl
 t48:=Tryz.underlying229
 a48:=Tryz.isAgg229
 z48:=Tryz.sizeOf229
 v48:=Tryz.zeroValue229
 i48:=by kernel_rfl
 t50:=Tryz.underlying231
 a50:=Tryz.isAgg231
 z50:=Tryz.sizeOf231
 v50:=Tryz.zeroValue231
 i50:=by kernel_rfl
 t52:=Tryz.underlying187
 a52:=Tryz.isAgg187
 z52:=Tryz.sizeOf187
 v52:=Tryz.zeroValue187
 i52:=by kernel_rfl
 t55:=Tryz.underlying190
 a55:=Tryz.isAgg190
 z55:=Tryz.sizeOf190
 v55:=Tryz.zeroValue190
 i55:=by kernel_rfl
 t59:=Tryz.underlying202
 a59:=Tryz.isAgg202
 z59:=Tryz.sizeOf202
 v59:=Tryz.zeroValue202
 i59:=by kernel_rfl
 t60:=Tryz.underlying38
 a60:=Tryz.isAgg38
 z60:=Tryz.sizeOf38
 v60:=Tryz.zeroValue38
 i60:=by kernel_rfl
 t61:=Tryz.underlying203
 a61:=Tryz.isAgg203
 z61:=Tryz.sizeOf203
 t65:=Tryz.underlying218
 a65:=Tryz.isAgg218
 z65:=Tryz.sizeOf218
 v65:=Tryz.zeroValue218
 i65:=by kernel_rfl
 t66:=Tryz.underlying219
 a66:=Tryz.isAgg219
 z66:=Tryz.sizeOf219
 v66:=Tryz.zeroValue219
 i66:=by kernel_rfl
 t67:=Tryz.underlying112
 a67:=Tryz.isAgg112
 z67:=Tryz.sizeOf112
 v67:=Tryz.zeroValue112
 i67:=by kernel_rfl
 g0:=by kernel_rfl
 m0:=by kernel_rfl
 g1:=by kernel_rfl
 m1:=by kernel_rfl
 g2:=by kernel_rfl
 m2:=by kernel_rfl
 g3:=by kernel_rfl
 m3:=by kernel_rfl
 g4:=by kernel_rfl
 m4:=by kernel_rfl }
def Tryz.lays219_ren:Go.Shelf.Ren:=⟨fun | 219=>112 | 217=>124 | 225=>125 | 224=>126 | 267=>127 | 266=>133 | 314=>134 | n=>n,fun | 9=>9 | 3=>3 | 4=>4 | 5=>5 | 46=>115 | 146=>215 | 51=>38 | n=>n,fun | 1=>1 | n=>n⟩
theorem Tryz.lays219:Go.Proofs.Lays.n219 Tryz.prog Tryz.lays219_ren:={
 mixed:=by kernel_rfl
 f217:=Tryz.func124.trans (congrArg some V)
 f219:=Tryz.func112.trans (congrArg some V)
 f224:=Tryz.func126.trans (congrArg some V)
 f225:=Tryz.func125.trans (congrArg some V)
 f266:=Tryz.func133.trans (congrArg some V)
 f267:=Tryz.func127.trans (congrArg some V)
 f314:=Tryz.func134.trans (congrArg some V)
 t3:=Tryz.underlying3
 a3:=Tryz.isAgg3
 z3:=Tryz.sizeOf3
 v3:=Tryz.zeroValue3
 t4:=Tryz.underlying4
 a4:=Tryz.isAgg4
 z4:=Tryz.sizeOf4
 v4:=Tryz.zeroValue4
 t5:=Tryz.underlying5
 a5:=Tryz.isAgg5
 z5:=Tryz.sizeOf5
 v5:=Tryz.zeroValue5
 t9:=Tryz.underlying9
 a9:=Tryz.isAgg9
 z9:=Tryz.sizeOf9
 v9:=Tryz.zeroValue9
 t46:=Tryz.underlying115
 a46:=Tryz.isAgg115
 z46:=Tryz.sizeOf115
 v46:=Tryz.zeroValue115
 t51:=Tryz.underlying38
 a51:=Tryz.isAgg38
 z51:=Tryz.sizeOf38
 v51:=Tryz.zeroValue38
 t146:=Tryz.underlying215
 a146:=Tryz.isAgg215
 z146:=Tryz.sizeOf215
 v146:=Tryz.zeroValue215
 g1:=by kernel_rfl }
def Tryz.laysGw17_ren:Go.Shelf.Ren:=⟨fun | 17=>65 | 15=>85 | 20=>108 | n=>n,fun | 9=>9 | 23=>144 | 4=>4 | 3=>3 | 0=>0 | 21=>21 | n=>n,fun | n=>n⟩
theorem Tryz.laysGw17:Go.Proofs.LaysGw.n17 Tryz.prog Tryz.laysGw17_ren:={
 mixed:=by kernel_rfl
 f15:=Tryz.func85.trans (congrArg some V)
 f17:=Tryz.func65.trans (congrArg some V)
 f20:=Tryz.func108.trans (congrArg some V)
 t0:=Tryz.underlying0
 a0:=Tryz.isAgg0
 z0:=Tryz.sizeOf0
 v0:=Tryz.zeroValue0
 i0:=by kernel_rfl
 t3:=Tryz.underlying3
 a3:=Tryz.isAgg3
 z3:=Tryz.sizeOf3
 v3:=Tryz.zeroValue3
 i3:=by kernel_rfl
 t4:=Tryz.underlying4
 a4:=Tryz.isAgg4
 z4:=Tryz.sizeOf4
 v4:=Tryz.zeroValue4
 i4:=by kernel_rfl
 t9:=Tryz.underlying9
 a9:=Tryz.isAgg9
 z9:=Tryz.sizeOf9
 v9:=Tryz.zeroValue9
 i9:=by kernel_rfl
 t21:=Tryz.underlying21
 a21:=Tryz.isAgg21
 z21:=Tryz.sizeOf21
 v21:=Tryz.zeroValue21
 i21:=by kernel_rfl
 t23:=Tryz.underlying144
 a23:=Tryz.isAgg144
 z23:=Tryz.sizeOf144
 v23:=Tryz.zeroValue144
 i23:=by kernel_rfl }
def Tryz.lays221_ren:Go.Shelf.Ren:=⟨fun | 221=>70 | 268=>88 | 138=>89 | 143=>90 | 195=>109 | 197=>110 | 218=>111 | 219=>112 | 260=>123 | 217=>124 | 225=>125 | 224=>126 | 267=>127 | 266=>133 | 314=>134 | n=>n,fun | 9=>9 | 3=>3 | 31=>121 | 4=>4 | 0=>0 | 105=>194 | 21=>21 | 5=>5 | 46=>115 | 119=>211 | 139=>214 | 138=>213 | 146=>215 | 51=>38 | n=>n,fun | 1=>1 | 3=>2 | 4=>3 | n=>n⟩
theorem Tryz.lays221:Go.Proofs.Lays.n221 Tryz.prog Tryz.lays221_ren:={
 mixed:=by kernel_rfl
 f138:=Tryz.func89.trans (congrArg some V)
 f143:=Tryz.func90.trans (congrArg some V)
 f195:=Tryz.func109.trans (congrArg some V)
 f197:=Tryz.func110.trans (congrArg some V)
 f217:=Tryz.func124.trans (congrArg some V)
 f218:=Tryz.func111.trans (congrArg some V)
 f219:=Tryz.func112.trans (congrArg some V)
 f221:=Tryz.func70.trans (congrArg some V)
 f224:=Tryz.func126.trans (congrArg some V)
 f225:=Tryz.func125.trans (congrArg some V)
 f260:=Tryz.func123.trans (congrArg some V)
 f266:=Tryz.func133.trans (congrArg some V)
 f267:=Tryz.func127.trans (congrArg some V)
 f268:=Tryz.func88.trans (congrArg some V)
 f314:=Tryz.func134.trans (congrArg some V)
 t0:=Tryz.underlying0
 a0:=Tryz.isAgg0
 z0:=Tryz.sizeOf0
 v0:=Tryz.zeroValue0
 t3:=Tryz.underlying3
 a3:=Tryz.isAgg3
 z3:=Tryz.sizeOf3
 v3:=Tryz.zeroValue3
 t4:=Tryz.underlying4
 a4:=Tryz.isAgg4
 z4:=Tryz.sizeOf4
 v4:=Tryz.zeroValue4
 t5:=Tryz.underlying5
 a5:=Tryz.isAgg5
 z5:=Tryz.sizeOf5
 v5:=Tryz.zeroValue5
 t9:=Tryz.underlying9
 a9:=Tryz.isAgg9
 z9:=Tryz.sizeOf9
 v9:=Tryz.zeroValue9
 t21:=Tryz.underlying21
 a21:=Tryz.isAgg21
 z21:=Tryz.sizeOf21
 v21:=Tryz.zeroValue21
 t31:=Tryz.underlying121
 a31:=Tryz.isAgg121
 z31:=Tryz.sizeOf121
 v31:=Tryz.zeroValue121
 t46:=Tryz.underlying115
 a46:=Tryz.isAgg115
 z46:=Tryz.sizeOf115
 v46:=Tryz.zeroValue115
 t51:=Tryz.underlying38
 a51:=Tryz.isAgg38
 z51:=Tryz.sizeOf38
 v51:=Tryz.zeroValue38
 t105:=Tryz.underlying194
 a105:=Tryz.isAgg194
 z105:=Tryz.sizeOf194
 v105:=Tryz.zeroValue194
 t119:=Tryz.underlying211
 a119:=Tryz.isAgg211
 z119:=Tryz.sizeOf211
 t138:=Tryz.underlying213
 a138:=Tryz.isAgg213
 z138:=Tryz.sizeOf213
 v138:=Tryz.zeroValue213
 t139:=Tryz.underlying214
 a139:=Tryz.isAgg214
 z139:=Tryz.sizeOf214
 v139:=Tryz.zeroValue214
 t146:=Tryz.underlying215
 a146:=Tryz.isAgg215
 z146:=Tryz.sizeOf215
 v146:=Tryz.zeroValue215
 g1:=by kernel_rfl
 g3:=by kernel_rfl
 g4:=by kernel_rfl }
def Tryz.lays229_ren:Go.Shelf.Ren:=⟨fun | 229=>92 | n=>n,fun | 9=>9 | 40=>144 | 31=>121 | 152=>196 | 3=>3 | 0=>0 | 4=>4 | 21=>21 | 154=>198 | n=>n,fun | n=>n⟩
theorem Tryz.lays229:Go.Proofs.Lays.n229 Tryz.prog Tryz.lays229_ren:={
 mixed:=by kernel_rfl
 f229:=Tryz.func92.trans (congrArg some V)
 t0:=Tryz.underlying0
 a0:=Tryz.isAgg0
 z0:=Tryz.sizeOf0
 v0:=Tryz.zeroValue0
 t3:=Tryz.underlying3
 a3:=Tryz.isAgg3
 z3:=Tryz.sizeOf3
 v3:=Tryz.zeroValue3
 t4:=Tryz.underlying4
 a4:=Tryz.isAgg4
 z4:=Tryz.sizeOf4
 v4:=Tryz.zeroValue4
 t9:=Tryz.underlying9
 a9:=Tryz.isAgg9
 z9:=Tryz.sizeOf9
 v9:=Tryz.zeroValue9
 t21:=Tryz.underlying21
 a21:=Tryz.isAgg21
 z21:=Tryz.sizeOf21
 v21:=Tryz.zeroValue21
 t31:=Tryz.underlying121
 a31:=Tryz.isAgg121
 z31:=Tryz.sizeOf121
 v31:=Tryz.zeroValue121
 t40:=Tryz.underlying144
 a40:=Tryz.isAgg144
 z40:=Tryz.sizeOf144
 v40:=Tryz.zeroValue144
 t152:=Tryz.underlying196
 a152:=Tryz.isAgg196
 z152:=Tryz.sizeOf196
 v152:=Tryz.zeroValue196
 t154:=Tryz.underlying198
 a154:=Tryz.isAgg198
 z154:=Tryz.sizeOf198
 v154:=Tryz.zeroValue198 }
end Go.Proofs
namespace Go.Proofs.YtjindleklapakaaGreatDoor
open Go Go.FL
def qgE(l:List UInt8)(c:Int):Int:=qce (fun x=>decide ((x.toNat:Int)=c)) l 0
def qbD(c:Int):List UInt8→List UInt8→List (List UInt8)
 | cur,[]=>[cur]
 | cur,x::r=>if (x.toNat:Int)=c then cur::qbD c [] r else qbD c (cur++[x]) r
def splitB(c:Int)(l:List UInt8):List (List UInt8):=qbD c [] l
theorem qfG(c:Int)(cur l:List UInt8):(qbD c cur l).length≤l.length+1:=by
 induction l generalizing cur with
 | nil=>simp [qbD]
 | cons x r ih=>
  simp only [qbD]
  split
  · simp only [List.length_cons];have:=ih [];omega
  · simp only [List.length_cons];have:=ih (cur++[x]);omega
theorem qcG(c:Int)(cur l:List UInt8):∀ p∈qbD c cur l,p.length≤cur.length+l.length:=by
  induction l generalizing cur with
  | nil=>intro p hp;simp [qbD] at hp;subst hp;simp
  | cons x r ih=>
    intro p hp
    simp only [qbD] at hp
    split at hp
    · rcases List.mem_cons.1 hp with rfl | hp
      · simp only [List.length_cons];omega
      · have:=ih [] p hp;simp only [List.length_nil,List.length_cons] at this ⊢;omega
    · have:=ih (cur++[x]) p hp;simp only [List.length_append,List.length_cons,List.length_nil] at this ⊢;omega
theorem qhY{l:List UInt8}{c:Int}{i f:Nat}{x:UInt8}(h:l[i]?=some x)(hx:(x.toNat:Int)=c):qbD c ((l.drop f).take (i - f)) (l.drop i)=((l.drop f).take (i - f))::qbD c ((l.drop (i+1)).take ((i+1) - (i+1))) (l.drop (i+1)):=by
 obtain ⟨hi,rfl⟩:=List.getElem?_eq_some_iff.1 h
 rw [List.drop_eq_getElem_cons hi]
 simp only [qbD,hx,if_true,Nat.sub_self,List.take_zero]
theorem qgM{l:List UInt8}{c:Int}{i f:Nat}{x:UInt8}(h:l[i]?=some x)(hx:¬ (x.toNat:Int)=c)(hf:f≤i):qbD c ((l.drop f).take (i - f)) (l.drop i)=qbD c ((l.drop f).take ((i+1) - f)) (l.drop (i+1)):=by
 obtain ⟨hi,rfl⟩:=List.getElem?_eq_some_iff.1 h
 rw [List.drop_eq_getElem_cons hi]
 simp only [qbD,hx,if_false]
 congr 1
 rw [show i+1 - f=(i - f)+1 by omega,List.take_add_one,List.getElem?_drop,show f+(i - f)=i by omega,List.getElem?_eq_getElem hi];rfl
theorem qlq{l:List UInt8}{c:Int}{f:Nat}:qbD c ((l.drop f).take (l.length - f)) (l.drop l.length)=[l.drop f]:=by
 rw [List.drop_length,List.take_of_length_le (by simp)];rfl
def sb(l:List (List UInt8)):List Value:=l.map fun x=>St x
theorem qgb(l:List (List UInt8))(x:List UInt8):sb (l++[x])=sb l++[St x]:=by simp [sb]
theorem Own.strs{e:Nat}{A:Hl}{Ad:Option Addr}{n c:Nat}{l:List (List UInt8)}{s:World}(h:FL.Own e 1 A (.slice Ad n c) n (sb l))(hu:∀ x∈l,x.length≤9223372036854775807)(hp:Pub A s)(hn:n=l.length):Strs s Ad n c l:=by
 have he:sb l=(l.map fun x=>[St x]).flatten:=by
  clear h hu hn
  induction l with
  | nil=>rfl
  | cons x r ih=>simp [sb] at ih ⊢;exact ih
 rw [he] at h
 refine Own.rows h hp ?_ hn
 clear h he hn
 induction l with
 | nil=>exact .nil
 | cons x r ih=>exact .cons ⟨rfl,rfl,hu x Mc⟩ (ih fun y hy=>hu y (List.mem_cons_of_mem _ hy))
theorem qtR(x:Int):U32 (w32 x):=⟨by unfold w32;omega,by unfold w32;omega⟩
open Go.Proofs.Tryz
open Go.FL
attribute [local irreducible] JC JO JA JB qa7 qaP qdj AC fill CellsAt QE Ev Mid
theorem qap(css:List (List Value))(cs:List Value):(css++[cs]).flatten=css.flatten++cs:=by simp
theorem qht(D:Nat)(L:Hl)(s:World)(l:List UInt8)(c:Int)(hl:l.length≤9223372036854775807):AC prog D 75 [St l,.int .u8 c] L s fun v L' _=>v=.int .i64 (qgE l c)∧L=L':=by
 refine qai (fn:=f75) qaG func75 V Z ntmps75 Z (rs:=[.tmp 4]) Z [(0,_),(1,_)] Z<|Sr<|At Z Z<|Zs<|Sr<|At Z Z<|Zp<|qaQ (γ:=Nat) (fun k=>[(0,_),(1,_),(4,_),(5,.int .i64 (k:Int))]) (fun _=>_) (fun k tw=>Le D s tw∧(k≤l.length∧∀ i x,i < k→l[i]?=some x→decide ((x.toNat:Int)=c)=false)) (fun k=>l.length - k) (fun _ _ _ h hl=>⟨h.1.trans hl,h.2⟩) 0 (.c4 Z Z Z Z (.nil _)) Z ⟨Le.refl _,⟨Nat.zero_le _,fun i c hi=>by omega⟩⟩ ?_
 intro k s1 I1
 have hk0:=I1.2.1
 have hI:=I1.2.2
 refine Zs<|Sr<|Zqm Z Z<|Zqm Z Z<|qeI Z Z Z Z<|qbY Z Z Z<|Nt<|?_
 refine qab Z (fun c2=>?_) (fun c2=>?_)
 ·
  have hk:k < l.length:=by omega
  obtain ⟨ch,hch⟩:∃ ch,l[k]?=some ch:=⟨_,List.getElem?_eq_getElem hk⟩
  refine Zk<|Zt<|Zs<|Zp<|Sr<|Zqm Z Z<|Zqm Z Z<|qae (qdx Z Z Z Z hch) Z<|Zqm Z Z<|qaJ Z Z Z<|Nt<|?_
  refine qab Z (fun c3=>?_) (fun c3=>?_)
  ·
   have hne:=c3
   refine Sr<|Zqm Z Z<|At Z Z<|Zo<|Zc<|Zu<|Zu<|Zc<|Zu<|?_
   refine rR [] L (.t1 Z) Z I1.1 fun _ hS2=>?_
   refine ⟨?_,Z⟩
   simp [qaF,qgE,qe9 hI hch (decide_eq_true hne)];done
  have hne:=c3
  refine Zk<|Zb<|Zt<|Zr<|Zqm Z Z<|qaW Z Z Z (w64 O O)<|Zqa Z Z<|Zn<|?_
  refine qaa ⟨(k+1),[],kp,Z,⟨I1.1,⟨by omega,qaS hI hch (decide_eq_false hne)⟩⟩,O⟩
 refine Zl<|Zv<|Zv<|Zd<|Zt<|Sr<|At Z Z<|Zo<|?_
 refine rR [] L (.t1 Z) Z I1.1 fun _ hS2=>?_
 refine ⟨?_,Z⟩
 simp [qaF,qgE,qeu (fun i a hi h=>hI i a O h)];done
theorem qln(D:Nat)(L:Hl)(s:World)(l:List UInt8)(c:Int)(hl:l.length≤1000000000):AC prog D 56 [St l,.int .u8 c] L s fun v L' s'=>∃ M',L'=M'++L∧∀ s2,Le D s' s2→Pub M' s2→∃ A n c',v=.slice A n c'∧Strs s2 A n c' (splitB c l):=by
 refine qai (fn:=f56) qaG func56 V Z ntmps56 Z (rs:=[.tmp 4]) Z [(0,_),(1,_)] Z<|Sr<|At Z Z<|Sr<|At Z Z<|Sr<|At Z Z<|Zs<|Sr<|At Z Z<|Zp<|?_
 refine qaQ (γ:=Nat×Nat×Value×Hl×List (List UInt8)) (fun g=>[(0,_),(1,_),(4,_),(5,g.2.2.1),(6,.int .i64 (g.2.1:Int)),(7,.int .i64 (g.1:Int))]) (fun g=>g.2.2.2.1++L) (fun g tw=>Le D s tw∧(g.1≤l.length∧g.2.1≤g.1∧FL.Own 9 1 g.2.2.2.1 g.2.2.1 g.2.2.2.2.length (sb g.2.2.2.2)∧g.2.2.2.2.length≤g.1∧splitB c l=g.2.2.2.2++qbD c ((l.drop g.2.1).take (g.1 - g.2.1)) (l.drop g.1))) (fun g=>l.length - g.1) (fun _ _ _ h hl=>⟨h.1.trans hl,h.2⟩) (0,0,.slice none 0 0,[],[]) (.c6 Z Z Z Z Z Z (.nil _)) Z ⟨Le.refl _,⟨Nat.zero_le _,Nat.le_refl _,Own.nil,Nat.le_refl _,by simp [splitB]⟩⟩ ?_
 intro g s1 I1
 obtain ⟨i,f,vo,Mo,out⟩:=g
 obtain ⟨hi0,hf,hO,hol,hS⟩:=I1.2
 simp only at hi0 hf hO hol hS
 dsimp only
 refine Zs<|Sr<|Zqm Z Z<|Zqm Z Z<|qeI Z Z Z Z<|qbY Z Z Z<|Nt<|?_
 refine qab Z (fun c2=>?_) (fun c2=>?_)
 ·
  have hk:i < l.length:=by omega
  obtain ⟨ch,hch⟩:∃ ch,l[i]?=some ch:=⟨_,List.getElem?_eq_getElem hk⟩
  refine Zk<|Zt<|Zs<|Zp<|Sr<|Zqm Z Z<|Zqm Z Z<|qae (qdx Z Z Z Z hch) Z<|Zqm Z Z<|qaJ Z Z Z<|Nt<|?_
  refine qab Z (fun c3=>?_) (fun c3=>?_)
  ·
   have hne:=c3
   refine Sr<|Zqm Z Z<|Zqm Z Z<|Zqm Z Z<|Zqm Z Z<|qae (qpT Z Z Z Z Z O O) Z<|qa0 [(_,_)] [_] Z Z Z Z Z Z Z Z Z ?_
   intro βn s4 h4 hcb
   refine qbO (sz:=1) [] Mo L Z Z Z Z Z Z Z hO (Row.of_cells (hcb.le (Lr D)) Z Z) ⟨by simp [ti9];omega,by omega⟩ Z ?_
   intro v2 A2x s5 h5 o2
   obtain ⟨Av2,cv2,rfl,_,_⟩:=Own.slice o2
   simp only [List.nil_append]
   refine At Z Z<|Zr<|Zqm Z Z<|qaW Z Z Z (w64 O O)<|Zqa Z Z<|Zn<|Zb<|Zt<|Zr<|Zqm Z Z<|qaW Z Z Z (w64 O O)<|Zqa Z Z<|Zn<|?_
   refine qaa ⟨(i+1,i+1,.slice Av2 (out.length+1) cv2,A2x,out++[(l.drop f).take (i - f)]),[],kp,Z,⟨(I1.1.t h4|>.t h5),by first | exact ⟨by simp only;omega,by simp only;omega,by simp only [List.length_append,List.length_cons,List.length_nil,qgb];exact o2,by simp;omega,by simp only;rw [hS,qhY hch hne,List.append_assoc];rfl⟩ | exact ⟨by simp only;omega,by simp only;omega,hO,by simp only;omega,by simp only;rw [hS,qgM hch hne hf]⟩⟩,Oz⟩
  have hne:=c3
  refine Zk<|Zb<|Zt<|Zr<|Zqm Z Z<|qaW Z Z Z (w64 O O)<|Zqa Z Z<|Zn<|?_
  refine qaa ⟨(i+1,f,vo,Mo,out),[],kp,Z,⟨I1.1,by first | exact ⟨by simp only;omega,by simp only;omega,by simp only [List.length_append,List.length_cons,List.length_nil,qgb];exact o2,by simp;omega,by simp only;rw [hS,qhY hch hne,List.append_assoc];rfl⟩ | exact ⟨by simp only;omega,by simp only;omega,hO,by simp only;omega,by simp only;rw [hS,qgM hch hne hf]⟩⟩,Oz⟩
 have hiE:i=l.length:=by omega
 subst hiE
 rw [qlq] at hS
 refine Zl<|Zv<|Zv<|Zd<|Zt<|Sr<|Zqm Z Z<|Zqm Z Z<|Zqm Z Z<|qae (qjB Z Z Z Z O) Z<|qa0 [(_,_)] [_] Z Z Z Z Z Z Z Z Z ?_
 intro βn s6 h6 hcb
 refine qbO (sz:=1) [] Mo L Z Z Z Z Z Z Z hO (Row.of_cells (hcb.le (Lr D)) Z Z) ⟨by simp [ti9];omega,by omega⟩ Z ?_
 intro v2 A2x s7 h7 o2
 obtain ⟨Av2,cv2,rfl,_,_⟩:=Own.slice o2
 simp only [List.nil_append]
 refine At Z Z<|Zo<|?_
 refine rR [] _ (.t1 Z) Z (I1.1.t h6|>.t h7) fun _ hS2=>?_
 refine ⟨_,Z,fun s2 hs2 hp=>⟨_,_,_,Z,?_⟩⟩
 rw [hS]
 exact Own.strs (by rw [qgb];exact o2) (fun x hx=>by rw [← hS] at hx;have:=qcG c [] l x hx;simp at this;omega) hp (by simp)
theorem qke(D:Nat)(L:Hl)(s:World)(l:List UInt8)(c:Int)(hl:l.length≤1000000000):AC prog D 56 [St l,.int .u8 c] L s fun v L' s'=>L=L'∧∃ A n c',v=.slice A n c'∧Strs s' A n c' (splitB c l):=AC.pubW (qln D L s l c hl)
end Go.Proofs.YtjindleklapakaaGreatDoor
namespace Go.FL
open Go Go.RowKit
section
variable{P:Program}{D:Nat}{L:Hl}{s:World}
theorem AC.of_calls{f:FuncId}{args:List Value}{R:Value→Hl→World→Prop}(hf:qj7 P f)
  (h:OKL D L s→Calls P f args.toArray (fill L s) fun e w'=>∃ v,e=.returned v∧Below (fill L s).heap.size (fill L s) w'∧∀ s',w'=fill L s'→Le D s s'→(∀ k,s.heap.size≤k→s'.heap[k]?=w'.heap[k]?)→R v L s'):AC P D f args L s R:=
 ⟨hf,fun ho=>(h ho).mono fun e w' ⟨v,he,hb,hr⟩=>by
  obtain ⟨e1,o1,l1⟩:=qst ho hb
  refine ⟨v,L,qcB D L w',he,e1,o1,l1,hr _ e1 l1 fun k hk=>qdb fun hm=>?_⟩
  obtain ⟨x,hx,rfl⟩:=List.mem_map.1 hm
  have:=ho.lt hx
  omega⟩
theorem qdF(w:World):Below w.heap.size w w:=Below.refl _ _
theorem qku(l:List Obj):∃ D,∀ E,D≤E→∀ o∈l,o≠dum E:=by
  induction l with
  | nil=>exact ⟨0,fun _ _ _ h=>by cases h⟩
  | cons x l ih=>
    obtain ⟨D,h⟩:=ih
    by_cases hx:∃ E,x=dum E
    · obtain ⟨E0,rfl⟩:=hx
      refine ⟨D+E0+1,fun E hE o ho=>?_⟩
      rcases List.mem_cons.1 ho with rfl | ho
      · intro e;simp only [dum] at e;injection e;omega
      · exact h E O o ho
    · refine ⟨D,fun E hE o ho=>?_⟩
      rcases List.mem_cons.1 ho with rfl | ho
      · exact fun e=>hx ⟨E,e⟩
      · exact h E hE o ho
theorem qiX(W:World):∃ D,∀ k:Nat,W.heap[k]?≠some (dum D):=by
 obtain ⟨D,h⟩:=qku W.heap.toList
 refine ⟨D,fun k hk=>h D (Nat.le_refl _) _ ?_ Z⟩
 rw [← Array.getElem?_toList] at hk
 exact List.mem_of_getElem? hk
theorem qgl{f:FuncId}{args:List Value}{W:World}{v0:Value}(h:∀ D,AC P D f args [] W fun v L' _=>v=v0∧[]=L') :
  Calls P f args.toArray W fun e w'=>e=.returned v0∧Below W.heap.size W w':=by
 obtain ⟨D,hD⟩:=qiX W
 refine ((h D).2 ⟨List.nodup_nil,fun _ h=>by cases h⟩).mono ?_
 rintro e w' ⟨v,L',s',he,hw,_,hl,hv,hL⟩
 subst hL
 have hw':w'=s':=hw
 subst hw'
 refine ⟨by rw [he,hv],⟨hl.os,hl.tape,hl.output,hl.size,fun k hk=>?_⟩⟩
 rcases hl.block k hk with h1 | h1
 · exact absurd h1 (hD k)
 · exact h1
end
end Go.FL
namespace Go.Proofs.YtjindleklapakaaGreatDoor
open Go Go.FL Go.RowKit
def fnd(c:UInt8):List UInt8→Option Nat
 | []=>none
 | x::l=>if x=c then some 0 else (fnd c l).map (·+1)
def qpk:Option Nat→Int
 | none=>-1
 | some i=>(i:Int)
theorem qlB{c:UInt8}{l:List UInt8}{i:Nat}(h:fnd c l=some i):i < l.length:=by
  induction l generalizing i with
  | nil=>cases h
  | cons x l ih=>
    simp only [fnd] at h
    split at h
    · injection h with h;subst h;simp
    · cases h':fnd c l with
      | none=>rw [h'] at h;cases h
      | some j=>rw [h'] at h;simp at h;have:=ih h';simp;omega
theorem qff(l:List UInt8)(c:UInt8):Lib.indexByte l c=qpk (fnd c l):=by
  induction l with
  | nil=>rfl
  | cons x l ih=>
    simp only [Lib.indexByte,fnd]
    by_cases h:x=c
    · simp [h,qpk]
    · simp only [beq_iff_eq,h,if_false,ih]
      cases fnd c l with
      | none=>simp [qpk]
      | some i=>
        have h1:¬ (i:Int)=-1:=by omega
        show (if (i:Int)=-1 then (-1:Int) else (i:Int)+1)=((i+1:Nat):Int)
        rw [if_neg h1];rfl
theorem u8_eq{x c:UInt8}:x=c↔(x.toNat:Int)=(c.toNat:Int):=by
 constructor
 · rintro rfl;rfl
 · intro h;exact UInt8.toNat_inj.1 O
theorem qmr(l:List UInt8)(c:UInt8)(j:Nat):qce (fun x=>decide ((x.toNat:Int)=(c.toNat:Int))) l j=match fnd c l with | none=>-1 | some i=>((j+i:Nat):Int):=by
  induction l generalizing j with
  | nil=>rfl
  | cons x l ih=>
    simp only [qce,fnd]
    by_cases h:x=c
    · simp [h]
    · have h':¬ (x.toNat:Int)=(c.toNat:Int):=fun e=>h (u8_eq.2 e)
      simp only [h,if_false,h',decide_false,Bool.false_eq_true,ih]
      cases fnd c l with
      | none=>rfl
      | some i=>show ((j+1+i:Nat):Int)=((j+(i+1):Nat):Int);congr 1;omega
def qcn(c:UInt8)(l:List UInt8):List UInt8×List UInt8×Bool:=match fnd c l with
 | none=>(l,[],false)
 | some i=>(l.take i,l.drop (i+1),true)
theorem qkw(c:UInt8)(cur l:List UInt8):qbD (c.toNat:Int) cur l=match fnd c l with | none=>[cur++l] | some i=>(cur++l.take i)::splitB (c.toNat:Int) (l.drop (i+1)):=by
  induction l generalizing cur with
  | nil=>simp [qbD,fnd]
  | cons x l ih=>
    simp only [qbD,fnd]
    by_cases h:x=c
    · simp [h,splitB]
    · have h':¬ (x.toNat:Int)=(c.toNat:Int):=fun e=>h (u8_eq.2 e)
      simp only [h,if_false,h',ih]
      cases fnd c l with
      | none=>simp
      | some i=>simp
theorem qfv(c:UInt8)(l:List UInt8):splitB (c.toNat:Int) l=match fnd c l with | none=>[l] | some i=>l.take i::splitB (c.toNat:Int) (l.drop (i+1)):=by
 rw [splitB,qkw];cases fnd c l <;> simp
theorem qgg(c:UInt8)(l:List UInt8):l.count c=match fnd c l with | none=>0 | some i=>(l.drop (i+1)).count c+1:=by
  induction l with
  | nil=>rfl
  | cons x l ih=>
    simp only [fnd]
    by_cases h:x=c
    · simp [h]
    · rw [List.count_cons]
      simp only [beq_iff_eq,h,if_false,Nat.add_zero]
      rw [ih]
      cases fnd c l with
      | none=>rfl
      | some i=>simp
open Go.Proofs.Tryz
structure GW(s:World):Prop where
 pow:∃ ty fz,s.heap[laysM284_ren.g 17]?=some (.cells (Lib.pow10Tab.map fun z=>Value.int .u64 z).toArray ty fz)
 es:∃ t p,s.cell? ⟨laysPu14_ren.g 0,0,none⟩=some (.iface t p)
 er:∃ t p,s.cell? ⟨laysPu14_ren.g 1,0,none⟩=some (.iface t p)
theorem qp1{D:Nat}{s s':World}{k:Nat}{cs:Array Value}{ty:TypeId}{fz:Nat×Nat}(h:s.heap[k]?=some (.cells cs ty fz))(hl:Le D s s'):s'.heap[k]?=some (.cells cs ty fz):=by
 have hk:k < s.heap.size:=by
  rcases Nat.lt_or_ge k s.heap.size with h1 | h1
  · exact h1
  · rw [Array.getElem?_eq_none h1] at h;cases h
 rcases hl.block k hk with h1 | h1
 · rw [h] at h1;simp [dum] at h1
 · rw [h1,h]
theorem GW.le{D:Nat}{s s':World}(h:GW s)(hl:Le D s s'):GW s':=by
 obtain ⟨⟨t,f,h1⟩,⟨t2,p2,h2⟩,⟨t3,p3,h3⟩⟩:=h
 exact ⟨⟨t,f,qp1 h1 hl⟩,⟨t2,p2,hl.cell h2⟩,⟨t3,p3,hl.cell h3⟩⟩
theorem qpG{w:World}{nm:String}(hg:prog.globalNamed nm=some (laysM284_ren.g 17))(h:GW w):Lib.TabIs prog w nm .u64 Lib.pow10Tab:=by
 obtain ⟨t,f,h1⟩:=h.pow
 simp only [Lib.TabIs,World.var?,hg,Option.bind_some,h1]
section
variable(D:Nat)(L:Hl)(s:World)
theorem ql5:qj7 prog 42:=⟨_,func42,by kernel_rfl,by kernel_rfl⟩
theorem qkt:qj7 prog 129:=⟨_,func129,by kernel_rfl,by kernel_rfl⟩
theorem qjw:qj7 prog 92:=⟨_,func92,by kernel_rfl,by kernel_rfl⟩
theorem qkB:qj7 prog 112:=⟨_,func112,by kernel_rfl,by kernel_rfl⟩
theorem qiZ:qj7 prog 94:=⟨_,func94,by kernel_rfl,by kernel_rfl⟩
theorem qql(hG:GW s)(n:Int)(h0:-9223372036854775808≤n)(h1:n≤9223372036854775807):AC prog D 42 [.int .i64 n] L s fun v L' _=>v=St (Lib.itoa n)∧L=L':=
 AC.of_calls ql5 fun ho=>(Any.strconv_Itoa laysM171 n h0 h1 (fill L s) (qpG laysM171.m17 (hG.le (qeK ho)))).mono fun e w' ⟨he,k,os,hw⟩=>by
  refine ⟨_,he,?_,fun s' _ _ _=>⟨Z,Z⟩⟩
  rw [hw]
  exact ⟨rfl,rfl,rfl,by simp [Sort.grow],fun j hj=>by simp [Sort.grow,Array.getElem?_append_left hj]⟩
theorem qoB(l:List UInt8)(c:UInt8):AC prog D 112 [St l,St [c]] L s fun v L' _=>v=.int .i64 (qpk (fnd c l))∧L=L':=
 AC.of_calls qkB fun _=>(Any.stringslite_Index_one lays219 ⟨l.toArray⟩ c (fill L s)).mono fun e w' ⟨he,hw⟩=>by
  refine ⟨_,he,by rw [hw];exact qdF _,fun s' _ _ _=>⟨?_,Z⟩⟩
  show Value.int .i64 (Lib.indexByte l c)=_
  rw [qff]
def qhi(c:UInt8)(l:List UInt8):Bool:=decide (l.getLast?=some c)
theorem qkx(l:List UInt8)(c:UInt8):Lib.hasSuffix l [c]=qhi c l:=by
  rw [Lib.hasSuffix,qhi]
  rw [Bool.eq_iff_iff,List.isSuffixOf_iff_suffix,decide_eq_true_eq]
  constructor
  · rintro ⟨t,rfl⟩;simp
  · intro h
    obtain ⟨t,ht⟩:=List.getLast?_eq_some_iff.1 h
    exact ⟨t,ht.symm⟩
theorem qie(l:List UInt8)(c:UInt8)(hl:l.length≤9223372036854775807):AC prog D 94 [St l,St [c]] L s fun v L' _=>v=.tuple #[St (if qhi c l then l.dropLast else l),.bool (qhi c l)]∧L=L':=
 AC.of_calls qiZ fun _=>(Any.strings_CutSuffix lays104 ⟨l.toArray⟩ ⟨#[c]⟩ (fill L s) (by simpa [Lib.size_eq] using hl)).mono fun e w' ⟨he,hw⟩=>by
  refine ⟨_,he,by rw [hw];exact qdF _,fun s' _ _ _=>⟨?_,Z⟩⟩
  show Value.tuple #[.string ⟨(Lib.trimSuffix l [c]).toArray⟩,.bool (Lib.hasSuffix l [c])]=_
  rw [Lib.trimSuffix,qkx]
  simp [List.dropLast_eq_take]
inductive PuV:List UInt8→Value→Prop
 | ok (l:List UInt8) (u:Nat) (h:Lib.parseUintB 32 l=.ok u):PuV l (.tuple #[.int .u64 u,.nilIface])
 | bad (l:List UInt8) (h:∀ u,Lib.parseUintB 32 l≠.ok u) (n:Int) (t:TypeId) (p:Value):PuV l (.tuple #[.int .u64 n,.iface t p])
theorem qoD(hG:GW s)(l:List UInt8)(hl:l.length≤281474976710656):AC prog D 129 [St l,.int .i64 10,.int .i64 32] L s fun v L' _=>PuV l v∧L=L':=
  AC.of_calls qkt fun ho=>by
    have hw:=hG.le (qeK ho)
    have hs:(⟨l.toArray⟩:ByteArray).size≤281474976710656:=by simpa [Lib.size_eq] using hl
    by_cases hok:∃ u,Lib.parseUintB 32 l=.ok u
    · obtain ⟨u,hp⟩:=hok
      refine (Any.strconv_ParseUint_10_at32_ok laysPu14 ⟨l.toArray⟩ O u hp (fill L s)).mono fun e w' ⟨he,hw'⟩=>⟨_,he,?_,fun s' _ _ _=>⟨.ok l u hp,Z⟩⟩
      rcases hw' with rfl | rfl
      · exact qdF _
      · exact Go.Joins.below_bytesWorld _ _ _ _ (Nat.le_refl _)
    · have hno:∀ u,Lib.parseUintB 32 l≠.ok u:=fun u h=>hok ⟨u,h⟩
      by_cases hr:Lib.parseUintB 32 l=.range
      · obtain ⟨te,pe,h1⟩:=hw.er
        refine (Any.strconv_ParseUint_10_at32_range laysPu14 ⟨l.toArray⟩ hs hr _ (fill L s) h1 (.inr ⟨te,pe,Z⟩)).mono fun e w' ⟨N,he,_,_,hb⟩=>⟨_,he,hb,fun s' _ _ _=>⟨.bad l hno _ _ _,Z⟩⟩
      · obtain ⟨te,pe,h1⟩:=hw.es
        refine (Any.strconv_ParseUint_10_at32_syntax laysPu14 ⟨l.toArray⟩ hs (by cases h:Lib.parseUintB 32 l <;> simp_all) _ (fill L s) h1 (.inr ⟨te,pe,Z⟩)).mono fun e w' ⟨N,he,_,_,hb⟩=>⟨_,he,hb,fun s' _ _ _=>⟨.bad l hno _ _ _,Z⟩⟩
end
open Go.FL
attribute [local irreducible] JC JO JA JB qa7 qaP qdj AC fill CellsAt QE Ev Mid
theorem qbr(D:Nat)(L:Hl)(s:World)(c i:Int):AC prog D 39 [.int .i64 c,.int .i64 i] L s fun v L' _=>v=.agg #[.int .i64 c,.int .i64 i]∧L=L':=by
 refine qai (fn:=f39) qaG func39 V Z ntmps39 Z (rs:=[.cell 4 29]) Z [(0,_),(1,_)] Z<|Sr<|qag Z [_,_] Z Z ?_
 intro β1 s1 h1
 refine Nt<|Sr<|Zqm Z Z<|Zqm Z Z<|qae (qal [(_,_),(_,_)] [_,_] Z Z Z Z Z Z) Z<|Wt 0 [_,_] Y9<|Nt<|Zo<|?_
 refine rR [_] L (.agg (us:=[_,_]) 0 Z Z Z Z Z (.nil)) Z h1 fun _ hS2=>?_
 exact ⟨rfl,rfl⟩
theorem qkG(D:Nat)(L:Hl)(s:World)(r:Int):AC prog D 66 [.int .i32 r] L s fun v L' _=>v=.bool (decide ((r < 97∨122 < r)∧(r < 48∨57 < r)))∧L=L':=by
 refine qai (fn:=f66) qaG func66 V Z ntmps66 Z (rs:=[.tmp 2]) Z [(0,_)] Z<|Sr<|At Z Z<|Sr<|Zqm Z Z<|qbY Z Z Z<|Zqm Z Z<|?_
 refine qam (t:=5) Z (fun c1=>?_) (fun c1=>?_)
 ·
  refine Wf Y4<|Wf Y4<|ZqT Z Z Z<|Zqm Z Z<|Zg Z Z<|Zqm Z Z<|Zg Z Z<|qbY Z Z Z<|Zg Z Z<|Zqm Z Z<|?_
  refine qam (t:=12) Z (fun c2=>?_) (fun c2=>?_)
  ·
   refine Wf Y4<|Wf Y4<|Zg Z Z<|ZqT Z Z Z<|ZqT Z Z Z<|At Z Z<|Zo<|?_
   refine rR [] L (.t1 Z) Z (Lr D) fun _ hS2=>?_
   exact ⟨by simp_all [qaF] <;> omega,rfl⟩
  refine Zg Z Z<|Zqm Z Z<|Zg Z Z<|qdP Z Z Z<|Zg Z Z<|ZqF Z Z Z<|ZqT Z Z Z<|At Z Z<|Zo<|?_
  refine rR [] L (.t1 Z) Z (Lr D) fun _ hS2=>?_
  exact ⟨by simp_all [qaF] <;> omega,rfl⟩
 refine Zg Z Z<|Zqm Z Z<|Zg Z Z<|qdP Z Z Z<|ZqF Z Z Z<|Zqm Z Z<|?_
 refine qam (t:=9) Z (fun c3=>?_) (fun c3=>?_)
 ·
  refine Zg Z Z<|Zqm Z Z<|Zg Z Z<|qbY Z Z Z<|Zg Z Z<|Zqm Z Z<|?_
  refine qam (t:=12) Z (fun c4=>?_) (fun c4=>?_)
  ·
   refine Wf Y4<|Wf Y4<|Zg Z Z<|ZqT Z Z Z<|ZqT Z Z Z<|At Z Z<|Zo<|?_
   refine rR [] L (.t1 Z) Z (Lr D) fun _ hS2=>?_
   exact ⟨by simp_all [qaF] <;> omega,rfl⟩
  refine Zg Z Z<|Zqm Z Z<|Zg Z Z<|qdP Z Z Z<|Zg Z Z<|ZqF Z Z Z<|ZqT Z Z Z<|At Z Z<|Zo<|?_
  refine rR [] L (.t1 Z) Z (Lr D) fun _ hS2=>?_
  exact ⟨by simp_all [qaF] <;> omega,rfl⟩
 refine Wf Y4<|Wf Y4<|Wf Y4<|Zh Z Z Z<|Zh Z Z Z<|Wf Y4<|ZqF Z Z Z<|At Z Z<|Zo<|?_
 refine rR [] L (.t1 Z) Z (Lr D) fun _ hS2=>?_
 exact ⟨by simp_all [qaF] <;> omega,rfl⟩
theorem qiN(D:Nat)(L:Hl)(s:World)(r:Int):AC prog D 93 [.int .i32 r] L s fun v L' _=>v=.bool (decide (r=32))∧L=L':=by
 refine qai (fn:=f93) qaG func93 V Z ntmps93 Z (rs:=[.tmp 2]) Z [(0,_)] Z<|Sr<|At Z Z<|Sr<|Zqm Z Z<|qaJ Z Z Z<|At Z Z<|Zo ?_
 refine rR [] L (.t1 Z) Z (Lr D) fun _ hS2=>?_
 exact ⟨rfl,rfl⟩
end Go.Proofs.YtjindleklapakaaGreatDoor
namespace Go.Proofs.YtjindleklapakaaGreatDoor
open Go.Proofs.Tryz
open Go Go.FL Go.RowKit
theorem qhu:qj7 prog 65:=⟨_,func65,by kernel_rfl,by kernel_rfl⟩
theorem qkh:qj7 prog 70:=⟨_,func70,by kernel_rfl,by kernel_rfl⟩
theorem qii(l:List UInt8)(c:UInt8):Lib.index l [c]=Lib.indexByte l c:=by
  induction l with
  | nil=>rfl
  | cons b l ih=>
    simp only [Lib.index,Lib.indexByte,ih,List.isPrefixOf]
    by_cases h:b=c
    · simp [h]
    · have h':¬ c=b:=fun e=>h e.symm
      simp [h,h']
theorem qmC(l:List UInt8)(c:UInt8):Lib.index l [c]=qpk (fnd c l):=by rw [qii,qff]
theorem qgm(l:List UInt8)(a b:Nat):(⟨l.toArray⟩:ByteArray).extract a b=⟨((l.drop a).take (b - a)).toArray⟩:=by
 apply ByteArray.ext
 simp [ByteArray.data_extract]
theorem qkv(c:UInt8)(k:Nat)(l:List UInt8)(h:l.count c=k):Lib.splitB ⟨#[c]⟩ 0 k ⟨l.toArray⟩=(splitB (c.toNat:Int) l).map fun x=>⟨x.toArray⟩:=by
 induction k generalizing l with
 | zero=>
  rw [qfv]
  have:=qgg c l
  cases hf:fnd c l with
  | none=>simp [Lib.splitB]
  | some i=>rw [hf] at this;simp only at this;omega
 | succ k ih=>
  have hc:=qgg c l
  rw [qfv]
  cases hf:fnd c l with
  | none=>rw [hf] at hc;simp only at hc;omega
  | some i=>
   rw [hf] at hc
   simp only at hc
   have hi:Lib.indexB ⟨l.toArray⟩ ⟨#[c]⟩=(i:Int):=by
    show Lib.index l [c]=_
    rw [qmC,hf];rfl
   have h1:¬ (i:Int)=-1:=by omega
   simp only [Lib.splitB,hi,beq_iff_eq,h1,if_false,List.map_cons]
   have e1:(⟨l.toArray⟩:ByteArray).extract 0 ((i:Int).toNat+0)=⟨(l.take i).toArray⟩:=by rw [qgm];simp
   have e2:(⟨l.toArray⟩:ByteArray).extract ((i:Int).toNat+(⟨#[c]⟩:ByteArray).size) (⟨l.toArray⟩:ByteArray).size=⟨(l.drop (i+1)).toArray⟩:=by
    rw [qgm]
    have:(⟨#[c]⟩:ByteArray).size=1:=rfl
    rw [this]
    have h2:(⟨l.toArray⟩:ByteArray).size=l.length:=by simp [Lib.size_eq]
    rw [h2,List.take_of_length_le (by simp)]
    simp
   rw [e1,e2,ih _ O]
theorem qgo(c:UInt8)(l:List UInt8):(splitB (c.toNat:Int) l).length=l.count c+1:=by
 generalize hn:l.length=n
 induction n using Nat.strongRecOn generalizing l with
 | ind n ih=>
  rw [qfv,qgg]
  cases hf:fnd c l with
  | none=>rfl
  | some i=>
   simp only [List.length_cons]
   rw [ih (l.drop (i+1)).length (by have:=qlB hf;simp;omega) _ rfl]
section
variable(D:Nat)(L:Hl)(s:World)
theorem qgU{s':World}{A:Nat}{l:List (List UInt8)}{ty:TypeId}{fz:Nat×Nat}(h:s'.heap[A]?=some (.cells ((l.map fun x=>(⟨x.toArray⟩:ByteArray)).map Value.string).toArray ty fz))(hu:∀ x∈l,x.length≤9223372036854775807)(hn:l.length≤9223372036854775807):Strs s' (some ⟨A,0,none⟩) l.length l.length l:=by
 refine ⟨Z,Nat.le_refl _,hn,fun i x hi=>⟨A,0,[St x],Z,?_,Z,Z,hu x (List.mem_of_getElem? hi)⟩⟩
 refine CellsAt.one ?_
 simp [World.cell?,h,hi]
theorem qi7(l:List UInt8)(c:UInt8)(hl:l.length≤4000000):AC prog D 70 [St l,St [c],.int .i64 0,.int .i64 (-1)] L s fun v L' s'=>L=L'∧∃ A n c',v=.slice A n c'∧Strs s' A n c' (splitB (c.toNat:Int) l):=
  AC.of_calls qkh fun ho=>by
    have hsz:(⟨l.toArray⟩:ByteArray).size=l.length:=by simp [Lib.size_eq]
    have h1:(⟨#[c]⟩:ByteArray).size=1:=rfl
    have hcnt:Lib.countB ⟨l.toArray⟩ ⟨#[c]⟩=l.count c:=Lib.count_one c l
    have hcl:l.count c≤l.length:=List.count_le_length
    refine (Any.strings_genSplit_core lays221 V ⟨l.toArray⟩ ⟨#[c]⟩ 0 (-1) (l.count c+1) (fill L s) O O O
      (fun x cs hx=>?_) ?_ Dc Dc (by rw [if_pos Dc,hcnt,hsz];omega)).mono ?_
    · refine (Any.strings_Index_one { lays221 with } x c _).mono fun e w' ⟨he,hw⟩=>⟨?_,hw⟩
      rw [he]
      show _=Ending.returned (.int .i64 (Lib.index x.data.toList [c]))
      rw [qii]
    · refine (Any.strings_Count_one { lays221 with } ⟨l.toArray⟩ c _).mono fun e w' ⟨he,hw⟩=>⟨?_,hw⟩
      rw [he,hcnt]
      rfl
    · rintro e w' ⟨he,hw⟩
      rw [Nat.add_sub_cancel,qkv c _ l rfl] at he hw
      have hlen:=qgo c l
      refine ⟨_,he,by rw [hw];exact (Below.refl _ _).alloc (Nat.le_refl _) _,fun s' _ _ hnew=>⟨Z,_,_,_,Z,?_⟩⟩
      have hs':=hnew (fill L s).heap.size (by rw [qaC];exact Nat.le_refl _)
      rw [hw,heap_alloc_new] at hs'
      have e2:Lib.cellsOf ((splitB (c.toNat:Int) l).map fun x=>(⟨x.toArray⟩:ByteArray)) (l.count c+1)=(((splitB (c.toNat:Int) l).map fun x=>(⟨x.toArray⟩:ByteArray)).map Value.string).toArray:=by
        have:=Lib.cellsOf_full ((splitB (c.toNat:Int) l).map fun x=>(⟨x.toArray⟩:ByteArray))
        rw [List.length_map,hlen] at this
        exact this
      rw [e2] at hs'
      rw [← hlen,List.length_map]
      exact qgU hs' (fun x hx=>by have:=qcG (c.toNat:Int) [] l x hx;simp at this;omega) O
def qmh(c:UInt8):Bool:=!(qft c || qdk c)
def qrX(x:Nat):Bool:=decide (((x:Int) < 97∨122 < (x:Int))∧((x:Int) < 48∨57 < (x:Int)))
theorem qik(c:UInt8):qrX c.toNat=qmh c:=by
 simp only [qrX,qmh,qft,qdk]
 rw [Bool.eq_iff_iff]
 simp only [decide_eq_true_eq,Bool.not_eq_true',Bool.or_eq_false_iff,Bool.and_eq_false_iff,decide_eq_false_iff_not]
 omega
theorem qpj{l:List UInt8}{pos:Nat}(h:pos < (⟨l.toArray⟩:ByteArray).size):∃ c,l[pos]?=some c∧(⟨l.toArray⟩:ByteArray)[pos]'h=c:=by
 have h':pos < l.length:=by simpa [Lib.size_eq] using h
 exact ⟨l[pos],List.getElem?_eq_getElem h',by simp [ByteArray.getElem_eq_getElem_data]⟩
theorem qqB(l:List UInt8)(f pos:Nat)(h:l.length≤pos+f):decide (0≤Lib.idxFuncFrom qrX true ⟨l.toArray⟩ f pos)=(l.drop pos).any qmh:=by
  have hsz:(⟨l.toArray⟩:ByteArray).size=l.length:=by simp [Lib.size_eq]
  induction f generalizing pos with
  | zero=>rw [List.drop_of_length_le O];rfl
  | succ f ih=>
    by_cases hp:pos < (⟨l.toArray⟩:ByteArray).size
    · obtain ⟨c,hc,hg⟩:=qpj hp
      have hd:l.drop pos=c::l.drop (pos+1):=by
        obtain ⟨h1,h2⟩:=List.getElem?_eq_some_iff.1 hc
        rw [List.drop_eq_getElem_cons h1,h2]
      rw [hd,List.any_cons]
      by_cases ha:c.toNat < 128
      · have e:=decode_ascii ⟨l.toArray⟩ pos hp (by rw [hg];exact ha)
        simp only [Lib.idxFuncFrom,hp,if_true,e,hg,qik]
        cases hb:qmh c with
        | true=>simp
        | false=>simpa using ih (pos+1) O
      · have e:=(decode_high ⟨l.toArray⟩ pos hp (by rw [hg];omega)).1
        have hb:qmh c=true:=by rw [← qik];simp only [qrX,decide_eq_true_eq];omega
        have hr:qrX (Utf8.decode ⟨l.toArray⟩ pos).1=true:=by simp only [qrX,decide_eq_true_eq];omega
        simp only [Lib.idxFuncFrom,hp,if_true,hr,hb]
        simp
    · rw [Lib.idxFuncFrom_end _ _ _ _ _ hp,List.drop_of_length_le O];rfl
theorem qjf:∀ args w,(callFunc 66 args).run prog w=.ok (.enter 66 args) w:=enters_of func66 V rfl
theorem qif:∀ args w,(callFunc 93 args).run prog w=.ok (.enter 93 args) w:=enters_of func93 V rfl
theorem qi2(l:List UInt8):AC prog D 65 [St l,.func (.func 66) #[] #[]] L s fun v L' _=>v=.bool (l.any qmh)∧L=L':=
  AC.of_calls qhu fun _=>by
    refine (Any.strings_ContainsFunc_grows laysGw17 66 #[] qjf qrX ⟨l.toArray⟩ (fill L s) (fun W x _ _=>?_)).mono ?_
    · exact qgl (args:=[.int .i32 (x:Int)]) fun D=>qkG D [] W x
    · rintro e w' ⟨he,hb⟩
      refine ⟨_,he,hb,fun s' _ _ _=>⟨?_,Z⟩⟩
      have:=qqB l (⟨l.toArray⟩:ByteArray).size 0 (by simp [Lib.size_eq])
      rw [List.drop_zero] at this
      rw [← this];rfl
def qhL:List UInt8→List UInt8→List (List UInt8)
 | cur,[]=>if cur=[] then [] else [cur]
 | cur,x::r=>if x=32 then (if cur=[] then qhL [] r else cur::qhL [] r) else qhL (cur++[x]) r
def qh3(l:List UInt8):List (List UInt8):=(splitB 32 l).filter fun x=>decide (x≠[])
theorem qkR(cur l:List UInt8):(qbD 32 cur l).filter (fun x=>decide (x≠[]))=qhL cur l:=by
  induction l generalizing cur with
  | nil=>by_cases h:cur=[] <;> simp [qbD,qhL,h]
  | cons x l ih=>
    have hx:((x.toNat:Int)=32)↔x=32:=(u8_eq (c:=32)).symm
    by_cases h:x=32
    · by_cases hc:cur=[] <;> simp [qbD,qhL,h,hc,← ih]
    · have h':¬ (x.toNat:Int)=32:=fun e=>h (hx.1 e)
      simp only [qbD,qhL,h,h',if_false,ih]
theorem qoK(cur m r:List UInt8)(h:∀ x∈m,x≠32):qhL cur (m++r)=qhL (cur++m) r:=by
 induction m generalizing cur with
 | nil=>simp
 | cons x m ih=>
  have hx:x≠32:=h x Mc
  simp only [List.cons_append,qhL,hx,if_false]
  rw [ih _ (fun y hy=>h y (List.mem_cons_of_mem _ hy))]
  simp
theorem qm0(l:List UInt8)(pos:Nat)(hp:pos < l.length)(c:UInt8)(hc:l[pos]?=some c)(ha:¬ c.toNat < 128) :
    ∃ K,(Utf8.decode ⟨l.toArray⟩ pos).2=K∧1≤K∧pos+K≤l.length∧∀ x∈(l.drop pos).take K,x≠32:=by
  have hsz:(⟨l.toArray⟩:ByteArray).size=l.length:=by simp [Lib.size_eq]
  have g:∀ i,(⟨l.toArray⟩:ByteArray).get! i=l.getD i 0:=by
    intro i
    show (l.toArray)[i]! = _
    simp [List.getD_eq_getElem?_getD]
    rfl
  have hd:=Lib.decode_at ⟨l.toArray⟩ pos
  rw [hsz,g,g,g,g] at hd
  have h0:l.getD pos 0=c:=by simp [List.getD_eq_getElem?_getD,hc]
  rw [h0] at hd
  have key:∀ (K:Nat),1≤K→K≤4→pos+K≤l.length→(∀ j,1≤j→j < K→128≤(l.getD (pos+j) 0).toNat)→∀ x∈(l.drop pos).take K,x≠32:=by
    intro K h1 h4 hK hall x hx e
    obtain ⟨j,hj,hxj⟩:=List.mem_iff_getElem.1 hx
    have hjK:j < K:=by simp at hj;omega
    have hv:l.getD (pos+j) 0=x:=by
      rw [← hxj];simp [List.getD_eq_getElem?_getD]
      rw [List.getElem?_eq_getElem O];rfl
    by_cases hj0:j=0
    · subst hj0;simp only [Nat.add_zero] at hv;rw [h0] at hv;subst e;subst hv;exact ha Dc
    · have:=hall j O hjK
      rw [hv,e] at this
      exact absurd this Dc
  refine ⟨_,Z,?_⟩
  rw [hd]
  unfold Lib.decodeN
  rw [if_neg ha]
  split
  · rename_i h2
    split
    · refine ⟨by simp only;omega,by simp only;omega,key 2 O O O (fun j h1 hj=>?_)⟩
      obtain rfl:j=1:=by omega
      omega
    · exact ⟨by simp only;omega,by simp only;omega,key 1 O O O (fun j h1 hj=>by omega)⟩
  · split
    · rename_i h2 h3
      split
      · refine ⟨by simp only;omega,by simp only;omega,key 3 O O O (fun j h1 hj=>?_)⟩
        rcases (by omega:j=1∨j=2) with rfl | rfl <;> omega
      · exact ⟨by simp only;omega,by simp only;omega,key 1 O O O (fun j h1 hj=>by omega)⟩
    · split
      · rename_i h2 h3 h4
        split
        · refine ⟨by simp only;omega,by simp only;omega,key 4 O O O (fun j h1 hj=>?_)⟩
          rcases (by omega:j=1∨j=2∨j=3) with rfl | rfl | rfl <;> omega
        · exact ⟨by simp only;omega,by simp only;omega,key 1 O O O (fun j h1 hj=>by omega)⟩
      · exact ⟨by simp only;omega,by simp only;omega,key 1 O O O (fun j h1 hj=>by omega)⟩
def qnv(x:Nat):Bool:=decide ((x:Int)=32)
def qfb(l:List UInt8)(x:Nat×Nat):List UInt8:=(l.drop x.1).take (x.2 - x.1)
def qkW(l:List UInt8)(pos:Nat):Option Nat→List UInt8
 | none=>[]
 | some a=>(l.drop a).take (pos - a)
theorem qlK(l:List UInt8){a pos K:Nat}(h:a≤pos):(l.drop a).take (pos+K - a)=(l.drop a).take (pos - a)++(l.drop pos).take K:=by
 have:pos+K - a=(pos - a)+K:=by omega
 rw [this,List.take_add,List.drop_drop]
 have e:a+(pos - a)=pos:=by omega
 rw [e]
theorem qiH(l:List UInt8)(pos:Nat)(st:Option Nat)(acc:List (Nat×Nat))(h:l.length≤pos)(hst:∀ a,st=some a→a < pos∧pos≤l.length) :
  (Lib.closeSpans ⟨l.toArray⟩ (acc,st)).map (qfb l)=acc.map (qfb l)++qhL (qkW l pos st) (l.drop pos):=by
 have hsz:(⟨l.toArray⟩:ByteArray).size=l.length:=by simp [Lib.size_eq]
 rw [List.drop_of_length_le h]
 cases st with
 | none=>simp [Lib.closeSpans,qkW,qhL]
 | some a=>
  obtain ⟨h1,h2⟩:=hst a rfl
  have hp:pos=l.length:=by omega
  subst hp
  have hne:(l.drop a).take (l.length - a)≠[]:=by
   intro e
   have:=congrArg List.length e
   simp at this;omega
  simp [Lib.closeSpans,qkW,qhL,hne,qfb,hsz]
theorem qk7(l:List UInt8)(f pos:Nat)(st:Option Nat)(acc:List (Nat×Nat))(h:l.length≤pos+f)(hst:∀ a,st=some a→a < pos∧pos≤l.length) :
    (Lib.closeSpans ⟨l.toArray⟩ (Lib.spansFromP qnv ⟨l.toArray⟩ f pos st acc)).map (qfb l)=acc.map (qfb l)++qhL (qkW l pos st) (l.drop pos):=by
  have hsz:(⟨l.toArray⟩:ByteArray).size=l.length:=by simp [Lib.size_eq]
  induction f generalizing pos st acc with
  | zero=>exact qiH l pos st acc O hst
  | succ f ih=>
    by_cases hp:pos < (⟨l.toArray⟩:ByteArray).size
    · obtain ⟨c,hc,hg⟩:=qpj hp
      have hpl:pos < l.length:=by omega
      have hd:l.drop pos=c::l.drop (pos+1):=by
        obtain ⟨h1,h2⟩:=List.getElem?_eq_some_iff.1 hc
        rw [List.drop_eq_getElem_cons h1,h2]
      -- a piece without blanks goes on
      have go:∀ K,(Utf8.decode ⟨l.toArray⟩ pos).2=K→qnv (Utf8.decode ⟨l.toArray⟩ pos).1=false→1≤K→pos+K≤l.length→(∀ x∈(l.drop pos).take K,x≠32) →
          (Lib.closeSpans ⟨l.toArray⟩ (Lib.spansFromP qnv ⟨l.toArray⟩ (f+1) pos st acc)).map (qfb l)=acc.map (qfb l)++qhL (qkW l pos st) (l.drop pos):=by
        intro K hK hb h1 h2 hall
        have hrun:qhL (qkW l pos st) (l.drop pos)=qhL (qkW l pos st++(l.drop pos).take K) (l.drop (pos+K)):=by
          conv=>lhs;rw [← List.take_append_drop K (l.drop pos),List.drop_drop]
          exact qoK _ _ _ hall
        rw [hrun]
        simp only [Lib.spansFromP,hp,if_true,hb,hK,Bool.false_eq_true,if_false]
        cases st with
        | none=>
          simp only
          rw [ih (pos+K) (some pos) acc O (fun a ha=>by injection ha with ha;omega)]
          simp only [qkW,List.nil_append]
          congr 3
          omega
        | some a=>
          obtain ⟨ha1,ha2⟩:=hst a rfl
          simp only
          rw [ih (pos+K) (some a) acc O (fun a' ha=>by injection ha with ha;omega)]
          simp only [qkW]
          rw [qlK l O]
      by_cases ha:c.toNat < 128
      · have e:=decode_ascii ⟨l.toArray⟩ pos hp (by rw [hg];exact ha)
        rw [hg] at e
        by_cases h32:c=32
        · have hb:qnv (Utf8.decode ⟨l.toArray⟩ pos).1=true:=by rw [e,h32];rfl
          rw [hd]
          simp only [Lib.spansFromP,hp,if_true,hb]
          cases st with
          | none=>
            simp only [e]
            rw [ih (pos+1) none acc O (fun a ha=>by cases ha)]
            simp [qkW,qhL,h32]
          | some a=>
            obtain ⟨ha1,ha2⟩:=hst a rfl
            have hne:(l.drop a).take (pos - a)≠[]:=by
              intro e
              have:=congrArg List.length e
              simp at this;omega
            simp only [e]
            rw [ih (pos+1) none _ O (fun a ha=>by cases ha)]
            simp [qkW,qhL,h32,hne,qfb]
        · refine go 1 (by rw [e]) ?_ O O ?_
          · rw [e]
            simp only [qnv,decide_eq_false_iff_not]
            exact fun h=>h32 ((u8_eq (c:=32)).2 h)
          · rw [hd];simpa using h32
      · obtain ⟨K,hK,h1,h2,h3⟩:=qm0 l pos hpl c hc ha
        refine go K hK ?_ h1 h2 h3
        have:=(decode_high ⟨l.toArray⟩ pos hp (by rw [hg];omega)).1
        simp only [qnv,decide_eq_false_iff_not]
        omega
    · rw [Lib.spansFromP_end _ _ _ _ _ _ hp]
      exact qiH l pos st acc O hst
theorem qoP(l:List UInt8):Lib.goFieldsP qnv ⟨l.toArray⟩=(qh3 l).map fun x=>⟨x.toArray⟩:=by
 have hsz:(⟨l.toArray⟩:ByteArray).size=l.length:=by simp [Lib.size_eq]
 have h:=qk7 l (⟨l.toArray⟩:ByteArray).size 0 none [] O (fun a ha=>by cases ha)
 simp only [List.map_nil,List.nil_append,qkW,List.drop_zero] at h
 rw [← qkR] at h
 show (Lib.closeSpans ⟨l.toArray⟩ (Lib.spansFromP qnv ⟨l.toArray⟩ (⟨l.toArray⟩:ByteArray).size 0 none [])).map (fun x=>(⟨l.toArray⟩:ByteArray).extract x.1 x.2)=_
 rw [qh3,splitB,← h,List.map_map]
 congr 1
 funext x
 simp only [Function.comp,qgm,qfb]
theorem qhj{l x:List UInt8}(h:x∈qh3 l):x≠[]∧x.length≤l.length:=by
 obtain ⟨h1,h2⟩:=List.mem_filter.1 h
 have:=qcG 32 [] l x h1
 exact ⟨by simpa using h2,by simpa using this⟩
theorem qqC(l:List UInt8):(qh3 l).length≤l.length+1:=Nat.le_trans (List.length_filter_le _ _) (qfG 32 [] l)
theorem qml(l:List UInt8)(hl:l.length≤4000000):AC prog D 92 [St l,.func (.func 93) #[] #[]] L s fun v L' s'=>L=L'∧∃ A n c',v=.slice A n c'∧Strs s' A n c' (qh3 l):=
  AC.of_calls qjw fun _=>by
    have hsz:(⟨l.toArray⟩:ByteArray).size=l.length:=by simp [Lib.size_eq]
    refine (Any.strings_FieldsFunc_grows lays229 93 #[] qif qnv ⟨l.toArray⟩ (fill L s) O (fun W x _ _=>?_) V V).mono ?_
    · exact qgl (args:=[.int .i32 (x:Int)]) fun D=>qiN D [] W x
    · rintro e w' ⟨A,he,hA,hown,hb⟩
      refine ⟨_,he,hb,fun s' _ _ hnew=>⟨Z,_,_,_,Z,?_⟩⟩
      rw [qoP,List.length_map] at hown ⊢
      rcases hown.2 with ⟨h0,_⟩ | ⟨g,cap,cur,h1,h2,h3,h4,h5,h6,h7⟩
      · cases h0
      · injection h1 with h1 _ hcap
        injection h1 with h1
        injection h1 with h1
        subst h1;subst hcap
        rw [← hnew A (by rw [qaC] at hA;exact hA)] at h3
        have hcur:cur=(((qh3 l).map fun x=>(⟨x.toArray⟩:ByteArray)).map Value.string).toArray:=by
          have e1:cur.toList=((qh3 l).map fun x=>(⟨x.toArray⟩:ByteArray)).map Value.string:=by
            rw [← h7,List.take_of_length_le (by rw [Array.length_toList,h6];exact Nat.le_refl _)]
          rw [← e1,Array.toArray_toList]
        rw [hcur] at h3
        exact qgU h3 (fun x hx=>by have:=(qhj hx).2;omega) (by have:=qqC l;omega)
end
open Go.FL
attribute [local irreducible] JC JO JA JB qa7 qaP qdj AC fill CellsAt QE Ev Mid
theorem qll{l:List UInt8}{i:Nat}(hi:i≠0):qbB i l=!l.any qmh:=by
 induction l generalizing i with
 | nil=>rfl
 | cons c l ih=>
  simp only [qbB,List.any_cons,ih (by omega:i+1≠0),qdi,qmh,hi,ne_eq,not_false_eq_true,decide_true,Bool.and_true,Bool.not_or]
  cases qft c <;> cases qdk c <;> rfl
theorem qdK{l:List UInt8}{c:UInt8}(h:l[0]?=some c)(h6:l.length≤6)(hc:¬ ((c.toNat:Int) < 97)∧¬ (122 < (c.toNat:Int))):qaE l=!l.any qmh:=by
 obtain ⟨r,rfl⟩:=qbs h
 have hl:qft c=true:=by simp only [qft,Bool.and_eq_true,decide_eq_true_eq];omega
 have h7:decide ((c::r).length≤6)=true:=decide_eq_true h6
 have hb:qmh c=false:=by simp [qmh,hl]
 simp only [qaE,qbB,qdi,hl,h7,Bool.true_or,Bool.true_and,List.any_cons,hb,Bool.false_or,qll (l:=r) (i:=0+1) O]
 simp
theorem qeh{l:List UInt8}{c:UInt8}(h:l[0]?=some c)(hc:(c.toNat:Int) < 97∨122 < (c.toNat:Int)):qaE l=false:=by
 obtain ⟨r,rfl⟩:=qbs h
 have hl:qft c=false:=by rw [Bool.eq_false_iff];simp only [qft,ne_eq,Bool.and_eq_true,decide_eq_true_eq];omega
 simp [qaE,qbB,qdi,hl]
theorem qen(D:Nat)(L:Hl)(s:World)(l:List UInt8):AC prog D 46 [St l] L s fun v L' _=>v=.bool (qaE l)∧L=L':=by
 refine qai (fn:=f46) qaG func46 V Z ntmps46 Z (rs:=[.tmp 2]) Z [(0,_)] Z<|Sr<|At Z Z<|Zs<|Sr<|Zqm Z Z<|qjv Z Z Z<|Zqm Z Z<|?_
 refine qam (t:=5) Z (fun c1=>?_) (fun c1=>?_)
 ·
  refine Wf Y4<|Wf Y4<|Wf Y4<|ZqT Z Z Z<|Zqm Z Z<|Wf Y4<|Wf Y4<|Wf Y4<|ZqT Z Z Z<|Zqm Z Z<|Wf Y4<|Wf Y4<|Wf Y4<|ZqT Z Z Z<|Nt<|Zy Z<|Sr<|At Z Z<|Zo<|Zu<|?_
  refine rR [] L (.t1 Z) Z (Lr D) fun _ hS2=>?_
  refine ⟨?_,Z⟩
  first
    | (simp [qaF,qaE, *];done)
    | (rw [show qaE l=false from qeh hch O];rfl)
    | (have h6:¬ l.length≤6:=by omega
       simp [qaF,qaE,h6];done)
    | (rw [qdK hch O O];rfl)
 refine Zg Z Z<|Zqm Z Z<|Zg Z Z<|qeI Z Z Z Z<|Zg Z Z<|qdP Z Z Z<|ZqF Z Z Z<|Zqm Z Z<|?_
 refine qam (t:=10) Z (fun c2=>?_) (fun c2=>?_)
 ·
  refine Wf Y4<|Wf Y4<|Wf Y4<|ZqT Z Z Z<|Zqm Z Z<|Wf Y4<|Wf Y4<|Wf Y4<|ZqT Z Z Z<|Nt<|Zy Z<|Sr<|At Z Z<|Zo<|Zu<|?_
  refine rR [] L (.t1 Z) Z (Lr D) fun _ hS2=>?_
  refine ⟨?_,Z⟩
  first
    | (simp [qaF,qaE, *];done)
    | (rw [show qaE l=false from qeh hch O];rfl)
    | (have h6:¬ l.length≤6:=by omega
       simp [qaF,qaE,h6];done)
    | (rw [qdK hch O O];rfl)
 refine Zg Z Z<|Zqm Z Z<|Zg Z Z<|?_
 obtain ⟨ch,hch⟩:∃ ch,l[0]?=some ch:=⟨_,List.getElem?_eq_getElem (List.length_pos_iff.2 As)⟩
 refine qae (qdx Z Z Z Z hch) Z<|Zg Z Z<|qbY Z Z Z<|ZqF Z Z Z<|Zqm Z Z<|?_
 refine qam (t:=15) Z (fun c3=>?_) (fun c3=>?_)
 ·
  refine Wf Y4<|Wf Y4<|Wf Y4<|ZqT Z Z Z<|Nt<|Zy Z<|Sr<|At Z Z<|Zo<|Zu<|?_
  refine rR [] L (.t1 Z) Z (Lr D) fun _ hS2=>?_
  refine ⟨?_,Z⟩
  first
    | (simp [qaF,qaE, *];done)
    | (rw [show qaE l=false from qeh hch O];rfl)
    | (have h6:¬ l.length≤6:=by omega
       simp [qaF,qaE,h6];done)
    | (rw [qdK hch O O];rfl)
 refine Zg Z Z<|Zqm Z Z<|Zg Z Z<|qae (qdx Z Z Z Z hch) Z<|Zg Z Z<|qdP Z Z Z<|ZqF Z Z Z<|Nt<|?_
 refine qab Z (fun c4=>?_) (fun c4=>?_)
 ·
  refine Sr<|At Z Z<|Zo<|Zu<|?_
  refine rR [] L (.t1 Z) Z (Lr D) fun _ hS2=>?_
  refine ⟨?_,Z⟩
  first
    | (simp [qaF,qaE, *];done)
    | (rw [show qaE l=false from qeh hch O];rfl)
    | (have h6:¬ l.length≤6:=by omega
       simp [qaF,qaE,h6];done)
    | (rw [qdK hch O O];rfl)
 refine Zk<|Zt<|Sr<|Zqm Z Z<|Jc Z Z Z (qi2 D _ _ _) ?_
 rintro _ _ s5 h5 ⟨rfl,rfl⟩
 refine qcQ Z Z<|At Z Z<|Zo<|?_
 refine rR [] L (.t1 Z) Z h5 fun _ hS2=>?_
 refine ⟨?_,Z⟩
 first
   | (simp [qaF,qaE, *];done)
   | (rw [show qaE l=false from qeh hch O];rfl)
   | (have h6:¬ l.length≤6:=by omega
      simp [qaF,qaE,h6];done)
   | (rw [qdK hch O O];rfl)
theorem qlA(c:UInt8)(l:List UInt8):(qpk (fnd c l) < 0∧qcn c l=(l,[],false))∨∃ i:Nat,qpk (fnd c l)=(i:Int)∧i+1≤l.length∧qcn c l=(l.take i,l.drop (i+1),true):=by
 cases h:fnd c l with
 | none=>exact .inl ⟨by simp [qpk],by simp [qcn,h]⟩
 | some i=>exact .inr ⟨i,rfl,qlB h,by simp [qcn,h]⟩
theorem qrc(D:Nat)(L:Hl)(s:World)(l:List UInt8)(c:UInt8)(hl:l.length≤9223372036854775806):AC prog D 113 [St l,St [c]] L s fun v L' _=>v=.tuple #[St (qcn c l).1,St (qcn c l).2.1,.bool (qcn c l).2.2]∧L=L':=by
 refine qai (fn:=f113) qaG func113 V Z ntmps113 Z (rs:=[.tmp 4,.tmp 5,.tmp 6]) Z [(0,_),(1,_)] Z<|Sr<|Zqa Z Z<|Zqa Z Z<|At Z Z<|Zs<|Sr<|Zqm Z Z<|Zqm Z Z<|Jc Z Z Z (qoB D _ _ _ _) ?_
 rintro _ _ s1 h1 ⟨rfl,rfl⟩
 refine At Z Z<|Sr<|Zqm Z Z<|qgW Z Z Z<|Nt<|?_
 refine qab Z (fun c2=>?_) (fun c2=>?_)
 ·
  obtain ⟨hneg,_⟩ | ⟨i,hi,hil,hcut⟩:=qlA c l
  · exact absurd c2 O
  rw [hi]
  refine Zs<|qbH qaf 12 Z _ (fun _ h=>h) ?_
  intro s3 h3
  refine za 0 Z (qao Z) Z<|za 1 Z (qao Z) Z<|za 2 Z (qhT Z Z Z Z O) Z<|za 3 Z (qao Z) Z<|za 4 Z (qao Z) Z<|za 5 Z (qao Z) Z<|za 6 Z (qho Z Z Z) Z<|za 7 Z (qby (c:=((i+1:Nat):Int)) Z Z (by rw [w64 (by simp;omega) (by simp;omega)];simp)) Z<|za 8 Z (qjB Z Z Z Z O) Z<|za 9 Z (qcq Z) Z<|za 10 Z (qcq Z) Z<|za 11 Z (qcq Z) Z<|qac V<|Zt<|Zo<|Zu<|?_
  refine rR [] L (.tmp Z (.tmp Z (.t1 Z))) Z (h1.t h3) fun _ hS2=>?_
  refine ⟨?_,Z⟩
  rw [hcut]
  rfl
 obtain ⟨hneg,hcut⟩ | ⟨i,hi,_,_⟩:=qlA c l
 rotate_left
 · exact absurd c2 O
 refine Zk<|Zt<|Sr<|Zqm Z Z<|Zqa Z Z<|Zqa Z Z<|At Z Z<|Zo<|?_
 refine rR [] L (.tmp Z (.tmp Z (.t1 Z))) Z h1 fun _ hS2=>?_
 refine ⟨?_,Z⟩
 rw [hcut]
 rfl
theorem qpA(D:Nat)(L:Hl)(s:World)(l:List UInt8)(c:UInt8)(hl:l.length≤9223372036854775806):AC prog D 91 [St l,St [c]] L s fun v L' _=>v=.tuple #[St (qcn c l).1,St (qcn c l).2.1,.bool (qcn c l).2.2]∧L=L':=by
 refine qai (fn:=f91) qaG func91 V Z ntmps91 Z (rs:=[.tmp 4,.tmp 5,.tmp 6]) Z [(0,_),(1,_)] Z<|Sr<|Zqa Z Z<|Zqa Z Z<|At Z Z<|Sr<|Zqm Z Z<|Zqm Z Z<|Jc Z Z Z (qrc D _ _ _ _ hl) ?_
 rintro _ _ s1 h1 ⟨rfl,rfl⟩
 refine Zqx Z Z Z<|Zqx Z Z Z<|Zqx Z Z Z<|Zqa Z Z<|Zqa Z Z<|At Z Z<|Zo<|?_
 refine rR [] L (.tmp Z (.tmp Z (.t1 Z))) Z h1 fun _ hS2=>?_
 exact ⟨rfl,rfl⟩
theorem qmW(D:Nat)(L:Hl)(s:World)(l:List UInt8)(c:UInt8)(hl:l.length≤4000000):AC prog D 52 [St l,St [c]] L s fun v L' s'=>L=L'∧∃ A n c',v=.slice A n c'∧Strs s' A n c' (splitB (c.toNat:Int) l):=by
 refine qai (fn:=f52) qaG func52 V Z ntmps52 Z (rs:=[.tmp 4]) Z [(0,_),(1,_)] Z<|Sr<|At Z Z<|Sr<|Zqm Z Z<|Zqm Z Z<|Jc Z Z Z (qi7 D _ _ _ _ hl) ?_
 rintro _ _ s1 h1 ⟨rfl,Ar,nr,cr,rfl,hr⟩
 refine At Z Z<|Zo<|?_
 refine rR [] L (.t1 Z) Z h1 fun _ hS2=>?_
 exact ⟨rfl,_,_,_,rfl,hr.le ((Lr D).t hS2)⟩
end Go.Proofs.YtjindleklapakaaGreatDoor
namespace Go.FL
open Go Go.RowKit
theorem qpr{P:Program}{TT:qbf}{D:Nat}{fr:Fr}{ty:Nat}{K:Hl}{s0:World}{t e b m:Nat}{x y:Operand}{ti te:TI}{ik:IntKind}{j:Nat}(hx:lk fr x=some (.pointer (some ⟨b,0,none⟩)))(hy:lk fr y=some (.int ik (j:Int)))(ht:qaA TT t=some ti)(hk:ti.kind=.ar m e)(he:qaA TT e=some te)(hj:j≤m) :
  QE P TT D fr (.slice t x none (some y) none) ty K s0 (.slice (some ⟨b,0,none⟩) j m):=
 QE.pure fun hT dst pos af g ρ hρ w=>by
  have hb:(Instr.sliceBounds false m m none (some (.int ik (j:Int))) none).run P w=.ok (0,j,m) w:=by simp [Instr.sliceBounds,qdW hj]
  have hu:P.underlying t=some (.array m e):=by
   obtain ⟨h1,h2,_⟩:=hT.at_ ht
   rw [hk] at h2
   rw [h1]
   exact congrArg some h2
  have hr:(Instr.sliceAt t (.pointer (some ⟨b,0,none⟩)) none (some (.int ik (j:Int))) none).run P w=.ok (.slice (some ⟨b,0,none⟩) j m) w:=by
   simp [Instr.sliceAt,Instr.sureAddr,run_underlying hu,hb,qbm (hT.at_ he),Addr.add]
  simp only [execOp,hρ x _ hx,Option.map_none,Option.map_some,hρ y _ hy,Sem.run_bind,hr,Result.andThen_ok,Sem.run_pure]
theorem qkk(L:Hl)(s:World)(n:Nat):(fill L s).drewN n=fill L (s.drewN n):=by
 induction L with
 | nil=>rfl
 | cons x L ih=>show qbi ((fill L s).drewN n) x.1 x.2=qbi (fill L (s.drewN n)) x.1 x.2;rw [ih]
theorem Le.drewN{D:Nat}(s:World)(n:Nat):Le D s (s.drewN n):=⟨rfl,rfl,rfl,Nat.le_refl _,fun _ _=>.inr rfl⟩
theorem qh6(w:World)(b ty:Nat)(zs:List Value)(f:Array Value→Array Value):Sort.mapBlock (qbi w b (cb zs ty)) b f=qbi w b (cb (f zs.toArray).toList ty):=by
  refine qdu (qdr fun k=>?_) Z Z Z Z
  show ((w.heap.setIfInBounds b _).modify b _)[k]?=(w.heap.setIfInBounds b _)[k]?
  rw [Array.getElem?_modify]
  by_cases hk:b=k
  · subst hk
    rw [if_pos rfl,Array.getElem?_setIfInBounds_self,Array.getElem?_setIfInBounds_self]
    split
    · simp [Sort.onCells,cb]
    · rfl
  · rw [if_neg hk,Array.getElem?_setIfInBounds_ne hk,Array.getElem?_setIfInBounds_ne hk]
end Go.FL
namespace Go.Proofs.YtjindleklapakaaGreatDoor
open Go.Proofs.Tryz
open Go Go.FL Go.RowKit
section
variable(D:Nat)(L:Hl)(s:World)
theorem qkq:qj7 prog 104:=⟨_,func104,by kernel_rfl,by kernel_rfl⟩
theorem qsa:qj7 prog 105:=⟨_,func105,by kernel_rfl,by kernel_rfl⟩
theorem qm5:qj7 prog 106:=⟨_,func106,by kernel_rfl,by kernel_rfl⟩
theorem qo2(u:Nat)(h:u < 100):AC prog D 104 [.int .i64 (u:Int)] L s fun v L' _=>v=St (Lib.decDigits u)∧L=L':=
 AC.of_calls qkq fun _=>(Any.internal_strconv_small lays283 u h (fill L s)).mono fun e w' ⟨he,hw⟩=>⟨_,he,by rw [hw];exact qdF _,fun s' _ _ _=>⟨rfl,rfl⟩⟩
theorem qtW(hG:GW s)(u:Nat)(h1:1≤u)(h2:u < 4294967296):AC prog D 105 [.int .u64 (u:Int)] L s fun v L' _=>v=.int .i64 (Lib.nDigits u:Int)∧L=L':=
 AC.of_calls qsa fun ho=>(Any.internal_strconv_numDigits laysM284 u h1 O (fill L s) (qpG laysM284.m17 (hG.le (qeK ho)))).mono fun e w' ⟨he,hw⟩=>⟨_,he,by rw [hw];exact qdF _,fun s' _ _ _=>⟨rfl,rfl⟩⟩
theorem qq2{u:Nat}(h:u < 4294967296):Lib.nDigits u≤20:=by
  by_cases h1:1≤u
  · have:=Lib.numDigits_eq u h1 O;split at this <;> omega
  · obtain rfl:u=0:=by omega
    rw [Lib.nDigits];simp
def z24:List Value:=List.replicate 24 (.int .u8 0)
theorem qlX(u:Nat)(h2:u < 4294967296)(b ty:Nat):AC prog D 106 [.slice (some ⟨b,0,none⟩) (Lib.nDigits u) 24,.int .u64 (u:Int)] ((b,cb z24 ty)::L) s
    fun v L' _=>v=.tuple #[]∧∃ ys,L'=(b,cb (bv (Lib.decDigits u)++ys) ty)::L∧(Lib.decDigits u).length+ys.length=24:=by
  refine ⟨qm5,fun ho=>?_⟩
  have hnd:=qq2 h2
  have hblk:(fill ((b,cb z24 ty)::L) s).heap[b]?=some (cb z24 ty):=qa3 ho Mc
  have hH:Sort.Holds (fun (x:UInt8)=>Value.int .u8 (x.toNat:Int)) (fill ((b,cb z24 ty)::L) s) b 0 (Array.replicate (Lib.nDigits u) (0:UInt8)):=by
    intro j hj
    have hj':j < Lib.nDigits u:=by simpa using hj
    refine ⟨?_,by unfold World.frozen?;rw [hblk];simp [cb]⟩
    rw [Nat.zero_add,qcF ho Mc,getElem!_pos _ j hj,z24,List.getElem?_replicate,if_pos O]
    simp
  have h:=Any.internal_strconv_formatBase10 lays285 b 0 24 u (Array.replicate (Lib.nDigits u) 0) _ hH (by rw [Array.size_replicate];exact Lib.lt_pow_nDigits u) O (by rw [Array.size_replicate];omega)
  rw [Array.size_replicate] at h
  refine h.mono ?_
  rintro e w' ⟨he,n,v',dk,hw,hF⟩
  have hsz:dk.size=Lib.nDigits u:=hF.size
  have hlen:(Lib.decDigits u).length=Lib.nDigits u:=Lib.decDigits_length u
  have hcells:(Sort.putCells (fun (x:UInt8)=>Value.int .u8 (x.toNat:Int)) 0 dk z24.toArray).toList=bv (Lib.decDigits u)++List.replicate (24 - Lib.nDigits u) (.int .u8 0):=by
    apply List.ext_getElem?
    intro k
    simp only [Sort.putCells,Array.toList_mapIdx,List.getElem?_mapIdx,Nat.zero_le,true_and,Nat.zero_add,Nat.sub_zero]
    by_cases hk:k < Lib.nDigits u
    · rw [List.getElem?_append_left (by simp [bv];omega)]
      have h24:z24[k]?=some (.int .u8 0):=by rw [z24,List.getElem?_replicate,if_pos O]
      rw [h24]
      simp only [Option.map_some,hsz,hk,if_true,bv,List.getElem?_map]
      rw [List.getElem?_eq_getElem O,← Lib.row_is_numeral hF k O]
      rfl
    · rw [List.getElem?_append_right (by simp [bv];omega)]
      have hk':¬ k < dk.size:=by omega
      have hbl:(bv (Lib.decDigits u)).length=Lib.nDigits u:=by simp [bv,hlen]
      rw [hbl]
      by_cases h24:k < 24
      · have e1:z24[k]?=some (.int .u8 0):=by rw [z24,List.getElem?_replicate,if_pos O]
        rw [e1]
        simp [hk',List.getElem?_replicate]
        omega
      · have e1:z24[k]?=none:=by simp [z24];omega
        rw [e1]
        simp [List.getElem?_replicate]
        omega
  have hworld:w'=fill ((b,cb (bv (Lib.decDigits u)++List.replicate (24 - Lib.nDigits u) (.int .u8 0)) ty)::L) (s.drewN n):=by
    rw [hw,Sort.putRow]
    show (Sort.mapBlock (qbi (fill L s) b (cb z24 ty)) b _).drewN n=_
    rw [qh6,hcells]
    exact qkk ((b,cb (bv (Lib.decDigits u)++List.replicate (24 - Lib.nDigits u) (.int .u8 0)) ty)::L) s n
  exact ⟨_,_,_,he,hworld,⟨ho.nd,fun x hx=>by
    rcases List.mem_cons.1 hx with rfl | hx
    · exact ho.dm (b,cb z24 ty) Mc
    · exact ho.dm x (List.mem_cons_of_mem _ hx)⟩,Le.drewN s n,rfl,_,rfl,by simp;omega⟩
end
open Go Go.FL
def qfN(acc:Nat)(l:List UInt8):Nat:=l.foldl (fun a c=>a * 10+(c.toNat - 48)) acc
def qd3(l:List UInt8):Bool:=decide (l≠[]) && l.all qdk && (decide (l.length≤1) || decide (l.head?≠some 48))
def qdf(l:List UInt8):Option Nat:=if qd3 l=true∧qfN 0 l < 4294967296 then some (qfN 0 l) else none
theorem qds(acc:Nat):qfN acc []=acc:=rfl
theorem qc8(acc:Nat)(c:UInt8)(r:List UInt8):qfN acc (c::r)=qfN (acc * 10+(c.toNat - 48)) r:=by unfold qfN;rw [List.foldl_cons]
theorem qm2(c:UInt8):qfN 0 [c]=c.toNat - 48:=by rw [qc8,qds,Nat.zero_mul,Nat.zero_add]
attribute [local irreducible] qfN
theorem qe7(l:List UInt8)(c:UInt8)(acc:Nat):qfN acc (l++[c])=qfN acc l * 10+(c.toNat - 48):=by
 induction l generalizing acc with
 | nil=>rw [List.nil_append,qc8,qds,qds]
 | cons x l ih=>rw [List.cons_append,qc8,qc8];exact ih _
theorem qlF(l:List UInt8)(acc:Nat):acc≤qfN acc l:=by
 induction l generalizing acc with
 | nil=>rw [qds];exact Nat.le_refl _
 | cons x l ih=>have:=ih (acc * 10+(x.toNat - 48));rw [qc8];omega
theorem qmE{M acc:Nat}{l:List UInt8}(hM:M < 1844674407370955162)(h:l.all qdk=true)(hv:qfN acc l≤M):Lib.parseUintM M acc l=.ok (qfN acc l):=by
 induction l generalizing acc with
 | nil=>rw [qds];rfl
 | cons c l ih=>
  simp only [List.all_cons,Bool.and_eq_true,qdk,decide_eq_true_eq] at h
  rw [qc8] at hv ⊢
  have h1:=qlF l (acc * 10+(c.toNat - 48))
  simp only [Lib.parseUintM]
  rw [if_pos h.1,if_neg O,if_neg O]
  exact ih (by simpa [qdk] using h.2) hv
theorem qiB{u:Nat}(h:u < 10):(UInt8.ofNat (48+u)).toNat=48+u:=by simp;omega
theorem qhQ(u:Nat):qfN 0 (Lib.decDigits u)=u:=by
 induction u using Nat.strongRecOn with
 | _ u ih=>
  by_cases h:u < 10
  · rw [Lib.decDigits,dif_pos h];rw [qm2,qiB h];omega
  · rw [Lib.decDigits,dif_neg h,qe7,ih (u / 10) O,qiB O];omega
theorem qmp(u:Nat):Lib.decDigits u≠[]:=by
 by_cases h:u < 10
 · rw [Lib.decDigits,dif_pos h];simp
 · rw [Lib.decDigits,dif_neg h];simp
theorem qhm(u:Nat):(Lib.decDigits u).all qdk=true:=by
  induction u using Nat.strongRecOn with
  | _ u ih=>
    by_cases h:u < 10
    · rw [Lib.decDigits,dif_pos h];simp only [List.all_cons,List.all_nil,Bool.and_true,qdk,qiB h,Bool.and_eq_true,decide_eq_true_eq];omega
    · rw [Lib.decDigits,dif_neg h,List.all_append,ih (u / 10) O]
      simp only [List.all_cons,List.all_nil,Bool.and_true,qdk,qiB (show u % 10 < 10 by omega),Bool.and_eq_true,decide_eq_true_eq,Bool.true_and];omega
theorem qnZ(u:Nat)(h:1≤u):(Lib.decDigits u).head?≠some 48:=by
  induction u using Nat.strongRecOn with
  | _ u ih=>
    by_cases h1:u < 10
    · rw [Lib.decDigits,dif_pos h1];intro e
      simp only [List.head?_cons,Option.some.injEq] at e
      have:=congrArg UInt8.toNat e;rw [qiB h1] at this;simp at this;omega
    · rw [Lib.decDigits,dif_neg h1]
      have hne:=qmp (u / 10)
      have:=ih (u / 10) O O
      cases hd:Lib.decDigits (u / 10) with
      | nil=>exact absurd hd hne
      | cons x r=>rw [hd] at this;simpa using this
theorem ql9(u:Nat):qd3 (Lib.decDigits u)=true:=by
 simp only [qd3,qhm,qmp,ne_eq,not_false_eq_true,decide_true,Bool.true_and,Bool.or_eq_true,decide_eq_true_eq]
 by_cases h:u < 10
 · left;rw [Lib.decDigits,dif_pos h];simp
 · right;exact qnZ u O
theorem qou{l:List UInt8}{c:UInt8}{r:List UInt8}(he:l=c::r)(hd:qdk c=true)(h:c≠48):1≤qfN 0 l:=by
 subst he
 have h1:=qlF r (0 * 10+(c.toNat - 48))
 simp only [qdk,Bool.and_eq_true,decide_eq_true_eq] at hd
 have:c.toNat≠48:=fun e=>h (UInt8.toNat_inj.1 e)
 rw [qc8];omega
theorem qlp{l:List UInt8}(h:qd3 l=true):Lib.decDigits (qfN 0 l)=l:=by
 induction hn:l.length using Nat.strongRecOn generalizing l with
 | _ n ih=>
  simp only [qd3,Bool.and_eq_true,decide_eq_true_eq,Bool.or_eq_true] at h
  obtain ⟨⟨h0,h1⟩,h2⟩:=h
  obtain ⟨m,c,rfl⟩:∃ m c,l=m++[c]:=⟨l.dropLast,l.getLast h0,(List.dropLast_concat_getLast h0).symm⟩
  rw [List.all_append,Bool.and_eq_true] at h1
  have hc:48≤c.toNat∧c.toNat≤57:=by simpa [qdk] using h1.2
  have hcc:UInt8.ofNat (48+(c.toNat - 48))=c:=by apply UInt8.toNat_inj.1;simp;omega
  rw [qe7]
  cases hm:m with
  | nil=>rw [qds,Lib.decDigits,dif_pos O];simp [hcc]
  | cons x r=>
   have hx:(m++[c]).head?=some x:=by rw [hm];rfl
   have hx48:x≠48:=by
    rcases h2 with h2 | h2
    · rw [hm] at h2;simp at h2
    · intro e;exact h2 (by rw [hx,e])
   have hdx:qdk x=true:=by have:=h1.1;rw [hm,List.all_cons,Bool.and_eq_true] at this;exact this.1
   have hp:=qou hm hdx hx48
   have hcm:qd3 m=true:=by
    simp only [qd3,Bool.and_eq_true,decide_eq_true_eq,Bool.or_eq_true]
    refine ⟨⟨by rw [hm];simp,h1.1⟩,.inr ?_⟩
    rw [hm];simpa using hx48
   have hd:=ih m.length (by rw [← hn];simp) hcm rfl
   rw [← hm]
   rw [Lib.decDigits,dif_neg O]
   rw [show (qfN 0 m * 10+(c.toNat - 48)) / 10=qfN 0 m by omega,hd,show (qfN 0 m * 10+(c.toNat - 48)) % 10=c.toNat - 48 by omega,hcc]
theorem qjY{u:Nat}(h:u < 4294967296):qdf (Lib.decDigits u)=some u:=by rw [qdf,if_pos ⟨ql9 u,by rw [qhQ];exact h⟩,qhQ]
theorem qe0{l:List UInt8}{u:Nat}(h:qdf l=some u):l=Lib.decDigits u∧u < 4294967296:=by
 unfold qdf at h
 split at h
 · rename_i hh;injection h with h;subst h;exact ⟨(qlp hh.1).symm,hh.2⟩
 · cases h
theorem qfh(l:List UInt8)(u:Nat):(Lib.parseUintB 32 l=.ok u∧Lib.decDigits u=l)↔qdf l=some u:=by
  constructor
  · rintro ⟨h,rfl⟩
    exact qjY (by have:=Lib.parseUintB_le h;omega)
  · intro h
    obtain ⟨rfl,hu⟩:=qe0 h
    refine ⟨?_,Z⟩
    rw [Lib.parseUintB,if_neg (qmp u)]
    have:=qmE (M:=2 ^ 32 - 1) (acc:=0) Dc (qhm u) (by rw [qhQ];omega)
    rw [qhQ] at this;exact this
theorem qrJ(k u:Nat)(h:u < 10 ^ (k+1)):Lib.nDigits u≤k+1:=by
 induction k generalizing u with
 | zero=>rw [Lib.nDigits_small (by simpa using h)];exact Nat.le_refl _
 | succ k ih=>
  by_cases h1:u < 10
  · rw [Lib.nDigits_small h1];omega
  · rw [Lib.nDigits_big h1];have:=ih (u / 10) (by rw [Nat.pow_succ] at h;omega);omega
theorem qjs{u:Nat}(h:u < 4294967296):1≤(Lib.decDigits u).length∧(Lib.decDigits u).length≤10:=by
 rw [Lib.decDigits_length]
 exact ⟨Lib.nDigits_pos u,qrJ 9 u O⟩
end Go.Proofs.YtjindleklapakaaGreatDoor
namespace Go.Proofs.YtjindleklapakaaGreatDoor
open Go Go.FL Go.RowKit
theorem qmL{l:List UInt8}{u:Nat}(h:Lib.parseUintB 32 l=.ok u):decide (Lib.decDigits u=l)=(qdf l).isSome:=by
  by_cases hd:Lib.decDigits u=l
  · rw [(qfh l u).1 ⟨h,hd⟩,decide_eq_true hd];rfl
  · rw [decide_eq_false hd]
    cases hn:qdf l with
    | none=>rfl
    | some v=>
      obtain ⟨h1,h2⟩:=(qfh l v).2 hn
      rw [h] at h1;injection h1 with h1;subst h1
      exact absurd h2 hd
theorem qhK{l:List UInt8}(h:∀ u,Lib.parseUintB 32 l≠.ok u):qdf l=none:=by
 cases hn:qdf l with
 | none=>rfl
 | some v=>exact absurd ((qfh l v).2 hn).1 (h v)
theorem qk3{l:List UInt8}{u v:Nat}(h:Lib.parseUintB 32 l=.ok u)(hn:qdf l=some v):u=v:=by
 have h1:=((qfh l v).2 hn).1
 rw [h] at h1;injection h1
theorem qhs(n:Int):U32 (IntKind.u32.wrap n):=by rw [IntKind.wrap_u32];exact ⟨by omega,by omega⟩
theorem qcz{n:Nat}(h:n < 4294967296):IntKind.u32.wrap (n:Int)=(n:Int):=by rw [IntKind.wrap_u32];omega
theorem Strs.tail{s:World}{A:Option Addr}{n c:Nat}{x:List UInt8}{l:List (List UInt8)}(h:Strs s A n c (x::l)):∃ A1 n1 c1,(Value.slice (if c=1 then A else A.map (·.add (1 * 1))) (n - 1) (c - 1))=Value.slice A1 n1 c1∧Strs s A1 n1 c1 l:=by
  refine ⟨_,_,_,Z,?_,?_,?_,fun i y hy=>?_⟩
  · have:=h.1;simp at this;omega
  · have:=h.2.1;omega
  · have:=h.2.2.1;omega
  · obtain ⟨b,off,cs,h1,h2,h3,h4⟩:=h.2.2.2 (i+1) y (by simpa using hy)
    have hc:¬ c=1:=by
      have:=h.1;have:=h.2.1
      have:=(List.getElem?_eq_some_iff.1 hy).1
      simp at *;omega
    rw [if_neg hc,h1]
    exact ⟨b,off+1,cs,rfl,by rw [show off+1+i * 1=off+(i+1) * 1 by omega];exact h2,h3,h4⟩
theorem Strs.head{s:World}{A:Option Addr}{n c:Nat}{l:List (List UInt8)}(h:Strs s A n c l)(hn:0 < n):∃ b off x r,A=some ⟨b,off,none⟩∧l=x::r∧CellsAt s b (off+0) [St x]∧x.length≤9223372036854775807:=by
 obtain ⟨b,off,x,h1,h2,h3,h4⟩:=Strs.at_ h hn
 obtain ⟨r,hr⟩:∃ r,l=x::r:=by
  cases l with
  | nil=>cases h2
  | cons y r=>simp at h2;subst h2;exact ⟨r,rfl⟩
 exact ⟨b,off,x,r,h1,hr,h3,h4⟩
structure Ln where
 label:List UInt8
 op:List UInt8
 has:Bool
 name:List UInt8
 num:Int
 deriving DecidableEq
def Ln.cs(x:Ln):List Value:=[St x.label,St x.op,.bool x.has,St x.name,.int .u32 x.num]
def qdG(w:List UInt8):Option (List UInt8×Int):=
 if qaE (qcn 43 w).1=true then (if (qcn 43 w).2.2=true then (qdf (qcn 43 w).2.1).map (fun (n:Nat)=>((qcn 43 w).1,(n:Int))) else some ((qcn 43 w).1,0)) else (qdf w).map fun (n:Nat)=>([],(n:Int))
def qgJ:List (List UInt8)→Option (List UInt8×List (List UInt8))
 | []=>some ([],[])
 | w::r=>if qhi 58 w=true then (if qaE w.dropLast=true then some (w.dropLast,r) else none) else some ([],w::r)
def qdg(lab:List UInt8):List (List UInt8)→Option Ln
 | []=>some ⟨lab,[],false,[],0⟩
 | [o]=>if qaE o=true then some ⟨lab,o,false,[],0⟩ else none
 | [o,w]=>if qaE o=true then (qdG w).map fun x=>⟨lab,o,true,x.1,x.2⟩ else none
 | _::_::_::_=>none
def qoF(ws:List (List UInt8)):Option Ln:=(qgJ ws).bind fun x=>qdg x.1 x.2
def qa6(l:List UInt8):Option Ln:=qoF (qh3 (qcn 59 l).1)
theorem qiW(c:UInt8)(l:List UInt8):(qcn c l).1.length≤l.length∧(qcn c l).2.1.length≤l.length:=by
 unfold qcn
 split
 · exact ⟨Nat.le_refl _,by simp⟩
 · exact ⟨by simp;omega,by simp⟩
theorem qfD{l:List UInt8}(h:qaE l=true):l≠[]∧l.length≤6:=by
 simp only [qaE,Bool.and_eq_true,decide_eq_true_eq] at h
 exact ⟨h.1.1,h.1.2⟩
theorem qet{l:List UInt8}{W R:List (List UInt8)}{lab:List UInt8}(hW:qh3 (qcn 59 l).1=W)(h:qgJ W=some (lab,R)):qa6 l=qdg lab R:=by
 rw [qa6,qoF,hW,h];rfl
theorem qb0{l:List UInt8}{W:List (List UInt8)}(hW:qh3 (qcn 59 l).1=W)(h:qgJ W=none):qa6 l=none:=by
 rw [qa6,qoF,hW,h];rfl
theorem qbt{lab o:List UInt8}(h:qaE o=true):qdg lab [o]=some ⟨lab,o,false,[],0⟩:=by simp [qdg,h]
theorem qbq{lab o w:List UInt8}(h:qaE o=true):qdg lab [o,w]=(qdG w).map fun x=>⟨lab,o,true,x.1,x.2⟩:=by simp [qdg,h]
theorem qbu{lab o:List UInt8}{r:List (List UInt8)}(h:qaE o=false):qdg lab (o::r)=none:=by
 match r with
 | []=>simp [qdg,h]
 | [w]=>simp [qdg,h]
 | _::_::_=>rfl
theorem qbp{lab:List UInt8}{r:List (List UInt8)}(h:2 < r.length):qdg lab r=none:=by
 match r,h with
 | _::_::_::_,_=>rfl
end Go.Proofs.YtjindleklapakaaGreatDoor
