/- Part 6. -/
import Derived.Test.YtflplmcjbppfcaaGreatDoorQ38x5
set_option linter.unusedVariables false
set_option linter.defProp false
set_option linter.unusedSimpArgs false
set_option linter.unnecessarySimpa false
set_option maxRecDepth 100000
set_option maxHeartbeats 8000000
namespace Go.Proofs.YtflplmcjbppfcaaGreatDoor
open Go Go.FL
def qeG{a b:Str}(h:∃ T,b=T++[10]):∃ T,a++b=T++[10]:=by
 obtain ⟨T,rfl⟩:=h;exact ⟨a++T,(List.append_assoc ..).symm⟩
def ql8(k:Int)(nm:Str)(es:List Str):∃ T,qhp k nm es=T++[10]:=by
 unfold qhp;repeat' split
 all_goals first
  | exact qeG ⟨[59],rfl⟩
  | exact qeG ⟨[41,59],rfl⟩
def qpy:∀ (x:Stm) (lv:Nat),∃ T,stT x lv=T++[10]
  | .mk k nm es b [],lv=>by
    simp only [stT];by_cases h:k=3∨k=4
    · rw [if_pos h];refine qeG ?_;rw [if_pos (by rfl)];exact ⟨[],rfl⟩
    · rw [if_neg h];exact ql8 ..
  | .mk k nm es b (z::r),lv=>by
    simp only [stT];by_cases h:k=3∨k=4
    · rw [if_pos h]
      refine qeG ?_;rw [if_neg (by simp)];by_cases hi:qp6 (z::r)=true
      · rw [if_pos hi,st1];exact qeG (qpy z lv)
      · rw [if_neg hi];exact qeG ⟨[125],rfl⟩
    · rw [if_neg h];exact ql8 ..
def stI(x:Stm)(lv:Nat):Str:=(stT x lv).dropLast
def qpx(x:Stm)(lv:Nat):stI x lv++[10]=stT x lv:=by
 obtain ⟨T,h⟩:=qpy x lv;rw [stI,h,List.dropLast_concat]
def qeU{x:Stm}{lv:Nat}{T:Str}(h:stT x lv=T++[10]):stI x lv=T:=by rw [stI,h,List.dropLast_concat]
def otI(e:List Stm)(lv:Nat):Str:=if e.isEmpty=true then [] else if qp6 e=true then [32,101,108,115,101,32]++(st1 e lv).dropLast else [32,101,108,115,101,32,123,10]++qdE e (lv+1)++qaT lv++[125]
def qBd(e:List Stm)(lv:Nat):(if e.isEmpty=true then [10] else if qp6 e=true then [32,101,108,115,101,32]++st1 e lv else [32,101,108,115,101,32,123,10]++qdE e (lv+1)++qaT lv++[125,10])=otI e lv++[10]:=by
  unfold otI;split
  · rfl
  split
  · rename_i h1 h2
    match e,h2 with
    | [],h2=>exact absurd rfl h1
    | _::_::_,h2=>exact absurd h2 (by simp [qp6])
    | [z],h2 => 
      simp only [st1];rw [List.append_assoc];exact congrArg _ (qpx z lv).symm
  · simp
def qv9(lv:Nat):otI [] lv=[]:=rfl
def qzt{e:List Stm}{z:Stm}(lv:Nat)(h:e.length=1)(hz:e[0]?=some z)(hk:z.kind=3):otI e lv=[32,101,108,115,101,32]++stI z lv:=by
 rw [qmI h hz];cases z with
 | mk k nm es b l=>
  have hk:k=3:=hk;unfold otI;rw [if_neg (by simp),if_pos (by simp [qp6,hk])];rfl
def qrw{e:List Stm}(lv:Nat)(h0:e.length≠0)(h:¬ (e.length=1∧∀ z,e[0]?=some z→z.kind=3)):otI e lv=[32,101,108,115,101,32,123,10]++qdE e (lv+1)++qaT lv++[125]:=by
 unfold otI;rw [if_neg (by intro g;exact h0 (by simpa using g)),if_neg];intro g;match e,g with
 | [.mk k nm es b l],g=>exact h ⟨rfl,fun z hz=>by simp at hz;subst hz;show k=3;simpa [qp6] using g⟩
def qdL{x:Stm}{lv:Nat}(h:stV x lv=true):lv≤16∧stC x.kind x.name x.exprs.length x.body.length x.els.length=0∧qgy x.exprs=true∧qdP x.body (lv+1)=true∧qdP x.els (lv+1)=true:=by
 cases x with
 | mk k nm es b e=>simp only [stV,Bool.and_eq_true,decide_eq_true_eq] at h;exact ⟨h.1.1.1.1,h.1.1.1.2,h.1.1.2,h.1.2,h.2⟩
def qgi(x:Stm):stN x=1+qbD x.exprs+qbr x.body+qbr x.els:=by cases x;rfl
def qcx{k:Int}{nm:Str}{ne nb nl:Nat}(h:stC k nm ne nb nl=0):1≤k∧k≤10∧qdu k≤ne∧ne≤qd0 k∧(0 < nb→k=3∨k=4)∧(0 < nl→k=3):=by
  unfold stC at h;split at h
  · cases h
  rename_i h1;split at h
  · cases h
  split at h
  · cases h
  rename_i h3;refine ⟨by omega,by omega,?_,?_,?_,?_⟩
  · exact Nat.le_of_not_lt fun hh=>h3 (.inr (.inl hh))
  · exact Nat.le_of_not_lt fun hh=>h3 (.inr (.inr (.inl hh)))
  · intro hb
    by_cases h4:k=3∨k=4
    · exact h4
    · exact absurd (.inr (.inr (.inr (.inl ⟨hb,fun e=>h4 (.inl e),fun e=>h4 (.inr e)⟩)))) h3
  · intro hb
    by_cases h4:k=3
    · exact h4
    · exact absurd (.inr (.inr (.inr (.inr ⟨hb,h4⟩)))) h3
def qfE:∀ {l:List Stm} {k lv:Nat} {y:Stm},qdP l lv=true→l[k]?=some y→stV y lv=true∧stN y≤qbr l
 | [],_,_,_,_,h=>by cases h
 | x::r,0,lv,y,hv,h=>by
  simp at h;subst h;simp only [qdP,Bool.and_eq_true] at hv;exact ⟨hv.1,by rw [qbr];omega⟩
 | x::r,k+1,lv,y,hv,h=>by
  simp only [qdP,Bool.and_eq_true] at hv;have:=qfE hv.2 (show r[k]?=some y by simpa using h);exact ⟨this.1,by rw [qbr];omega⟩
def qpz{l:List Stm}{k lv:Nat}{x:Stm}(h:l[k]?=some x):qdE (l.drop k) lv=qaT lv++stT x lv++qdE (l.drop (k+1)) lv:=by
 obtain ⟨hk,rfl⟩:=List.getElem?_eq_some_iff.1 h;rw [List.drop_eq_getElem_cons hk,qdE]
section
variable{x:Stm}{y z:Ex}{lv:Nat}
def qfD(hv:stV x lv=true)(h:x.kind=1∨x.kind=3∨x.kind=4∨x.kind=6∨x.kind=7∨x.kind=8):x.exprs.length=1:=by
 have ha:=qcx (qdL hv).2.1;have h1:=ha.2.2.1;have h2:=ha.2.2.2.1;rcases h with h|h|h|h|h|h<;>(rw [h] at h1 h2;simp [qdu,qd0] at h1 h2;omega)
def qwx(hv:stV x lv=true)(h:x.kind=2):x.exprs.length=2:=by
 have ha:=qcx (qdL hv).2.1;have h1:=ha.2.2.1;have h2:=ha.2.2.2.1;rw [h] at h1 h2;simp [qdu,qd0] at h1 h2;omega
def qzL(hv:stV x lv=true)(h:x.kind=5):x.exprs.length≤6:=by
 have ha:=qcx (qdL hv).2.1;have h2:=ha.2.2.2.1;rw [h] at h2;simp [qd0] at h2;omega
def qzK(hv:stV x lv=true)(h:x.kind=9∨x.kind=10):x.exprs=[]:=by
 have ha:=qcx (qdL hv).2.1;have h2:=ha.2.2.2.1;rcases h with h|h<;>(rw [h] at h2;simp [qd0] at h2;exact h2)
def qBs(hv:stV x lv=true)(h:x.kind≠3):x.els=[]:=by
 have ha:=(qcx (qdL hv).2.1).2.2.2.2.2;cases he:x.els with
 | nil=>rfl
 | cons a r=>rw [he] at ha;exact absurd (ha (by simp)) h
def qeQ(h:¬ (x.kind=3∨x.kind=4)):stT x lv=qhp x.kind x.name (qdT x.exprs []):=by
 cases x with
 | mk k nm es b e=>
  have h:¬ (k=3∨k=4):=h;simp only [stT];rw [if_neg h];rfl
def qhM{l:List Ex}(h:l.length=1)(hy:l[0]?=some y):qdT l []=[exT y 0]:=by rw [qmI h hy];rfl
def qy5{l:List Ex}(h:l.length=2)(hy:l[0]?=some y)(hz:l[1]?=some z):qdT l []=[exT y 0,exT z 0]:=by rw [qzn h hy hz];rfl
def qBt(h:x.kind=1)(hl:x.exprs.length=1)(hy:x.exprs[0]?=some y):stI x lv=x.name++[32,61,32]++exT y 0++[59]:=qeU (by
 rw [qeQ O,h,qhM hl hy];simp [qhp])
def qBu(h:x.kind=2)(hl:x.exprs.length=2)(hy:x.exprs[0]?=some y)(hz:x.exprs[1]?=some z):stI x lv=x.name++[91]++exT y 0++[93,32,61,32]++exT z 0++[59]:=qeU (by
 rw [qeQ O,h,qy5 hl hy hz];simp [qhp])
def qBx(h:x.kind=5):stI x lv=x.name++[40]++qa2 (qdT x.exprs [])++[41,59]:=qeU (by
 rw [qeQ O,h];simp [qhp])
def qBy(h:x.kind=6)(hl:x.exprs.length=1)(hy:x.exprs[0]?=some y):stI x lv=[114,101,116,117,114,110,32]++exT y 0++[59]:=qeU (by
 rw [qeQ O,h,qhM hl hy];simp [qhp,qa2])
def qBz(h:x.kind=7)(hl:x.exprs.length=1)(hy:x.exprs[0]?=some y):stI x lv=[112,117,116,32]++exT y 0++[59]:=qeU (by
 rw [qeQ O,h,qhM hl hy];simp [qhp,qa2])
def qBA(h:x.kind=8)(hl:x.exprs.length=1)(hy:x.exprs[0]?=some y):stI x lv=[115,116,111,112,32]++exT y 0++[59]:=qeU (by
 rw [qeQ O,h,qhM hl hy];simp [qhp,qa2])
def qBB(h:x.kind=9)(hl:x.exprs=[]):stI x lv=[98,114,101,97,107,59]:=qeU (by
 rw [qeQ O,h,hl];simp [qhp,qa2,qdT])
def qzQ(h:x.kind=10)(hl:x.exprs=[]):stI x lv=[99,111,110,116,105,110,117,101,59]:=qeU (by
 rw [qeQ O,h,hl];simp [qhp,qa2,qdT])
def qBv(h:x.kind=3)(hl:x.exprs.length=1)(hy:x.exprs[0]?=some y):stI x lv=[105,102,32,40]++exT y 0++[41,32,123,10]++qdE x.body (lv+1)++qaT lv++[125]++otI x.els lv:=qeU (by
 cases x with
 | mk k nm es b e=>
  have h:k=3:=h;have hl:es.length=1:=hl;have hy:es[0]?=some y:=hy;simp only [stT];rw [if_pos (.inl h),qBd,qhM hl hy,h];simp [Stm.body,Stm.els])
def qBw(h:x.kind=4)(hl:x.exprs.length=1)(hy:x.exprs[0]?=some y)(he:x.els=[]):stI x lv=[119,104,105,108,101,32,40]++exT y 0++[41,32,123,10]++qdE x.body (lv+1)++qaT lv++[125]:=qeU (by
 cases x with
 | mk k nm es b e=>
  have h:k=4:=h;have he:e=[]:=he;have hl:es.length=1:=hl;have hy:es[0]?=some y:=hy;simp only [stT];rw [if_pos (.inr h),qhM hl hy,h,he];simp [Stm.body])
end
open Go.Proofs.Tryz
open Go.FL
attribute [local irreducible] JC JO JA JB qaZ qaL qb4 AC fill CellsAt QE Ev Mid
def qf6(zs:List Value)(n:Nat):qbz zs n []=zs:=by cases zs<;>rfl
def LA(R:List Value)(T:Nat):Prop:=Go.liesAt prog prog.depth T ((R.length+2) / prog.cellsOf T) 0 59 1=true
def WC(R:List Value)(T bb:Nat)(M:Hl)(l:List UInt8):Prop:=∃ p M0 v,((p=none∨p=some ⟨bb,0,none⟩)∧LA R T)∧M=(bb,cb (.pointer p::v::R) T)::M0∧BV M0 v l
def WC.mk{R:List Value}{T bb:Nat}{p:Option Addr}{M0:Hl}{v:Value}{l:List UInt8}(hp:(p=none∨p=some ⟨bb,0,none⟩)∧LA R T)(h:BV M0 v l):WC R T bb ((bb,cb (.pointer p::v::R) T)::M0) l:=⟨p,M0,v,hp,rfl,h⟩
abbrev Wr(bb:Nat)(M:Hl)(l:List UInt8):Prop:=WC [] 199 bb M l
def Wr.mk{bb:Nat}{p:Option Addr}{M0:Hl}{v:Value}{l:List UInt8}(hp:p=none∨p=some ⟨bb,0,none⟩)(h:BV M0 v l):Wr bb ((bb,cb [.pointer p,v] 199)::M0) l:=WC.mk ⟨hp,by unfold LA;kernel_rfl⟩ h
def qjk(D:Nat)(L:Hl)(s:World){R:List Value}{T:Nat}(bb:Nat)(p:Option Addr)(hp:(p=none∨p=some ⟨bb,0,none⟩)∧LA R T)(v:Value):AC prog D 77 [.pointer (some ⟨bb,0,none⟩)] ((bb,cb (.pointer p::v::R) T)::L) s fun u L' _=>u=.tuple #[]∧L'=(bb,cb (.pointer (some ⟨bb,0,none⟩)::v::R) T)::L:=by
 refine qae (fn:=f77) qav func77 V Z ntmps77 Z (rs:=[]) Z [(0,_)] Z<|Sr<|Zqm Z Z<|qaQ Z Z<|W0 Y5<|Wl 0 Y6<|qad (qx5 underlying56 Z) Z<|Nt<|?_;refine qeN Z ?_ ?_<;>intro c1
 ·obtain rfl:p=none:=by simpa using c1
  refine Zr<|Zqm Z Z<|Zqm Z Z<|qad (qx9 0 underlying56 underlying206 Z Z Z Z) Z<|qad (quO func109 V V V V Z Z) Z<|qad (qqd 0 underlying206 underlying56 Z Z Z hp.2) Z<|qaQ Z Z<|W0 Y5<|qc5 0 (_::_::_) Z Z Z Z Z Z Z Z Z<|Zn ?_;refine qal [] _ (.inl Z) (.nil) Z (Lr D) fun _ hS2=>?_;exact ⟨rfl,by first|rfl|simp only [qf6]⟩
 obtain rfl:p=some ⟨bb,0,none⟩:=hp.1.resolve_left (fun h=>by rw [h] at c1;cases c1);refine Sr<|Zqm Z Z<|qaQ Z Z<|W0 Y5<|Wl 0 Y6<|Zqm Z Z<|qad (qx6 underlying56 Z Z Z) Z<|Nt<|Zz Z<|Zk<|?_;refine qal [] _ (.inl Z) (.nil) Z (Lr D) fun _ hS2=>?_;exact ⟨rfl,by first|rfl|simp only [qf6]⟩
def qp0(D:Nat)(L:Hl)(s:World){R:List Value}{T:Nat}(bb:Nat)(p:Option Addr)(hp:(p=none∨p=some ⟨bb,0,none⟩)∧LA R T)(M:Hl)(v:Value)(l:List UInt8)(hb:BV M v l)(l2:List UInt8)(hlen:l.length+l2.length≤140737488355328):AC prog D 46 [.pointer (some ⟨bb,0,none⟩),St l2] ((bb,cb (.pointer p::v::R) T)::(M++L)) s fun u L' _=>u=.tuple #[.int .i64 (l2.length:Int),.nilIface]∧∃ M' v',L'=(bb,cb (.pointer (some ⟨bb,0,none⟩)::v'::R) T)::(M'++L)∧BV M' v' (l++l2):=by
 obtain ⟨Ab,cb1,rfl,kb1,kb2⟩:=Own.slice hb.1;refine qae (fn:=f46) qav func46 V Z ntmps46 Z (rs:=[.tmp 4,.tmp 5]) Z [(0,_),(1,_)] Z<|Sr<|Zqa Z Z<|At Z Z<|Sr<|Zqm Z Z<|Jc Z Z Z (qjk D _ _ bb p hp _) ?_;rintro _ _ s1 h1 ⟨rfl,rfl⟩;refine Nt<|Sr<|Zqm Z Z<|Zqm Z Z<|qaQ Z Z<|Wb Y5<|Wl 0 Y6<|Zqm Z Z<|qni (sz:=1) (m:=l2.length) (news:=l2.map fun b=>Value.int .u8 (b.toNat:Int)) [_] M L Z Z Z Z Z Z Z hb.1 (by simp) (fun hT w i k1 i1 i2 i3 i4=>qqu l2 k1 underlying9 i1 i2 i3 i4) ⟨by simp [ti5];omega,by omega⟩ Z ?_;intro v1 M1 s2 h2 o1 n1;obtain ⟨Av1,cv1,rfl,_,_⟩:=Own.slice o1;simp only [cQ9,nQ9];refine qaQ Z Z<|Wb Y5<|qc5 0 (_::_::_) Z Z Z Z Z Z Z Z Z<|Nt<|Sr<|Zqm Z Z<|qfg Z Z Z Z<|Zqa Z Z<|At Z Z<|Zo<|?_;exact rR [] _ (.tmp Z (.t1 Z)) Z (h1.t h2) fun _ hS2=>⟨rfl,M1,_,by first|rfl|simp only [qf6],hb.app o1 n1⟩
def qvp(D:Nat)(L:Hl)(s:World){R:List Value}{T:Nat}(bb:Nat)(p:Option Addr)(M:Hl)(v:Value)(l:List UInt8)(hb:BV M v l):AC prog D 23 [.pointer (some ⟨bb,0,none⟩)] ((bb,cb (.pointer p::v::R) T)::(M++L)) s fun u L' _=>u=St l∧L'=L:=by
 obtain ⟨Ab,cb1,rfl,kb1,kb2⟩:=Own.slice hb.1;refine qae (fn:=f23) qav func23 V Z ntmps23 Z (rs:=[.tmp 2]) Z [(0,_)] Z<|Sr<|At Z Z<|Zs<|qaB qac 12 Z 1 fun s1 h1=>za 0 Z (qan Z) Z<|za 1 Z (qam Z) Z<|za 2 Z (We Y4) Z<|za 3 Z (Wd 0 Y5) Z<|za 4 Z (qya Z hb.cap) Z<|za 5 Z (qan Z) Z<|za 6 Z (qam Z) Z<|za 7 Z (We Y4) Z<|za 8 Z (Wd 0 Y5) Z<|za 9 Z (qbi Z Z Z) Z<|qar 10 V<|quD Z Tt [_] M L Z underlying124 V Z Z hb.1 (fun h=>(hb.2 h).1) Z (fun x hx _=>qdZ hx) ?_;intro s2 h2;simp only [cQ9,nQ9];refine za 11 Z (qa6 Z) Z<|qaf V<|Zt<|Zo<|?_;exact rR [_] _ (.t1 Z) Z (h1.t h2) fun _ hS2=>⟨rfl,rfl⟩
def qbe(D:Nat)(L:Hl)(s:World){R:List Value}{T:Nat}(bb:Nat)(M:Hl)(l:List UInt8)(hW:WC R T bb M l)(l2:List UInt8)(hlen:l.length+l2.length≤140737488355328):AC prog D 46 [.pointer (some ⟨bb,0,none⟩),St l2] (M++L) s fun u L' _=>∃ M',L'=M'++L∧u=.tuple #[.int .i64 (l2.length:Int),.nilIface]∧WC R T bb M' (l++l2):=by
 obtain ⟨p,M0,v,hp,rfl,hb⟩:=hW;refine (qp0 D L s bb p hp M0 v l hb l2 hlen).mono ?_;rintro u L1 s1 _ ⟨h1,M1,v1,h2,h3⟩;exact ⟨_::M1,h2,h1,WC.mk ⟨.inr rfl,hp.2⟩ h3⟩
def qlc(D:Nat)(L:Hl)(s:World){R:List Value}{T:Nat}(bb:Nat)(M:Hl)(l:List UInt8)(hW:WC R T bb M l):AC prog D 23 [.pointer (some ⟨bb,0,none⟩)] (M++L) s fun u L' _=>u=St l∧L=L':=by
 obtain ⟨p,M0,v,hp,rfl,hb⟩:=hW;refine (qvp D L s bb p M0 v l hb).mono ?_;rintro u L1 s1 _ ⟨h1,h2⟩;exact ⟨h1,h2.symm⟩
def qel(D:Nat)(L:Hl)(s:World)(bb:Nat)(M:Hl)(l:List UInt8)(hW:Wr bb M l)(lv:Nat)(hlv:lv≤17)(hlen:l.length≤2000000000):AC prog D 145 [.pointer (some ⟨bb,0,none⟩),.int .i64 (lv:Int)] (M++L) s fun v L' _=>∃ M',L'=M'++L∧v=.tuple #[]∧Wr bb M' (l++qaT lv):=by
 have hml:=qbO lv;refine qae (fn:=f145) qav func145 V Z ntmps145 Z (rs:=[]) Z [(0,_),(1,_)] Z<|qaB qac 6 Z 0 fun s1 h1=>za 0 Z (qan Z) Z<|za 1 Z (qam Z) Z<|za 2 Z (qat Z Z Z Z) Z<|za 3 Z (qan Z) Z<|qar 4 V<|Jf Z Tt Z Z Z (qo8 D _ _ [32,32] lv O (by simp;omega)) fun s2 h2=>?_;rw [qiD];refine qar 5 V<|Jb Z Tt Z Z Z (qbe D _ _ bb M l hW _ Ut) ?_;rintro _ _ s3 h3 ⟨M1,rfl,rfl,hW1⟩;refine ⟨(fun _ hx _=>by cases hx),?_⟩;refine qaf V ?_;refine qal [] _ (.inl Z) (.nil) Z (h1.t h2|>.t h3) fun _ hS2=>?_;exact ⟨_,rfl,rfl,hW1⟩
def qeo(D:Nat)(L:Hl)(s:World)(bb:Nat)(M:Hl)(l:List UInt8)(hW:Wr bb M l)(lv:Nat)(hlv:lv≤17)(t:List UInt8)(hlen:l.length+t.length≤1000000000):AC prog D 102 [.pointer (some ⟨bb,0,none⟩),.int .i64 (lv:Int),St t] (M++L) s fun v L' _=>∃ M',L'=M'++L∧v=.tuple #[]∧Wr bb M' (l++(qaT lv++t++[10])):=by
 have hml:=qbO lv;refine qae (fn:=f102) qav func102 V Z ntmps102 Z (rs:=[]) Z [(0,_),(1,_),(2,_)] Z<|Sr<|Zqm Z Z<|Zqm Z Z<|Jc Z Z Z (qel D _ _ bb M l hW lv hlv O) ?_;rintro _ _ s1 h1 ⟨M1,rfl,rfl,hW1⟩;refine Nt<|Zr<|Zqm Z Z<|qaQ Z Z<|W0 Y5<|Zqm Z Z<|qad (qah Z Z Uo) Z<|Jc Z Z Z (qbe D _ _ bb M1 (l++qaT lv) hW1 _ Ut) ?_;rintro _ _ s2 h2 ⟨M2,rfl,rfl,hW2⟩;refine Zn ?_;refine qal [] _ (.inl Z) (.nil) Z (h1.t h2) fun _ hS2=>?_;exact ⟨_,rfl,rfl,by simpa only [List.append_assoc] using hW2⟩
def BDC(D d:Nat):Prop:=∀ (L:Hl) (s:World),GP s→∀ (bb:Nat) (M:Hl) (l:List UInt8),Wr bb M l→∀ (A:Option Addr) (n c:Nat) (xs:List Stm) (lv:Nat),Stms d s A n c xs→qdP xs lv=true→qbr xs≤2000→lv≤17→l.length+(qdE xs lv).length≤1000000000→AC prog D 105 [.pointer (some ⟨bb,0,none⟩),.slice A n c,.int .i64 (lv:Int)] (M++L) s fun v L' _=>∃ M',L'=M'++L∧v=.tuple #[]∧Wr bb M' (l++qdE xs lv)
def OTC(D d:Nat):Prop:=∀ (L:Hl) (s:World),GP s→∀ (bb:Nat) (M:Hl) (l:List UInt8),Wr bb M l→∀ (A:Option Addr) (n c:Nat) (xs:List Stm) (lv:Nat),Stms d s A n c xs→qdP xs (lv+1)=true→qbr xs≤2000→lv≤16→l.length+(otI xs lv).length≤1000000000→AC prog D 180 [.pointer (some ⟨bb,0,none⟩),.slice A n c,.int .i64 (lv:Int)] (M++L) s fun v L' _=>∃ M',L'=M'++L∧v=.tuple #[]∧Wr bb M' (l++otI xs lv)
def STC(D d:Nat):Prop:=∀ (L:Hl) (s:World),GP s→∀ (bb:Nat) (M:Hl) (l:List UInt8),Wr bb M l→∀ (A1 A2 A3:Option Addr) (n1 c1 n2 c2 n3 c3:Nat) (x:Stm) (lv:Nat),Exs d s A1 n1 c1 x.exprs→Stms d s A2 n2 c2 x.body→Stms d s A3 n3 c3 x.els→stV x lv=true→stN x≤2000→l.length+(stI x lv).length≤1000000000→AC prog D 147 [.pointer (some ⟨bb,0,none⟩),.agg #[.int .i64 x.kind,St x.name,.slice A1 n1 c1,.slice A2 n2 c2,.slice A3 n3 c3],.int .i64 (lv:Int)] (M++L) s fun v L' _=>∃ M',L'=M'++L∧v=.tuple #[]∧Wr bb M' (l++stI x lv)
def qh4(D d:Nat)(ih:∀ e,d=e+1→STC D e)(L:Hl)(s:World)(hG:GP s)(bb:Nat)(M:Hl)(l:List UInt8)(hW:Wr bb M l)(A:Option Addr)(n c:Nat)(xs:List Stm)(lv:Nat)(hA:Stms d s A n c xs)(hv:qdP xs lv=true)(hN:qbr xs≤2000)(hlv:lv≤17)(hlen:l.length+(qdE xs lv).length≤1000000000):AC prog D 105 [.pointer (some ⟨bb,0,none⟩),.slice A n c,.int .i64 (lv:Int)] (M++L) s fun v L' _=>∃ M',L'=M'++L∧v=.tuple #[]∧Wr bb M' (l++qdE xs lv):=by
 have hn:=hA.1;have hc1:=hA.2.1;have hc2:=hA.2.2.1;have hml:=qbO lv;refine qae (fn:=f105) qav func105 V Z ntmps105 Z (rs:=[]) Z [(0,_),(1,_),(2,_)] Z<|Sr<|Zqm Z Z<|Ws Y4<|Zqm Z Z<|Nt<|Zp<|?_;refine qaA (γ:=Nat×Hl×List UInt8) (fun g=>[(0,_),(2,_),(8,_),(9,_),(10,.int .i64 (g.1:Int))]) (fun g=>g.2.1++L) (fun g tw=>Le D s tw∧(g.1≤n∧Wr bb g.2.1 g.2.2∧g.2.2++qdE (xs.drop g.1) lv=l++qdE xs lv)) (fun g=>n - g.1) (fun _ _ _ h hl=>⟨h.1.trans hl,h.2⟩) (0,M,l) (.c5 Z Z Z Z Z (.nil _)) Z ⟨Le.refl _,⟨Nat.zero_le _,hW,Z⟩⟩ ?_;intro g s1 I1;obtain ⟨k,Mo,lo⟩:=g;obtain ⟨hk0,hWo,hS⟩:=I1.2;simp only at hk0 hWo hS;dsimp only;have hle:=congrArg List.length hS;simp only [List.length_append] at hle;refine Sr<|qa8 Z Z Z<|Nt<|Zs<|?_;refine qaa Z ?_ ?_<;>intro c2
 ·have hk:k < n:=by omega
  obtain ⟨e,b,off,x,A1,n1,c1,A2,n2,c2,A3,n3,c3,hd,rfl,hx,hcx,hax,hbx,hex,hnl⟩:=Stms.at_ (hA.le I1.1) hk;obtain ⟨hvx,hNx⟩:=qfE hv hx;have hs1:=congrArg List.length (qpz (lv:=lv) hx);have hs2:=congrArg List.length (qpx x lv);simp only [List.length_append,List.length_cons,List.length_nil] at hs1 hs2;refine Zk<|Zt<|Zs<|Zp<|Sr<|qad (qau Z Z Z Z Z Z hk) Z<|qad (qaw Z Z Z (hcx.le (Lr D)) Z) Z<|qag Z [_,_,_,_,_] Z Z fun β3 s3 h3=>Wt 0 [_,_,_,_,_] Y9<|Nt<|Sr<|Zqm Z Z<|Zqm Z Z<|Jc Z Z Z (AC.mid [_] Mo L (qel D _ _ bb Mo lo hWo lv hlv O)) ?_;rintro _ _ s4 h4 ⟨M1,rfl,rfl,hW1⟩;simp only [cQ9,nQ9];refine Nt<|Sr<|Zqm Z Z<|qad (qao 0 [_,_,_,_,_] Z Z Z Z Z) Z<|Zqm Z Z<|Jc Z Z Z (AC.mid [_] M1 L (ih e hd _ _ (hG.le (I1.1.t h3|>.t h4)) bb M1 (lo++qaT lv) hW1 A1 A2 A3 n1 c1 n2 c2 n3 c3 x lv (hax.le (h3.t h4)) (hbx.le (h3.t h4)) (hex.le (h3.t h4)) hvx O (by simp only [List.length_append];omega))) ?_;rintro _ _ s5 h5 ⟨M2,rfl,rfl,hW2⟩;simp only [cQ9,nQ9];refine Nt<|Zr<|Zqm Z Z<|qaQ Z Z<|W0 Y5<|Jc Z Z Z (AC.mid [_] M2 L (qbe D _ _ bb M2 ((lo++qaT lv)++stI x lv) hW2 [10] Ut)) ?_;rintro _ _ s6 h6 ⟨M3,rfl,rfl,hW3⟩;simp only [cQ9,nQ9];refine Zn<|Zb<|Zt<|Zr<|qaD Z Z Z (w64 O O)<|Zqm Z Z<|Zn<|?_;refine qab ⟨(k+1,M3,((lo++qaT lv)++stI x lv)++[10]),[_],kp,Z,⟨(I1.1.t h3|>.t h4|>.t h5|>.t h6),⟨by simp only;omega,hW3,by simp only;rw [← hS,qpz hx,← qpx x lv];simp only [List.append_assoc]⟩⟩,Oz⟩
 rw [List.drop_eq_nil_of_le O,qdE,List.append_nil] at hS;refine Zl<|Zv<|Zv<|Zd<|?_;refine qal [] _ (.inl Z) (.nil) Z I1.1 fun _ hS2=>?_;exact ⟨_,rfl,rfl,hS▸hWo⟩
def qhW(D d:Nat)(ih:∀ e,d=e+1→STC D e)(hB:BDC D d)(L:Hl)(s:World)(hG:GP s)(bb:Nat)(M:Hl)(l:List UInt8)(hW:Wr bb M l)(A:Option Addr)(n c:Nat)(xs:List Stm)(lv:Nat)(hA:Stms d s A n c xs)(hv:qdP xs (lv+1)=true)(hN:qbr xs≤2000)(hlv:lv≤16)(hlen:l.length+(otI xs lv).length≤1000000000):AC prog D 180 [.pointer (some ⟨bb,0,none⟩),.slice A n c,.int .i64 (lv:Int)] (M++L) s fun v L' _=>∃ M',L'=M'++L∧v=.tuple #[]∧Wr bb M' (l++otI xs lv):=by
 have hn:=hA.1;have hc1:=hA.2.1;have hc2:=hA.2.2.1;have hml:=qbO lv;refine qae (fn:=f180) qav func180 V Z ntmps180 Z (rs:=[]) Z [(0,_),(1,_),(2,_)] Z<|Zp<|Sr<|Zqm Z Z<|Ws Y4<|qax Z Z Z<|At Z Z<|?_;refine qaa Z ?_ ?_<;>intro c1;·obtain rfl:xs=[]:=List.eq_nil_of_length_eq_zero O;refine Zk<|Zb<|?_;refine qal [] _ (.inl Z) (.nil) Z (Lr D) fun _ hS2=>?_;exact ⟨_,rfl,rfl,by rw [qv9,List.append_nil];exact hW⟩
 have g0:xs.length≠0:=by omega
 obtain ⟨e,b,off,z,A1,n1,c1,A2,n2,c2,A3,n3,c3,hd,rfl,hz,hcz,haz,hbz,hez,hnl⟩:=Stms.at_ (hA.le (Lr D)) (show 0 < n by omega);obtain ⟨hvz,hNz⟩:=qfE hv hz;refine qa9 26 (n=1∧z.kind=3) ?_ ?_
 ·refine Zr<|Zqm Z Z<|Ws Y4<|qax Z Z Z<|Zqm Z Z<|?_;refine qai (t:=30) Z ?_ ?_<;>intro c3;·refine Zg Z Z<|Zqm Z Z<|Zg Z Z<|qad (qau (j:=0) Z Z Z Z Z Z O) Z<|Zg Z Z<|W0 Y5<|Zg Z Z<|qad (qaq Z Z Z (hcz.le (Lr D)) Z) Z<|Zg Z Z<|qax Z Z Z<|ZqT Z Z Z<|Zqa Z Z<|Zn<|?_;refine qab (MidB.mk (Lr D) Sb Z (decide_eq_decide.2 O))
  refine Wf Y4<|Wf Y4<|Wf Y4<|Wf Y4<|Wf Y4<|ZqF Z Z Z<|Zqa Z Z<|Zn<|?_;refine qab (MidB.mk (Lr D) Sb Z ((decide_eq_false O).symm))
 intro s2 h2;refine qaa Z ?_ ?_<;>intro c4;·have g3:=c4;have hT:=qzt lv O hz g3.2;rw [hT] at hlen;simp only [List.length_append,List.length_cons,List.length_nil] at hlen;have hvz2:=qfF z lv (lv+1) O hvz;refine Sr<|Zqm Z Z<|qaQ Z Z<|W0 Y5<|Jc Z Z Z (qbe D _ _ bb M l hW [32,101,108,115,101,32] Ut) ?_;rintro _ _ s5 h5 ⟨M1,rfl,rfl,hW1⟩;have e5:=h2.t h5;refine Nt<|Zr<|Zqm Z Z<|Zqm Z Z<|qad (qau (j:=0) Z Z Z Z Z Z O) Z<|qad (qaw Z Z Z (hcz.le e5) Z) Z<|Zqm Z Z<|Jc Z Z Z (ih e hd _ _ (hG.le e5) bb M1 _ hW1 A1 A2 A3 n1 c1 n2 c2 n3 c3 z lv (haz.le e5) (hbz.le e5) (hez.le e5) hvz2 O Uo) ?_;rintro _ _ s6 h6 ⟨M2,rfl,rfl,hW2⟩;refine Zn<|Zb<|?_;refine qal [] _ (.inl Z) (.nil) Z (e5.t h6) fun _ hS2=>?_;exact ⟨_,rfl,rfl,by rw [hT];simpa only [List.append_assoc] using hW2⟩
 have g3:=c4;have hT:=qrw (e:=xs) lv g0 (fun h=>g3 ⟨by omega,h.2 z hz⟩);rw [hT] at hlen;simp only [List.length_append,List.length_cons,List.length_nil] at hlen;refine Sr<|Zqm Z Z<|qaQ Z Z<|W0 Y5<|Jc Z Z Z (qbe D _ _ bb M l hW [32,101,108,115,101,32,123,10] Ut) ?_;rintro _ _ s7 h7 ⟨M1,rfl,rfl,hW1⟩;refine Nt<|Sr<|Zqm Z Z<|Zqm Z Z<|Zqm Z Z<|qad (qaC Z Z (show IntKind.i64.wrap ((lv:Int)+1)=((lv+1:Nat):Int) by rw [w64 O O];simp)) Z<|Jc Z Z Z (hB _ _ (hG.le (h2.t h7)) bb M1 _ hW1 _ n c xs (lv+1) (hA.le (h2.t h7)) hv hN O Uo) ?_;rintro _ _ s8 h8 ⟨M2,rfl,rfl,hW2⟩;refine Nt<|Sr<|Zqm Z Z<|Zqm Z Z<|Jc Z Z Z (qel D _ _ bb M2 _ hW2 lv O Uo) ?_;rintro _ _ s9 h9 ⟨M3,rfl,rfl,hW3⟩;refine Nt<|Zr<|Zqm Z Z<|qaQ Z Z<|W0 Y5<|Jc Z Z Z (qbe D _ _ bb M3 _ hW3 [125] Ut) ?_;rintro _ _ s10 h10 ⟨M4,rfl,rfl,hW4⟩;refine Zn<|Zb<|?_;refine qal [] _ (.inl Z) (.nil) Z (h2.t h7|>.t h8|>.t h9|>.t h10) fun _ hS2=>?_;exact ⟨_,rfl,rfl,by rw [hT];simpa only [List.append_assoc] using hW4⟩
def qty{p:Prop} (h:p:=by
 exact ⟨_,rfl,rfl,by rw [hT];exact hW1⟩):p:=h
def ql9(D d:Nat)(hB:BDC D d)(hO:OTC D d)(L:Hl)(s:World)(hG:GP s)(bb:Nat)(M:Hl)(l:List UInt8)(hW:Wr bb M l)(A1 A2 A3:Option Addr)(n1 c1 n2 c2 n3 c3:Nat)(x:Stm)(lv:Nat)(hA1:Exs d s A1 n1 c1 x.exprs)(hA2:Stms d s A2 n2 c2 x.body)(hA3:Stms d s A3 n3 c3 x.els)(hv:stV x lv=true)(hN:stN x≤2000)(hlen:l.length+(stI x lv).length≤1000000000):AC prog D 147 [.pointer (some ⟨bb,0,none⟩),.agg #[.int .i64 x.kind,St x.name,.slice A1 n1 c1,.slice A2 n2 c2,.slice A3 n3 c3],.int .i64 (lv:Int)] (M++L) s fun v L' _=>∃ M',L'=M'++L∧v=.tuple #[]∧Wr bb M' (l++stI x lv):=by
 have hn:=hA1.1;have hml:=qbO lv;obtain ⟨hlv,hC,hvE,hvB,hvL⟩:=qdL hv;have hka:=qcx hC;have hNs:=qgi x;refine qae (fn:=f147) qav func147 V Z ntmps147 Z (rs:=[]) Z [(0,_),(1,_),(2,_)] Z<|Sr<|qay Z Z fun β1 s1 h1=>Nt<|Sr<|W0 Y5<|Wl 0 Y6<|Nt<|Zp<|Sr<|qax Z Z Z<|At Z Z<|?_;refine qaa Z ?_ ?_<;>intro c2;·have hl1:=qfD hv (.inl c2);obtain ⟨e,b,off,y,Ay,ny,cy,hd,rfl,hy,hcy,hay,huy,hnl⟩:=Exs.at_ (hA1.le h1) (show 0 < n1 by omega);obtain ⟨hvy,hNy⟩:=qce hvE hy;have hT:=qBt (lv:=lv) c2 hl1 hy;rw [hT] at hlen;simp only [List.length_append,List.length_cons,List.length_nil] at hlen;refine qaB qac 14 Z 1 fun s3 h3=>za 0 Z (qan Z) Z<|za 1 Z (qam Z) Z<|za 2 Z (qat Z Z Z Z) Z<|za 3 Z (We Y4) Z<|za 4 Z (Wd 0 Y5) Z<|za 5 Z (qah Z Z Uo) Z<|za 6 Z (We Y4) Z<|za 7 Z (Wd 0 Y5) Z<|za 8 Z (qau (j:=0) Z Z Z Z Z Z O) Z<|za 9 Z (qaw Z Z Z (hcy.le h3) Z) Z<|qar 10 V<|Jb Z Tt Z Z Z (qcw D _ _ _ (hG.le (h1.t h3)) y Ay ny cy (hay.le h3) huy hvy O) ?_;rintro _ _ s4 h4 ⟨rfl,rfl⟩;refine ⟨fun _ _ h=>h,?_⟩;refine za 11 Z (qah Z Z Uo) Z<|za 12 Z (qah Z Z Uo) Z<|qar 13 V<|Jb Z Tt Z Z Z (AC.mid [_] M L (qbe D _ _ bb M l hW _ Ut)) ?_;rintro _ _ s5 h5 ⟨M1,rfl,rfl,hW1⟩;refine ⟨(fun x hx _=>qdZ hx),?_⟩;simp only [cQ9,nQ9];refine qaf V<|Zb ?_;refine qal [_] _ (.inl Z) (.nil) Z (h1.t h3|>.t h4|>.t h5) fun _ hS2=>?_;exact qty
 refine Sr<|qax Z Z Z<|At Z Z<|?_;refine qaa Z ?_ ?_<;>intro c6;·have hl2:=qwx hv c6;obtain ⟨e,b,off,y,Ay,ny,cy,hd,rfl,hy,hcy,hay,huy,hnl⟩:=Exs.at_ (hA1.le h1) (show 0 < n1 by omega);obtain ⟨hvy,hNy⟩:=qce hvE hy;obtain ⟨e',b',off',z,Az,nz,cz,hd2,hab,hz,hcz,haz,huz,hnz⟩:=Exs.at_ (hA1.le h1) (show 1 < n1 by omega);cases hab;obtain ⟨hvz,hNz⟩:=qce hvE hz;have hT:=qBu (lv:=lv) c6 hl2 hy hz;rw [hT] at hlen;simp only [List.length_append,List.length_cons,List.length_nil] at hlen;refine qaB qac 21 Z 1 fun s7 h7=>za 0 Z (qan Z) Z<|za 1 Z (qam Z) Z<|za 2 Z (qat Z Z Z Z) Z<|za 3 Z (We Y4) Z<|za 4 Z (Wd 0 Y5) Z<|za 5 Z (qah Z Z Uo) Z<|za 6 Z (We Y4) Z<|za 7 Z (Wd 0 Y5) Z<|za 8 Z (qau (j:=0) Z Z Z Z Z Z O) Z<|za 9 Z (qaw Z Z Z (hcy.le h7) Z) Z<|za 13 Z (We Y4) Z<|za 14 Z (Wd 0 Y5) Z<|za 15 Z (qau (j:=1) Z Z Z Z Z Z O) Z<|za 16 Z (qaw Z Z Z (hcz.le h7) Z) Z<|qar 10 V<|Jb Z Tt Z Z Z (qcw D _ _ _ (hG.le (h1.t h7)) y Ay ny cy (hay.le h7) huy hvy O) ?_;rintro _ _ s8 h8 ⟨rfl,rfl⟩;refine ⟨fun _ _ h=>h,?_⟩;refine za 11 Z (qah Z Z Uo) Z<|za 12 Z (qah Z Z Uo) Z<|qar 17 V<|Jb Z Tt Z Z Z (qcw D _ _ _ (hG.le (h1.t h7|>.t h8)) z Az nz cz (haz.le (h7.t h8)) huz hvz O) ?_;rintro _ _ s9 h9 ⟨rfl,rfl⟩;refine ⟨fun _ _ h=>h,?_⟩;refine za 18 Z (qah Z Z Uo) Z<|za 19 Z (qah Z Z Uo) Z<|qar 20 V<|Jb Z Tt Z Z Z (AC.mid [_] M L (qbe D _ _ bb M l hW _ Ut)) ?_;rintro _ _ s10 h10 ⟨M1,rfl,rfl,hW1⟩;refine ⟨(fun x hx _=>qdZ hx),?_⟩;simp only [cQ9,nQ9];refine qaf V<|Zb ?_;refine qal [_] _ (.inl Z) (.nil) Z (h1.t h7|>.t h8|>.t h9|>.t h10) fun _ hS2=>?_;exact qty
 refine Sr<|qax Z Z Z<|At Z Z<|?_;refine qaa Z ?_ ?_<;>intro c11;·have hl1:=qfD hv (.inr (.inl c11));obtain ⟨e,b,off,y,Ay,ny,cy,hd,rfl,hy,hcy,hay,huy,hnl⟩:=Exs.at_ (hA1.le h1) (show 0 < n1 by omega);obtain ⟨hvy,hNy⟩:=qce hvE hy;have hT:=qBv (lv:=lv) c11 hl1 hy;rw [hT] at hlen;simp only [List.length_append,List.length_cons,List.length_nil] at hlen;refine Zs<|qaB qac 11 Z 1 fun s12 h12=>za 0 Z (qan Z) Z<|za 1 Z (qam Z) Z<|za 2 Z (qat Z Z Z Z) Z<|za 3 Z (We Y4) Z<|za 4 Z (Wd 0 Y5) Z<|za 5 Z (qau (j:=0) Z Z Z Z Z Z O) Z<|za 6 Z (qaw Z Z Z (hcy.le h12) Z) Z<|qar 7 V<|Jb Z Tt Z Z Z (qcw D _ _ _ (hG.le (h1.t h12)) y Ay ny cy (hay.le h12) huy hvy O) ?_;have e12:=h1.t h12;rintro _ _ s13 h13 ⟨rfl,rfl⟩;have e13:=e12.t h13;refine ⟨fun _ _ h=>h,?_⟩;refine za 8 Z (qah Z Z Uo) Z<|za 9 Z (qah Z Z Uo) Z<|qar 10 V<|Jb Z Tt Z Z Z (AC.mid [_] M L (qbe D _ _ bb M l hW _ Ut)) ?_;rintro _ _ s14 h14 ⟨M1,rfl,rfl,hW1⟩;have e14:=e13.t h14;refine ⟨(fun x hx _=>qdZ hx),?_⟩;simp only [cQ9,nQ9];refine qaf V<|Zt<|Sr<|Zqm Z Z<|Wb Y5<|Wl 0 Y6<|Zqm Z Z<|qad (qaC Z Z (show IntKind.i64.wrap ((lv:Int)+1)=((lv+1:Nat):Int) by rw [w64 O O];simp)) Z<|Jc Z Z Z (AC.mid [_] M1 L (hB _ _ (hG.le e14) bb M1 _ hW1 _ _ _ x.body (lv+1) (hA2.le e14) hvB O O Uo)) ?_;rintro _ _ s15 h15 ⟨M2,rfl,rfl,hW2⟩;simp only [cQ9,nQ9];refine Nt<|Sr<|Zqm Z Z<|Zqm Z Z<|Jc Z Z Z (AC.mid [_] M2 L (qel D _ _ bb M2 _ hW2 lv O Uo)) ?_;rintro _ _ s16 h16 ⟨M3,rfl,rfl,hW3⟩;have e16:=e14.t h15|>.t h16;simp only [cQ9,nQ9];refine Nt<|Sr<|Zqm Z Z<|qaQ Z Z<|W0 Y5<|Jc Z Z Z (AC.mid [_] M3 L (qbe D _ _ bb M3 _ hW3 [125] Ut)) ?_;rintro _ _ s17 h17 ⟨M4,rfl,rfl,hW4⟩;simp only [cQ9,nQ9];refine Nt<|Zr<|Zqm Z Z<|Wb Y5<|Wl 0 Y6<|Zqm Z Z<|Jc Z Z Z (AC.mid [_] M4 L (hO _ _ (hG.le (e16.t h17)) bb M4 _ hW4 _ _ _ x.els lv (hA3.le (e16.t h17)) hvL O hlv Uo)) ?_;rintro _ _ s18 h18 ⟨M5,rfl,rfl,hW5⟩;simp only [cQ9,nQ9];refine Zn<|Zb<|?_;refine qal [_] _ (.inl Z) (.nil) Z (e16.t h17|>.t h18) fun _ hS2=>?_;exact ⟨_,rfl,rfl,by rw [hT];simpa only [List.append_assoc] using hW5⟩
 refine Sr<|qax Z Z Z<|At Z Z<|?_;refine qaa Z ?_ ?_<;>intro c19;·have hle:=qBs hv (show x.kind≠3 by omega);have hl1:=qfD hv (.inr (.inr (.inl c19)));obtain ⟨e,b,off,y,Ay,ny,cy,hd,rfl,hy,hcy,hay,huy,hnl⟩:=Exs.at_ (hA1.le h1) (show 0 < n1 by omega);obtain ⟨hvy,hNy⟩:=qce hvE hy;have hT:=qBw (lv:=lv) c19 hl1 hy hle;rw [hT] at hlen;simp only [List.length_append,List.length_cons,List.length_nil] at hlen;refine Zs<|qaB qac 11 Z 1 fun s20 h20=>za 0 Z (qan Z) Z<|za 1 Z (qam Z) Z<|za 2 Z (qat Z Z Z Z) Z<|za 3 Z (We Y4) Z<|za 4 Z (Wd 0 Y5) Z<|za 5 Z (qau (j:=0) Z Z Z Z Z Z O) Z<|za 6 Z (qaw Z Z Z (hcy.le h20) Z) Z<|qar 7 V<|Jb Z Tt Z Z Z (qcw D _ _ _ (hG.le (h1.t h20)) y Ay ny cy (hay.le h20) huy hvy O) ?_;rintro _ _ s21 h21 ⟨rfl,rfl⟩;have e21:=h1.t h20|>.t h21;refine ⟨fun _ _ h=>h,?_⟩;refine za 8 Z (qah Z Z Uo) Z<|za 9 Z (qah Z Z Uo) Z<|qar 10 V<|Jb Z Tt Z Z Z (AC.mid [_] M L (qbe D _ _ bb M l hW _ Ut)) ?_;rintro _ _ s22 h22 ⟨M1,rfl,rfl,hW1⟩;refine ⟨(fun x hx _=>qdZ hx),?_⟩;simp only [cQ9,nQ9];refine qaf V<|Zt<|Sr<|Zqm Z Z<|Wb Y5<|Wl 0 Y6<|Zqm Z Z<|qad (qaC Z Z (show IntKind.i64.wrap ((lv:Int)+1)=((lv+1:Nat):Int) by rw [w64 O O];simp)) Z<|Jc Z Z Z (AC.mid [_] M1 L (hB _ _ (hG.le (e21.t h22)) bb M1 _ hW1 _ _ _ x.body (lv+1) (hA2.le (e21.t h22)) hvB O O Uo)) ?_;rintro _ _ s23 h23 ⟨M2,rfl,rfl,hW2⟩;simp only [cQ9,nQ9];refine Nt<|Sr<|Zqm Z Z<|Zqm Z Z<|Jc Z Z Z (AC.mid [_] M2 L (qel D _ _ bb M2 _ hW2 lv O Uo)) ?_;rintro _ _ s24 h24 ⟨M3,rfl,rfl,hW3⟩;simp only [cQ9,nQ9];refine Nt<|Zr<|Zqm Z Z<|qaQ Z Z<|W0 Y5<|Jc Z Z Z (AC.mid [_] M3 L (qbe D _ _ bb M3 _ hW3 [125] Ut)) ?_;rintro _ _ s25 h25 ⟨M4,rfl,rfl,hW4⟩;simp only [cQ9,nQ9];refine Zn<|Zb<|?_;refine qal [_] _ (.inl Z) (.nil) Z (e21.t h22|>.t h23|>.t h24|>.t h25) fun _ hS2=>?_;exact ⟨_,rfl,rfl,by rw [hT];simpa only [List.append_assoc] using hW4⟩
 refine Sr<|qax Z Z Z<|At Z Z<|?_;refine qaa Z ?_ ?_<;>intro c26;·have hl5:=qzL hv c26;have hT:=qBx (lv:=lv) c26;rw [hT] at hlen;simp only [List.length_append,List.length_cons,List.length_nil] at hlen;refine qaB qac 12 Z 1 fun s27 h27=>za 0 Z (qan Z) Z<|za 1 Z (qam Z) Z<|za 2 Z (qat Z Z Z Z) Z<|za 3 Z (We Y4) Z<|za 4 Z (Wd 0 Y5) Z<|za 5 Z (qah Z Z Uo) Z<|za 6 Z (We Y4) Z<|za 7 Z (Wd 0 Y5) Z<|qar 8 V<|Jf Z Tt Z Z Z (qqW D d _ _ (hG.le (h1.t h27)) _ _ _ x.exprs (hA1.le (h1.t h27)) hvE O O) fun s28 h28=>za 9 Z (qah Z Z Uo) Z<|za 10 Z (qah Z Z Uo) Z<|qar 11 V<|Jb Z Tt Z Z Z (AC.mid [_] M L (qbe D _ _ bb M l hW _ Ut)) ?_;rintro _ _ s29 h29 ⟨M1,rfl,rfl,hW1⟩;refine ⟨(fun x hx _=>qdZ hx),?_⟩;simp only [cQ9,nQ9];refine qaf V<|Zb ?_;refine qal [_] _ (.inl Z) (.nil) Z (h1.t h27|>.t h28|>.t h29) fun _ hS2=>?_;exact qty
 refine Sr<|qax Z Z Z<|At Z Z<|?_;refine qaa Z ?_ ?_<;>intro c30;·have hl1:=qfD hv (.inr (.inr (.inr (.inl c30))));obtain ⟨e,b,off,y,Ay,ny,cy,hd,rfl,hy,hcy,hay,huy,hnl⟩:=Exs.at_ (hA1.le h1) (show 0 < n1 by omega);obtain ⟨hvy,hNy⟩:=qce hvE hy;have hT:=qBy (lv:=lv) c30 hl1 hy;rw [hT] at hlen;simp only [List.length_append,List.length_cons,List.length_nil] at hlen;refine qaB qac 11 Z 1 fun s31 h31=>za 0 Z (qan Z) Z<|za 1 Z (qam Z) Z<|za 2 Z (qat Z Z Z Z) Z<|za 3 Z (We Y4) Z<|za 4 Z (Wd 0 Y5) Z<|za 5 Z (qau (j:=0) Z Z Z Z Z Z O) Z<|za 6 Z (qaw Z Z Z (hcy.le h31) Z) Z<|qar 7 V<|Jb Z Tt Z Z Z (qcw D _ _ _ (hG.le (h1.t h31)) y Ay ny cy (hay.le h31) huy hvy O) ?_;rintro _ _ s32 h32 ⟨rfl,rfl⟩;refine ⟨fun _ _ h=>h,?_⟩;refine za 8 Z (qah Z Z Uo) Z<|za 9 Z (qah Z Z Uo) Z<|qar 10 V<|Jb Z Tt Z Z Z (AC.mid [_] M L (qbe D _ _ bb M l hW _ Ut)) ?_;rintro _ _ s33 h33 ⟨M1,rfl,rfl,hW1⟩;refine ⟨(fun x hx _=>qdZ hx),?_⟩;simp only [cQ9,nQ9];refine qaf V<|Zb ?_;refine qal [_] _ (.inl Z) (.nil) Z (h1.t h31|>.t h32|>.t h33) fun _ hS2=>?_;exact qty
 refine Sr<|qax Z Z Z<|At Z Z<|?_;refine qaa Z ?_ ?_<;>intro c34;·have hl1:=qfD hv (.inr (.inr (.inr (.inr (.inl c34)))));obtain ⟨e,b,off,y,Ay,ny,cy,hd,rfl,hy,hcy,hay,huy,hnl⟩:=Exs.at_ (hA1.le h1) (show 0 < n1 by omega);obtain ⟨hvy,hNy⟩:=qce hvE hy;have hT:=qBz (lv:=lv) c34 hl1 hy;rw [hT] at hlen;simp only [List.length_append,List.length_cons,List.length_nil] at hlen;refine qaB qac 11 Z 1 fun s35 h35=>za 0 Z (qan Z) Z<|za 1 Z (qam Z) Z<|za 2 Z (qat Z Z Z Z) Z<|za 3 Z (We Y4) Z<|za 4 Z (Wd 0 Y5) Z<|za 5 Z (qau (j:=0) Z Z Z Z Z Z O) Z<|za 6 Z (qaw Z Z Z (hcy.le h35) Z) Z<|qar 7 V<|Jb Z Tt Z Z Z (qcw D _ _ _ (hG.le (h1.t h35)) y Ay ny cy (hay.le h35) huy hvy O) ?_;rintro _ _ s36 h36 ⟨rfl,rfl⟩;refine ⟨fun _ _ h=>h,?_⟩;refine za 8 Z (qah Z Z Uo) Z<|za 9 Z (qah Z Z Uo) Z<|qar 10 V<|Jb Z Tt Z Z Z (AC.mid [_] M L (qbe D _ _ bb M l hW _ Ut)) ?_;rintro _ _ s37 h37 ⟨M1,rfl,rfl,hW1⟩;refine ⟨(fun x hx _=>qdZ hx),?_⟩;simp only [cQ9,nQ9];refine qaf V<|Zb ?_;refine qal [_] _ (.inl Z) (.nil) Z (h1.t h35|>.t h36|>.t h37) fun _ hS2=>?_;exact qty
 refine Sr<|qax Z Z Z<|At Z Z<|?_;refine qaa Z ?_ ?_<;>intro c38;·have hl1:=qfD hv (.inr (.inr (.inr (.inr (.inr c38)))));obtain ⟨e,b,off,y,Ay,ny,cy,hd,rfl,hy,hcy,hay,huy,hnl⟩:=Exs.at_ (hA1.le h1) (show 0 < n1 by omega);obtain ⟨hvy,hNy⟩:=qce hvE hy;have hT:=qBA (lv:=lv) c38 hl1 hy;rw [hT] at hlen;simp only [List.length_append,List.length_cons,List.length_nil] at hlen;refine qaB qac 11 Z 1 fun s39 h39=>za 0 Z (qan Z) Z<|za 1 Z (qam Z) Z<|za 2 Z (qat Z Z Z Z) Z<|za 3 Z (We Y4) Z<|za 4 Z (Wd 0 Y5) Z<|za 5 Z (qau (j:=0) Z Z Z Z Z Z O) Z<|za 6 Z (qaw Z Z Z (hcy.le h39) Z) Z<|qar 7 V<|Jb Z Tt Z Z Z (qcw D _ _ _ (hG.le (h1.t h39)) y Ay ny cy (hay.le h39) huy hvy O) ?_;rintro _ _ s40 h40 ⟨rfl,rfl⟩;refine ⟨fun _ _ h=>h,?_⟩;refine za 8 Z (qah Z Z Uo) Z<|za 9 Z (qah Z Z Uo) Z<|qar 10 V<|Jb Z Tt Z Z Z (AC.mid [_] M L (qbe D _ _ bb M l hW _ Ut)) ?_;rintro _ _ s41 h41 ⟨M1,rfl,rfl,hW1⟩;refine ⟨(fun x hx _=>qdZ hx),?_⟩;simp only [cQ9,nQ9];refine qaf V<|Zb ?_;refine qal [_] _ (.inl Z) (.nil) Z (h1.t h39|>.t h40|>.t h41) fun _ hS2=>?_;exact qty
 refine Sr<|qax Z Z Z<|At Z Z<|?_;refine qaa Z ?_ ?_<;>intro c42;·have hT:=qBB (lv:=lv) c42 (qzK hv (.inl c42));rw [hT] at hlen;simp only [List.length_append,List.length_cons,List.length_nil] at hlen;refine Zr<|Zqm Z Z<|qaQ Z Z<|W0 Y5<|Jc Z Z Z (AC.mid [_] M L (qbe D _ _ bb M l hW [98,114,101,97,107,59] Ut)) ?_;rintro _ _ s43 h43 ⟨M1,rfl,rfl,hW1⟩;simp only [cQ9,nQ9];refine Zn<|Zb<|?_;refine qal [_] _ (.inl Z) (.nil) Z (h1.t h43) fun _ hS2=>?_;exact qty
 refine Sr<|qax Z Z Z<|At Z Z<|?_;refine qaa Z ?_ ?_<;>intro c44;·have hT:=qzQ (lv:=lv) c44 (qzK hv (.inr c44));rw [hT] at hlen;simp only [List.length_append,List.length_cons,List.length_nil] at hlen;refine Zr<|Zqm Z Z<|qaQ Z Z<|W0 Y5<|Jc Z Z Z (AC.mid [_] M L (qbe D _ _ bb M l hW [99,111,110,116,105,110,117,101,59] Ut)) ?_;rintro _ _ s45 h45 ⟨M1,rfl,rfl,hW1⟩;simp only [cQ9,nQ9];refine Zn<|Zb<|?_;refine qal [_] _ (.inl Z) (.nil) Z (h1.t h45) fun _ hS2=>?_;exact qty
 exfalso;omega
def qAK(D:Nat):∀ d,BDC D d∧OTC D d∧STC D d
 | 0=>by
  have hB:BDC D 0:=fun L s hG bb M l hW A n c xs lv hA hv hN hlv hlen=>qh4 D 0 (fun e h=>by omega) L s hG bb M l hW A n c xs lv hA hv hN hlv hlen;have hO:OTC D 0:=fun L s hG bb M l hW A n c xs lv hA hv hN hlv hlen=>qhW D 0 (fun e h=>by omega) hB L s hG bb M l hW A n c xs lv hA hv hN hlv hlen;exact ⟨hB,hO,fun L s hG bb M l hW A1 A2 A3 n1 c1 n2 c2 n3 c3 x lv hA1 hA2 hA3 hv hN hlen=>ql9 D 0 hB hO L s hG bb M l hW A1 A2 A3 n1 c1 n2 c2 n3 c3 x lv hA1 hA2 hA3 hv hN hlen⟩
 | d+1=>by
  have ih:∀ e,d+1=e+1→STC D e:=fun e h=>(show d=e by omega)▸(qAK D d).2.2;have hB:BDC D (d+1):=fun L s hG bb M l hW A n c xs lv hA hv hN hlv hlen=>qh4 D (d+1) ih L s hG bb M l hW A n c xs lv hA hv hN hlv hlen;have hO:OTC D (d+1):=fun L s hG bb M l hW A n c xs lv hA hv hN hlv hlen=>qhW D (d+1) ih hB L s hG bb M l hW A n c xs lv hA hv hN hlv hlen;exact ⟨hB,hO,fun L s hG bb M l hW A1 A2 A3 n1 c1 n2 c2 n3 c3 x lv hA1 hA2 hA3 hv hN hlen=>ql9 D (d+1) hB hO L s hG bb M l hW A1 A2 A3 n1 c1 n2 c2 n3 c3 x lv hA1 hA2 hA3 hv hN hlen⟩
end Go.Proofs.YtflplmcjbppfcaaGreatDoor
namespace Go.Proofs.YtflplmcjbppfcaaGreatDoor
open Go Go.FL
def fnV(x:Fnc):Prop:=qaY x.name=true∧x.params.length≤6∧x.locals.length≤12∧(∀ w∈x.params++x.locals,qaY w=true)∧qdP x.body 1=true∧qbr x.body≤2000
def qly{x:Fnc}{c:Nat}(h:(fnC x c).2=0):qaY x.name=true∧x.params.length≤6∧x.locals.length≤12∧(∀ w∈x.params++x.locals,qaY w=true)∧qdP x.body 1=true∧(fnC x c).1=c+qbr x.body∧(qbr x.body=0∨c+qbr x.body≤2000):=by
 unfold fnC at h ⊢;split at h
 · cases h
 rename_i h1;split at h
 · cases h
 rename_i h2;split at h
 · cases h
 rename_i h3;rw [if_neg h1,if_neg h2,if_neg h3];obtain ⟨a,b,c⟩:=qd5 _ _ _ h;refine ⟨by simpa using h1,by omega,by omega,fun w hw=>?_,a,b,c⟩;cases hi:qaY w with
 | true=>rfl
 | false=>exact absurd (List.any_eq_true.2 ⟨w,hw,by rw [hi];rfl⟩) h3
def qhy:List Fnc→Nat
 | []=>0
 | x::r=>qbr x.body+qhy r
def qiq:∀ {l:List Fnc} {i c:Nat},(fnF l i c).1=0→(∀ x∈l,fnV x)∧(qhy l=0∨c+qhy l≤2000)
  | [],_,_,_=>⟨fun x hx=>(by cases hx),.inl rfl⟩
  | x::r,i,c,h=>by
    rw [fnF] at h;split at h
    · rename_i h1;exact absurd h h1
    rename_i h1;obtain ⟨a1,a2,a3,a4,a5,a6,a7⟩:=qly (x:=x) (c:=c) (by simpa using h1);obtain ⟨b1,b2⟩:=qiq h;rw [a6] at b2;refine ⟨fun y hy=>?_,?_⟩
    · rcases List.mem_cons.1 hy with rfl|hy
      · exact ⟨a1,a2,a3,a4,a5,by omega⟩
      · exact b1 y hy
    · rw [qhy];omega
def qlE:∀ {l:List Glo} {i:Nat},(glF l i).1=0→∀ g∈l,qfm g=0
 | [],_,_=>fun g hg=>by cases hg
 | x::r,i,h=>fun g hg=>by
  rw [glF] at h;split at h
  · rename_i h1;exact absurd h h1
  rename_i h1;rcases List.mem_cons.1 hg with rfl|hg
  · simpa using h1
  · exact qlE h g hg
def qt3:∀ {l:List Fnc} {i c:Nat},(fnF l i c).1=0→fnF l i c=(0,0)
 | [],_,_,_=>rfl
 | x::r,i,c,h=>by
  rw [fnF] at h ⊢;split at h
  · rename_i h1;exact absurd h h1
  rename_i h1;rw [if_neg h1];exact qt3 h
def qhc{p:Prg}(h:(qbf p).1=0):qbf p=(0,0):=by
 unfold qbf at h ⊢;split at h
 · cases h
 rename_i h1;rw [if_neg h1];split at h
 · rename_i h2;exact absurd h h2
 rename_i h2;rw [if_neg h2];split at h
 · cases h
 rename_i h3;rw [if_neg h3];exact qt3 h
def qo4{p:Prg}(h:(qf2 p).1=0):qf2 p=(0,0):=by
 unfold qf2 at h ⊢;split at h
 · rename_i h2;exact absurd h h2
 rename_i h2;rw [if_neg h2];split at h
 · cases h
 rename_i h3;rw [if_neg h3]
def qbY{g:Glo}(h:qfm g=0):1≤g.kind∧g.kind≤3∧qaY g.name=true∧(g.kind≠3→g.init=[])∧(g.kind=2→g.num=0)∧g.init.length≤40000:=by
  unfold qfm at h;split at h
  · cases h
  rename_i h1;split at h
  · cases h
  rename_i h2;split at h
  · cases h
  rename_i h3;split at h
  · cases h
  rename_i h4;split at h
  · cases h
  rename_i h5;have hi:g.kind≠3→g.init=[]:=fun hk=>by
    by_cases he:g.init=[]
    · exact he
    · exact absurd (.inl ⟨hk,he⟩) h3
  refine ⟨by omega,by omega,by simpa using h2,hi,fun hk=>?_,?_⟩
  · by_cases he:g.num=0
    · exact he
    · exact absurd (.inr ⟨hk,he⟩) h3
  · by_cases hk:g.kind=3
    · omega
    · rw [hi hk];exact Nat.zero_le _
def prU(p:Prg):Prop:=(∀ g∈p.globals,U32 g.num∧∀ x∈g.init,U32 x)∧∀ x∈p.funcs,qgG x.body=true
def PV(p:Prg):Prop:=p.globals.length≤64∧p.funcs.length≤64∧(∀ g∈p.globals,qfm g=0∧g.init.length≤1000)∧(∀ x∈p.funcs,fnV x)∧(qnb p).length≤1000000
def qpM(l:List Int)(h:∀ x∈l,U32 x):qhq (l.map qdq)≤12 * l.length:=by
 induction l with
 | nil=>exact Nat.le_refl _
 | cons x r ih=>
  have h1:=qcd (h x Mc);have h2:=ih fun y hy=>h y (List.mem_cons_of_mem _ hy);rw [List.map_cons,qbJ,List.length_cons];omega
def qeI(l:List Str)(h:∀ x∈l,qaY x=true):qhq l≤14 * l.length:=by
 induction l with
 | nil=>exact Nat.le_refl _
 | cons x r ih=>
  have h1:=qbG (h x Mc);have h2:=ih fun y hy=>h y (List.mem_cons_of_mem _ hy);rw [qbJ,List.length_cons];omega
def qq8{g:Glo}(h:qfm g=0)(hu:U32 g.num∧∀ x∈g.init,U32 x):(qek g).length≤50+12 * g.init.length:=by
 have h1:=qbG (qbY h).2.2.1;have h2:=qcd hu.1;have h3:=qbh (g.init.map qdq);have h4:=qpM g.init hu.2;unfold qek;repeat' split
 all_goals ((try simp only [List.length_append,List.length_cons,List.length_nil]);omega)
def qq5{x:Fnc}(h:fnV x)(hu:qgG x.body=true):(qir x).length≤350+200 * qbr x.body:=by
 obtain ⟨a1,a2,a3,a4,a5,a6⟩:=h;have h1:=qbG a1;have h2:=qbh x.params;have h3:=qeI x.params fun w hw=>a4 w (List.mem_append_left _ hw);have h4:=qbh x.locals;have h5:=qeI x.locals fun w hw=>a4 w (List.mem_append_right _ hw);have h6:=qcY x.body 1 a5 hu;unfold qir;split;all_goals ((try simp only [List.length_append,List.length_cons,List.length_nil]);omega)
def qlF:∀ {l:List Glo},(∀ g∈l,qfm g=0)→(∀ g∈l,U32 g.num∧∀ x∈g.init,U32 x)→((l.map qek).flatten).length≤50 * l.length+12 * (l.map fun g=>g.init.length).sum
 | [],_,_=>Nat.zero_le _
 | g::r,h,hu=>by
  have h1:=qq8 (h g Mc) (hu g Mc);have h2:=qlF (l:=r) (fun y hy=>h y (List.mem_cons_of_mem _ hy)) (fun y hy=>hu y (List.mem_cons_of_mem _ hy));simp only [List.map_cons,List.flatten_cons,List.length_append,List.length_cons,List.sum_cons];omega
def qlA:∀ {l:List Fnc},(∀ x∈l,fnV x)→(∀ x∈l,qgG x.body=true)→((l.map qir).flatten).length≤350 * l.length+200 * qhy l
 | [],_,_=>Nat.zero_le _
 | x::r,h,hu=>by
  have h1:=qq5 (h x Mc) (hu x Mc);have h2:=qlA (l:=r) (fun y hy=>h y (List.mem_cons_of_mem _ hy)) (fun y hy=>hu y (List.mem_cons_of_mem _ hy));simp only [List.map_cons,List.flatten_cons,List.length_append,List.length_cons,qhy];omega
def qts{α:Type}{f:α→Nat}{l:List α}{x:α}(h:x∈l):f x≤(l.map f).sum:=by
 induction l with
 | nil=>cases h
 | cons y r ih=>
  simp only [List.map_cons,List.sum_cons];rcases List.mem_cons.1 h with rfl|h
  · omega
  · have:=ih h;omega
def PV.of{p:Prg}(hu:prU p)(h:(qbf p).1=0):PV p:=by
  unfold qbf at h;split at h
  · cases h
  rename_i h1;split at h
  · rename_i h2;exact absurd h h2
  rename_i h2;split at h
  · cases h
  rename_i h3;obtain ⟨b1,b2⟩:=qiq h;have a1:=qlE (l:=p.globals) (i:=0) (by simpa using h2);have c1:=qlF a1 hu.1;have c2:=qlA b1 hu.2;refine ⟨by omega,by omega,fun g hg=>⟨a1 g hg,?_⟩,b1,?_⟩
  · have:=qts (f:=fun g:Glo=>g.init.length) hg
    omega
  · rw [qnb,List.length_append];omega
def Glos.u{s:World}{A:Option Addr}{n c:Nat}{l:List Glo}(h:Glos s A n c l):∀ g∈l,U32 g.num∧∀ x∈g.init,U32 x:=
 Sl.all (p:=fun g=>U32 g.num∧∀ x∈g.init,U32 x) h fun g cs ⟨_,_,_,_,hw,hu,_⟩=>⟨hu,hw.u32⟩
def Fncs.u{d:Nat}{s:World}{A:Option Addr}{n c:Nat}{l:List Fnc}(h:Fncs d s A n c l):∀ x∈l,qgG x.body=true:=
 Sl.all (p:=fun x=>qgG x.body=true) h fun x cs ⟨_,_,_,_,_,_,_,_,_,_,_,_,hb,_⟩=>Stms.u hb
def qeH{α:Type}{f:α→Str}{l:List α}{k:Nat}{x:α}(h:l[k]?=some x):((l.drop k).map f).flatten=f x++((l.drop (k+1)).map f).flatten:=by
 obtain ⟨hk,rfl⟩:=List.getElem?_eq_some_iff.1 h;rw [List.drop_eq_getElem_cons hk];rfl
def qlD{l:List Glo}{k i:Nat}{x:Glo}(h:l[k]?=some x):glF (l.drop k) i=if qfm x≠0 then (qfm x,(i:Int)) else glF (l.drop (k+1)) (i+1):=by
 obtain ⟨hk,rfl⟩:=List.getElem?_eq_some_iff.1 h;rw [List.drop_eq_getElem_cons hk];rfl
def qgc{l:List Fnc}{k i c:Nat}{x:Fnc}(h:l[k]?=some x):fnF (l.drop k) i c=if (fnC x c).2≠0 then ((fnC x c).2,(i:Int)) else fnF (l.drop (k+1)) (i+1) (fnC x c).1:=by
 obtain ⟨hk,rfl⟩:=List.getElem?_eq_some_iff.1 h;rw [List.drop_eq_getElem_cons hk];rfl
def qpO{α:Type}{f:α→Nat}{l:List α}{k:Nat}{x:α}(h:l[k]?=some x):((l.take (k+1)).map f).sum=((l.take k).map f).sum+f x:=by
 obtain ⟨hk,rfl⟩:=List.getElem?_eq_some_iff.1 h;rw [List.take_succ_eq_append_getElem hk,List.map_append,List.sum_append];simp
def qzg{g:Glo}(h:g.kind=1):qek g=qaT 0++([99,111,110,115,116,32]++g.name++[32,61,32]++qdq g.num++[59])++[10]:=by unfold qek;rw [if_pos h];simp [qaT]
def qzh{g:Glo}(h:g.kind=2):qek g=qaT 0++([118,97,114,32]++g.name++[59])++[10]:=by unfold qek;rw [if_neg O,if_pos h];simp [qaT]
def qzi{g:Glo}(h:¬ g.kind=1)(h2:¬ g.kind=2)(h3:g.init=[]):qek g=qaT 0++([97,114,114,97,121,32]++g.name++[91]++qdq g.num++[93,59])++[10]:=by unfold qek;rw [if_neg h,if_neg h2,if_pos h3];simp [qaT]
def qzj{g:Glo}(h:¬ g.kind=1)(h2:¬ g.kind=2)(h3:g.init≠[]):qek g=qaT 0++([97,114,114,97,121,32]++g.name++[91]++qdq g.num++[93,32,61,32]++qa2 (g.init.map qdq)++[59])++[10]:=by unfold qek;rw [if_neg h,if_neg h2,if_neg h3];simp [qaT]
def qkN{p:Prg}(h:64 < p.globals.length∨64 < p.funcs.length):qbf p=(2,-1):=by rw [qbf,if_pos h]
def qun{p:Prg}(h:¬ (64 < p.globals.length∨64 < p.funcs.length))(h2:(glF p.globals 0).1≠0):qbf p=glF p.globals 0:=by rw [qbf,if_neg h,if_pos h2]
def qiI{p:Prg}(h:¬ (64 < p.globals.length∨64 < p.funcs.length))(h2:glF p.globals 0=(0,0))(h3:1000 < (p.globals.map fun g=>g.init.length).sum):qbf p=(2,-1):=by rw [qbf,if_neg h,h2,if_neg (by simp),if_pos h3]
def qzF{p:Prg}(h:¬ (64 < p.globals.length∨64 < p.funcs.length))(h2:glF p.globals 0=(0,0))(h3:¬ 1000 < (p.globals.map fun g=>g.init.length).sum):qbf p=fnF p.funcs p.globals.length 0:=by rw [qbf,if_neg h,h2,if_neg (by simp),if_neg h3]
def qo3{p:Prg}(h:(qbf p).1≠0):qf2 p=qbf p:=by rw [qf2,if_pos h]
def qo2{p:Prg}(h:qbf p=(0,0))(h2:12000 < (qnb p).length):qf2 p=(14,-1):=by rw [qf2,if_neg (by rw [h];simp),if_pos h2]
def qzw{p:Prg}(h:qbf p=(0,0))(h2:¬ 12000 < (qnb p).length):qf2 p=(0,0):=by rw [qf2,if_neg (by rw [h];simp),if_neg h2]
def qfy{p:Prg}(h:(qf2 p).1=0):(qbf p).1=0:=by
 unfold qf2 at h;split at h
 · rename_i h2;exact absurd h h2
 · rename_i h2;simpa using h2
def Stms.u_at:∀ {l:List Stm} {k:Nat} {x:Stm},qgG l=true→l[k]?=some x→stU x=true
 | [],_,_,_,h=>by cases h
 | y::r,0,x,hu,h=>by
  simp at h;subst h;simp only [qgG,Bool.and_eq_true] at hu;exact hu.1
 | y::r,k+1,x,hu,h=>by
  simp only [qgG,Bool.and_eq_true] at hu;exact Stms.u_at hu.2 (by simpa using h)
open Go.Proofs.Tryz
open Go.FL
attribute [local irreducible] JC JO JA JB qaZ qaL qb4 AC fill CellsAt QE Ev Mid
def qeg(D:Nat)(L:Hl)(s:World)(c i:Int):AC prog D 65 [.int .i64 c,.int .i64 i] L s fun v L' _=>v=.agg #[.int .i64 c,.int .i64 i]∧L=L':=by
 refine qae (fn:=f65) qav func65 V Z ntmps65 Z (rs:=[.cell 4 27]) Z [(0,_),(1,_)] Z<|Sr<|qag Z [_,_] Z Z fun β1 s1 h1=>Nt<|Sr<|Zqm Z Z<|Zqm Z Z<|qad (qak [(_,_),(_,_)] [_,_] Z Z Z Z Z Z) Z<|Wt 0 [_,_] Y9<|Nt<|Zo<|?_;exact rR [_] L (.agg (us:=[_,_]) 0 Z Z Z Z Z (.nil)) Z h1 fun _ hS2=>⟨rfl,rfl⟩
def qnM(D:Nat)(X L:Hl)(s:World)(bb:Nat)(M:Hl)(l:List UInt8)(hW:Wr bb M l):AC prog D 23 [.pointer (some ⟨bb,0,none⟩)] (X++(M++L)) s fun u L' _=>u=St l∧L'=X++L:=
 AC.perm (List.perm_append_comm_assoc ..) (qlc D (X++L) s bb M l hW) fun u L1 s1 ⟨g0,g1⟩=>⟨_,List.Perm.refl _,g0,g1.symm⟩
def qmn(D:Nat)(y:Nat×Obj)(L:Hl)(s:World)(hG:GP s)(bc c d:Nat)(x:Fnc)(A1 A2 A3:Option Addr)(n1 q1 n2 q2 n3 q3:Nat)(hs1:Strs s A1 n1 q1 x.params)(hs2:Strs s A2 n2 q2 x.locals)(hs3:Stms d s A3 n3 q3 x.body)(hc:c≤2000):AC prog D 67 [.pointer (some ⟨bc,0,none⟩),.agg #[St x.name,.slice A1 n1 q1,.slice A2 n2 q2,.slice A3 n3 q3]] (y::(bc,cb [.int .i64 (c:Int)] 152)::L) s fun v L' _=>v=.int .i64 (fnC x c).2∧L'=y::(bc,cb [.int .i64 ((fnC x c).1:Int)] 152)::L:=
 AC.perm (List.Perm.swap ..) (qqK D (y::L) s hG bc c d x A1 A2 A3 n1 q1 n2 q2 n3 q3 hs1 hs2 hs3 hc) fun v L1 s1 ⟨g0,h1⟩=>⟨_,by rw [h1];exact List.Perm.swap ..,g0,rfl⟩
def qwC(D:Nat)(L:Hl)(s:World)(hG:GP s)(d:Nat)(p:Prg)(Ag Af:Option Addr)(ng cg nf cf:Nat)(hGl:Glos s Ag ng cg p.globals)(hFn:Fncs d s Af nf cf p.funcs)(hV:PV p):AC prog D 68 [.agg #[.slice Ag ng cg,.slice Af nf cf]] L s fun v L' _=>v=St (qnb p)∧L=L':=by
 have hn1:=hGl.1;have hn2:=hFn.1;have hU:=hGl.u;have hUf:=hFn.u;obtain ⟨hV1,hV2,hVg,hVf,hVl⟩:=hV;have hpl:((p.globals.map qek).flatten).length+((p.funcs.map qir).flatten).length≤1000000:=by rw [qnb,List.length_append] at hVl;exact hVl
 refine qae (fn:=f68) qav func68 V Z ntmps68 Z (rs:=[.tmp 2]) Z [(0,_)] Z<|Sr<|qay Z Z fun β1 s1 h1=>At Z Z<|Sr<|qad (qak [] [_,_] Z Z Z Z Z Z) Z<|qay Z Z fun β2 s2 h2=>At Z Z<|Zs<|Zs<|qbk 1 ?_
 
 refine Zr<|W0 Y5<|Wl 0 Y6<|Ws Y4<|Zqm Z Z<|Nt<|Zp<|?_;refine qaA (γ:=Nat×Hl×List UInt8) (fun g=>[(1,_),(2,_),(3,_),(11,_),(12,_),(13,.int .i64 (g.1:Int))]) (fun g=>(β1,cb [.slice Ag ng cg,.slice Af nf cf] 25)::(g.2.1++L)) (fun g tw=>Le D s2 tw∧(g.1≤ng∧Wr β2 g.2.1 g.2.2∧g.2.2++((p.globals.drop g.1).map qek).flatten=(p.globals.map qek).flatten)) (fun g=>ng - g.1) (fun _ _ _ h hl=>⟨h.1.trans hl,h.2⟩) (0,[(β2,cb [.pointer none,.slice none 0 0] 199)],[]) (.c6 Z Z Z Z Z Z (.nil _)) Z ⟨Le.refl _,⟨Nat.zero_le _,Wr.mk (.inl Z) BV.nil,Z⟩⟩ ?_;intro g s3 I3;have e3:=h1.t h2|>.t I3.1;obtain ⟨k,Mo,lo⟩:=g;obtain ⟨hk0,hWo,hS⟩:=I3.2;simp only at hk0 hWo hS;dsimp only;have hle:=congrArg List.length hS;simp only [List.length_append] at hle;refine Sr<|qa8 Z Z Z<|Nt<|Zs<|?_;refine qaa Z ?_ ?_<;>intro c4
 ·have hk:k < ng:=by omega
  obtain ⟨b,off,x,Ai,ni,ci,rfl,hx,hcx,hix,hux,hnl⟩:=Glos.at_ (hGl.le e3) hk;have hgx:=hVg x (List.mem_of_getElem? hx);have hg0:=qbY hgx.1;have hil:=qbG hg0.2.2.1;have hdl:=qcd hux;have hni:=hix.1;have hci:=qbh (x.init.map qdq);have hct:=qiO x.init hix.u32;refine Zk<|Zt<|Zs<|Zp<|Sr<|qad (qau Z Z Z Z Z Z hk) Z<|qad (qaw Z Z Z (hcx.le (Lr D)) Z) Z<|qag Z [_,_,_,_] Z Z fun β5 s5 h5=>Wt 0 [_,_,_,_] Y9<|Nt<|Zp<|Sr<|W0 Y5<|Wl 0 Y6<|qax Z Z Z<|At Z Z<|?_;have e5:=I3.1.t h5;refine qaa Z ?_ ?_<;>intro c6
  ·have hT:=qzg c6;refine qaB qac 11 Z 2 fun s7 h7=>za 0 Z (qan Z) Z<|za 1 Z (We Y4) Z<|za 2 Z (Wd 0 Y5) Z<|za 3 Z (qah Z Z Uo) Z<|za 4 Z (qah Z Z Uo) Z<|za 5 Z (We Y4) Z<|za 6 Z (Wd 0 Y5) Z<|qar 7 V<|Jf Z Tt Z Z Z (qer D _ _ (hG.le (e3.t h5|>.t h7)) _ hux) fun s8 h8=>za 8 Z (qah Z Z Uo) Z<|za 9 Z (qah Z Z Uo) Z<|qar 10 V<|Jb Z Tt Z Z Z (AC.mid [_,_] Mo L (qeo D _ _ β2 Mo lo hWo 0 O _ (by (try simp only [List.length_append,List.length_cons,List.length_nil,qaT]);omega))) ?_;rintro _ _ s9 h9 ⟨M1,rfl,rfl,hW1⟩;refine ⟨(fun x hx _=>qd9 hx),?_⟩;simp only [cQ9,nQ9];have hWx:Wr β2 M1 (lo++qek x):=by rw [hT];exact hW1
   refine qaf V<|Zb<|Zb<|Zt<|Zr<|qaD Z Z Z (w64 O O)<|Zqm Z Z<|Zn<|?_;refine qab ⟨(k+1,M1,lo++qek x),[_],kp,Z,⟨(e5.t h7|>.t h8|>.t h9),⟨by simp only;omega,hWx,by simp only;rw [← hS,qeH hx,List.append_assoc]⟩⟩,Oz⟩
  have g1:=c6;refine Sr<|W0 Y5<|Wl 0 Y6<|qax Z Z Z<|At Z Z<|?_;refine qaa Z ?_ ?_<;>intro c10
  ·have hT:=qzh c10;refine Zr<|Zqm Z Z<|Wb Y5<|Wl 0 Y6<|qad (qah Z Z Uo) Z<|qad (qah Z Z Uo) Z<|Jc Z Z Z (AC.mid [_,_] Mo L (qeo D _ _ β2 Mo lo hWo 0 O _ (by (try simp only [List.length_append,List.length_cons,List.length_nil,qaT]);omega))) ?_;rintro _ _ s11 h11 ⟨M1,rfl,rfl,hW1⟩;simp only [cQ9,nQ9];have hWx:Wr β2 M1 (lo++qek x):=by rw [hT];exact hW1
   refine Zn<|Zb<|Zb<|Zt<|Zr<|qaD Z Z Z (w64 O O)<|Zqm Z Z<|Zn<|?_;refine qab ⟨(k+1,M1,lo++qek x),[_],kp,Z,⟨(e5.t h11),⟨by simp only;omega,hWx,by simp only;rw [← hS,qeH hx,List.append_assoc]⟩⟩,Oz⟩
  have g2:=c10;refine Sr<|Wb Y5<|Wl 0 Y6<|Ws Y4<|qax Z Z Z<|At Z Z<|?_;refine qaa Z ?_ ?_<;>intro c12
  ·have hT:=qzi g1 g2 (List.eq_nil_of_length_eq_zero O);refine qaB qac 11 Z 2 fun s13 h13=>za 0 Z (qan Z) Z<|za 1 Z (We Y4) Z<|za 2 Z (Wd 0 Y5) Z<|za 3 Z (qah Z Z Uo) Z<|za 4 Z (qah Z Z Uo) Z<|za 5 Z (We Y4) Z<|za 6 Z (Wd 0 Y5) Z<|qar 7 V<|Jf Z Tt Z Z Z (qer D _ _ (hG.le (e3.t h5|>.t h13)) _ hux) fun s14 h14=>za 8 Z (qah Z Z Uo) Z<|za 9 Z (qah Z Z Uo) Z<|qar 10 V<|Jb Z Tt Z Z Z (AC.mid [_,_] Mo L (qeo D _ _ β2 Mo lo hWo 0 O _ (by (try simp only [List.length_append,List.length_cons,List.length_nil,qaT]);omega))) ?_;rintro _ _ s15 h15 ⟨M1,rfl,rfl,hW1⟩;refine ⟨(fun x hx _=>qd9 hx),?_⟩;simp only [cQ9,nQ9];have hWx:Wr β2 M1 (lo++qek x):=by rw [hT];exact hW1
   refine qaf V<|Zb<|Zb<|Zt<|Zr<|qaD Z Z Z (w64 O O)<|Zqm Z Z<|Zn<|?_;refine qab ⟨(k+1,M1,lo++qek x),[_],kp,Z,⟨(e5.t h13|>.t h14|>.t h15),⟨by simp only;omega,hWx,by simp only;rw [← hS,qeH hx,List.append_assoc]⟩⟩,Oz⟩
  have hT:=qzj g1 g2 (fun h=>by rw [h] at hni;simp at hni;omega);refine qaB qac 16 Z 2 fun s16 h16=>za 0 Z (qan Z) Z<|za 1 Z (We Y4) Z<|za 2 Z (Wd 0 Y5) Z<|za 3 Z (qah Z Z Uo) Z<|za 4 Z (qah Z Z Uo) Z<|za 5 Z (We Y4) Z<|za 6 Z (Wd 0 Y5) Z<|za 10 Z (We Y4) Z<|za 11 Z (Wd 0 Y5) Z<|qar 7 V<|Jf Z Tt Z Z Z (qer D _ _ (hG.le (e3.t h5|>.t h16)) _ hux) fun s17 h17=>za 8 Z (qah Z Z Uo) Z<|za 9 Z (qah Z Z Uo) Z<|qar 12 V<|Jf Z Tt Z Z Z (qmN D _ _ (hG.le (e3.t h5|>.t h16|>.t h17)) Ai ni ci x.init (hix.le (h5.t h16|>.t h17)) O) fun s18 h18=>za 13 Z (qah Z Z Uo) Z<|za 14 Z (qah Z Z Uo) Z<|qar 15 V<|Jb Z Tt Z Z Z (AC.mid [_,_] Mo L (qeo D _ _ β2 Mo lo hWo 0 O _ (by (try simp only [List.length_append,List.length_cons,List.length_nil,qaT]);omega))) ?_;rintro _ _ s19 h19 ⟨M1,rfl,rfl,hW1⟩;refine ⟨(fun x hx _=>qd9 hx),?_⟩;simp only [cQ9,nQ9];have hWx:Wr β2 M1 (lo++qek x):=by rw [hT];exact hW1
  refine qaf V<|Zb<|Zb<|Zt<|Zr<|qaD Z Z Z (w64 O O)<|Zqm Z Z<|Zn<|?_;refine qab ⟨(k+1,M1,lo++qek x),[_],kp,Z,⟨(e5.t h16|>.t h17|>.t h18|>.t h19),⟨by simp only;omega,hWx,by simp only;rw [← hS,qeH hx,List.append_assoc]⟩⟩,Oz⟩
 rw [List.drop_eq_nil_of_le O,List.map_nil,List.flatten_nil,List.append_nil] at hS;refine Zl<|Zv<|Zv<|Zd<|Zt<|Zs<|Sr<|Wb Y5<|Wl 0 Y6<|Ws Y4<|Zqm Z Z<|Nt<|Zp<|?_;refine qaA (γ:=Nat×Hl×List UInt8) (fun g=>[(2,_),(3,_),(76,_),(77,_),(78,.int .i64 (g.1:Int))]) (fun g=>(β1,cb [.slice Ag ng cg,.slice Af nf cf] 25)::(g.2.1++L)) (fun g tw=>Le D s3 tw∧(g.1≤nf∧Wr β2 g.2.1 g.2.2∧g.2.2++((p.funcs.drop g.1).map qir).flatten=qnb p)) (fun g=>nf - g.1) (fun _ _ _ h hl=>⟨h.1.trans hl,h.2⟩) (0,Mo,lo) (.c5 Z Z Z Z Z (.nil _)) Z ⟨Le.refl _,⟨Nat.zero_le _,hWo,by simp only [List.drop_zero];rw [hS,qnb]⟩⟩ ?_;intro g s20 I20;have e20:=e3.t I20.1;obtain ⟨k,Mo,lo⟩:=g;obtain ⟨hk0,hWo,hS⟩:=I20.2;simp only at hk0 hWo hS;dsimp only;have hle:=congrArg List.length hS;simp only [List.length_append] at hle;refine Sr<|qa8 Z Z Z<|Nt<|Zs<|?_;refine qaa Z ?_ ?_<;>intro c21
 ·have hk:k < nf:=by omega
  obtain ⟨b,off,x,B1,m1,d1,B2,m2,d2,B3,m3,d3,rfl,hx,hcx,hpx,hlx,hbx,hnl⟩:=Fncs.at_ (hFn.le e20) hk;obtain ⟨hi1,hi2,hi3,hi4,hi5,hi6⟩:=hVf x (List.mem_of_getElem? hx);have hil:=qbG hi1;have hp1:=qbh x.params;have hp2:=qeI x.params fun w hw=>hi4 w (List.mem_append_left _ hw);have hl1:=qbh x.locals;have hl2:=qeI x.locals fun w hw=>hi4 w (List.mem_append_right _ hw);have hln:=hlx.1;have hbl:=qcY x.body 1 hi5 (hUf x (List.mem_of_getElem? hx));refine Zk<|Zt<|Zs<|Zp<|Sr<|qad (qau Z Z Z Z Z Z hk) Z<|qad (qaw Z Z Z (hcx.le (Lr D)) Z) Z<|qag Z [_,_,_,_] Z Z fun β22 s22 h22=>Wt 0 [_,_,_,_] Y9<|Nt<|Zs<|qaB qac 11 Z 2 fun s23 h23=>za 0 Z (qan Z) Z<|za 1 Z (qat Z Z Z Z) Z<|za 2 Z (Wd 0 Y5) Z<|za 3 Z (qah Z Z Uo) Z<|za 4 Z (qah Z Z Uo) Z<|za 5 Z (We Y4) Z<|za 6 Z (Wd 0 Y5) Z<|qar 7 V<|Jf Z Tt Z Z Z (qgB D _ _ B1 m1 d1 x.params (hpx.le (h22.t h23)) O) fun s24 h24=>za 8 Z (qah Z Z Uo) Z<|za 9 Z (qah Z Z Uo) Z<|qar 10 V<|Jb Z Tt Z Z Z (AC.mid [_,_] Mo L (qeo D _ _ β2 Mo lo hWo 0 O _ (by (try simp only [List.length_append,List.length_cons,List.length_nil,qaT]);omega))) ?_;have e24:=I20.1.t h22|>.t h23|>.t h24;rintro _ _ s25 h25 ⟨M1,rfl,rfl,hW1⟩;have e25:=h22.t h23|>.t h24|>.t h25;refine ⟨(fun x hx _=>qd9 hx),?_⟩;simp only [cQ9,nQ9];refine qaf V<|Zt<|Zs<|Sr<|Wb Y5<|Wl 0 Y6<|Ws Y4<|qbl Z Z Z<|Nt<|?_;refine qaa Z ?_ ?_<;>intro c26
  ·have hlc:x.locals≠[]:=fun h=>by rw [h] at hln;simp at hln;omega
   refine Zr<|Zqm Z Z<|Wb Y5<|Wl 0 Y6<|Je Z Z Z (qgB D _ _ B2 m2 d2 x.locals (hlx.le e25) O) fun s27 h27=>qad (qah Z Z Uo) Z<|qad (qah Z Z Uo) Z<|Jc Z Z Z (AC.mid [_,_] M1 L (qeo D _ _ β2 M1 _ hW1 1 O _ (by (try simp only [List.length_append,List.length_cons,List.length_nil,qaT]);omega))) ?_;rintro _ _ s28 h28 ⟨M2,rfl,rfl,hW2⟩;simp only [cQ9,nQ9];refine Nt<|Sr<|Zqm Z Z<|Wb Y5<|Wl 0 Y6<|Jc Z Z Z (AC.mid [_,_] M2 L ((qAK D d).1 _ _ (hG.le (e20.t h22|>.t h23|>.t h24|>.t h25|>.t h27|>.t h28)) β2 M2 _ hW2 B3 m3 d3 x.body 1 (hbx.le (e25.t h27|>.t h28)) hi5 hi6 O (by simp only [List.length_append,List.length_cons,List.length_nil,qaT];omega))) ?_;rintro _ _ s29 h29 ⟨M3,rfl,rfl,hW3⟩;simp only [cQ9,nQ9];refine Nt<|Zr<|Zqm Z Z<|Jc Z Z Z (AC.mid [_,_] M3 L (qeo D _ _ β2 M3 _ hW3 0 O [125] (by (try simp only [List.length_append,List.length_cons,List.length_nil,qaT]);omega))) ?_;rintro _ _ s30 h30 ⟨M4,rfl,rfl,hW4⟩;simp only [cQ9,nQ9];have hWx:Wr β2 M4 (lo++qir x):=by simpa [qir,hlc,qaT,List.append_assoc] using hW4
   refine Zn<|Zb<|Zt<|Zr<|qaD Z Z Z (w64 O O)<|Zqm Z Z<|Zn<|?_;refine qab ⟨(k+1,M4,lo++qir x),[_],kp,Z,⟨(e24.t h25|>.t h27|>.t h28|>.t h29|>.t h30),⟨by simp only;omega,hWx,by simp only;rw [← hS,qeH hx,List.append_assoc]⟩⟩,Oz⟩
  have hlc:x.locals=[]:=List.eq_nil_of_length_eq_zero O;refine Zk<|Zt<|Sr<|Zqm Z Z<|Wb Y5<|Wl 0 Y6<|Jc Z Z Z (AC.mid [_,_] M1 L ((qAK D d).1 _ _ (hG.le (e20.t h22|>.t h23|>.t h24|>.t h25)) β2 M1 _ hW1 B3 m3 d3 x.body 1 (hbx.le e25) hi5 hi6 O (by simp only [List.length_append,List.length_cons,List.length_nil,qaT];omega))) ?_;rintro _ _ s31 h31 ⟨M3,rfl,rfl,hW3⟩;simp only [cQ9,nQ9];refine Nt<|Zr<|Zqm Z Z<|Jc Z Z Z (AC.mid [_,_] M3 L (qeo D _ _ β2 M3 _ hW3 0 O [125] (by (try simp only [List.length_append,List.length_cons,List.length_nil,qaT]);omega))) ?_;rintro _ _ s32 h32 ⟨M4,rfl,rfl,hW4⟩;simp only [cQ9,nQ9];have hWx:Wr β2 M4 (lo++qir x):=by simpa [qir,hlc,qaT,List.append_assoc] using hW4
  refine Zn<|Zb<|Zt<|Zr<|qaD Z Z Z (w64 O O)<|Zqm Z Z<|Zn<|?_;refine qab ⟨(k+1,M4,lo++qir x),[_],kp,Z,⟨(e24.t h25|>.t h31|>.t h32),⟨by simp only;omega,hWx,by simp only;rw [← hS,qeH hx,List.append_assoc]⟩⟩,Oz⟩
 rw [List.drop_eq_nil_of_le O,List.map_nil,List.flatten_nil,List.append_nil] at hS;refine Zl<|Zv<|Zv<|Zd<|Zt<|Sr<|Zqm Z Z<|qaQ Z Z<|W0 Y5<|Jc Z Z Z (qnM D [_] L _ β2 Mo lo hWo) ?_;rintro _ _ s33 h33 ⟨rfl,rfl⟩;simp only [cQ9,nQ9];refine At Z Z<|Zo<|?_;exact rR [_] L (.t1 Z) Z (e20.t h33) fun _ hS2=>⟨by rw [← hS];rfl,rfl⟩
def bT{p:Prop} [Decidable p] (h:p):Value.bool (decide p)=.bool true:=by rw [decide_eq_true h]
def bF{p:Prop} [Decidable p] (h:p):Value.bool (!decide p)=.bool false:=by rw [decide_eq_true h];rfl
def bN{p:Prop} [Decidable p] (h:¬ p):Value.bool (!decide p)=.bool true:=by rw [decide_eq_false h];rfl
def bZ{p:Prop} [Decidable p] (h:¬ p):Value.bool (decide p)=.bool false:=by rw [decide_eq_false h]
def AC.isT{P:Program}{D:Nat}{f:FuncId}{args:List Value}{L:Hl}{s:World}{p:Prop} [Decidable p] (h:AC P D f args L s fun v L' _=>v=.bool (decide p)∧L=L') (hp:p):AC P D f args L s fun v L' _=>v=.bool true∧L=L':=
 h.mono fun v L' _ _ ⟨h1,h2⟩=>⟨by rw [h1,decide_eq_true hp],h2⟩
def qck{p:Prop} (h:p:=by
 exact ⟨by rw [hE];rfl,rfl⟩):p:=h
def qj6(D:Nat)(L:Hl)(s:World)(hG:GP s)(d:Nat)(p:Prg)(Ag Af:Option Addr)(ng cg nf cf:Nat)(hGl:Glos s Ag ng cg p.globals)(hFn:Fncs d s Af nf cf p.funcs):AC Tryz.prog D 39 [.agg #[.slice Ag ng cg,.slice Af nf cf]] L s fun v L' _=>v=.agg #[.int .i64 (qf2 p).1,.int .i64 (qf2 p).2]∧L=L':=by
 have hn1:=hGl.1;have hn2:=hFn.1;have hU:prU p:=⟨hGl.u,hFn.u⟩;refine qae (fn:=Tryz.f39) qav Tryz.func39 V Z Tryz.ntmps39 Z (rs:=[.cell 2 27]) Z [(0,_)] Z<|Sr<|qay Z Z fun β1 s1 h1=>qag Z [_,_] Z Z fun β2 s2 h2=>Nt<|Zs<|?_;have e2:=h1.t h2;refine qa9 20 (64 < ng∨64 < nf) ?_ ?_
 ·refine Zr<|W0 Y5<|Wl 1 Y6<|Ws Y4<|qbl Z Z Z<|Zqm Z Z<|?_;refine qai (t:=15) Z ?_ ?_<;>intro c4;·refine Wf Y4<|Wf Y4<|Wf Y4<|Wf Y4<|ZqT Z Z Z<|Zn<|?_;refine qab (MidB.mk (Lr D) Sb Z ((decide_eq_true O).symm))
  refine Zg Z Z<|Wb Y5<|Zg Z Z<|Wl 1 Y6<|Zg Z Z<|Ws Y4<|Zg Z Z<|qbl Z Z Z<|ZqF Z Z Z<|Zn<|?_;refine qab (MidB.mk (Lr D) Sb Z (decide_eq_decide.2 O))
 intro s3 h3;have e3:=e2.t h3;refine qaa Z ?_ ?_<;>intro c5
 ·have hE:qf2 p=(2,-1):=by rw [qo3 (by rw [qkN O];simp),qkN O]
  refine Sr<|Je Z Z Z (qeg D _ _ _ _) fun s6 h6=>Wt 0 [_,_] Y9<|Nt<|Zo<|Zu<|?_;exact rR [_,_] L (.agg (us:=[_,_]) 0 Z Z Z Z Z (.nil)) Z (e3.t h6) fun _ hS2=>qck
 have g20:¬ (64 < p.globals.length∨64 < p.funcs.length):=by omega
 refine Zk<|Zt<|Sr<|At Z Z<|Zs<|Sr<|W0 Y5<|Wl 1 Y6<|Ws Y4<|Zqm Z Z<|Nt<|Zp<|?_;refine qbV [_,_] (γ:=Nat×Nat) (fun g=>[(1,_),(2,_),(3,.int .i64 (g.2:Int)),(23,_),(24,_),(25,.int .i64 (g.1:Int))]) (fun g=>L) (fun g tw=>Le D s3 tw∧(g.1≤ng∧glF p.globals 0=glF (p.globals.drop g.1) g.1∧g.2=((p.globals.take g.1).map fun g=>g.init.length).sum∧g.2≤g.1 * 40000)) (fun g=>ng - g.1) (fun _ _ _ h hl=>⟨h.1.trans hl,h.2⟩) (0,0) (.c6 Z Z Z Z Z Z (.nil _)) Z ⟨Le.refl _,⟨Nat.zero_le _,Z,Z,Nat.zero_le _⟩⟩ ?_;intro g s7 I7;have e7:=e3.t I7.1;simp only [cQ9,nQ9];obtain ⟨k,z⟩:=g;obtain ⟨hk0,hS,hz,hz4⟩:=I7.2;simp only at hk0 hS hz hz4;dsimp only;refine Sr<|qa8 Z Z Z<|Nt<|Zs<|?_;refine qaa Z ?_ ?_<;>intro c8
 ·have hk:k < ng:=by omega
  obtain ⟨b,off,x,Ai,ni,ci,rfl,hx,hcx,hix,hux,hnl⟩:=Glos.at_ (hGl.le e7) hk;have hni:=hix.1;refine Zk<|Zt<|Zs<|Zp<|Sr<|Zqm Z Z<|qad (qau Z Z Z Z Z Z hk) Z<|qad (qaw Z Z Z (hcx.le (Lr D)) Z) Z<|qag Z [_,_,_,_] Z Z fun β9 s9 h9=>Zqa Z Z<|Wt 0 [_,_,_,_] Y9<|Nt<|Zs<|Sr<|qad (qao 0 [_,_,_,_] Z Z Z Z Z) Z<|Je Z Z Z (qnV D _ _ (hG.le (e7.t h9)) x Ai ni ci (hix.le h9) hux) fun s10 h10=>At Z Z<|Sr<|Zqm Z Z<|qcb Z Z Z<|Nt<|?_;refine qaM Z ?_ ?_<;>intro c11
  ·have hE:qf2 p=(qfm x,(k:Int)):=by
     have h9:glF p.globals 0=(qfm x,(k:Int)):=by rw [hS,qlD hx,if_pos c11]
     have h8:qbf p=(qfm x,(k:Int)):=by rw [qun g20 (by rw [h9];exact c11),h9]
     rw [qo3 (by rw [h8];exact c11),h8]
   refine Sr<|Zqm Z Z<|Zqm Z Z<|Je Z Z Z (qeg D _ _ _ _) fun s12 h12=>Wt 1 [_,_] Y9<|Nt<|Zo<|Zu<|Zc<|Zu<|Zu<|Zc<|Zu<|?_;exact rR [_,_,_] L (.agg (us:=[_,_]) 1 Z Z Z Z Z (.nil)) Z (e7.t h9|>.t h10|>.t h12) fun _ hS2=>qck
  have g33:¬ qfm x≠0:=fun h=>h c11;have hg4:=(qbY (show qfm x=0 by simpa using g33)).2.2.2.2.2;refine Zk<|Zt<|Zr<|Zqm Z Z<|Wb Y5<|Wl 0 Y6<|Ws Y4<|qad (qaC Z Z (show IntKind.i64.wrap ((z:Int)+(ni:Int))=((z+ni:Nat):Int) by rw [w64 O O];simp)) Z<|Zqa Z Z<|Zn<|Zb<|Zt<|Zr<|qaD Z Z Z (w64 O O)<|Zqm Z Z<|Zn<|?_;refine qab ⟨(k+1,z+ni),[_],kp,Z,⟨(I7.1.t h9|>.t h10),⟨by simp only;omega,by simp only;rw [hS,qlD hx,if_neg g33],by simp only;rw [qpO hx,← hz,hni],by simp only;omega⟩⟩,Oz⟩
 rw [List.drop_eq_nil_of_le O] at hS;rw [List.take_of_length_le O] at hz;refine Zl<|Zv<|Zv<|Zd<|Zt<|Zs<|Sr<|Zqm Z Z<|qbl Z Z Z<|Nt<|?_;refine qaa Z ?_ ?_<;>intro c13
 ·have hE:qf2 p=(2,-1):=by rw [qo3 (by rw [qiI g20 hS O];simp),qiI g20 hS O]
  refine Sr<|Je Z Z Z (qeg D _ _ _ _) fun s14 h14=>Wt 0 [_,_] Y9<|Nt<|Zo<|Zu<|?_;exact rR [_,_] L (.agg (us:=[_,_]) 0 Z Z Z Z Z (.nil)) Z (e7.t h14) fun _ hS2=>qck
 have g44:=qzF g20 hS O;refine Zk<|Zt<|Sr<|qad (qak [] [_] Z Z Z Z Z Z) Z<|qay Z Z fun β15 s15 h15=>At Z Z<|Zs<|Sr<|Wb Y5<|Wl 2 Y6<|Ws Y4<|Zqm Z Z<|Nt<|Zp ?_;have e15:=e7.t h15;refine qaA (γ:=Nat×Nat) (fun g=>[(1,_),(2,_),(7,_),(49,_),(50,_),(51,.int .i64 (g.1:Int))]) (fun g=>(β15,cb [.int .i64 (g.2:Int)] 152)::_::_::L) (fun g tw=>Le D s15 tw∧(g.1≤nf∧g.2≤2000∧fnF p.funcs p.globals.length 0=fnF (p.funcs.drop g.1) (p.globals.length+g.1) g.2)) (fun g=>nf - g.1) (fun _ _ _ h hl=>⟨h.1.trans hl,h.2⟩) (0,0) (.c6 Z Z Z Z Z Z (.nil _)) Z ⟨Le.refl _,⟨Nat.zero_le _,Nat.zero_le _,Z⟩⟩ ?_;intro g s16 I16;have e16:=e15.t I16.1;obtain ⟨k,ck⟩:=g;obtain ⟨hk0,hck,hS2⟩:=I16.2;simp only at hk0 hck hS2;dsimp only;refine Sr<|qa8 Z Z Z<|Nt<|Zs<|?_;refine qaa Z ?_ ?_<;>intro c17
 ·have hk:k < nf:=by omega
  obtain ⟨b,off,x,B1,m1,d1,B2,m2,d2,B3,m3,d3,rfl,hx,hcx,hpx,hlx,hbx,hnl⟩:=Fncs.at_ (hFn.le e16) hk;refine Zk<|Zt<|Zs<|Zp<|Sr<|Zqm Z Z<|qad (qau Z Z Z Z Z Z hk) Z<|qad (qaw Z Z Z (hcx.le (Lr D)) Z) Z<|qag Z [_,_,_,_] Z Z fun β18 s18 h18=>Zqa Z Z<|Wt 0 [_,_,_,_] Y9<|Nt<|Sr<|Zqm Z Z<|qad (qao 0 [_,_,_,_] Z Z Z Z Z) Z<|Jc Z Z Z (qmn D _ _ _ (hG.le (e16.t h18)) _ ck d x B1 B2 B3 m1 d1 m2 d2 m3 d3 (hpx.le h18) (hlx.le h18) (hbx.le h18) hck) ?_;rintro _ _ s19 h19 ⟨rfl,rfl⟩;refine At Z Z<|Sr<|Zqm Z Z<|qcb Z Z Z<|Nt<|?_;refine qaM Z ?_ ?_<;>intro c20
  ·have hE:qf2 p=((fnC x ck).2,((ng+k:Nat):Int)):=by
     have h8:qbf p=((fnC x ck).2,((ng+k:Nat):Int)):=by rw [g44,hS2,qgc hx,if_pos c20,hn1]
     rw [qo3 (by rw [h8];exact c20),h8]
   refine Sr<|Zqm Z Z<|W0 Y5<|Wl 3 Y6<|Ws Y4<|Zqm Z Z<|qad (qaC Z Z (show IntKind.i64.wrap ((ng:Int)+(k:Int))=((ng+k:Nat):Int) by rw [w64 O O];simp)) Z<|Je Z Z Z (qeg D _ _ _ _) fun s21 h21=>Wt 2 [_,_] Y9<|Nt<|Zo<|Zc<|Zu<|Zu<|Zc<|Zu<|?_;exact rR [_,_,_,_] L (.agg (us:=[_,_]) 2 Z Z Z Z Z (.nil)) Z (e16.t h18|>.t h19|>.t h21) fun _ hS2=>qck
  have g60:¬ (fnC x ck).2≠0:=fun h=>h c20;refine Zk<|Zb<|Zt<|Zr<|qaD Z Z Z (w64 O O)<|Zqm Z Z<|Zn<|?_;refine qab ⟨(k+1,(fnC x ck).1),[_],kp,Z,⟨(I16.1.t h18|>.t h19),⟨by simp only;omega,by simp only;have hw:=qly (show (fnC x ck).2=0 by simpa using g60);omega,by simp only;rw [hS2,qgc hx,if_neg g60];rfl⟩⟩,Oz⟩
 rw [List.drop_eq_nil_of_le O] at hS2;have hsh:qbf p=(0,0):=by rw [g44,hS2];rfl
 have hV:=PV.of hU (by rw [hsh]);refine Zl<|Zv<|Zv<|Zd<|Zt<|Zs<|Sr<|qad (qao 2 [_,_] Z Z Z Z Z) Z<|Je Z Z Z (qwC D _ _ (hG.le e16) d p Ag Af ng cg nf cf (hGl.le e16) (hFn.le e16) hV) fun s22 h22=>qfg Z Z Z Z<|qbl Z Z Z<|Nt<|?_;refine qaa Z ?_ ?_<;>intro c23;·have hE:=qo2 hsh O;refine Sr<|Je Z Z Z (qeg D _ _ _ _) fun s24 h24=>Wt 1 [_,_] Y9<|Nt<|Zo<|Zu<|?_;exact rR [_,_,_] L (.agg (us:=[_,_]) 1 Z Z Z Z Z (.nil)) Z (e16.t h22|>.t h24) fun _ hS2=>qck
 have hE:=qzw hsh O;refine Zk<|Zt<|Sr<|qad (qak [] [_,_] Z Z Z Z Z Z) Z<|Wt 1 [_,_] Y9<|Nt<|Zo<|?_;exact rR [_,_,_] L (.agg (us:=[_,_]) 1 Z Z Z Z Z (.nil)) Z (e16.t h22) fun _ hS2=>qck
def qrg:splitB 32 kwT=kwords:=by decide +kernel
def qvU{k:Nat}{w s:Str}(h:kwords[k]?=some w)(he:w=s):kwB s=true:=List.any_eq_true.2 ⟨w,List.mem_of_getElem? h,by simp [he]⟩
def qrf{s:Str}(h:∀ i w,i < kwords.length→kwords[i]?=some w→decide (w=s)=false):kwB s=false:=by
 cases hk:kwB s with
 | false=>rfl
 | true=>
  obtain ⟨w,hw,e⟩:=List.any_eq_true.1 hk;obtain ⟨i,hi⟩:=List.getElem?_of_mem hw;rw [h i w (List.getElem?_eq_some_iff.1 hi).1 hi] at e;cases e
def namedS_iff{k:Int}:qda k=true↔(k=1∨k=2∨k=5):=by simp [qda,or_assoc]
def qhV{k:Int}:qda k=false↔¬ (k=1∨k=2∨k=5):=by rw [← namedS_iff];cases qda k<;>simp
def qzB(D:Nat)(L:Hl)(s:World)(w:List UInt8):AC prog D 118 [St w] L s fun v L' _=>v=.bool (kwB w)∧L=L':=by
 refine qae (fn:=f118) qav func118 V Z ntmps118 Z (rs:=[.tmp 2]) Z [(0,_)] Z<|Sr<|At Z Z<|Sr<|Jc Z Z Z (qiL D _ _ kwT 32 Dc) ?_;rintro _ _ s1 h1 ⟨rfl,Ak,nk,ck,rfl,hK⟩;rw [qrg] at hK;have hnk:=hK.1;have hnk2:kwords.length=13:=by decide
 refine At Z Z<|Zs<|Sr<|At Z Z<|Zp<|qaA (γ:=Nat) (fun k=>[(0,_),(2,_),(3,_),(4,.int .i64 (k:Int))]) (fun _=>_) (fun k tw=>Le D s1 tw∧(k≤nk∧∀ i x,i < k→kwords[i]?=some x→decide (x=w)=false)) (fun k=>nk - k) (fun _ _ _ h hl=>⟨h.1.trans hl,h.2⟩) 0 (.c4 Z Z Z Z (.nil _)) Z ⟨Le.refl _,⟨Nat.zero_le _,fun i x hi=>by omega⟩⟩ ?_;intro k s2 I2;have hk0:=I2.2.1;have hI:=I2.2.2;refine Zs<|Sr<|Zqm Z Z<|Zqm Z Z<|Ws Y4<|qa8 Z Z Z<|Nt<|?_;refine qaa Z ?_ ?_<;>intro c3
 ·have hk:k < nk:=by omega
  obtain ⟨b,off,x,rfl,hx,hcx,_⟩:=Strs.at_ (hK.le I2.1) hk;refine Zk<|Zt<|Zs<|Zp<|Sr<|Zqm Z Z<|Zqm Z Z<|qad (qaU Z Z Z Z Z Z hk) Z<|qad (qaq Z Z Z (hcx.le (Lr D)) Z) Z<|Zqm Z Z<|qht Z Z Z<|Nt<|?_;refine qaa Z ?_ ?_<;>intro c4;·have hq:=c4;refine Sr<|At Z Z<|Zo<|Zc<|Zu<|Zu<|Zc<|Zu<|?_;exact rR [] L (.t1 Z) Z (h1.t I2.1) fun _ hS2=>⟨by rw [qvU hx hq];rfl,rfl⟩
  have hq:=c4;refine Zk<|Zb<|Zt<|Zr<|Zqm Z Z<|qaD Z Z Z (w64 O O)<|Zqa Z Z<|Zn<|?_;refine qab ⟨(k+1),[],kp,Z,⟨I2.1,⟨by omega,qa1 hI hx (decide_eq_false hq)⟩⟩,O⟩
 refine Zl<|Zv<|Zv<|Zd<|Zt<|Sr<|At Z Z<|Zo<|?_;exact rR [] L (.t1 Z) Z (h1.t I2.1) fun _ hS2=>⟨by rw [qrf (fun i w hi h=>hI i w O h)];rfl,rfl⟩
def qdK(D:Nat)(L:Hl)(s:World)(w:List UInt8)(hw:w.length≤9223372036854775807):AC prog D 82 [St w] L s fun v L' _=>v=.bool (qaY w)∧L=L':=by
 refine qae (fn:=f82) qav func82 V Z ntmps82 Z (rs:=[.tmp 2]) Z [(0,_)] Z<|Sr<|At Z Z<|Sr<|Zqm Z Z<|Je Z Z Z (qot D _ _ w 12 hw) fun s1 h1=>Zqm Z Z ?_;refine qeV (t:=5) Z ?_ ?_<;>intro c2;·refine Zg Z Z<|Zqm Z Z<|Zg Z Z<|Je Z Z Z (qzB D _ _ w) fun s3 h3=>Zg Z Z<|qbF Z Z<|ZqT Z Z Z<|At Z Z<|Zo<|?_;refine rR [] L (.t1 Z) Z (h1.t h3) fun _ hS2=>?_;refine ⟨?_,Z⟩;simp only [qbP,qaY];simp_all
 refine Wf Y4<|Wf Y4<|Wf Y4<|ZqF Z Z Z<|At Z Z<|Zo<|?_;refine rR [] L (.t1 Z) Z h1 fun _ hS2=>?_;refine ⟨?_,Z⟩;simp only [qbP,qaY];simp_all
def qwg(D:Nat)(L:Hl)(s:World)(g:Glo)(A:Option Addr)(n c:Nat)(hA:Wds s A n c g.init)(hu:U32 g.num)(hl:g.name.length≤9223372036854775807):AC prog D 81 [.agg #[.int .i64 g.kind,St g.name,.int .u32 g.num,.slice A n c]] L s fun v L' _=>v=.int .i64 (qfm g)∧L=L':=by
 have hn:=hA.1;have hu1:=hu.1;have hu2:=hu.2;refine qae (fn:=f81) qav func81 V Z ntmps81 Z (rs:=[.tmp 2]) Z [(0,_)] Z<|Sr<|qay Z Z fun β1 s1 h1=>At Z Z<|Zs<|Sr<|W0 Y5<|Wl 0 Y6<|Je Z Z Z (qdX D _ _ _ _ _) fun s2 h2=>qbF Z Z<|Nt<|?_;have e2:=h1.t h2;refine qaM Z ?_ ?_<;>intro c3;·refine Sr<|At Z Z<|Zo<|Zu<|?_;exact rR [_] L (.t1 Z) Z e2 fun _ hS2=>qcF
 refine Zk<|Zt<|Zs<|Sr<|Wb Y5<|Wl 0 Y6<|Je Z Z Z (qdK D _ _ g.name hl) fun s4 h4=>qbF Z Z<|Nt<|?_;have e4:=e2.t h4;refine qb8 Z ?_ ?_<;>intro c5;·refine Sr<|At Z Z<|Zo<|Zu<|?_;exact rR [_] L (.t1 Z) Z e4 fun _ hS2=>qcF
 refine Zk<|Zt<|Zs<|?_;refine qa9 29 ((g.kind≠3∧0 < n)∨(g.kind=2∧g.num≠0)) ?_ ?_
 ·refine Zr<|W0 Y5<|Wl 0 Y6<|qa8 Z Z Z<|Zqm Z Z<|?_;refine qai (t:=14) Z ?_ ?_<;>intro c7
  ·refine Zg Z Z<|Wb Y5<|Zg Z Z<|Wl 0 Y6<|Zg Z Z<|Ws Y4<|Zg Z Z<|qbl Z Z Z<|ZqT Z Z Z<|Zqm Z Z<|?_;refine qai (t:=20) Z ?_ ?_<;>intro c8;·refine Wf Y4<|Wf Y4<|Wf Y4<|Wf Y4<|Zh Z Z Z<|Zh Z Z Z<|Zh Z Z Z<|Wf Y4<|ZqT Z Z Z<|Zn<|?_;refine qab (MidB.mk (Lr D) Sb Z ((decide_eq_true O).symm))
   refine Zg Z Z<|W0 Y5<|Zg Z Z<|Wl 0 Y6<|Zg Z Z<|qax Z Z Z<|Zg Z Z<|Zqm Z Z<|?_;refine qai (t:=24) Z ?_ ?_<;>intro c9;·refine Zg Z Z<|Wb Y5<|Zg Z Z<|Wl 0 Y6<|Zg Z Z<|qcb Z Z Z<|Zg Z Z<|ZqT Z Z Z<|ZqF Z Z Z<|Zn<|?_;refine qab (MidB.mk (Lr D) Sb Z (qbp O))
   refine Wf Y4<|Wf Y4<|Wf Y4<|Zg Z Z<|ZqF Z Z Z<|ZqF Z Z Z<|Zn<|?_;refine qab (MidB.mk (Lr D) Sb Z ((decide_eq_false O).symm))
  refine Wf Y4<|Wf Y4<|Wf Y4<|Wf Y4<|ZqF Z Z Z<|Zqm Z Z<|Zg Z Z<|W0 Y5<|Zg Z Z<|Wl 0 Y6<|Zg Z Z<|qax Z Z Z<|Zg Z Z<|Zqm Z Z<|?_;refine qai (t:=24) Z ?_ ?_<;>intro c10;·refine Zg Z Z<|Wb Y5<|Zg Z Z<|Wl 0 Y6<|Zg Z Z<|qcb Z Z Z<|Zg Z Z<|ZqT Z Z Z<|ZqF Z Z Z<|Zn<|?_;refine qab (MidB.mk (Lr D) Sb Z (qbp O))
  refine Wf Y4<|Wf Y4<|Wf Y4<|Zg Z Z<|ZqF Z Z Z<|ZqF Z Z Z<|Zn<|?_;refine qab (MidB.mk (Lr D) Sb Z ((decide_eq_false O).symm))
 intro s6 h6;have e6:=e4.t h6;refine qaa Z ?_ ?_<;>intro c11;·refine Sr<|At Z Z<|Zo<|Zu<|?_;exact rR [_] L (.t1 Z) Z e6 fun _ hS2=>qcF
 refine Zk<|Zt<|Zs<|?_;refine qa9 39 (g.kind=3∧(g.num < 1∨40000 < g.num)) ?_ ?_
 ·refine Zr<|W0 Y5<|Wl 0 Y6<|qax Z Z Z<|Zqm Z Z<|?_;refine qai (t:=33) Z ?_ ?_<;>intro c13;·refine Zg Z Z<|Wb Y5<|Zg Z Z<|Wl 0 Y6<|Zg Z Z<|qad (qaR Z Z Z Z Z (w64 O O)) Z<|Zg Z Z<|Je Z Z Z (qdX D _ _ _ _ _) fun s14 h14=>Zg Z Z<|qbF Z Z<|ZqT Z Z Z<|Zn<|?_;refine qab (MidB.mk h14 Sb Z (qbp O))
  refine Wf Y4<|Wf Y4<|Wf Y4<|Wf Y4<|Wf Y4<|ZqF Z Z Z<|Zn<|?_;refine qab (MidB.mk (Lr D) Sb Z ((decide_eq_false O).symm))
 intro s12 h12;refine qaa Z ?_ ?_<;>intro c15;·refine Sr<|At Z Z<|Zo<|Zu<|?_;exact rR [_] L (.t1 Z) Z (e6.t h12) fun _ hS2=>qcF
 refine Zk<|Zt<|Zs<|?_;refine qa9 51 (g.kind=3∧g.num < (n:Int)) ?_ ?_
 ·refine Zr<|W0 Y5<|Wl 0 Y6<|qax Z Z Z<|Zqm Z Z<|?_;refine qai (t:=43) Z ?_ ?_<;>intro c17;·refine Zg Z Z<|Wb Y5<|Zg Z Z<|Wl 0 Y6<|Zg Z Z<|Ws Y4<|Zg Z Z<|Wb Y5<|Zg Z Z<|Wl 0 Y6<|Zg Z Z<|qad (qaR Z Z Z Z Z (w64 O O)) Z<|Zg Z Z<|qbl Z Z Z<|ZqT Z Z Z<|Zn<|?_;refine qab (MidB.mk (Lr D) Sb Z (decide_eq_decide.2 O))
  refine Wf Y4<|Wf Y4<|Wf Y4<|Wf Y4<|Wf Y4<|Wf Y4<|Wf Y4<|ZqF Z Z Z<|Zn<|?_;refine qab (MidB.mk (Lr D) Sb Z ((decide_eq_false O).symm))
 intro s16 h16;refine qaa Z ?_ ?_<;>intro c18;·refine Sr<|At Z Z<|Zo<|Zu<|?_;exact rR [_] L (.t1 Z) Z (e6.t h12|>.t h16) fun _ hS2=>qcF
 refine Zk<|Zt<|Sr<|At Z Z<|Zo<|?_;exact rR [_] L (.t1 Z) Z (e6.t h12|>.t h16) fun _ hS2=>qcF
def qwf(D:Nat)(L:Hl)(s:World)(x:Ex)(A:Option Addr)(n c:Nat)(hn:n=x.args.length)(hc:n≤9223372036854775807)(hl:x.name.length≤9223372036854775807):AC prog D 157 [.agg #[.int .i64 x.kind,.int .i64 x.op,.int .u32 x.num,St x.name,.slice A n c]] L s fun v L' _=>v=.int .i64 (exC x.kind x.op x.num x.name x.args.length)∧L=L':=by
 refine qae (fn:=f157) qav func157 V Z ntmps157 Z (rs:=[.tmp 2]) Z [(0,_)] Z<|Sr<|qay Z Z fun β1 s1 h1=>At Z Z<|Zs<|?_;refine qa9 31 (x.kind < 1∨7 < x.kind∨¬ ¬ ((x.kind=6∧(x.op < 1∨3 < x.op))∨(x.kind=7∧(x.op < 4∨21 < x.op)))) ?_ ?_
 ·refine Zr<|W0 Y5<|Wl 0 Y6<|Je Z Z Z (qdX D _ _ _ _ _) fun s3 h3=>qbF Z Z<|Zqm Z Z<|?_;refine qaI (t:=10) Z ?_ ?_<;>intro c4;·refine Wf Y4<|Wf Y4<|Wf Y4<|Wf Y4<|Zh Z Z Z<|Zh Z Z Z<|Zh Z Z Z<|Zh Z Z Z<|Wf Y4<|ZqT Z Z Z<|Zqm Z Z<|Wf Y4<|Wf Y4<|Wf Y4<|Wf Y4<|Zh Z Z Z<|Zh Z Z Z<|Zh Z Z Z<|Zh Z Z Z<|Wf Y4<|ZqT Z Z Z<|Zn<|?_;refine qab (MidB.mk h3 Sb Z ((decide_eq_true O).symm))
  refine Zg Z Z<|W0 Y5<|Zg Z Z<|Wl 0 Y6<|Zg Z Z<|qax Z Z Z<|Zg Z Z<|Zqm Z Z<|?_;refine qai (t:=14) Z ?_ ?_<;>intro c5
  ·refine Zg Z Z<|Wb Y5<|Zg Z Z<|Wl 0 Y6<|Zg Z Z<|Je Z Z Z (qdX D _ _ _ _ _) fun s6 h6=>Zg Z Z<|qbF Z Z<|Zg Z Z<|ZqT Z Z Z<|ZqF Z Z Z<|Zqm Z Z<|?_;refine qaI (t:=21) Z ?_ ?_<;>intro c7;·refine Wf Y4<|Wf Y4<|Wf Y4<|Wf Y4<|Zh Z Z Z<|Zh Z Z Z<|Zh Z Z Z<|Zh Z Z Z<|Wf Y4<|ZqT Z Z Z<|Zn<|?_;refine qab (MidB.mk (h3.t h6) Sb Z ((decide_eq_true O).symm))
   refine Zg Z Z<|W0 Y5<|Zg Z Z<|Wl 0 Y6<|Zg Z Z<|qax Z Z Z<|Zg Z Z<|Zqm Z Z<|?_;refine qai (t:=25) Z ?_ ?_<;>intro c8;·refine Zg Z Z<|Wb Y5<|Zg Z Z<|Wl 0 Y6<|Zg Z Z<|Je Z Z Z (qdX D _ _ _ _ _) fun s9 h9=>Zg Z Z<|qbF Z Z<|Zg Z Z<|ZqT Z Z Z<|ZqF Z Z Z<|Zn<|?_;refine qab (MidB.mk (h3.t h6|>.t h9) Sb Z (qbp O))
   refine Wf Y4<|Wf Y4<|Wf Y4<|Wf Y4<|Zg Z Z<|ZqF Z Z Z<|ZqF Z Z Z<|Zn<|?_;refine qab (MidB.mk (h3.t h6) Sb Z ((decide_eq_false O).symm))
  refine Wf Y4<|Wf Y4<|Wf Y4<|Wf Y4<|Zg Z Z<|ZqF Z Z Z<|ZqF Z Z Z<|Zqm Z Z<|Zg Z Z<|W0 Y5<|Zg Z Z<|Wl 0 Y6<|Zg Z Z<|qax Z Z Z<|Zg Z Z<|Zqm Z Z<|?_;refine qai (t:=25) Z ?_ ?_<;>intro c10;·refine Zg Z Z<|Wb Y5<|Zg Z Z<|Wl 0 Y6<|Zg Z Z<|Je Z Z Z (qdX D _ _ _ _ _) fun s11 h11=>Zg Z Z<|qbF Z Z<|Zg Z Z<|ZqT Z Z Z<|ZqF Z Z Z<|Zn<|?_;refine qab (MidB.mk (h3.t h11) Sb Z (qbp O))
  refine Wf Y4<|Wf Y4<|Wf Y4<|Wf Y4<|Zg Z Z<|ZqF Z Z Z<|ZqF Z Z Z<|Zn<|?_;refine qab (MidB.mk h3 Sb Z ((decide_eq_false O).symm))
 intro s2 h2;have e2:=h1.t h2;refine qaa Z ?_ ?_<;>intro c12;·have hE:=qyT hn c12;refine Sr<|At Z Z<|Zo<|Zu<|?_;exact rR [_] L (.t1 Z) Z e2 fun _ hS2=>qck
 have g5:=c12;refine Zk<|Zt<|Sr<|W0 Y5<|Wl 0 Y6<|Je Z Z Z (qdX D _ _ _ _ _) fun s13 h13=>At Z Z<|Zs<|?_;refine qa9 41 ((2≤x.kind∧x.kind≤4)∧qaY x.name=false) ?_ ?_
 ·refine Zr<|Zqm Z Z<|Zqm Z Z<|?_;refine qai (t:=36) Z ?_ ?_<;>intro c15;·refine Zg Z Z<|Wb Y5<|Zg Z Z<|Wl 0 Y6<|Zg Z Z<|Je Z Z Z (qdK D _ _ x.name hl) fun s16 h16=>Zg Z Z<|qbF Z Z<|ZqT Z Z Z<|Zn<|?_;refine qab (MidB.mk h16 Sb Z ((qlO As)))
  refine Wf Y4<|Wf Y4<|Wf Y4<|Wf Y4<|ZqF Z Z Z<|Zn<|?_;refine qab (MidB.mk (Lr D) Sb Z ((decide_eq_false (fun h=>absurd h.1 As)).symm))
 intro s14 h14;have e14:=e2.t h13|>.t h14;refine qaa Z ?_ ?_<;>intro c17;·have hE:=qyV hn g5 c17;refine Sr<|At Z Z<|Zo<|Zu<|?_;exact rR [_] L (.t1 Z) Z e14 fun _ hS2=>qck
 have g7:=c17;refine Zk<|Zt<|Sr<|At Z Z<|Sr<|At Z Z<|?_;refine qcH (γ:=Unit) (fun _=>[(4,.int .i64 (qcJ x.kind:Int)),(5,.int .i64 (qep x.kind:Int))]) [_] Z (fun g=>L) (fun g tw=>True) (fun _ _ _ h hl=>h) ?_ ?_
 ·refine qa9 49 (x.kind=3∨x.kind=6) ?_ ?_
  ·refine Zr<|W0 Y5<|Wl 0 Y6<|qax Z Z Z<|Zqm Z Z<|?_;refine qai (t:=45) Z ?_ ?_<;>intro c20;·refine Wf Y4<|Wf Y4<|Wf Y4<|ZqT Z Z Z<|Zn<|?_;refine qab (MidB.mk (Lr D) Sb Z ((decide_eq_true O).symm))
   refine Zg Z Z<|W0 Y5<|Zg Z Z<|Wl 0 Y6<|Zg Z Z<|qax Z Z Z<|ZqF Z Z Z<|Zn<|?_;refine qab (MidB.mk (Lr D) Sb Z (decide_eq_decide.2 O))
  intro s19 h19;refine qaa Z ?_ ?_<;>intro c21;·refine Sr<|At Z Z<|Zr<|Zqa Z Z<|Zn<|?_;refine qab (MidG.mk () [] h19 (.cons (by unfold qcJ;first|(rw [if_pos O];rfl)|(rw [if_neg O,if_pos O];rfl)|(rw [if_neg O,if_neg O,if_pos O];rfl)|(rw [if_neg O,if_neg O,if_neg O];rfl)|(rw [if_neg O,if_neg O];rfl)) (.cons (by unfold qep;first|(rw [if_pos O];rfl)|(rw [if_neg O,if_pos O];rfl)|(rw [if_neg O,if_neg O,if_pos O];rfl)|(rw [if_neg O,if_neg O,if_neg O];rfl)|(rw [if_neg O,if_neg O];rfl)) (.nil _))) So Pr Tt)
  refine Sr<|W0 Y5<|Wl 0 Y6<|qax Z Z Z<|Nt<|?_;refine qaa Z ?_ ?_<;>intro c22;·refine Zr<|Zqa Z Z<|Zn<|?_;refine qab (MidG.mk () [] h19 (.cons (by unfold qcJ;first|(rw [if_pos O];rfl)|(rw [if_neg O,if_pos O];rfl)|(rw [if_neg O,if_neg O,if_pos O];rfl)|(rw [if_neg O,if_neg O,if_neg O];rfl)|(rw [if_neg O,if_neg O];rfl)) (.cons (by unfold qep;first|(rw [if_pos O];rfl)|(rw [if_neg O,if_pos O];rfl)|(rw [if_neg O,if_neg O,if_pos O];rfl)|(rw [if_neg O,if_neg O,if_neg O];rfl)|(rw [if_neg O,if_neg O];rfl)) (.nil _))) So Pr Tt)
  refine Sr<|W0 Y5<|Wl 0 Y6<|qax Z Z Z<|Nt<|?_;refine qaa Z ?_ ?_<;>intro c23;·refine Sr<|At Z Z<|Zr<|Zqa Z Z<|Zn<|?_;refine qab (MidG.mk () [] h19 (.cons (by unfold qcJ;first|(rw [if_pos O];rfl)|(rw [if_neg O,if_pos O];rfl)|(rw [if_neg O,if_neg O,if_pos O];rfl)|(rw [if_neg O,if_neg O,if_neg O];rfl)|(rw [if_neg O,if_neg O];rfl)) (.cons (by unfold qep;first|(rw [if_pos O];rfl)|(rw [if_neg O,if_pos O];rfl)|(rw [if_neg O,if_neg O,if_pos O];rfl)|(rw [if_neg O,if_neg O,if_neg O];rfl)|(rw [if_neg O,if_neg O];rfl)) (.nil _))) So Pr Tt)
  refine Zk ?_;refine qab (MidG.mk () [] h19 (.cons (by unfold qcJ;first|(rw [if_pos O];rfl)|(rw [if_neg O,if_pos O];rfl)|(rw [if_neg O,if_neg O,if_pos O];rfl)|(rw [if_neg O,if_neg O,if_neg O];rfl)|(rw [if_neg O,if_neg O];rfl)) (.cons (by unfold qep;first|(rw [if_pos O];rfl)|(rw [if_neg O,if_pos O];rfl)|(rw [if_neg O,if_neg O,if_pos O];rfl)|(rw [if_neg O,if_neg O,if_neg O];rfl)|(rw [if_neg O,if_neg O];rfl)) (.nil _))) So Pr Tt)
 intro g s18 h18 I18;simp only [cQ9,nQ9];refine Zs ?_;refine qa9 91 ((¬ (2≤x.kind∧x.kind≤4)∧x.name≠[])∨(x.kind≠1∧x.num≠0)∨(¬ (x.kind=6∨x.kind=7)∧x.op≠0)∨n < qcJ x.kind∨qep x.kind < n) ?_ ?_
 ·refine Zr<|Zqm Z Z<|qbF Z Z<|Zqm Z Z<|?_;refine qaI (t:=58) Z ?_ ?_<;>intro c25
  ·refine Zg Z Z<|Wb Y5<|Zg Z Z<|Wl 0 Y6<|Zg Z Z<|quY Z Z Z<|ZqT Z Z Z<|Zqm Z Z<|?_;refine qaI (t:=63) Z ?_ ?_<;>intro c26;·refine Wf Y4<|Wf Y4<|Wf Y4<|Wf Y4<|Zh Z Z Z<|Zh Z Z Z<|Zh Z Z Z<|Wf Y4<|ZqT Z Z Z<|Zqm Z Z<|Wf Y4<|Wf Y4<|Wf Y4<|Wf Y4<|Zh Z Z Z<|Zh Z Z Z<|Zh Z Z Z<|Wf Y4<|ZqT Z Z Z<|Zqm Z Z<|Wf Y4<|Wf Y4<|Wf Y4<|Wf Y4<|Wf Y4<|Wf Y4<|Wf Y4<|ZqT Z Z Z<|Zn<|?_;refine qab (MidB.mk (Lr D) Sb Z ((decide_eq_true Og).symm))
   refine Zg Z Z<|W0 Y5<|Zg Z Z<|Wl 0 Y6<|Zg Z Z<|qcb Z Z Z<|Zg Z Z<|Zqm Z Z<|?_;refine qaI (t:=67) Z ?_ ?_<;>intro c27
   ·refine Zg Z Z<|Wb Y5<|Zg Z Z<|Wl 0 Y6<|Zg Z Z<|qcb Z Z Z<|Zg Z Z<|ZqT Z Z Z<|ZqF Z Z Z<|Zqm Z Z<|?_;refine qaI (t:=73) Z ?_ ?_<;>intro c28;·refine Wf Y4<|Wf Y4<|Wf Y4<|Wf Y4<|Zh Z Z Z<|Zh Z Z Z<|Zh Z Z Z<|Wf Y4<|ZqT Z Z Z<|Zqm Z Z<|Wf Y4<|Wf Y4<|Wf Y4<|Wf Y4<|Wf Y4<|Wf Y4<|Wf Y4<|ZqT Z Z Z<|Zn<|?_;refine qab (MidB.mk (Lr D) Sb Z ((decide_eq_true Og).symm))
    refine Zg Z Z<|W0 Y5<|Zg Z Z<|Wl 0 Y6<|Zg Z Z<|qa8 Z Z Z<|Zg Z Z<|Zqm Z Z<|?_;refine qai (t:=77) Z ?_ ?_<;>intro c29
    ·refine Zg Z Z<|Wb Y5<|Zg Z Z<|Wl 0 Y6<|Zg Z Z<|qcb Z Z Z<|Zg Z Z<|ZqT Z Z Z<|ZqF Z Z Z<|Zqm Z Z<|?_;refine qaI (t:=83) Z ?_ ?_<;>intro c30;·refine Wf Y4<|Wf Y4<|Wf Y4<|Wf Y4<|Wf Y4<|Wf Y4<|Wf Y4<|ZqT Z Z Z<|Zn<|?_;refine qab (MidB.mk (Lr D) Sb Z ((decide_eq_true Og).symm))
     refine Zg Z Z<|Wb Y5<|Zg Z Z<|Wl 0 Y6<|Zg Z Z<|Ws Y4<|Zg Z Z<|Zqm Z Z<|Zg Z Z<|Zqm Z Z<|Zg Z Z<|Je Z Z Z (qdX D _ _ _ _ _) fun s31 h31=>Zg Z Z<|qbF Z Z<|ZqF Z Z Z<|Zn<|?_;refine qab (MidB.mk h31 Sb Z (qbp Og))
    refine Wf Y4<|Wf Y4<|Wf Y4<|Zg Z Z<|ZqF Z Z Z<|ZqF Z Z Z<|Zqm Z Z<|Zg Z Z<|Wb Y5<|Zg Z Z<|Wl 0 Y6<|Zg Z Z<|Ws Y4<|Zg Z Z<|Zqm Z Z<|Zg Z Z<|Zqm Z Z<|Zg Z Z<|Je Z Z Z (qdX D _ _ _ _ _) fun s32 h32=>Zg Z Z<|qbF Z Z<|ZqF Z Z Z<|Zn<|?_;refine qab (MidB.mk h32 Sb Z (qbp Og))
   refine Wf Y4<|Wf Y4<|Wf Y4<|Zg Z Z<|ZqF Z Z Z<|ZqF Z Z Z<|Zqm Z Z<|Zg Z Z<|W0 Y5<|Zg Z Z<|Wl 0 Y6<|Zg Z Z<|qa8 Z Z Z<|Zg Z Z<|Zqm Z Z<|?_;refine qai (t:=77) Z ?_ ?_<;>intro c33
   ·refine Zg Z Z<|Wb Y5<|Zg Z Z<|Wl 0 Y6<|Zg Z Z<|qcb Z Z Z<|Zg Z Z<|ZqT Z Z Z<|ZqF Z Z Z<|Zqm Z Z<|?_;refine qaI (t:=83) Z ?_ ?_<;>intro c34;·refine Wf Y4<|Wf Y4<|Wf Y4<|Wf Y4<|Wf Y4<|Wf Y4<|Wf Y4<|ZqT Z Z Z<|Zn<|?_;refine qab (MidB.mk (Lr D) Sb Z ((decide_eq_true Og).symm))
    refine Zg Z Z<|Wb Y5<|Zg Z Z<|Wl 0 Y6<|Zg Z Z<|Ws Y4<|Zg Z Z<|Zqm Z Z<|Zg Z Z<|Zqm Z Z<|Zg Z Z<|Je Z Z Z (qdX D _ _ _ _ _) fun s35 h35=>Zg Z Z<|qbF Z Z<|ZqF Z Z Z<|Zn<|?_;refine qab (MidB.mk h35 Sb Z (qbp Og))
   refine Wf Y4<|Wf Y4<|Wf Y4<|Zg Z Z<|ZqF Z Z Z<|ZqF Z Z Z<|Zqm Z Z<|Zg Z Z<|Wb Y5<|Zg Z Z<|Wl 0 Y6<|Zg Z Z<|Ws Y4<|Zg Z Z<|Zqm Z Z<|Zg Z Z<|Zqm Z Z<|Zg Z Z<|Je Z Z Z (qdX D _ _ _ _ _) fun s36 h36=>Zg Z Z<|qbF Z Z<|ZqF Z Z Z<|Zn<|?_;refine qab (MidB.mk h36 Sb Z (qbp Og))
  refine Wf Y4<|Wf Y4<|Wf Y4<|ZqF Z Z Z<|Zqm Z Z<|Zg Z Z<|W0 Y5<|Zg Z Z<|Wl 0 Y6<|Zg Z Z<|qcb Z Z Z<|Zg Z Z<|Zqm Z Z ?_;refine qaI (t:=67) Z ?_ ?_<;>intro c37
  ·refine Zg Z Z<|Wb Y5<|Zg Z Z<|Wl 0 Y6<|Zg Z Z<|qcb Z Z Z<|Zg Z Z<|ZqT Z Z Z<|ZqF Z Z Z<|Zqm Z Z<|?_;refine qaI (t:=73) Z ?_ ?_<;>intro c38;·refine Wf Y4<|Wf Y4<|Wf Y4<|Wf Y4<|Zh Z Z Z<|Zh Z Z Z<|Zh Z Z Z<|Wf Y4<|ZqT Z Z Z<|Zqm Z Z<|Wf Y4<|Wf Y4<|Wf Y4<|Wf Y4<|Wf Y4<|Wf Y4<|Wf Y4<|ZqT Z Z Z<|Zn<|?_;refine qab (MidB.mk (Lr D) Sb Z ((decide_eq_true Og).symm))
   refine Zg Z Z<|W0 Y5<|Zg Z Z<|Wl 0 Y6<|Zg Z Z<|qa8 Z Z Z<|Zg Z Z<|Zqm Z Z<|?_;refine qai (t:=77) Z ?_ ?_<;>intro c39
   ·refine Zg Z Z<|Wb Y5<|Zg Z Z<|Wl 0 Y6<|Zg Z Z<|qcb Z Z Z<|Zg Z Z<|ZqT Z Z Z<|ZqF Z Z Z<|Zqm Z Z<|?_;refine qaI (t:=83) Z ?_ ?_<;>intro c40;·refine Wf Y4<|Wf Y4<|Wf Y4<|Wf Y4<|Wf Y4<|Wf Y4<|Wf Y4<|ZqT Z Z Z<|Zn<|?_;refine qab (MidB.mk (Lr D) Sb Z ((decide_eq_true Og).symm))
    refine Zg Z Z<|Wb Y5<|Zg Z Z<|Wl 0 Y6<|Zg Z Z<|Ws Y4<|Zg Z Z<|Zqm Z Z<|Zg Z Z<|Zqm Z Z<|Zg Z Z<|Je Z Z Z (qdX D _ _ _ _ _) fun s41 h41=>Zg Z Z<|qbF Z Z<|ZqF Z Z Z<|Zn<|?_;refine qab (MidB.mk h41 Sb Z (qbp Og))
   refine Wf Y4<|Wf Y4<|Wf Y4<|Zg Z Z<|ZqF Z Z Z<|ZqF Z Z Z<|Zqm Z Z<|Zg Z Z<|Wb Y5<|Zg Z Z<|Wl 0 Y6<|Zg Z Z<|Ws Y4<|Zg Z Z<|Zqm Z Z<|Zg Z Z<|Zqm Z Z<|Zg Z Z<|Je Z Z Z (qdX D _ _ _ _ _) fun s42 h42=>Zg Z Z<|qbF Z Z<|ZqF Z Z Z<|Zn<|?_;refine qab (MidB.mk h42 Sb Z (qbp Og))
  refine Wf Y4<|Wf Y4<|Wf Y4<|Zg Z Z<|ZqF Z Z Z<|ZqF Z Z Z<|Zqm Z Z<|Zg Z Z<|W0 Y5<|Zg Z Z<|Wl 0 Y6<|Zg Z Z<|qa8 Z Z Z<|Zg Z Z<|Zqm Z Z<|?_;refine qai (t:=77) Z ?_ ?_<;>intro c43
  ·refine Zg Z Z<|Wb Y5<|Zg Z Z<|Wl 0 Y6<|Zg Z Z<|qcb Z Z Z<|Zg Z Z<|ZqT Z Z Z<|ZqF Z Z Z<|Zqm Z Z<|?_;refine qaI (t:=83) Z ?_ ?_<;>intro c44;·refine Wf Y4<|Wf Y4<|Wf Y4<|Wf Y4<|Wf Y4<|Wf Y4<|Wf Y4<|ZqT Z Z Z<|Zn<|?_;refine qab (MidB.mk (Lr D) Sb Z ((decide_eq_true Og).symm))
   refine Zg Z Z<|Wb Y5<|Zg Z Z<|Wl 0 Y6<|Zg Z Z<|Ws Y4<|Zg Z Z<|Zqm Z Z<|Zg Z Z<|Zqm Z Z<|Zg Z Z<|Je Z Z Z (qdX D _ _ _ _ _) fun s45 h45=>Zg Z Z<|qbF Z Z<|ZqF Z Z Z<|Zn<|?_;refine qab (MidB.mk h45 Sb Z (qbp Og))
  refine Wf Y4<|Wf Y4<|Wf Y4<|Zg Z Z<|ZqF Z Z Z<|ZqF Z Z Z<|Zqm Z Z<|Zg Z Z<|Wb Y5<|Zg Z Z<|Wl 0 Y6<|Zg Z Z<|Ws Y4<|Zg Z Z<|Zqm Z Z<|Zg Z Z<|Zqm Z Z<|Zg Z Z<|Je Z Z Z (qdX D _ _ _ _ _) fun s46 h46=>Zg Z Z<|qbF Z Z<|ZqF Z Z Z<|Zn<|?_;refine qab (MidB.mk h46 Sb Z (qbp Og))
 intro s24 h24;refine qaa Z ?_ ?_<;>intro c47;·have hE:=qyU hn g5 g7 c47;refine Sr<|At Z Z<|Zo<|Zu<|?_;exact rR [_] L (.t1 Z) Z (e14.t h18|>.t h24) fun _ hS2=>qck
 have hE:=qyS hn g5 g7 c47;refine Zk<|Zt<|Sr<|At Z Z<|Zo<|?_;exact rR [_] L (.t1 Z) Z (e14.t h18|>.t h24) fun _ hS2=>qck
def qwh(D:Nat)(L:Hl)(s:World)(x:Stm)(A1 A2 A3:Option Addr)(n1 q1 n2 q2 n3 q3:Nat)(hn1:n1=x.exprs.length)(hn2:n2=x.body.length)(hn3:n3=x.els.length)(hc1:n1≤9223372036854775807)(hl:x.name.length≤9223372036854775807):AC prog D 119 [.agg #[.int .i64 x.kind,St x.name,.slice A1 n1 q1,.slice A2 n2 q2,.slice A3 n3 q3]] L s fun v L' _=>v=.int .i64 (stC x.kind x.name x.exprs.length x.body.length x.els.length)∧L=L':=by
 refine qae (fn:=f119) qav func119 V Z ntmps119 Z (rs:=[.tmp 2]) Z [(0,_)] Z<|Sr<|qay Z Z fun β1 s1 h1=>At Z Z<|Zs<|Sr<|W0 Y5<|Wl 0 Y6<|Je Z Z Z (qdX D _ _ _ _ _) fun s2 h2=>qbF Z Z<|Nt<|?_;have e2:=h1.t h2;refine qaM Z ?_ ?_<;>intro c3;·have hE:=qzN (a:=x.exprs.length) (b:=x.body.length) (c:=x.els.length) (show x.kind < 1∨10 < x.kind by omega);refine Sr<|At Z Z<|Zo<|Zu<|?_;exact rR [_] L (.t1 Z) Z e2 fun _ hS2=>qck
 have g5:¬ (x.kind < 1∨10 < x.kind):=by omega
 refine Zk<|Zt<|?_;refine qa9 3 (x.kind=1∨x.kind=2∨x.kind=5) ?_ ?_
 ·refine Zr<|W0 Y5<|Wl 0 Y6<|qax Z Z Z<|Zqm Z Z<|?_;refine qai (t:=13) Z ?_ ?_<;>intro c5;·refine Wf Y4<|Wf Y4<|Wf Y4<|ZqT Z Z Z<|Zqm Z Z<|Wf Y4<|Wf Y4<|Wf Y4<|ZqT Z Z Z<|Zqa Z Z<|Zn<|?_;refine qab (MidB.mk (Lr D) Sb Z ((decide_eq_true O).symm))
  refine Zg Z Z<|W0 Y5<|Zg Z Z<|Wl 0 Y6<|Zg Z Z<|qax Z Z Z<|ZqF Z Z Z<|Zqm Z Z<|?_;refine qai (t:=18) Z ?_ ?_<;>intro c6;·refine Wf Y4<|Wf Y4<|Wf Y4<|ZqT Z Z Z<|Zqa Z Z<|Zn<|?_;refine qab (MidB.mk (Lr D) Sb Z ((decide_eq_true O).symm))
  refine Zg Z Z<|W0 Y5<|Zg Z Z<|Wl 0 Y6<|Zg Z Z<|qax Z Z Z<|ZqF Z Z Z<|Zqa Z Z<|Zn<|?_;refine qab (MidB.mk (Lr D) Sb Z (decide_eq_decide.2 O))
 intro s4 h4;refine Zs ?_;refine qa9 29 (qda x.kind=true∧qaY x.name=false) ?_ ?_
 ·refine Zr<|Zqm Z Z<|Zqm Z Z<|?_;refine qai (t:=24) Z ?_ ?_<;>intro c8;·refine Zg Z Z<|Wb Y5<|Zg Z Z<|Wl 0 Y6<|Zg Z Z<|Je Z Z Z (qdK D _ _ x.name hl) fun s9 h9=>Zg Z Z<|qbF Z Z<|ZqT Z Z Z<|Zn<|?_;refine qab (MidB.mk h9 Sb Z ((qlO (namedS_iff.2 As))))
  refine Wf Y4<|Wf Y4<|Wf Y4<|Wf Y4<|ZqF Z Z Z<|Zn<|?_;refine qab (MidB.mk (Lr D) Sb Z ((decide_eq_false (fun h=>absurd (namedS_iff.1 h.1) As)).symm))
 intro s7 h7;have e7:=e2.t h4|>.t h7;refine qaa Z ?_ ?_<;>intro c10;·have hE:=qzP (a:=x.exprs.length) (b:=x.body.length) (c:=x.els.length) g5 c10;refine Sr<|At Z Z<|Zo<|Zu<|?_;exact rR [_] L (.t1 Z) Z e7 fun _ hS2=>qck
 have g7:=c10;refine Zk<|Zt<|Sr<|At Z Z<|Sr<|At Z Z<|?_;refine qcH (γ:=Unit) (fun _=>[(4,.int .i64 (qdu x.kind:Int)),(5,.int .i64 (qd0 x.kind:Int))]) [_] Z (fun g=>L) (fun g tw=>True) (fun _ _ _ h hl=>h) ?_ ?_
 ·refine Sr<|W0 Y5<|Wl 0 Y6<|qax Z Z Z<|Nt<|?_;refine qaa Z ?_ ?_<;>intro c12;·refine Sr<|At Z Z<|Zr<|Zqa Z Z<|Zn<|?_;refine qab (MidG.mk () [] (Lr D) (.cons (by unfold qdu;first|(rw [if_pos O];rfl)|(rw [if_neg O,if_pos O];rfl)|(rw [if_neg O,if_neg O,if_pos O];rfl)|(rw [if_neg O,if_neg O,if_neg O];rfl)|(rw [if_neg O,if_neg O];rfl)) (.cons (by unfold qd0;first|(rw [if_pos O];rfl)|(rw [if_neg O,if_pos O];rfl)|(rw [if_neg O,if_neg O,if_pos O];rfl)|(rw [if_neg O,if_neg O,if_neg O];rfl)|(rw [if_neg O,if_neg O];rfl)) (.nil _))) So Pr Tt)
  refine Sr<|W0 Y5<|Wl 0 Y6<|qax Z Z Z<|Nt<|?_;refine qaa Z ?_ ?_<;>intro c13;·refine Sr<|At Z Z<|Zr<|Zqa Z Z<|Zn<|?_;refine qab (MidG.mk () [] (Lr D) (.cons (by unfold qdu;first|(rw [if_pos O];rfl)|(rw [if_neg O,if_pos O];rfl)|(rw [if_neg O,if_neg O,if_pos O];rfl)|(rw [if_neg O,if_neg O,if_neg O];rfl)|(rw [if_neg O,if_neg O];rfl)) (.cons (by unfold qd0;first|(rw [if_pos O];rfl)|(rw [if_neg O,if_pos O];rfl)|(rw [if_neg O,if_neg O,if_pos O];rfl)|(rw [if_neg O,if_neg O,if_neg O];rfl)|(rw [if_neg O,if_neg O];rfl)) (.nil _))) So Pr Tt)
  refine Sr<|W0 Y5<|Wl 0 Y6<|qbl Z Z Z<|Nt<|?_;refine qaa Z ?_ ?_<;>intro c14;·refine Sr<|At Z Z<|Zr<|Zqa Z Z<|Zn<|?_;refine qab (MidG.mk () [] (Lr D) (.cons (by unfold qdu;first|(rw [if_pos O];rfl)|(rw [if_neg O,if_pos O];rfl)|(rw [if_neg O,if_neg O,if_pos O];rfl)|(rw [if_neg O,if_neg O,if_neg O];rfl)|(rw [if_neg O,if_neg O];rfl)) (.cons (by unfold qd0;first|(rw [if_pos O];rfl)|(rw [if_neg O,if_pos O];rfl)|(rw [if_neg O,if_neg O,if_pos O];rfl)|(rw [if_neg O,if_neg O,if_neg O];rfl)|(rw [if_neg O,if_neg O];rfl)) (.nil _))) So Pr Tt)
  refine Zk ?_;refine qab (MidG.mk () [] (Lr D) (.cons (by unfold qdu;first|(rw [if_pos O];rfl)|(rw [if_neg O,if_pos O];rfl)|(rw [if_neg O,if_neg O,if_pos O];rfl)|(rw [if_neg O,if_neg O,if_neg O];rfl)|(rw [if_neg O,if_neg O];rfl)) (.cons (by unfold qd0;first|(rw [if_pos O];rfl)|(rw [if_neg O,if_pos O];rfl)|(rw [if_neg O,if_neg O,if_pos O];rfl)|(rw [if_neg O,if_neg O,if_neg O];rfl)|(rw [if_neg O,if_neg O];rfl)) (.nil _))) So Pr Tt)
 intro g s11 h11 I11;simp only [cQ9,nQ9];refine Zs ?_;refine qa9 81 ((¬ (x.kind=1∨x.kind=2∨x.kind=5)∧x.name≠[])∨(¬ (x.kind=3∨x.kind=4)∧0 < n2)∨(¬ x.kind=3∧0 < n3)∨n1 < qdu x.kind∨qd0 x.kind < n1) ?_ ?_
 ·refine Zr<|Zqm Z Z<|qbF Z Z<|Zqm Z Z<|?_;refine qaI (t:=41) Z ?_ ?_<;>intro c16
  ·refine Zg Z Z<|Wb Y5<|Zg Z Z<|Wl 0 Y6<|Zg Z Z<|quY Z Z Z<|ZqT Z Z Z<|Zqm Z Z<|?_;refine qaI (t:=46) Z ?_ ?_<;>intro c17;·refine Wf Y4<|Wf Y4<|Wf Y4<|Wf Y4<|Wf Y4<|Wf Y4<|Wf Y4<|ZqT Z Z Z<|Zqm Z Z<|Wf Y4<|Wf Y4<|Wf Y4<|Wf Y4<|Wf Y4<|Zh Z Z Z<|Zh Z Z Z<|Zh Z Z Z<|Wf Y4<|Wf Y4<|Zh Z Z Z<|Zh Z Z Z<|Zh Z Z Z<|Wf Y4<|ZqT Z Z Z<|Zqm Z Z<|Wf Y4<|Wf Y4<|Wf Y4<|Wf Y4<|Wf Y4<|Zh Z Z Z<|Zh Z Z Z<|Zh Z Z Z<|Wf Y4<|ZqT Z Z Z<|Zn<|?_;refine qab (MidB.mk (Lr D) Sb Z ((decide_eq_true Og).symm))
   refine Zg Z Z<|Wb Y5<|Zg Z Z<|Wl 0 Y6<|Zg Z Z<|Ws Y4<|Zg Z Z<|Zqm Z Z<|Zg Z Z<|Zqm Z Z<|Zg Z Z<|Je Z Z Z (qdX D _ _ _ _ _) fun s18 h18=>Zg Z Z<|qbF Z Z<|ZqF Z Z Z<|Zqm Z Z<|?_;refine qaI (t:=55) Z ?_ ?_<;>intro c19;·refine Wf Y4<|Wf Y4<|Wf Y4<|Wf Y4<|Wf Y4<|Zh Z Z Z<|Zh Z Z Z<|Zh Z Z Z<|Wf Y4<|Wf Y4<|Zh Z Z Z<|Zh Z Z Z<|Zh Z Z Z<|Wf Y4<|ZqT Z Z Z<|Zqm Z Z<|Wf Y4<|Wf Y4<|Wf Y4<|Wf Y4<|Wf Y4<|Zh Z Z Z<|Zh Z Z Z<|Zh Z Z Z<|Wf Y4<|ZqT Z Z Z<|Zn<|?_;refine qab (MidB.mk h18 Sb Z ((decide_eq_true Og).symm))
   refine Zg Z Z<|Wb Y5<|Zg Z Z<|Wl 0 Y6<|Zg Z Z<|Ws Y4<|Zg Z Z<|qbl Z Z Z<|Zg Z Z<|Zqm Z Z<|?_;refine qai (t:=60) Z ?_ ?_<;>intro c20
   ·refine Zg Z Z<|W0 Y5<|Zg Z Z<|Wl 0 Y6<|Zg Z Z<|qcb Z Z Z<|Zg Z Z<|ZqT Z Z Z<|Zg Z Z<|Zqm Z Z<|?_;refine qaI (t:=65) Z ?_ ?_<;>intro c21
    ·refine Zg Z Z<|W0 Y5<|Zg Z Z<|Wl 0 Y6<|Zg Z Z<|qcb Z Z Z<|Zg Z Z<|ZqT Z Z Z<|ZqF Z Z Z<|Zqm Z Z<|?_;refine qaI (t:=71) Z ?_ ?_<;>intro c22;·refine Wf Y4<|Wf Y4<|Wf Y4<|Wf Y4<|Wf Y4<|Zh Z Z Z<|Zh Z Z Z<|Zh Z Z Z<|Wf Y4<|ZqT Z Z Z<|Zn<|?_;refine qab (MidB.mk h18 Sb Z ((decide_eq_true Og).symm))
     refine Zg Z Z<|Wb Y5<|Zg Z Z<|Wl 0 Y6<|Zg Z Z<|Ws Y4<|Zg Z Z<|qbl Z Z Z<|Zg Z Z<|Zqm Z Z<|?_;refine qai (t:=76) Z ?_ ?_<;>intro c23;·refine Zg Z Z<|W0 Y5<|Zg Z Z<|Wl 0 Y6<|Zg Z Z<|qcb Z Z Z<|Zg Z Z<|ZqT Z Z Z<|ZqF Z Z Z<|Zn<|?_;refine qab (MidB.mk h18 Sb Z (qbp Og))
     refine Wf Y4<|Wf Y4<|Wf Y4<|Zg Z Z<|ZqF Z Z Z<|ZqF Z Z Z<|Zn<|?_;refine qab (MidB.mk h18 Sb Z ((decide_eq_false Og).symm))
    refine Wf Y4<|Wf Y4<|Wf Y4<|Zg Z Z<|ZqF Z Z Z<|ZqF Z Z Z<|Zqm Z Z<|Zg Z Z<|Wb Y5<|Zg Z Z<|Wl 0 Y6<|Zg Z Z<|Ws Y4<|Zg Z Z<|qbl Z Z Z<|Zg Z Z<|Zqm Z Z<|?_;refine qai (t:=76) Z ?_ ?_<;>intro c24;·refine Zg Z Z<|W0 Y5<|Zg Z Z<|Wl 0 Y6<|Zg Z Z<|qcb Z Z Z<|Zg Z Z<|ZqT Z Z Z<|ZqF Z Z Z<|Zn<|?_;refine qab (MidB.mk h18 Sb Z (qbp Og))
    refine Wf Y4<|Wf Y4<|Wf Y4<|Zg Z Z<|ZqF Z Z Z<|ZqF Z Z Z<|Zn<|?_;refine qab (MidB.mk h18 Sb Z ((decide_eq_false Og).symm))
   refine Wf Y4<|Wf Y4<|Wf Y4<|Zg Z Z<|ZqF Z Z Z<|Zg Z Z<|Zqm Z Z<|Wf Y4<|Wf Y4<|Wf Y4<|Zg Z Z<|ZqF Z Z Z<|ZqF Z Z Z<|Zqm Z Z<|Zg Z Z<|Wb Y5<|Zg Z Z<|Wl 0 Y6<|Zg Z Z<|Ws Y4<|Zg Z Z<|qbl Z Z Z<|Zg Z Z<|Zqm Z Z<|?_;refine qai (t:=76) Z ?_ ?_<;>intro c25;·refine Zg Z Z<|W0 Y5<|Zg Z Z<|Wl 0 Y6<|Zg Z Z<|qcb Z Z Z<|Zg Z Z<|ZqT Z Z Z<|ZqF Z Z Z<|Zn<|?_;refine qab (MidB.mk h18 Sb Z (qbp Og))
   refine Wf Y4<|Wf Y4<|Wf Y4<|Zg Z Z<|ZqF Z Z Z<|ZqF Z Z Z<|Zn<|?_;refine qab (MidB.mk h18 Sb Z ((decide_eq_false Og).symm))
  refine Wf Y4<|Wf Y4<|Wf Y4<|ZqF Z Z Z<|Zqm Z Z<|Zg Z Z<|Wb Y5<|Zg Z Z<|Wl 0 Y6<|Zg Z Z<|Ws Y4<|Zg Z Z<|Zqm Z Z<|Zg Z Z<|Zqm Z Z<|Zg Z Z<|Je Z Z Z (qdX D _ _ _ _ _) fun s26 h26=>Zg Z Z<|qbF Z Z<|ZqF Z Z Z<|Zqm Z Z<|?_;refine qaI (t:=55) Z ?_ ?_<;>intro c27;·refine Wf Y4<|Wf Y4<|Wf Y4<|Wf Y4<|Wf Y4<|Zh Z Z Z<|Zh Z Z Z<|Zh Z Z Z<|Wf Y4<|Wf Y4<|Zh Z Z Z<|Zh Z Z Z<|Zh Z Z Z<|Wf Y4<|ZqT Z Z Z<|Zqm Z Z<|Wf Y4<|Wf Y4<|Wf Y4<|Wf Y4<|Wf Y4<|Zh Z Z Z<|Zh Z Z Z<|Zh Z Z Z<|Wf Y4<|ZqT Z Z Z<|Zn<|?_;refine qab (MidB.mk h26 Sb Z ((decide_eq_true Og).symm))
  refine Zg Z Z<|Wb Y5<|Zg Z Z<|Wl 0 Y6<|Zg Z Z<|Ws Y4<|Zg Z Z<|qbl Z Z Z<|Zg Z Z<|Zqm Z Z<|?_;refine qai (t:=60) Z ?_ ?_<;>intro c28
  ·refine Zg Z Z<|W0 Y5<|Zg Z Z<|Wl 0 Y6<|Zg Z Z<|qcb Z Z Z<|Zg Z Z<|ZqT Z Z Z<|Zg Z Z<|Zqm Z Z<|?_;refine qaI (t:=65) Z ?_ ?_<;>intro c29
   ·refine Zg Z Z<|W0 Y5<|Zg Z Z<|Wl 0 Y6<|Zg Z Z<|qcb Z Z Z<|Zg Z Z<|ZqT Z Z Z<|ZqF Z Z Z<|Zqm Z Z<|?_;refine qaI (t:=71) Z ?_ ?_<;>intro c30;·refine Wf Y4<|Wf Y4<|Wf Y4<|Wf Y4<|Wf Y4<|Zh Z Z Z<|Zh Z Z Z<|Zh Z Z Z<|Wf Y4<|ZqT Z Z Z<|Zn<|?_;refine qab (MidB.mk h26 Sb Z ((decide_eq_true Og).symm))
    refine Zg Z Z<|Wb Y5<|Zg Z Z<|Wl 0 Y6<|Zg Z Z<|Ws Y4<|Zg Z Z<|qbl Z Z Z<|Zg Z Z<|Zqm Z Z<|?_;refine qai (t:=76) Z ?_ ?_<;>intro c31;·refine Zg Z Z<|W0 Y5<|Zg Z Z<|Wl 0 Y6<|Zg Z Z<|qcb Z Z Z<|Zg Z Z<|ZqT Z Z Z<|ZqF Z Z Z<|Zn<|?_;refine qab (MidB.mk h26 Sb Z (qbp Og))
    refine Wf Y4<|Wf Y4<|Wf Y4<|Zg Z Z<|ZqF Z Z Z<|ZqF Z Z Z<|Zn<|?_;refine qab (MidB.mk h26 Sb Z ((decide_eq_false Og).symm))
   refine Wf Y4<|Wf Y4<|Wf Y4<|Zg Z Z<|ZqF Z Z Z<|ZqF Z Z Z<|Zqm Z Z<|Zg Z Z<|Wb Y5<|Zg Z Z<|Wl 0 Y6<|Zg Z Z<|Ws Y4<|Zg Z Z<|qbl Z Z Z<|Zg Z Z<|Zqm Z Z<|?_;refine qai (t:=76) Z ?_ ?_<;>intro c32;·refine Zg Z Z<|W0 Y5<|Zg Z Z<|Wl 0 Y6<|Zg Z Z<|qcb Z Z Z<|Zg Z Z<|ZqT Z Z Z<|ZqF Z Z Z<|Zn<|?_;refine qab (MidB.mk h26 Sb Z (qbp Og))
   refine Wf Y4<|Wf Y4<|Wf Y4<|Zg Z Z<|ZqF Z Z Z<|ZqF Z Z Z<|Zn<|?_;refine qab (MidB.mk h26 Sb Z ((decide_eq_false Og).symm))
  refine Wf Y4<|Wf Y4<|Wf Y4<|Zg Z Z<|ZqF Z Z Z<|Zg Z Z<|Zqm Z Z<|Wf Y4<|Wf Y4<|Wf Y4<|Zg Z Z<|ZqF Z Z Z<|ZqF Z Z Z<|Zqm Z Z<|Zg Z Z<|Wb Y5<|Zg Z Z<|Wl 0 Y6<|Zg Z Z<|Ws Y4<|Zg Z Z<|qbl Z Z Z<|Zg Z Z<|Zqm Z Z<|?_;refine qai (t:=76) Z ?_ ?_<;>intro c33;·refine Zg Z Z<|W0 Y5<|Zg Z Z<|Wl 0 Y6<|Zg Z Z<|qcb Z Z Z<|Zg Z Z<|ZqT Z Z Z<|ZqF Z Z Z<|Zn<|?_;refine qab (MidB.mk h26 Sb Z (qbp Og))
  refine Wf Y4<|Wf Y4<|Wf Y4<|Zg Z Z<|ZqF Z Z Z<|ZqF Z Z Z<|Zn<|?_;refine qab (MidB.mk h26 Sb Z ((decide_eq_false Og).symm))
 intro s15 h15;refine qaa Z ?_ ?_<;>intro c34;·have hE:=qzO hn1 hn2 hn3 g5 g7 (by rw [qhV];exact c34);refine Sr<|At Z Z<|Zo<|Zu<|?_;exact rR [_] L (.t1 Z) Z (e7.t h11|>.t h15) fun _ hS2=>qck
 have hE:=qzM hn1 hn2 hn3 g5 g7 (by rw [qhV];exact c34);refine Zk<|Zt<|Sr<|At Z Z<|Zo<|?_;exact rR [_] L (.t1 Z) Z (e7.t h11|>.t h15) fun _ hS2=>qck
def RXC(D d:Nat):Prop:=∀ (L:Hl) (s:World) (lv c:Nat) (A:Option Addr) (n cc:Nat) (l:List Ex),Exs d s A n cc l→c≤2000→lv≤17→AC prog D 120 [.slice A n cc,.int .i64 (lv:Int),.int .i64 (c:Int)] L s fun v L' _=>v=.tuple #[.int .i64 ((qcE l lv c).1:Int),.int .i64 (qcE l lv c).2]∧L=L'
def RSC(D d:Nat):Prop:=∀ (L:Hl) (s:World) (lv c:Nat) (A:Option Addr) (n cc:Nat) (l:List Stm),Stms d s A n cc l→c≤2000→lv≤17→AC prog D 83 [.slice A n cc,.int .i64 (lv:Int),.int .i64 (c:Int)] L s fun v L' _=>v=.tuple #[.int .i64 ((qci l lv c).1:Int),.int .i64 (qci l lv c).2]∧L=L'
def qeL{l:List Ex}{lv c:Nat}(hc:c≤2000)(h:(qcE l lv c).2=0):(qcE l lv c).1≤2000:=by
 have hw:=qf8 l lv c h;rw [hw.2.1];rcases hw.2.2 with h|h<;>omega
def qeK{l:List Stm}{lv c:Nat}(hc:c≤2000)(h:(qci l lv c).2=0):(qci l lv c).1≤2000:=by
 have hw:=qd5 l lv c h;rw [hw.2.1];rcases hw.2.2 with h|h<;>omega
def qAv{p:Prop} (h:p:=by
 rw [hS,qhl hx,if_pos gE,hE];exact ⟨rfl,rfl⟩):p:=h
def ql1(D d:Nat)(ih:∀ e,d=e+1→RXC D e)(L:Hl)(s:World)(lv c:Nat)(A:Option Addr)(n cc:Nat)(l:List Ex)(hA:Exs d s A n cc l)(hc:c≤2000)(hlv:lv≤17):AC prog D 120 [.slice A n cc,.int .i64 (lv:Int),.int .i64 (c:Int)] L s fun v L' _=>v=.tuple #[.int .i64 ((qcE l lv c).1:Int),.int .i64 (qcE l lv c).2]∧L=L':=by
 have hn:=hA.1;have hc1:=hA.2.1;have hc2:=hA.2.2.1;refine qae (fn:=f120) qav func120 V Z ntmps120 Z (rs:=[.tmp 6,.tmp 7]) Z [(0,_),(1,_),(2,_)] Z<|Sr<|Zqa Z Z<|At Z Z<|Zs<|Sr<|At Z Z<|Zp ?_;refine qaA (γ:=Nat×Nat) (fun g=>[(0,_),(1,_),(2,.int .i64 (g.2:Int)),(6,_),(7,_),(8,.int .i64 (g.1:Int))]) (fun _=>_) (fun g tw=>Le D s tw∧(g.1≤n∧g.2≤2000∧qcE l lv c=qcE (l.drop g.1) lv g.2)) (fun g=>n - g.1) (fun _ _ _ h hl=>⟨h.1.trans hl,h.2⟩) (0,c) (.c6 Z Z Z Z Z Z (.nil _)) Z ⟨Le.refl _,⟨Nat.zero_le _,hc,Z⟩⟩ ?_;intro g s1 I1;obtain ⟨k,ck⟩:=g;obtain ⟨hk0,hck,hS⟩:=I1.2;simp only at hk0 hck hS;dsimp only;refine Zs<|Sr<|Zqm Z Z<|Zqm Z Z<|Ws Y4<|qa8 Z Z Z<|Nt<|?_;refine qaa Z ?_ ?_<;>intro c2
 ·have hk:k < n:=by omega
  obtain ⟨e,b,off,x,A',n',c',hd,rfl,hx,hcx,hax,hux,hnl⟩:=Exs.at_ (hA.le I1.1) hk;have hn':=hax.1;have hq':=hax.2.2.1;have hq2':=hax.2.1;refine Zk<|Zt<|Zs<|Zp<|Sr<|Zqm Z Z<|qad (qaC Z Z (show IntKind.i64.wrap ((ck:Int)+1)=((ck+1:Nat):Int) by rw [w64 O O];simp)) Z<|At Z Z<|Zs<|?_;refine qa9 23 (16 < lv∨2000 < ck+1) ?_ ?_
  ·refine Zr<|Zqm Z Z<|qbl Z Z Z<|Zqm Z Z<|?_;refine qai (t:=20) Z ?_ ?_<;>intro c4;·refine Wf Y4<|Wf Y4<|ZqT Z Z Z<|Zn<|?_;refine qab (MidB.mk (Lr D) Sb Z ((decide_eq_true O).symm))
   refine Zg Z Z<|Zqm Z Z<|Zg Z Z<|qbl Z Z Z<|ZqF Z Z Z<|Zn<|?_;refine qab (MidB.mk (Lr D) Sb Z (decide_eq_decide.2 O))
  intro s3 h3;have e3:=I1.1.t h3;refine qaa Z ?_ ?_<;>intro c5
  ·have g4:16 < lv∨2000 < ck+1:=by have:=c5;omega
   have hE:wkX x lv ck=(ck+1,2):=by rw [qgl,if_pos g4]
   have gE:¬ (wkX x lv ck).2=0:=by rw [hE];simp
   refine Sr<|Zqm Z Z<|Zqa Z Z<|At Z Z<|Zo<|Zu<|Zc<|Zu<|Zu<|Zc<|Zu<|?_;exact rR [] L (.tmp Z (.t1 Z)) Z e3 fun _ hS2=>qAv
  have g4:¬ (16 < lv∨2000 < ck+1):=by have:=c5;omega
  refine Zk<|Zt<|Sr<|Zqm Z Z<|Zqm Z Z<|qad (qau Z Z Z Z Z Z hk) Z<|qad (qaw Z Z Z (hcx.le h3) Z) Z<|Je Z Z Z (qwf D _ _ x A' n' c' hn' O hnl) fun s6 h6=>At Z Z<|Zs<|Sr<|Zqm Z Z<|qax Z Z Z<|Nt<|?_;refine qaa Z ?_ ?_<;>intro c7
  ·have hE:wkX x lv ck=qcE x.args (lv+1) (ck+1):=by rw [qgl,if_neg g4,if_neg (fun h=>h c7)]
   refine Zr<|Zqm Z Z<|Zqm Z Z<|qad (qau Z Z Z Z Z Z hk) Z<|qad (qbm Z Z Z Z) Z<|qad (qaF 4 Z Z Z (hcx.le (h3.t h6)) Z) Z<|Zqm Z Z<|qad (qaC Z Z (show IntKind.i64.wrap ((lv:Int)+1)=((lv+1:Nat):Int) by rw [w64 O O];simp)) Z<|Zqm Z Z<|Jc Z Z Z (ih e hd _ _ (lv+1) (ck+1) A' n' c' x.args (hax.le (h3.t h6)) O O) ?_;rintro _ _ s8 h8 ⟨rfl,rfl⟩;refine Zqm Z Z<|Zqx Z Z Z<|Zqx Z Z Z<|Zqa Z Z<|At Z Z<|Sr<|Zqm Z Z<|qcb Z Z Z<|Nt ?_;refine qaM Z ?_ ?_<;>intro c9
   ·have gE:¬ (wkX x lv ck).2=0:=by rw [hE];exact c9
    refine Sr<|Zqm Z Z<|Zqm Z Z<|Zqa Z Z<|At Z Z<|Zo<|Zc<|Zu<|Zu<|Zc<|Zu<|?_;exact rR [] L (.tmp Z (.t1 Z)) Z (e3.t h6|>.t h8) fun _ hS2=>qAv
   have g1:=c9;refine Zk<|Zb<|Zt<|Zr<|Zqm Z Z<|qaD Z Z Z (w64 O O)<|Zqa Z Z<|Zn<|?_;refine qab ⟨(k+1,(qcE x.args (lv+1) (ck+1)).1),[],kp,Z,⟨(e3.t h6|>.t h8),⟨by simp only;omega,qeL O g1,by simp only;rw [hS,qhl hx,hE,if_neg (by rw [g1];decide)]⟩⟩,Oz⟩
  have g0:=c7;have hE:wkX x lv ck=(ck+1,exC x.kind x.op x.num x.name x.args.length):=by rw [qgl,if_neg g4,if_pos c7]
  refine Zk<|Zt<|Sr<|Zqm Z Z<|qcb Z Z Z<|Nt<|?_;refine qaM Z ?_ ?_<;>intro c10
  ·have gE:¬ (wkX x lv ck).2=0:=by rw [hE];exact c10
   refine Sr<|Zqm Z Z<|Zqm Z Z<|Zqa Z Z<|At Z Z<|Zo<|Zc<|Zu<|Zu<|Zc<|Zu<|?_;exact rR [] L (.tmp Z (.t1 Z)) Z (e3.t h6) fun _ hS2=>qAv
  exact absurd c10 g0
 rw [List.drop_eq_nil_of_le O,qcE] at hS;refine Zl<|Zv<|Zv<|Zd<|Zt<|Sr<|Zqm Z Z<|Zqa Z Z<|At Z Z<|Zo ?_;refine rR [] L (.tmp Z (.t1 Z)) Z I1.1 fun _ hS2=>?_;rw [hS];exact ⟨rfl,rfl⟩
def quk(D:Nat):∀ d,RXC D d
 | 0=>fun L s lv c A n cc l hA hc hlv=>ql1 D 0 (fun e h=>by omega) L s lv c A n cc l hA hc hlv
 | d+1=>fun L s lv c A n cc l hA hc hlv=>ql1 D (d+1) (fun e h=>(show d=e by omega)▸quk D d) L s lv c A n cc l hA hc hlv
def qxT{p:Prop} (h:p:=by
 rw [hS,qfa hx,if_pos gE,hE];exact ⟨rfl,rfl⟩):p:=h
def ql0(D d:Nat)(ih:∀ e,d=e+1→RSC D e)(L:Hl)(s:World)(lv c:Nat)(A:Option Addr)(n cc:Nat)(l:List Stm)(hA:Stms d s A n cc l)(hc:c≤2000)(hlv:lv≤17):AC prog D 83 [.slice A n cc,.int .i64 (lv:Int),.int .i64 (c:Int)] L s fun v L' _=>v=.tuple #[.int .i64 ((qci l lv c).1:Int),.int .i64 (qci l lv c).2]∧L=L':=by
 have hn:=hA.1;have hc1:=hA.2.1;have hc2:=hA.2.2.1;refine qae (fn:=f83) qav func83 V Z ntmps83 Z (rs:=[.tmp 6,.tmp 7]) Z [(0,_),(1,_),(2,_)] Z<|Sr<|Zqa Z Z<|At Z Z<|Zs<|Sr<|At Z Z<|Zp ?_;refine qaA (γ:=Nat×Nat) (fun g=>[(0,_),(1,_),(2,.int .i64 (g.2:Int)),(6,_),(7,_),(8,.int .i64 (g.1:Int))]) (fun _=>_) (fun g tw=>Le D s tw∧(g.1≤n∧g.2≤2000∧qci l lv c=qci (l.drop g.1) lv g.2)) (fun g=>n - g.1) (fun _ _ _ h hl=>⟨h.1.trans hl,h.2⟩) (0,c) (.c6 Z Z Z Z Z Z (.nil _)) Z ⟨Le.refl _,⟨Nat.zero_le _,hc,Z⟩⟩ ?_;intro g s1 I1;obtain ⟨k,ck⟩:=g;obtain ⟨hk0,hck,hS⟩:=I1.2;simp only at hk0 hck hS;dsimp only;refine Zs<|Sr<|Zqm Z Z<|Zqm Z Z<|Ws Y4<|qa8 Z Z Z<|Nt<|?_;refine qaa Z ?_ ?_<;>intro c2
 ·have hk:k < n:=by omega
  obtain ⟨e,b,off,x,A1,n1,p1,A2,n2,p2,A3,n3,p3,hd,rfl,hx,hcx,hax,hbx,hex,hnl⟩:=Stms.at_ (hA.le I1.1) hk;have hn1:=hax.1;have hn2:=hbx.1;have hn3:=hex.1;have hq1:=hax.2.2.1;have hq2:=hax.2.1;refine Zk<|Zt<|Zs<|Zp<|Sr<|Zqm Z Z<|qad (qaC Z Z (show IntKind.i64.wrap ((ck:Int)+1)=((ck+1:Nat):Int) by rw [w64 O O];simp)) Z<|At Z Z<|Zs<|?_;refine qa9 23 (16 < lv∨2000 < ck+1) ?_ ?_
  ·refine Zr<|Zqm Z Z<|qbl Z Z Z<|Zqm Z Z<|?_;refine qai (t:=20) Z ?_ ?_<;>intro c4;·refine Wf Y4<|Wf Y4<|ZqT Z Z Z<|Zn<|?_;refine qab (MidB.mk (Lr D) Sb Z ((decide_eq_true O).symm))
   refine Zg Z Z<|Zqm Z Z<|Zg Z Z<|qbl Z Z Z<|ZqF Z Z Z<|Zn<|?_;refine qab (MidB.mk (Lr D) Sb Z (decide_eq_decide.2 O))
  intro s3 h3;have e3:=I1.1.t h3;refine qaa Z ?_ ?_<;>intro c5
  ·have g4:16 < lv∨2000 < ck+1:=by have:=c5;omega
   have hE:wkS x lv ck=(ck+1,2):=by rw [qd7,if_pos g4]
   have gE:¬ (wkS x lv ck).2=0:=by rw [hE];simp
   refine Sr<|Zqm Z Z<|Zqa Z Z<|At Z Z<|Zo<|Zu<|Zc<|Zu<|Zu<|Zc<|Zu<|?_;exact rR [] L (.tmp Z (.t1 Z)) Z e3 fun _ hS2=>qxT
  have g4:¬ (16 < lv∨2000 < ck+1):=by have:=c5;omega
  refine Zk<|Zt<|Sr<|Zqm Z Z<|Zqm Z Z<|qad (qau Z Z Z Z Z Z hk) Z<|qad (qaw Z Z Z (hcx.le h3) Z) Z<|Je Z Z Z (qwh D _ _ x A1 A2 A3 n1 p1 n2 p2 n3 p3 hn1 hn2 hn3 O hnl) fun s6 h6=>At Z Z<|Zs<|Sr<|Zqm Z Z<|qax Z Z Z<|Nt<|?_;have e6:=h3.t h6;refine qaa Z ?_ ?_<;>intro c7
  ·have g0:=c7;refine Zr<|Zqm Z Z<|Zqm Z Z<|qad (qau Z Z Z Z Z Z hk) Z<|qad (qbm Z Z Z Z) Z<|qad (qaF 2 Z Z Z (hcx.le e6) Z) Z<|Zqm Z Z<|Jc Z Z Z (quk D e _ _ 1 (ck+1) A1 n1 p1 x.exprs (hax.le e6) O O) ?_;rintro _ _ s8 h8 ⟨rfl,rfl⟩;have e8:=e3.t h6|>.t h8;refine Zqm Z Z<|Zqx Z Z Z<|Zqx Z Z Z<|Zqa Z Z<|At Z Z<|Zs<|Sr<|Zqm Z Z<|qax Z Z Z<|Nt<|?_;refine qaa Z ?_ ?_<;>intro c9
   ·have g1:=c9;refine Zr<|Zqm Z Z<|Zqm Z Z<|qad (qau Z Z Z Z Z Z hk) Z<|qad (qbm Z Z Z Z) Z<|qad (qaF 3 Z Z Z (hcx.le (e6.t h8)) Z) Z<|Zqm Z Z<|qad (qaC Z Z (show IntKind.i64.wrap ((lv:Int)+1)=((lv+1:Nat):Int) by rw [w64 O O];simp)) Z<|Zqm Z Z<|Jc Z Z Z (ih e hd _ _ (lv+1) (qcE x.exprs 1 (ck+1)).1 A2 n2 p2 x.body (hbx.le (e6.t h8)) (qeL O g1) O) ?_;rintro _ _ s10 h10 ⟨rfl,rfl⟩;refine Zqm Z Z<|Zqx Z Z Z<|Zqx Z Z Z<|Zqa Z Z<|At Z Z<|Zs<|Sr<|Zqm Z Z<|qax Z Z Z<|Nt<|?_;refine qaa Z ?_ ?_<;>intro c11
    ·have g2:=c11;refine Zr<|Zqm Z Z<|Zqm Z Z<|qad (qau Z Z Z Z Z Z hk) Z<|qad (qbm Z Z Z Z) Z<|qad (qaF 4 Z Z Z (hcx.le (e6.t h8|>.t h10)) Z) Z<|Zqm Z Z<|qad (qaC Z Z (show IntKind.i64.wrap ((lv:Int)+1)=((lv+1:Nat):Int) by rw [w64 O O];simp)) Z<|Zqm Z Z<|Jc Z Z Z (ih e hd _ _ (lv+1) (qci x.body (lv+1) (qcE x.exprs 1 (ck+1)).1).1 A3 n3 p3 x.els (hex.le (e6.t h8|>.t h10)) (qeK (qeL O g1) g2) O) ?_;rintro _ _ s12 h12 ⟨rfl,rfl⟩;refine Zqm Z Z<|Zqx Z Z Z<|Zqx Z Z Z<|Zqa Z Z<|At Z Z<|Sr<|Zqm Z Z<|qcb Z Z Z<|Nt ?_;refine qaM Z ?_ ?_<;>intro c13
     ·have hE:wkS x lv ck=qci x.els (lv+1) (qci x.body (lv+1) (qcE x.exprs 1 (ck+1)).1).1:=by rw [qd7,if_neg g4,if_neg (fun h=>h g0),if_neg (fun h=>h g1),if_neg (fun h=>h g2)]
      have gE:¬ (wkS x lv ck).2=0:=by rw [hE];exact c13
      refine Sr<|Zqm Z Z<|Zqm Z Z<|Zqa Z Z<|At Z Z<|Zo<|Zc<|Zu<|Zu<|Zc<|Zu<|?_;exact rR [] L (.tmp Z (.t1 Z)) Z (e8.t h10|>.t h12) fun _ hS2=>qxT
     have g3:=c13;have hE:wkS x lv ck=qci x.els (lv+1) (qci x.body (lv+1) (qcE x.exprs 1 (ck+1)).1).1:=by rw [qd7,if_neg g4,if_neg (fun h=>h g0),if_neg (fun h=>h g1),if_neg (fun h=>h g2)]
     refine Zk<|Zb<|Zt<|Zr<|Zqm Z Z<|qaD Z Z Z (w64 O O)<|Zqa Z Z<|Zn<|?_;refine qab ⟨(k+1,(qci x.els (lv+1) (qci x.body (lv+1) (qcE x.exprs 1 (ck+1)).1).1).1),[],kp,Z,⟨(e8.t h10|>.t h12),⟨by simp only;omega,qeK (qeK (qeL O g1) g2) g3,by simp only;rw [hS,qfa hx,hE,if_neg (fun h=>h g3)]⟩⟩,Oz⟩
    have g2:=c11;refine Zk<|Zt<|Sr<|Zqm Z Z<|qcb Z Z Z<|Nt<|?_;refine qaM Z ?_ ?_<;>intro c14
    ·have hE:wkS x lv ck=qci x.body (lv+1) (qcE x.exprs 1 (ck+1)).1:=by rw [qd7,if_neg g4,if_neg (fun h=>h g0),if_neg (fun h=>h g1),if_pos g2]
     have gE:¬ (wkS x lv ck).2=0:=by rw [hE];exact c14
     refine Sr<|Zqm Z Z<|Zqm Z Z<|Zqa Z Z<|At Z Z<|Zo<|Zc<|Zu<|Zu<|Zc<|Zu<|?_;exact rR [] L (.tmp Z (.t1 Z)) Z (e8.t h10) fun _ hS2=>qxT
    exact absurd c14 g2
   have g1:=c9;refine Zk<|Zt<|Zs<|Sr<|Zqm Z Z<|qax Z Z Z<|Nt<|?_;refine qaa Z ?_ ?_<;>intro c15;·exact absurd c15 g1
   refine Zk<|Zt<|Sr<|Zqm Z Z<|qcb Z Z Z<|Nt<|?_;refine qaM Z ?_ ?_<;>intro c16
   ·have hE:wkS x lv ck=qcE x.exprs 1 (ck+1):=by rw [qd7,if_neg g4,if_neg (fun h=>h g0),if_pos g1]
    have gE:¬ (wkS x lv ck).2=0:=by rw [hE];exact c16
    refine Sr<|Zqm Z Z<|Zqm Z Z<|Zqa Z Z<|At Z Z<|Zo<|Zc<|Zu<|Zu<|Zc<|Zu<|?_;exact rR [] L (.tmp Z (.t1 Z)) Z e8 fun _ hS2=>qxT
   exact absurd c16 g1
  have g0:=c7;refine Zk<|Zt<|Zs<|Sr<|Zqm Z Z<|qax Z Z Z<|Nt<|?_;refine qaa Z ?_ ?_<;>intro c17;·exact absurd c17 g0
  refine Zk<|Zt<|Zs<|Sr<|Zqm Z Z<|qax Z Z Z<|Nt<|?_;refine qaa Z ?_ ?_<;>intro c18;·exact absurd c18 g0
  refine Zk<|Zt<|Sr<|Zqm Z Z<|qcb Z Z Z<|Nt<|?_;refine qaM Z ?_ ?_<;>intro c19
  ·have hE:wkS x lv ck=(ck+1,stC x.kind x.name x.exprs.length x.body.length x.els.length):=by rw [qd7,if_neg g4,if_pos g0]
   have gE:¬ (wkS x lv ck).2=0:=by rw [hE];exact c19
   refine Sr<|Zqm Z Z<|Zqm Z Z<|Zqa Z Z<|At Z Z<|Zo<|Zc<|Zu<|Zu<|Zc<|Zu<|?_;exact rR [] L (.tmp Z (.t1 Z)) Z (e3.t h6) fun _ hS2=>qxT
  exact absurd c19 g0
 rw [List.drop_eq_nil_of_le O,qci] at hS;refine Zl<|Zv<|Zv<|Zd<|Zt<|Sr<|Zqm Z Z<|Zqa Z Z<|At Z Z<|Zo ?_;refine rR [] L (.tmp Z (.t1 Z)) Z I1.1 fun _ hS2=>?_;rw [hS];exact ⟨rfl,rfl⟩
def quj(D:Nat):∀ d,RSC D d
 | 0=>fun L s lv c A n cc l hA hc hlv=>ql0 D 0 (fun e h=>by omega) L s lv c A n cc l hA hc hlv
 | d+1=>fun L s lv c A n cc l hA hc hlv=>ql0 D (d+1) (fun e h=>(show d=e by omega)▸quj D d) L s lv c A n cc l hA hc hlv
def qoh{x:Fnc}{c:Nat}{w:Str}(h:¬ qaY x.name=false)(hs2:¬ (6 < x.params.length∨12 < x.locals.length))(hw:w∈x.params++x.locals)(hi:qaY w=false):fnC x c=(c,7):=by
 obtain ⟨i,hi2⟩:=List.getElem?_of_mem hw;exact qoi h hs2 hi2 hi
def qvO{x:Fnc}{c:Nat}(h:¬ qaY x.name=false)(hs2:¬ (6 < x.params.length∨12 < x.locals.length))(h3:∀ i w,i < x.params.length→x.params[i]?=some w→qaY w=true)(h4:∀ i w,i < x.locals.length→x.locals[i]?=some w→qaY w=true):fnC x c=qci x.body 1 c:=by
 refine qt2 h hs2 fun i w _ hi=>?_;have hw:=List.mem_of_getElem? hi;rcases List.mem_append.1 hw with hw|hw
 · obtain ⟨j,hj⟩:=List.getElem?_of_mem hw;exact h3 j w (List.getElem?_eq_some_iff.1 hj).1 hj
 · obtain ⟨j,hj⟩:=List.getElem?_of_mem hw;exact h4 j w (List.getElem?_eq_some_iff.1 hj).1 hj
def qpd(D:Nat)(L:Hl)(s:World)(d:Nat)(p:Prg)(Ag Af:Option Addr)(ng cg nf cf:Nat)(hGl:Glos s Ag ng cg p.globals)(hFn:Fncs d s Af nf cf p.funcs):AC prog D 51 [.agg #[.slice Ag ng cg,.slice Af nf cf]] L s fun v L' _=>v=.agg #[.int .i64 (qbf p).1,.int .i64 (qbf p).2]∧L=L':=by
 have hn1:=hGl.1;have hn2:=hFn.1;refine qae (fn:=f51) qav func51 V Z ntmps51 Z (rs:=[.cell 2 27]) Z [(0,_)] Z<|Sr<|qay Z Z fun β1 s1 h1=>qag Z [_,_] Z Z fun β2 s2 h2=>Nt<|Zs<|?_;have e2:=h1.t h2;refine qa9 22 (64 < ng∨64 < nf) ?_ ?_
 ·refine Zr<|W0 Y5<|Wl 1 Y6<|Ws Y4<|qbl Z Z Z<|Zqm Z Z<|?_;refine qai (t:=17) Z ?_ ?_<;>intro c4;·refine Wf Y4<|Wf Y4<|Wf Y4<|Wf Y4<|ZqT Z Z Z<|Zn<|?_;refine qab (MidB.mk (Lr D) Sb Z ((decide_eq_true O).symm))
  refine Zg Z Z<|Wb Y5<|Zg Z Z<|Wl 1 Y6<|Zg Z Z<|Ws Y4<|Zg Z Z<|qbl Z Z Z<|ZqF Z Z Z<|Zn<|?_;refine qab (MidB.mk (Lr D) Sb Z (decide_eq_decide.2 O))
 intro s3 h3;have e3:=e2.t h3;refine qaa Z ?_ ?_<;>intro c5;·have hE:=qkN (p:=p) O;refine Sr<|Je Z Z Z (qee D _ _ _ _) fun s6 h6=>Wt 0 [_,_] Y9<|Nt<|Zo<|Zu<|?_;exact rR [_,_] L (.agg (us:=[_,_]) 0 Z Z Z Z Z (.nil)) Z (e3.t h6) fun _ hS2=>qck
 have g20:¬ (64 < p.globals.length∨64 < p.funcs.length):=by omega
 refine Zk<|Zt<|Sr<|At Z Z<|Zs<|Sr<|At Z Z<|Zp<|qbV [_,_] (γ:=Nat×Nat) (fun g=>[(1,_),(2,_),(3,.int .i64 (g.2:Int)),(4,.int .i64 (g.1:Int))]) (fun g=>L) (fun g tw=>Le D s3 tw∧(g.1≤ng∧glF p.globals 0=glF (p.globals.drop g.1) g.1∧g.2=((p.globals.take g.1).map fun g=>g.init.length).sum∧g.2≤g.1 * 40000)) (fun g=>ng - g.1) (fun _ _ _ h hl=>⟨h.1.trans hl,h.2⟩) (0,0) (.c4 Z Z Z Z (.nil _)) Z ⟨Le.refl _,⟨Nat.zero_le _,Z,Z,Nat.zero_le _⟩⟩ ?_;intro g s7 I7;have e7:=e3.t I7.1;simp only [cQ9,nQ9];obtain ⟨k,z⟩:=g;obtain ⟨hk0,hS,hz,hz4⟩:=I7.2;simp only at hk0 hS hz hz4;dsimp only;refine Zs<|Sr<|Zqm Z Z<|W0 Y5<|Wl 1 Y6<|Ws Y4<|qa8 Z Z Z<|Nt<|?_;refine qaa Z ?_ ?_<;>intro c8
 ·have hk:k < ng:=by omega
  obtain ⟨b,off,x,Ai,ni,ci,rfl,hx,hcx,hix,hux,hnl⟩:=Glos.at_ (hGl.le e7) hk;have hni:=hix.1;refine Zk<|Zt<|Zs<|Zp<|Sr<|W0 Y5<|Wl 1 Y6<|Zqm Z Z<|qad (qau Z Z Z Z Z Z hk) Z<|qad (qaw Z Z Z (hcx.le (Lr D)) Z) Z<|Je Z Z Z (qwg D _ _ x Ai ni ci (hix.le (Lr D)) hux hnl) fun s9 h9=>At Z Z<|Zs<|Sr<|Zqm Z Z<|qcb Z Z Z<|Nt<|?_;refine qaM Z ?_ ?_<;>intro c10
  ·have hE:qbf p=(qfm x,(k:Int)):=by
     have h9:glF p.globals 0=(qfm x,(k:Int)):=by rw [hS,qlD hx,if_pos c10]
     rw [qun g20 (by rw [h9];exact c10),h9]
   refine Sr<|Zqm Z Z<|Zqm Z Z<|Je Z Z Z (qee D _ _ _ _) fun s11 h11=>Wt 0 [_,_] Y9<|Nt<|Zo<|Zu<|Zc<|Zu<|Zu<|Zc<|Zu<|?_;exact rR [_,_] L (.agg (us:=[_,_]) 0 Z Z Z Z Z (.nil)) Z (e7.t h9|>.t h11) fun _ hS2=>qck
  have g33:¬ qfm x≠0:=fun h=>h c10;have hg4:=(qbY (show qfm x=0 by simpa using g33)).2.2.2.2.2;refine Zk<|Zt<|Zr<|Zqm Z Z<|W0 Y5<|Wl 1 Y6<|Zqm Z Z<|qad (qau Z Z Z Z Z Z hk) Z<|qad (qbm Z Z Z Z) Z<|qad (qaF 3 Z Z Z (hcx.le h9) Z) Z<|Ws Y4<|qad (qaC Z Z (show IntKind.i64.wrap ((z:Int)+(ni:Int))=((z+ni:Nat):Int) by rw [w64 O O];simp)) Z<|Zqa Z Z<|Zn<|Zb<|Zt<|Zr<|Zqm Z Z<|qaD Z Z Z (w64 O O)<|Zqa Z Z<|Zn<|?_;refine qab ⟨(k+1,z+ni),[],kp,Z,⟨(I7.1.t h9),⟨by simp only;omega,by simp only;rw [hS,qlD hx,if_neg g33],by simp only;rw [qpO hx,← hz,hni],by simp only;omega⟩⟩,Oz⟩
 rw [List.drop_eq_nil_of_le O] at hS;rw [List.take_of_length_le O] at hz;refine Zl<|Zv<|Zv<|Zd<|Zt<|Zs<|Sr<|Zqm Z Z<|qbl Z Z Z<|Nt<|?_;refine qaa Z ?_ ?_<;>intro c12;·have hE:=qiI g20 hS O;refine Sr<|Je Z Z Z (qee D _ _ _ _) fun s13 h13=>Wt 0 [_,_] Y9<|Nt<|Zo<|Zu<|?_;exact rR [_,_] L (.agg (us:=[_,_]) 0 Z Z Z Z Z (.nil)) Z (e7.t h13) fun _ hS2=>qck
 have g44:=qzF g20 hS O;refine Zk<|Zt<|Sr<|At Z Z<|Zs<|Sr<|At Z Z<|Zp<|qbV [_,_] (γ:=Nat×Nat) (fun g=>[(1,_),(2,_),(6,.int .i64 (g.2:Int)),(7,.int .i64 (g.1:Int))]) (fun g=>L) (fun g tw=>Le D s7 tw∧(g.1≤nf∧g.2≤2000∧fnF p.funcs p.globals.length 0=fnF (p.funcs.drop g.1) (p.globals.length+g.1) g.2)) (fun g=>nf - g.1) (fun _ _ _ h hl=>⟨h.1.trans hl,h.2⟩) (0,0) (.c4 Z Z Z Z (.nil _)) Z ⟨Le.refl _,⟨Nat.zero_le _,Nat.zero_le _,Z⟩⟩ ?_;intro g s14 I14;have e14:=e7.t I14.1;simp only [cQ9,nQ9];obtain ⟨k,ck⟩:=g;obtain ⟨hk0,hck,hS2⟩:=I14.2;simp only at hk0 hck hS2;dsimp only;refine Zs<|Sr<|Zqm Z Z<|Wb Y5<|Wl 1 Y6<|Ws Y4<|qa8 Z Z Z<|Nt<|?_;refine qaa Z ?_ ?_<;>intro c15
 ·have hk:k < nf:=by omega
  obtain ⟨b,off,x,B1,m1,d1,B2,m2,d2,B3,m3,d3,rfl,hx,hcx,hpx,hlx,hbx,hnl⟩:=Fncs.at_ (hFn.le e14) hk;have hm1:=hpx.1;have hm2:=hlx.1;refine Zk<|Zt<|Zs<|Zp<|Sr<|Wb Y5<|Wl 1 Y6<|Zqm Z Z<|qad (qau Z Z Z Z Z Z hk) Z<|qad (qaw Z Z Z (hcx.le (Lr D)) Z) Z<|qag Z [_,_,_,_] Z Z fun β16 s16 h16=>Wt 0 [_,_,_,_] Y9<|Nt<|Sr<|W0 Y5<|Wl 2 Y6<|Ws Y4<|Zqm Z Z<|qad (qaC Z Z (show IntKind.i64.wrap ((ng:Int)+(k:Int))=((ng+k:Nat):Int) by rw [w64 O O];simp)) Z<|At Z Z<|Zs<|Sr<|W0 Y5<|Wl 0 Y6<|Je Z Z Z (qdK D _ _ x.name hnl) fun s17 h17=>qbF Z Z<|Nt<|?_;have e17:=e14.t h16|>.t h17;refine qb8 Z ?_ ?_<;>intro c18
  ·have hi:qaY x.name=false:=by simpa using c18
   have hC:=qlx (c:=ck) hi;have hE:qbf p=((fnC x ck).2,((ng+k:Nat):Int)):=by rw [g44,hS2,qgc hx,if_pos (by rw [hC];exact (by simp)),hn1]
   rw [hC] at hE;refine Sr<|Zqm Z Z<|Je Z Z Z (qee D _ _ _ _) fun s19 h19=>Wt 1 [_,_] Y9<|Nt<|Zo<|Zu<|Zc<|Zu<|Zu<|Zc<|Zu<|?_;exact rR [_,_,_] L (.agg (us:=[_,_]) 1 Z Z Z Z Z (.nil)) Z (e17.t h19) fun _ hS2=>qck
  have g74:¬ qaY x.name=false:=by simpa using c18
  refine Zk<|Zt<|Zs<|?_;refine qa9 86 (6 < m1∨12 < m2) ?_ ?_
  ·refine Zr<|Wb Y5<|Wl 0 Y6<|Ws Y4<|qbl Z Z Z<|Zqm Z Z<|?_;refine qai (t:=81) Z ?_ ?_<;>intro c21;·refine Wf Y4<|Wf Y4<|Wf Y4<|Wf Y4<|ZqT Z Z Z<|Zn<|?_;refine qab (MidB.mk (Lr D) Sb Z ((decide_eq_true O).symm))
   refine Zg Z Z<|Wb Y5<|Zg Z Z<|Wl 0 Y6<|Zg Z Z<|Ws Y4<|Zg Z Z<|qbl Z Z Z<|ZqF Z Z Z<|Zn<|?_;refine qab (MidB.mk (Lr D) Sb Z (decide_eq_decide.2 O))
  intro s20 h20;have e20:=h16.t h17|>.t h20;refine qaa Z ?_ ?_<;>intro c22
  ·have hC:=qlw (c:=ck) g74 O;have hE:qbf p=((fnC x ck).2,((ng+k:Nat):Int)):=by rw [g44,hS2,qgc hx,if_pos (by rw [hC];exact (by simp)),hn1]
   rw [hC] at hE;refine Sr<|Zqm Z Z<|Je Z Z Z (qee D _ _ _ _) fun s23 h23=>Wt 1 [_,_] Y9<|Nt<|Zo<|Zu<|Zc<|Zu<|Zu<|Zc<|Zu<|?_;exact rR [_,_,_] L (.agg (us:=[_,_]) 1 Z Z Z Z Z (.nil)) Z (e17.t h20|>.t h23) fun _ hS2=>qck
  have g86:¬ (6 < x.params.length∨12 < x.locals.length):=by omega
  refine Zk<|Zt<|Zs<|Sr<|At Z Z<|Zp<|qbV [_,_,_] (γ:=Nat) (fun j=>[(1,_),(2,_),(6,_),(7,_),(8,_),(9,_),(10,.int .i64 (j:Int))]) (fun j=>L) (fun j tw=>Le D s20 tw∧(j≤m1∧∀ i w,i < j→x.params[i]?=some w→qaY w=true)) (fun j=>m1 - j) (fun _ _ _ h hl=>⟨h.1.trans hl,h.2⟩) 0 (.c6 Z Z Z Z Z Z (.cons Z (.nil _))) Z ⟨Le.refl _,⟨Nat.zero_le _,fun i w hi=>by omega⟩⟩ ?_;intro j s24 I24;have e24:=e17.t h20|>.t I24.1;simp only [cQ9,nQ9];have hj0:=I24.2.1;have hP:=I24.2.2;refine Zs<|Sr<|Zqm Z Z<|Wb Y5<|Wl 0 Y6<|Ws Y4<|qa8 Z Z Z<|Nt<|?_;refine qaa Z ?_ ?_<;>intro c25
  ·have hj:j < m1:=by omega
   obtain ⟨bw,ow,w,rfl,hw,hcw,hwl⟩:=Strs.at_ (hpx.le (e20.t I24.1)) hj;refine Zk<|Zt<|Zs<|Zp<|Sr<|Wb Y5<|Wl 0 Y6<|Zqm Z Z<|qad (qaU Z Z Z Z Z Z hj) Z<|qad (qaq Z Z Z (hcw.le (Lr D)) Z) Z<|Je Z Z Z (qdK D _ _ w hwl) fun s26 h26=>qbF Z Z<|Nt<|?_;refine qb8 Z ?_ ?_<;>intro c27
   ·have hC:=qoh (c:=ck) g74 g86 (List.mem_append_left _ (List.mem_of_getElem? hw)) (by simpa using c27);have hE:qbf p=((fnC x ck).2,((ng+k:Nat):Int)):=by rw [g44,hS2,qgc hx,if_pos (by rw [hC];exact (by simp)),hn1]
    rw [hC] at hE;refine Sr<|Zqm Z Z<|Je Z Z Z (qee D _ _ _ _) fun s28 h28=>Wt 1 [_,_] Y9<|Nt<|Zo<|Zc<|Zu<|Zu<|Zc<|Zu<|Zc<|Zu<|Zu<|Zc<|Zu ?_;exact rR [_,_,_] L (.agg (us:=[_,_]) 1 Z Z Z Z Z (.nil)) Z (e24.t h26|>.t h28) fun _ hS2=>qck
   have hid:qaY w=true:=by simpa using c27
   refine Zk<|Zb<|Zt<|Zr<|Zqm Z Z<|qaD Z Z Z (w64 O O)<|Zqa Z Z<|Zn<|?_;refine qab ⟨(j+1),[],kp,Z,⟨(I24.1.t h26),⟨by omega,qa1 hP hw hid⟩⟩,O⟩
  obtain rfl:j=m1:=by omega
  refine Zl<|Zv<|Zv<|Zd<|Zt<|Zs<|Sr<|At Z Z<|Zp<|qbV [_,_,_] (γ:=Nat) (fun j=>[(1,_),(2,_),(6,_),(7,_),(8,_),(9,_),(11,.int .i64 (j:Int))]) (fun j=>L) (fun j tw=>Le D s24 tw∧(j≤m2∧∀ i w,i < j→x.locals[i]?=some w→qaY w=true)) (fun j=>m2 - j) (fun _ _ _ h hl=>⟨h.1.trans hl,h.2⟩) 0 (.c6 Z Z Z Z Z Z (.cons Z (.nil _))) Z ⟨Le.refl _,⟨Nat.zero_le _,fun i w hi=>by omega⟩⟩ ?_;intro j s29 I29;simp only [cQ9,nQ9];have hj0:=I29.2.1;have hQ:=I29.2.2;refine Zs<|Sr<|Zqm Z Z<|Wb Y5<|Wl 0 Y6<|Ws Y4<|qa8 Z Z Z<|Nt<|?_;refine qaa Z ?_ ?_<;>intro c30
  ·have hj:j < m2:=by omega
   obtain ⟨bw,ow,w,rfl,hw,hcw,hwl⟩:=Strs.at_ (hlx.le (e20.t I24.1|>.t I29.1)) hj;refine Zk<|Zt<|Zs<|Zp<|Sr<|Wb Y5<|Wl 0 Y6<|Zqm Z Z<|qad (qaU Z Z Z Z Z Z hj) Z<|qad (qaq Z Z Z (hcw.le (Lr D)) Z) Z<|Je Z Z Z (qdK D _ _ w hwl) fun s31 h31=>qbF Z Z<|Nt<|?_;refine qb8 Z ?_ ?_<;>intro c32
   ·have hC:=qoh (c:=ck) g74 g86 (List.mem_append_right _ (List.mem_of_getElem? hw)) (by simpa using c32);have hE:qbf p=((fnC x ck).2,((ng+k:Nat):Int)):=by rw [g44,hS2,qgc hx,if_pos (by rw [hC];exact (by simp)),hn1]
    rw [hC] at hE;refine Sr<|Zqm Z Z<|Je Z Z Z (qee D _ _ _ _) fun s33 h33=>Wt 1 [_,_] Y9<|Nt<|Zo<|Zc<|Zu<|Zu<|Zc<|Zu<|Zc<|Zu<|Zu<|Zc<|Zu ?_;exact rR [_,_,_] L (.agg (us:=[_,_]) 1 Z Z Z Z Z (.nil)) Z (e24.t I29.1|>.t h31|>.t h33) fun _ hS2=>qck
   have hid:qaY w=true:=by simpa using c32
   refine Zk<|Zb<|Zt<|Zr<|Zqm Z Z<|qaD Z Z Z (w64 O O)<|Zqa Z Z<|Zn<|?_;refine qab ⟨(j+1),[],kp,Z,⟨(I29.1.t h31),⟨by omega,qa1 hQ hw hid⟩⟩,O⟩
  obtain rfl:j=m2:=by omega
  have hC:=qvO (c:=ck) g74 g86 (fun i w hi h=>hP i w O h) (fun i w hi h=>hQ i w O h);refine Zl<|Zv<|Zv<|Zd<|Zt<|Sr<|At Z Z<|Sr<|Wb Y5<|Wl 0 Y6<|Zqm Z Z<|Jc Z Z Z (quj D d _ _ 1 ck B3 m3 d3 x.body (hbx.le (e20.t I24.1|>.t I29.1)) hck O) ?_;rintro _ _ s34 h34 ⟨rfl,rfl⟩;refine Zqm Z Z<|Zqx Z Z Z<|Zqx Z Z Z<|Zqa Z Z<|At Z Z<|Sr<|Zqm Z Z<|qcb Z Z Z<|Nt ?_;refine qaM Z ?_ ?_<;>intro c35
  ·have hE:qbf p=((fnC x ck).2,((ng+k:Nat):Int)):=by rw [g44,hS2,qgc hx,if_pos (by rw [hC];exact c35),hn1]
   rw [hC] at hE;refine Sr<|Zqm Z Z<|Zqm Z Z<|Je Z Z Z (qee D _ _ _ _) fun s36 h36=>Wt 1 [_,_] Y9<|Nt<|Zo<|Zc<|Zu<|Zu<|Zc<|Zu<|?_;exact rR [_,_,_] L (.agg (us:=[_,_]) 1 Z Z Z Z Z (.nil)) Z (e24.t I29.1|>.t h34|>.t h36) fun _ hS2=>qck
  have g60:(qci x.body 1 ck).2=0:=c35;refine Zk<|Zb<|Zt<|Zr<|Zqm Z Z<|qaD Z Z Z (w64 O O)<|Zqa Z Z<|Zn<|?_;refine qab ⟨(k+1,(qci x.body 1 ck).1),[_],kp,Z,⟨(I14.1.t h16|>.t h17|>.t h20|>.t I24.1|>.t I29.1|>.t h34),⟨by simp only;omega,qeK hck g60,by simp only;rw [hS2,qgc hx,hC,if_neg (fun h=>h g60)];rfl⟩⟩,Oz⟩
 rw [List.drop_eq_nil_of_le O] at hS2;have hE:qbf p=(0,0):=by rw [g44,hS2];rfl
 refine Zl<|Zv<|Zv<|Zd<|Zt<|Sr<|qad (qak [] [_,_] Z Z Z Z Z Z) Z<|Wt 0 [_,_] Y9<|Nt<|Zo<|?_;exact rR [_,_] L (.agg (us:=[_,_]) 0 Z Z Z Z Z (.nil)) Z e14 fun _ hS2=>qck
def qqP{w:Nat}(h:¬ w < 10):Lib.decDigits w=Lib.decDigits (w / 10)++Lib.decDigits (w % 10):=by
 rw [Lib.decDigits,dif_neg h,Lib.decDigits_one (i:=w % 10) O]
def qBk(n:Nat):Value.int .u32 ((n:Int).tmod 10)=.int .u32 ((n % 10:Nat):Int):=by rw [Int.tmod_eq_emod_of_nonneg O];rfl
def qBe{n:Nat}(h:n < 4294967296):Value.int .u32 (IntKind.u32.wrap ((n:Int).tdiv 10))=.int .u32 ((n / 10:Nat):Int):=by
 rw [Int.tdiv_eq_ediv_of_nonneg O,IntKind.wrap_u32];congr 1;omega
def qA1{n:Nat}(h:n < 10):Value.int .u8 (IntKind.u8.wrap (IntKind.u32.wrap (48+(n:Int))))=.int .u8 ((UInt8.ofNat (48+n)).toNat:Int):=by
 rw [IntKind.wrap_u32,IntKind.wrap_u8];congr 1;simp only [UInt8.toNat_ofNat'];omega
def qvq{s:World}{b:Nat}{l:List UInt8}(h:CellsAt s b 0 (bv l))(hl:l.length≤1000):Bts s (some ⟨b,0,none⟩) l.length l.length l:=qke (yc:=[]) (cc:=l.length) (by simpa using h) (by simp) O
def qkk(D:Nat)(L:Hl)(s:World)(w:Nat)(hw:w < 4294967296)(ih:∀ w',w' < w→∀ (L:Hl) (s:World),AC prog D 84 [.int .u32 (w':Int)] L s fun v L' _=>v=St (Lib.decDigits w')∧L=L'):AC prog D 84 [.int .u32 (w:Int)] L s fun v L' _=>v=St (Lib.decDigits w)∧L=L':=by
 refine qae (fn:=f84) qav func84 V Z ntmps84 Z (rs:=[.tmp 2]) Z [(0,_)] Z<|Sr<|At Z Z<|Zs<|Sr<|Zqm Z Z<|qa8 Z Z Z<|Nt<|?_;refine qaa Z ?_ ?_<;>intro c1
 ·have hw1:w < 10:=by omega
  refine Sr<|Zqm Z Z<|qad (qkX Z Z) Z<|qad (qaz (qed Z Z Z Z Z) (qA1 hw1)) Z<|qa4 [(_,_)] [_] Z Z Z Z Z Z Z Z Z fun βn s2 h2 hcb=>qad (qkY Z Z Z Z Z Z Z (qvq (l:=[UInt8.ofNat (48+w)]) (hcb.le (Lr D)) (by simp))) Z<|At Z Z<|Zo<|Zu<|?_;exact rR [] L (.t1 Z) Z h2 fun _ hS2=>⟨by rw [Lib.decDigits_one hw1];rfl,rfl⟩
 have hw1:¬ w < 10:=by omega
 have hl1:=qkj (u:=w / 10) O;have hl2:=qkj (u:=w % 10) O;refine Zk<|Zt<|Sr<|Zqm Z Z<|qad (qaz (qnq Z Z Dc) (qBe hw)) Z<|Jc Z Z Z (ih (w / 10) O _ _) ?_;rintro _ _ s3 h3 ⟨rfl,rfl⟩;refine Zqm Z Z<|qad (qaz (qnr Z Z Dc) (qBk w)) Z<|Jc Z Z Z (ih (w % 10) O _ _) ?_;rintro _ _ s4 h4 ⟨rfl,rfl⟩;refine qad (qah Z Z O) Z<|At Z Z<|Zo<|?_;exact rR [] L (.t1 Z) Z (h3.t h4) fun _ hS2=>⟨by rw [qqP hw1];rfl,rfl⟩
def qmp(D:Nat)(w:Nat)(hw:w < 4294967296):∀ (L:Hl) (s:World),AC prog D 84 [.int .u32 (w:Int)] L s fun v L' _=>v=St (Lib.decDigits w)∧L=L':=by
 induction w using Nat.strongRecOn with
 | _ w ih=>exact fun L s=>qkk D L s w hw fun w' h=>ih w' h O
def qln(D:Nat)(L:Hl)(s:World)(n:Int)(hn:U32 n):AC prog D 84 [.int .u32 n] L s fun v L' _=>v=St (qdq n)∧L=L':=by
 obtain ⟨w,rfl⟩:=Int.eq_ofNat_of_zero_le hn.1;have:=hn.2;exact qmp D w O L s
def qie{ws:List Str}{k:Nat}{x:Str}(h:ws[k]?=some x)(hk:¬ 0 < k):qa2 (ws.take (k+1))=qa2 (ws.take k)++x:=by
 obtain rfl:k=0:=by omega
 cases ws with
 | nil=>cases h
 | cons y r=>simp at h;subst h;rfl
def qnW(l:List Str)(h:l≠[])(x:Str):qa2 (l++[x])=qa2 l++[44,32]++x:=by
 induction l with
 | nil=>exact absurd rfl h
 | cons y r ih=>
  cases r with
  | nil=>simp [qa2]
  | cons z r=>
   have:=ih (by simp);simp only [List.cons_append] at this ⊢;rw [qa2,this,qa2];simp
def qif{ws:List Str}{k:Nat}{x:Str}(h:ws[k]?=some x)(hk:0 < k):qa2 (ws.take (k+1))=qa2 (ws.take k)++[44,32]++x:=by
 obtain ⟨hl,rfl⟩:=List.getElem?_eq_some_iff.1 h;rw [List.take_succ_eq_append_getElem hl];exact qnW _ (fun h=>by have:=congrArg List.length h;rw [List.length_take,List.length_nil] at this;omega) _
def qpN(ws:List Str)(k:Nat):qhq (ws.take k)≤qhq ws:=by
 induction ws generalizing k with
 | nil=>simp
 | cons x r ih=>
  cases k with
  | zero=>simp [qhq]
  | succ k=>have:=ih k;rw [List.take_succ_cons,qbJ,qbJ];omega
def sgV:Str:=[32,33,32,45,32,126,32,42,32,47,32,37,32,60,60,32,62,62,32,38,32,43,32,45,32,124,32,94,32,61,61,32,33,61,32,60,32,60,61,32,62,32,62,61,32,38,38,32,124,124]
def qrU:splitB 32 sgV=signL:=by decide +kernel
def strT:Str:=[32,32,32,32,53,53,53,53,53,53,52,52,52,52,51,51,51,51,51,51,50,49]
def qwB{j:Nat}(h4:4≤j)(h:j≤21):∃ ch,strT[j]?=some ch∧(ch.toNat:Int) - 48=qfH j:=by
 have k:∀ i:_root_.Fin 22,4≤i.val→strT[i.val]?=some (strT.getD i.val 0)∧((strT.getD i.val 0).toNat:Int) - 48=qfH i.val:=by decide +kernel
 exact ⟨_,k ⟨j,by omega⟩ h4⟩
def qdb(D:Nat)(L:Hl)(s:World)(A:Option Addr)(n c:Nat)(ws:List Str)(hS:Strs s A n c ws)(hW:qhq ws≤1000000000):AC prog D 85 [.slice A n c] L s fun v L' _=>v=St (qa2 ws)∧L=L':=by
 have hn:=hS.1;have hq:=hS.2.1;have hq2:=hS.2.2.1;refine qae (fn:=f85) qav func85 V Z ntmps85 Z (rs:=[.tmp 2]) Z [(0,_)] Z<|Sr<|At Z Z<|Sr<|At Z Z<|Zs<|Sr<|At Z Z<|Zp<|qaA (γ:=Nat) (fun k=>[(0,_),(2,_),(3,St (qa2 (ws.take k))),(4,.int .i64 (k:Int))]) (fun _=>_) (fun k tw=>Le D s tw∧(k≤n)) (fun k=>n - k) (fun _ _ _ h hl=>⟨h.1.trans hl,h.2⟩) 0 (.c4 Z Z Z Z (.nil _)) Z ⟨Le.refl _,Nat.zero_le _⟩ ?_;intro k s1 I1;have hk0:=I1.2;refine Zs<|Sr<|Zqm Z Z<|Zqm Z Z<|Ws Y4<|qa8 Z Z Z<|Nt<|?_;refine qaa Z ?_ ?_<;>intro c2
 ·have hk:k < n:=by omega
  obtain ⟨b,off,x,rfl,hx,hcx,hxl⟩:=Strs.at_ (hS.le I1.1) hk;have hcl:=qbh (ws.take (k+1));have hct:=qpN ws (k+1);refine Zk<|Zt<|Zs<|Zp<|Zs<|Sr<|Zqm Z Z<|qbl Z Z Z<|Nt<|?_;refine qaa Z ?_ ?_<;>intro c3
  ·have g12:0 < k:=by omega
   rw [qif hx g12] at hcl;simp only [List.length_append,List.length_cons,List.length_nil] at hcl;refine Zr<|Zqm Z Z<|qad (qah Z Z Uo) Z<|At Z Z<|Zr<|Zqm Z Z<|Zqm Z Z<|Zqm Z Z<|qad (qaU Z Z Z Z Z Z hk) Z<|qad (qaq Z Z Z (hcx.le (Lr D)) Z) Z<|qad (qah Z Z Ut) Z<|Zqa Z Z<|Zn<|Zb<|Zt<|Zr<|Zqm Z Z<|qaD Z Z Z (w64 O O)<|Zqa Z Z<|Zn<|?_;refine qab ⟨(k+1),[],(.c2 Z Z (.cons (by first|exact congrArg (fun l=>some (St l)) (qif hx O).symm|exact congrArg (fun l=>some (St l)) (qie hx O).symm) kp)),Z,⟨I1.1,(show k+1≤n by omega)⟩,O⟩
  have g12:¬ 0 < k:=by omega
  rw [qie hx g12] at hcl;simp only [List.length_append,List.length_cons,List.length_nil] at hcl;refine Zk<|Zt<|Zr<|Zqm Z Z<|Zqm Z Z<|Zqm Z Z<|qad (qaU Z Z Z Z Z Z hk) Z<|qad (qaq Z Z Z (hcx.le (Lr D)) Z) Z<|qad (qah Z Z Ut) Z<|Zqa Z Z<|Zn<|Zb<|Zt<|Zr<|Zqm Z Z<|qaD Z Z Z (w64 O O)<|Zqa Z Z<|Zn<|?_;refine qab ⟨(k+1),[],(.c2 Z Z (.cons (by first|exact congrArg (fun l=>some (St l)) (qif hx O).symm|exact congrArg (fun l=>some (St l)) (qie hx O).symm) kp)),Z,⟨I1.1,(show k+1≤n by omega)⟩,O⟩
 obtain rfl:k=n:=by omega
 refine Zl<|Zv<|Zv<|Zd<|Zt<|Sr<|Zqm Z Z<|At Z Z<|Zo<|?_;exact rR [] L (.t1 Z) Z I1.1 fun _ hS2=>⟨by rw [List.take_of_length_le O];rfl,rfl⟩
def qpc(D:Nat)(L:Hl)(s:World)(o:Int)(ho:1≤o∧o≤21):AC prog D 188 [.int .i64 o] L s fun v L' _=>v=St (qmV o)∧L=L':=by
 obtain ⟨j,rfl⟩:∃ j:Nat,o=(j:Int):=Int.eq_ofNat_of_zero_le O;refine qae (fn:=f188) qav func188 V Z ntmps188 Z (rs:=[.tmp 2]) Z [(0,_)] Z<|Sr<|At Z Z<|Sr<|Jc Z Z Z (qiL D _ _ sgV 32 Dc) ?_;rintro _ _ s1 h1 ⟨rfl,Ak,nk,ck,rfl,hK⟩;rw [qrU] at hK;have hnk:nk=22:=hK.1;obtain ⟨bk,ok,xk,rfl,hxk,hck,_⟩:=Strs.at_ hK (show j < nk by omega);refine Zqm Z Z<|qad (qaU Z Z Z Z Z Z (show j < nk by omega)) Z<|qad (qaq Z Z Z (hck.le (Lr D)) Z) Z<|At Z Z<|Zo<|?_;refine rR [] L (.t1 Z) Z h1 fun _ hS2=>?_;refine ⟨?_,Z⟩;rw [qmV,Int.toNat_natCast,List.getD,hxk];rfl
def qwi(D:Nat)(L:Hl)(s:World)(o:Int)(ho:4≤o∧o≤21):AC prog D 189 [.int .i64 o] L s fun v L' _=>v=.int .i64 (qfH o)∧L=L':=by
 obtain ⟨j,rfl⟩:∃ j:Nat,o=(j:Int):=Int.eq_ofNat_of_zero_le O;obtain ⟨ch,hch,hv⟩:=qwB (j:=j) O O;have hc8:=ch.toNat_lt;refine qae (fn:=f189) qav func189 V Z ntmps189 Z (rs:=[.tmp 2]) Z [(0,_)] Z<|Sr<|At Z Z<|Sr<|Zqm Z Z<|qad (qd8 Z Z Z Z hch) Z<|qad (qaz (qed Z Z Z Z Z) (show Value.int .i64 (IntKind.i64.wrap (ch.toNat:Int))=.int .i64 (ch.toNat:Int) by rw [w64 O O])) Z<|qad (qba (c:=qfH j) Z Z (by rw [w64 O O];exact hv)) Z<|At Z Z<|Zo<|?_;exact rR [] L (.t1 Z) Z (Lr D) fun _ hS2=>⟨rfl,rfl⟩
def qha(D:Nat)(L:Hl)(s:World)(lv:Nat)(hlv:lv≤20):AC prog D 121 [.int .i64 (lv:Int)] L s fun v L' _=>v=St (qaT lv)∧L=L':=by
 refine qae (fn:=f121) qav func121 V Z ntmps121 Z (rs:=[.tmp 2]) Z [(0,_)] Z<|Sr<|At Z Z<|Sr<|At Z Z<|Zs<|Sr<|At Z Z<|Zp<|qaA (γ:=Nat) (fun k=>[(0,_),(2,_),(3,St (qaT k)),(4,.int .i64 (k:Int))]) (fun _=>_) (fun k tw=>Le D s tw∧(k≤lv)) (fun k=>lv - k) (fun _ _ _ h hl=>⟨h.1.trans hl,h.2⟩) 0 (.c4 Z Z Z Z (.nil _)) Z ⟨Le.refl _,Nat.zero_le _⟩ ?_;intro k s1 I1;have hk0:=I1.2;have hml:=qbO k;refine Zs<|Sr<|Zqm Z Z<|Zqm Z Z<|qa8 Z Z Z<|Nt<|?_;refine qaa Z ?_ ?_<;>intro c2
 ·have hk:k < lv:=by omega
  refine Zk<|Zt<|Zs<|Zp<|Zr<|Zqm Z Z<|qad (qah Z Z Uo) Z<|Zqa Z Z<|Zn<|Zb<|Zt<|Zr<|Zqm Z Z<|qaD Z Z Z (w64 O O)<|Zqa Z Z<|Zn<|?_;refine qab ⟨(k+1),[],kp,Z,⟨I1.1,(show k+1≤lv by omega)⟩,O⟩
 obtain rfl:k=lv:=by omega
 refine Zl<|Zv<|Zv<|Zd<|Zt<|Sr<|Zqm Z Z<|At Z Z<|Zo<|?_;exact rR [] L (.t1 Z) Z I1.1 fun _ hS2=>⟨rfl,rfl⟩
def EXR(D d:Nat):Prop:=∀ (L:Hl) (s:World) (x:Ex) (A:Option Addr) (n c:Nat) (out:Int),Exs d s A n c x.args→U32 x.num→exV x=true→exN x≤2000→AC prog D 158 [.agg #[.int .i64 x.kind,.int .i64 x.op,.int .u32 x.num,St x.name,.slice A n c],.int .i64 out] L s fun v L' _=>v=St (exT x out)∧L=L'
def qhL{x:Ex}(hv:exV x=true)(h:¬ x.kind=7)(out:Int):exT x out=exT x 0:=by
 have hk:=qb0 (qdI hv).1;rw [qik hk.1 hk.2.1 out,if_neg (fun k=>h k.1)]
def qy4{x:Ex}(hv:exV x=true)(h:x.kind=7){out:Int}(ho:qfH x.op < out):exT x out=[40]++exT x 0++[41]:=by
 have hk:=qb0 (qdI hv).1;rw [qik hk.1 hk.2.1 out,if_pos ⟨h,ho⟩]
def qy3{x:Ex}(hv:exV x=true)(h:x.kind=7){out:Int}(ho:¬ qfH x.op < out):exT x out=exT x 0:=by
 have hk:=qb0 (qdI hv).1;rw [qik hk.1 hk.2.1 out,if_neg (fun k=>ho k.2)]
def qlW(D d:Nat)(ih:∀ e,d=e+1→EXR D e)(L:Hl)(s:World)(x:Ex)(A:Option Addr)(n c:Nat)(out:Int)(hA:Exs d s A n c x.args)(hu:U32 x.num)(hv:exV x=true)(hN:exN x≤2000):AC prog D 158 [.agg #[.int .i64 x.kind,.int .i64 x.op,.int .u32 x.num,St x.name,.slice A n c],.int .i64 out] L s fun v L' _=>v=St (exT x out)∧L=L':=by
 have hxl:=qg0 x 0 hv (qlt hu hA.u);have hC:=qdI hv;have hka:=qb0 hC.1;have hl:=hA.1;have hq1:=hA.2.1;have hq2:=hA.2.2.1;have hNx:=qt0 x;have htw:=qdU x.args [] hC.2 hA.u;rw [qbM] at htw;refine qae (fn:=f158) qav func158 V Z ntmps158 Z (rs:=[.tmp 4]) Z [(0,_),(1,_)] Z<|Sr<|qay Z Z fun β1 s1 h1=>At Z Z<|Sr<|At Z Z<|Zs<|?_;refine qa9 16 (x.kind=3∨x.kind=4) ?_ ?_
 ·refine Zr<|W0 Y5<|Wl 0 Y6<|qax Z Z Z<|Zqm Z Z<|?_;refine qai (t:=12) Z ?_ ?_<;>intro c3;·refine Wf Y4<|Wf Y4<|Wf Y4<|ZqT Z Z Z<|Zn<|?_;refine qab (MidB.mk (Lr D) Sb Z ((decide_eq_true O).symm))
  refine Zg Z Z<|W0 Y5<|Zg Z Z<|Wl 0 Y6<|Zg Z Z<|qax Z Z Z<|ZqF Z Z Z<|Zn<|?_;refine qab (MidB.mk (Lr D) Sb Z (decide_eq_decide.2 O))
 intro s2 h2;have e2:=h1.t h2;refine qaa Z ?_ ?_<;>intro c4
 ·have g34:=c4;have hn6:n≤6:=g34.elim (fun h=>by have:=qgN hv (.inl h);omega) (fun h=>by have:=qtO hv h;omega);refine Sr<|At Z Z<|Zp<|qaA (γ:=Nat×Value×Hl) (fun g=>[(1,_),(2,_),(4,_),(5,g.2.1),(6,.int .i64 (g.1:Int))]) (fun g=>_::(g.2.2++L)) (fun g tw=>Le D s2 tw∧(g.1≤n∧FL.Own 9 1 g.2.2 g.2.1 g.1 (sb ((x.args.take g.1).map fun x=>exT x 0)))) (fun g=>n - g.1) (fun _ _ _ h hl=>⟨h.1.trans hl,h.2⟩) (0,.slice none 0 0,[]) (.c5 Z Z Z Z Z (.nil _)) Z ⟨Le.refl _,⟨Nat.zero_le _,Own.nil⟩⟩ ?_;intro g s5 I5;obtain ⟨k,vo,Mo⟩:=g;obtain ⟨hk0,hO⟩:=I5.2;simp only at hk0 hO;dsimp only;refine Zs<|Sr<|Zqm Z Z<|Wb Y5<|Wl 0 Y6<|Ws Y4<|qa8 Z Z Z<|Nt<|?_;refine qaa Z ?_ ?_<;>intro c6
  ·have hk:k < n:=by omega
   obtain ⟨e,b,off,y,A',n',c',rfl,rfl,hx,hcy,hay,huy,hnl⟩:=Exs.at_ (hA.le (e2.t I5.1)) hk;obtain ⟨hvy,hNy⟩:=qce hC.2 hx;refine Zk<|Zt<|Zs<|Zp<|Zr<|Zqm Z Z<|Wb Y5<|Wl 0 Y6<|Zqm Z Z<|qad (qau Z Z Z Z Z Z hk) Z<|qad (qaw Z Z Z (hcy.le (Lr D)) Z) Z<|Jc Z Z Z (ih e Z _ _ y A' n' c' 0 (hay.le (Lr D)) huy hvy O) ?_;rintro _ _ s7 h7 ⟨rfl,rfl⟩;refine qa4 [(_,_)] [_] Z Z Z Z Z Z Z Z Z fun βn s8 h8 hcb=>qbq (sz:=1) [_] Mo L Z Z Z Z Z Z Z hO (Row.of_cells (hcb.le (Lr D)) Z Z) ⟨by simp [ti9];omega,by omega⟩ Z ?_;intro vq Mq s9 h9 oq;obtain ⟨Avq,cvq,rfl,_,_⟩:=Own.slice oq;simp only [cQ9,nQ9];refine Zqa Z Z<|Zn<|Zb<|Zt<|Zr<|Zqm Z Z<|qaD Z Z Z (w64 O O)<|Zqa Z Z<|Zn<|?_;refine qab ⟨(k+1,.slice Avq (k+1) cvq,Mq),[],kp,Z,⟨(I5.1.t h7|>.t h8|>.t h9),⟨by simp only;omega,by rw [qaS (fun x=>exT x 0) hx,qcK];exact oq⟩⟩,Oz⟩
  obtain rfl:k=n:=by omega
  rw [List.take_of_length_le O] at hO;obtain ⟨Ao,co,rfl,_,_⟩:=Own.slice hO;refine Zl<|Zv<|Zv<|Zd<|Zt<|Zs<|Sr<|W0 Y5<|Wl 0 Y6<|qax Z Z Z<|Nt ?_;refine qaa Z ?_ ?_<;>intro c10;·exfalso;omega
  refine Zk<|Zt<|Zs<|Sr<|W0 Y5<|Wl 0 Y6<|qax Z Z Z<|Nt<|?_;refine qaa Z ?_ ?_<;>intro c11;·exfalso;omega
  refine Zk<|Zt<|Zs<|Sr<|W0 Y5<|Wl 0 Y6<|qax Z Z Z<|Nt<|?_;refine qaa Z ?_ ?_<;>intro c12
  ·obtain ⟨y0,hy0⟩:∃ y,x.args[0]?=some y:=⟨_,List.getElem?_eq_getElem (show 0 < x.args.length by have:=qgN hv (.inl c12);omega)⟩;have hT3:=qyY c12 (qgN hv (.inl c12)) hy0;have hT:=(qhL hv O out).trans hT3;have hW:qa2 (x.args.map fun x=>exT x 0)=exT y0 0:=by rw [qmI (qgN hv (.inl c12)) hy0];rfl
   rw [← hW] at hT;have hcl:=qbh (x.args.map fun x=>exT x 0);have hnm:=qij hC.1;refine Zs<|qdA [_] Mo _ ?_;intro s13 h13 hpub13;simp only [cQ9,nQ9];have hSt:=Own.strs hO (qgx hC.2 hA.u O) hpub13 (by rw [List.length_map];omega);refine qaJ qac 8 Z _ (fun _ h=>h) fun s14 h14=>za 0 Z (We Y4) Z<|za 1 Z (Wd 0 Y5) Z<|za 2 Z (qah Z Z Uo) Z<|za 3 Z (qan Z) Z<|qar 4 V<|Jf Z Tt Z Z Z (qdb D _ _ Ao _ co (x.args.map fun x=>exT x 0) (hSt.le h14) O) fun s15 h15=>za 5 Z (qah Z Z Uo) Z<|za 6 Z (qah Z Z Uo) Z<|za 7 Z (qa6 Z) Z<|qaf V<|Zt<|Zo<|Zu<|?_;exact rR [_] L (.t1 Z) Z (e2.t I5.1|>.t h13|>.t h14|>.t h15) fun _ hS2=>qfd
  refine Zk<|Zt<|Zs<|Sr<|W0 Y5<|Wl 0 Y6<|qax Z Z Z<|Nt<|?_;refine qaa Z ?_ ?_<;>intro c16;·have hT:=(qhL hv O out).trans (qyZ c16);rw [qbM] at hT;have hcl:=qbh (x.args.map fun x=>exT x 0);have hnm:=qij hC.1;refine Zs<|qdA [_] Mo _ ?_;intro s17 h17 hpub17;simp only [cQ9,nQ9];have hSt:=Own.strs hO (qgx hC.2 hA.u O) hpub17 (by rw [List.length_map];omega);refine qaJ qac 8 Z _ (fun _ h=>h) fun s18 h18=>za 0 Z (We Y4) Z<|za 1 Z (Wd 0 Y5) Z<|za 2 Z (qah Z Z Uo) Z<|za 3 Z (qan Z) Z<|qar 4 V<|Jf Z Tt Z Z Z (qdb D _ _ Ao _ co (x.args.map fun x=>exT x 0) (hSt.le h18) O) fun s19 h19=>za 5 Z (qah Z Z Uo) Z<|za 6 Z (qah Z Z Uo) Z<|za 7 Z (qa6 Z) Z<|qaf V<|Zt<|Zo<|Zu<|?_;exact rR [_] L (.t1 Z) Z (e2.t I5.1|>.t h17|>.t h18|>.t h19) fun _ hS2=>qfd
  exfalso;omega
 have g34:=c4;refine Zk<|Zt<|Zs<|Sr<|W0 Y5<|Wl 0 Y6<|qax Z Z Z<|Nt<|?_;refine qaa Z ?_ ?_<;>intro c20;·have hT:=(qhL hv O out).trans (qyW c20);refine Sr<|Wb Y5<|Wl 0 Y6<|Je Z Z Z (qln D _ _ _ hu) fun s21 h21=>At Z Z<|Zo<|Zu<|?_;exact rR [_] L (.t1 Z) Z (e2.t h21) fun _ hS2=>qfd
 refine Zk<|Zt<|Zs<|Sr<|W0 Y5<|Wl 0 Y6<|qax Z Z Z<|Nt<|?_;refine qaa Z ?_ ?_<;>intro c22;·have hT:=(qhL hv O out).trans (qyX c22);refine Sr<|Wb Y5<|Wl 0 Y6<|At Z Z<|Zo<|Zu<|?_;exact rR [_] L (.t1 Z) Z e2 fun _ hS2=>qfd
 refine Zk<|Zt<|Zs<|Sr<|W0 Y5<|Wl 0 Y6<|qax Z Z Z<|Nt<|?_;refine qaa Z ?_ ?_<;>intro c23;·exfalso;omega
 refine Zk<|Zt<|Zs<|Sr<|W0 Y5<|Wl 0 Y6<|qax Z Z Z<|Nt<|?_;refine qaa Z ?_ ?_<;>intro c24;·exfalso;omega
 refine Zk<|Zt<|Zs<|Sr<|W0 Y5<|Wl 0 Y6<|qax Z Z Z<|Nt<|?_;refine qaa Z ?_ ?_<;>intro c25;·have hT:=(qhL hv O out).trans (qy0 c25);refine Sr<|At Z Z<|Zo<|Zu<|?_;exact rR [_] L (.t1 Z) Z e2 fun _ hS2=>qfd
 refine Zk<|Zt<|Zs<|Sr<|W0 Y5<|Wl 0 Y6<|qax Z Z Z<|Nt<|?_;refine qaa Z ?_ ?_<;>intro c26;·have hl1:=qgN hv (.inr c26);have hop:=hka.2.2.2.2.1 c26;obtain ⟨e,b,off,y,A1,n1,c1,rfl,rfl,hy,hcy,hay,huy,hnl⟩:=Exs.at_ (hA.le e2) (show 0 < n by omega);obtain ⟨hvy,hNy⟩:=qce hC.2 hy;have hT:=(qhL hv O out).trans (qy1 c26 hl1 hy);have hyl:=qg0 y 9 hvy (qlt huy hay.u);have hsl:=qpq x.op;refine Zs<|qaJ qac 10 Z _ (fun _ h=>h) fun s27 h27=>za 0 Z (We Y4) Z<|za 1 Z (Wd 0 Y5) Z<|za 3 Z (We Y4) Z<|za 4 Z (Wd 0 Y5) Z<|za 5 Z (qau (j:=0) Z Z Z Z Z Z O) Z<|za 6 Z (qaw Z Z Z (hcy.le h27) Z) Z<|qar 2 V<|Jf Z Tt Z Z Z (qpc D _ _ x.op O) fun s28 h28=>qar 7 V<|Jb Z Tt Z Z Z (ih e Z _ _ y A1 n1 c1 9 (hay.le (h27.t h28)) huy hvy O) ?_;rintro _ _ s29 h29 ⟨rfl,rfl⟩;refine ⟨fun _ _ h=>h,?_⟩;refine za 8 Z (qah Z Z O) Z<|za 9 Z (qa6 Z) Z<|qaf V<|Zt<|Zo<|Zu<|?_;exact rR [_] L (.t1 Z) Z (e2.t h27|>.t h28|>.t h29) fun _ hS2=>qfd
 have h7:x.kind=7:=by omega
 have hl2:=qtN hv h7;have hop:=hka.2.2.2.2.2 h7;obtain ⟨e,b,off,y,A1,n1,c1,rfl,rfl,hy,hcy,hay,huy,hnl⟩:=Exs.at_ (hA.le e2) (show 0 < n by omega);obtain ⟨hvy,hNy⟩:=qce hC.2 hy;obtain ⟨e',b',off',z,A2,n2,c2,hd2,hab,hz,hcz,haz,huz,hnz⟩:=Exs.at_ (hA.le e2) (show 1 < n by omega);cases hab;obtain rfl:e=e':=by omega
 obtain ⟨hvz,hNz⟩:=qce hC.2 hz;have hT0:=qy2 h7 hl2 hy hz;rw [hT0] at hxl;simp only [List.length_append,List.length_cons,List.length_nil] at hxl;have hsg:=qiM x.op;refine Zk<|Zt<|Sr<|Wb Y5<|Wl 0 Y6<|Je Z Z Z (qwi D _ _ x.op O) fun s30 h30=>At Z Z<|Zs<|qaJ qac 21 Z _ (fun _ h=>h) fun s31 h31=>za 0 Z (We Y4) Z<|za 1 Z (Wd 0 Y5) Z<|za 2 Z (qau (j:=0) Z Z Z Z Z Z O) Z<|za 3 Z (qaw Z Z Z (hcy.le (h30.t h31)) Z) Z<|za 4 Z (qan Z) Z<|za 7 Z (We Y4) Z<|za 8 Z (Wd 0 Y5) Z<|za 12 Z (We Y4) Z<|za 13 Z (Wd 0 Y5) Z<|za 14 Z (qau (j:=1) Z Z Z Z Z Z O) Z<|za 15 Z (qaw Z Z Z (hcz.le (h30.t h31)) Z) Z<|za 16 Z (qan Z) Z<|za 17 Z (qaC (c:=qfH x.op+1) Z Z (by rw [w64 O O])) Z<|qar 5 V ?_;refine Jb Z Tt Z Z Z (ih e Z _ _ y A1 n1 c1 (qfH x.op) (hay.le (h30.t h31)) huy hvy O) ?_;rintro _ _ s32 h32 ⟨rfl,rfl⟩;have e32:=e2.t h30|>.t h31|>.t h32;refine ⟨fun _ _ h=>h,?_⟩;refine za 6 Z (qah Z Z Uo) Z<|qar 9 V<|Jf Z Tt Z Z Z (qpc D _ _ x.op O) fun s33 h33=>za 10 Z (qah Z Z Uo) Z<|za 11 Z (qah Z Z Uo) Z<|qar 18 V<|Jb Z Tt Z Z Z (ih e Z _ _ z A2 n2 c2 (qfH x.op+1) (haz.le (h30.t h31|>.t h32|>.t h33)) huz hvz O) ?_;rintro _ _ s34 h34 ⟨rfl,rfl⟩;refine ⟨fun _ _ h=>h,?_⟩;refine za 19 Z (qah Z Z Uo) Z<|za 20 Z (qa6 Z) Z<|qaf V<|Zt<|Zs<|Sr<|Zqm Z Z<|Zqm Z Z<|qa8 Z Z Z<|Nt<|?_;refine qaa Z ?_ ?_<;>intro c35;·have hT:=(qy4 hv h7 c35).trans (by rw [hT0]);refine Sr<|Zqm Z Z<|qad (qah Z Z Uo) Z<|qad (qah Z Z Uo) Z<|At Z Z<|Zo<|Zu<|?_;exact rR [_] L (.t1 Z) Z (e32.t h33|>.t h34) fun _ hS2=>qfd
 have hT:=(qy3 hv h7 c35).trans hT0;refine Zk<|Zt<|Sr<|Zqm Z Z<|At Z Z<|Zo<|?_;exact rR [_] L (.t1 Z) Z (e32.t h33|>.t h34) fun _ hS2=>qfd
def qug(D:Nat):∀ d,EXR D d
 | 0=>fun L s x A n c out hA hu hv hN=>qlW D 0 (fun e h=>by omega) L s x A n c out hA hu hv hN
 | d+1=>fun L s x A n c out hA hu hv hN=>qlW D (d+1) (fun e h=>(show d=e by omega)▸qug D d) L s x A n c out hA hu hv hN
def RTC(D d:Nat):Prop:=∀ (L:Hl) (s:World) (x:Stm) (A1 A2 A3:Option Addr) (n1 q1 n2 q2 n3 q3:Nat) (lv:Nat),Exs d s A1 n1 q1 x.exprs→Stms d s A2 n2 q2 x.body→Stms d s A3 n3 q3 x.els→stV x lv=true→stN x≤2000→AC prog D 122 [.agg #[.int .i64 x.kind,St x.name,.slice A1 n1 q1,.slice A2 n2 q2,.slice A3 n3 q3],.int .i64 (lv:Int)] L s fun v L' _=>v=St (stT x lv)∧L=L'
def RSS(D d:Nat):Prop:=∀ (L:Hl) (s:World) (A:Option Addr) (n c:Nat) (xs:List Stm) (lv:Nat),Stms d s A n c xs→qdP xs lv=true→qbr xs≤2000→lv≤17→AC prog D 86 [.slice A n c,.int .i64 (lv:Int)] L s fun v L' _=>v=St (qdE xs lv)∧L=L'
def qgI{l:List Str}{i:Nat}{w:Str}(h:l[i]?=some w):w.length+2≤qhq l:=by
 induction l generalizing i with
 | nil=>cases h
 | cons x r ih=>
  rw [qbJ];cases i with
  | zero=>simp at h;subst h;omega
  | succ i=>have:=ih (by simpa using h);omega
def qpA{xs:List Stm}{k lv:Nat}{x:Stm}(h:xs[k]?=some x):qdE (xs.take (k+1)) lv=qdE (xs.take k) lv++qaT lv++stT x lv:=by
 induction xs generalizing k with
 | nil=>cases h
 | cons y r ih=>
  cases k with
  | zero=>simp at h;subst h;simp [qdE]
  | succ k=>rw [List.take_succ_cons,List.take_succ_cons,qdE,qdE,ih (by simpa using h)];simp
def qpB{xs:List Stm}{lv:Nat}(k:Nat):(qdE (xs.take k) lv).length≤(qdE xs lv).length:=by
 induction xs generalizing k with
 | nil=>simp
 | cons y r ih=>
  cases k with
  | zero=>simp [qdE]
  | succ k=>have:=ih k;rw [List.take_succ_cons,qdE,qdE];simp only [List.length_append];omega
section
variable{x z:Stm}{lv:Nat}{w0 w1 wd:Str}
def rt_1(h:x.kind=1)(h0:(qdT x.exprs [])[0]?=some w0):stT x lv=x.name++[32,61,32]++w0++[59,10]:=by
 rw [qeQ O,qhp,if_pos h,List.getD,h0];rfl
def rt_2(h:x.kind=2)(h0:(qdT x.exprs [])[0]?=some w0)(h1:(qdT x.exprs [])[1]?=some w1):stT x lv=x.name++[91]++w0++[93,32,61,32]++w1++[59,10]:=by
 rw [qeQ O,qhp,if_neg O,if_pos h,List.getD,h0,List.getD,h1];rfl
def rt_5(h:x.kind=5):stT x lv=x.name++[40]++qa2 (qdT x.exprs [])++[41,59,10]:=by
 rw [qeQ O,qhp,if_neg O,if_neg O,if_pos h]
def rt_6(h:x.kind=6):stT x lv=[114,101,116,117,114,110,32]++qa2 (qdT x.exprs [])++[59,10]:=by
 rw [qeQ O,qhp,if_neg O,if_neg O,if_neg O,if_pos h]
def rt_7(h:x.kind=7):stT x lv=[112,117,116,32]++qa2 (qdT x.exprs [])++[59,10]:=by
 rw [qeQ O,qhp,if_neg O,if_neg O,if_neg O,if_neg O,if_pos h]
def rt_8(h:x.kind=8):stT x lv=[115,116,111,112,32]++qa2 (qdT x.exprs [])++[59,10]:=by
 rw [qeQ O,qhp,if_neg O,if_neg O,if_neg O,if_neg O,if_neg O,if_pos h]
def rt_9(h:x.kind=9):stT x lv=[98,114,101,97,107]++qa2 (qdT x.exprs [])++[59,10]:=by
 rw [qeQ O,qhp,if_neg O,if_neg O,if_neg O,if_neg O,if_neg O,if_neg O,if_pos h]
def qBm(h:x.kind=10):stT x lv=[99,111,110,116,105,110,117,101]++qa2 (qdT x.exprs [])++[59,10]:=by
 rw [qeQ O,qhp,if_neg O,if_neg O,if_neg O,if_neg O,if_neg O,if_neg O,if_neg O]
def qBn(h:x.kind=3∨x.kind=4)(h0:(qdT x.exprs [])[0]?=some w0)(hw:(if x.kind=3 then [105,102] else [119,104,105,108,101])=wd):stT x lv=wd++[32,40]++w0++[41,32,123,10]++qdE x.body (lv+1)++qaT lv++[125]++(if x.els.isEmpty=true then [10] else if qp6 x.els=true then [32,101,108,115,101,32]++st1 x.els lv else [32,101,108,115,101,32,123,10]++qdE x.els (lv+1)++qaT lv++[125,10]):=by
 cases x with
 | mk k nm es b e=>
  have h:k=3∨k=4:=h;have h0:(qdT es [])[0]?=some w0:=h0;have hw:(if k=3 then [105,102] else [119,104,105,108,101])=wd:=hw;simp only [stT];rw [if_pos h,hw,List.getD,h0];rfl
def rt_a(h:x.kind=3∨x.kind=4)(h0:(qdT x.exprs [])[0]?=some w0)(hw:(if x.kind=3 then [105,102] else [119,104,105,108,101])=wd)(he:x.els=[]):stT x lv=wd++[32,40]++w0++[41,32,123,10]++qdE x.body (lv+1)++qaT lv++[125]++[10]:=by
 rw [qBn h h0 hw,he];rfl
def rt_b(h:x.kind=3∨x.kind=4)(h0:(qdT x.exprs [])[0]?=some w0)(hw:(if x.kind=3 then [105,102] else [119,104,105,108,101])=wd)(hl:x.els.length=1)(hz:x.els[0]?=some z)(hk:z.kind=3):stT x lv=wd++[32,40]++w0++[41,32,123,10]++qdE x.body (lv+1)++qaT lv++[125]++[32,101,108,115,101,32]++stT z lv:=by
 rw [qBn h h0 hw,qmI hl hz];cases z with
 | mk k nm es b l=>
  have hk:k=3:=hk;rw [if_neg (by simp),if_pos (by simp [qp6,hk])];simp [st1]
def rt_c(h:x.kind=3∨x.kind=4)(h0:(qdT x.exprs [])[0]?=some w0)(hw:(if x.kind=3 then [105,102] else [119,104,105,108,101])=wd)(hl:x.els.length≠0)(hn:¬ (x.els.length=1∧∀ z,x.els[0]?=some z→z.kind=3)):stT x lv=wd++[32,40]++w0++[41,32,123,10]++qdE x.body (lv+1)++qaT lv++[125]++[32,101,108,115,101,32,123,10]++qdE x.els (lv+1)++qaT lv++[125,10]:=by
  rw [qBn h h0 hw,if_neg (by intro g;exact hl (by simpa using g)),if_neg]
  · simp
  · intro g
    match he:x.els,g with
    | [.mk k nm es b l],g=>exact hn ⟨by rw [he];rfl,fun z hz=>by rw [he] at hz;simp at hz;subst hz;show k=3;simpa [qp6] using g⟩
end
def qlY(D d:Nat)(ih:∀ e,d=e+1→RTC D e)(L:Hl)(s:World)(A:Option Addr)(n c:Nat)(xs:List Stm)(lv:Nat)(hA:Stms d s A n c xs)(hv:qdP xs lv=true)(hN:qbr xs≤2000)(hlv:lv≤17):AC prog D 86 [.slice A n c,.int .i64 (lv:Int)] L s fun v L' _=>v=St (qdE xs lv)∧L=L':=by
 have hn:=hA.1;have hc1:=hA.2.1;have hc2:=hA.2.2.1;have hml:=qbO lv;have htl:=qcY xs lv hv hA.u;refine qae (fn:=f86) qav func86 V Z ntmps86 Z (rs:=[.tmp 4]) Z [(0,_),(1,_)] Z<|Sr<|At Z Z<|Sr<|At Z Z<|Zs<|Sr<|At Z Z<|Zp<|qaA (γ:=Nat) (fun k=>[(0,_),(1,_),(4,_),(5,St (qdE (xs.take k) lv)),(6,.int .i64 (k:Int))]) (fun _=>_) (fun k tw=>Le D s tw∧(k≤n)) (fun k=>n - k) (fun _ _ _ h hl=>⟨h.1.trans hl,h.2⟩) 0 (.c5 Z Z Z Z Z (.nil _)) Z ⟨Le.refl _,Nat.zero_le _⟩ ?_;intro k s1 I1;have hk0:=I1.2;have htk:=qpB (xs:=xs) (lv:=lv) k;refine Zs<|Sr<|Zqm Z Z<|Zqm Z Z<|Ws Y4<|qa8 Z Z Z<|Nt<|?_;refine qaa Z ?_ ?_<;>intro c2
 ·have hk:k < n:=by omega
  obtain ⟨e,b,off,x,A1,n1,p1,A2,n2,p2,A3,n3,p3,hd,rfl,hx,hcx,hax,hbx,hex,hnl⟩:=Stms.at_ (hA.le I1.1) hk;obtain ⟨hvx,hNx⟩:=qfE hv hx;have hxs:=qhh x lv hvx (Stms.u_at hA.u hx);refine Zk<|Zt<|Zs<|Zp<|qaJ qac 12 Z _ (fun _ h=>h) fun s3 h3=>za 0 Z (qan Z) Z<|za 1 Z (qan Z) Z<|za 4 Z (qan Z) Z<|za 5 Z (qan Z) Z<|za 6 Z (qau Z Z Z Z Z Z hk) Z<|za 7 Z (qaw Z Z Z (hcx.le h3) Z) Z<|za 8 Z (qan Z) Z<|qar 2 V<|Jf Z Tt Z Z Z (qha D _ _ lv O) fun s4 h4=>za 3 Z (qah Z Z Ut) Z<|qar 9 V<|Jb Z Tt Z Z Z (ih e hd _ _ x A1 A2 A3 n1 p1 n2 p2 n3 p3 lv (hax.le (h3.t h4)) (hbx.le (h3.t h4)) (hex.le (h3.t h4)) hvx O) ?_;rintro _ _ s5 h5 ⟨rfl,rfl⟩;refine ⟨fun _ _ h=>h,?_⟩;refine za 10 Z (qah Z Z Ut) Z<|za 11 Z (qa6 Z) Z<|qaf V<|Zb<|Zt<|Zr<|Zqm Z Z<|qaD Z Z Z (w64 O O)<|Zqa Z Z<|Zn<|?_;refine qab ⟨(k+1),[],(.c3 Z Z Z (.cons (congrArg (fun l=>some (St l)) (qpA hx).symm) kp)),Z,⟨(I1.1.t h3|>.t h4|>.t h5),(show k+1≤n by omega)⟩,O⟩
 obtain rfl:k=n:=by omega
 refine Zl<|Zv<|Zv<|Zd<|Zt<|Sr<|Zqm Z Z<|At Z Z<|Zo<|?_;exact rR [] L (.t1 Z) Z I1.1 fun _ hS2=>⟨by rw [List.take_of_length_le O];rfl,rfl⟩
def qrm(k:Int):qd0 k≤6:=by
 unfold qd0;repeat' split
 all_goals decide
def qlZ(D d:Nat)(hB:RSS D d)(ih:∀ e,d=e+1→RTC D e)(L:Hl)(s:World)(x:Stm)(A1 A2 A3:Option Addr)(n1 q1 n2 q2 n3 q3:Nat)(lv:Nat)(hA1:Exs d s A1 n1 q1 x.exprs)(hA2:Stms d s A2 n2 q2 x.body)(hA3:Stms d s A3 n3 q3 x.els)(hv:stV x lv=true)(hN:stN x≤2000):AC prog D 122 [.agg #[.int .i64 x.kind,St x.name,.slice A1 n1 q1,.slice A2 n2 q2,.slice A3 n3 q3],.int .i64 (lv:Int)] L s fun v L' _=>v=St (stT x lv)∧L=L':=by
 have hn:=hA1.1;have hn3:=hA3.1;have hq:=hA1.2.1;have hq9:=hA1.2.2.1;have hml:=qbO lv;obtain ⟨hlv,hC,hvE,hvB,hvL⟩:=qdL hv;have hka:=qcx hC;have hNs:=qgi x;have htw:=qdU x.exprs [] hvE hA1.u;have hbl:=qcY x.body (lv+1) hvB hA2.u;have hel:=qcY x.els (lv+1) hvL hA3.u;have hnm:=ql4 hC;have hn6:n1≤6:=by have h:=hka.2.2.2.1;have:=qrm x.kind;omega
 refine qae (fn:=f122) qav func122 V Z ntmps122 Z (rs:=[.tmp 4]) Z [(0,_),(1,_)] Z<|Sr<|qay Z Z fun β1 s1 h1=>At Z Z<|Sr<|At Z Z<|Zs<|Sr<|At Z Z<|Zp<|qaA (γ:=Nat×Value×Hl) (fun g=>[(1,_),(2,_),(4,_),(5,g.2.1),(6,.int .i64 (g.1:Int))]) (fun g=>_::(g.2.2++L)) (fun g tw=>Le D s1 tw∧(g.1≤n1∧FL.Own 9 1 g.2.2 g.2.1 g.1 (sb ((x.exprs.take g.1).map fun x=>exT x 0)))) (fun g=>n1 - g.1) (fun _ _ _ h hl=>⟨h.1.trans hl,h.2⟩) (0,.slice none 0 0,[]) (.c5 Z Z Z Z Z (.nil _)) Z ⟨Le.refl _,⟨Nat.zero_le _,Own.nil⟩⟩ ?_;intro g s2 I2;have e2:=h1.t I2.1;obtain ⟨k,vo,Mo⟩:=g;obtain ⟨hk0,hO⟩:=I2.2;simp only at hk0 hO;dsimp only;refine Zs<|Sr<|Zqm Z Z<|Wb Y5<|Wl 0 Y6<|Ws Y4<|qa8 Z Z Z<|Nt<|?_;refine qaa Z ?_ ?_<;>intro c3
 ·have hk:k < n1:=by omega
  obtain ⟨e,b,off,y,A',n',c',hd,rfl,hx,hcy,hay,huy,hnl⟩:=Exs.at_ (hA1.le e2) hk;obtain ⟨hvy,hNy⟩:=qce hvE hx;refine Zk<|Zt<|Zs<|Zp<|Zr<|Zqm Z Z<|Wb Y5<|Wl 0 Y6<|Zqm Z Z<|qad (qau Z Z Z Z Z Z hk) Z<|qad (qaw Z Z Z (hcy.le (Lr D)) Z) Z<|Jc Z Z Z (qug D e _ _ y A' n' c' 0 (hay.le (Lr D)) huy hvy O) ?_;rintro _ _ s4 h4 ⟨rfl,rfl⟩;refine qa4 [(_,_)] [_] Z Z Z Z Z Z Z Z Z fun βn s5 h5 hcb=>qbq (sz:=1) [_] Mo L Z Z Z Z Z Z Z hO (Row.of_cells (hcb.le (Lr D)) Z Z) ⟨by simp [ti9];omega,by omega⟩ Z ?_;intro vq Mq s6 h6 oq;obtain ⟨Avq,cvq,rfl,_,_⟩:=Own.slice oq;simp only [cQ9,nQ9];refine Zqa Z Z<|Zn<|Zb<|Zt<|Zr<|Zqm Z Z<|qaD Z Z Z (w64 O O)<|Zqa Z Z<|Zn<|?_;refine qab ⟨(k+1,.slice Avq (k+1) cvq,Mq),[],kp,Z,⟨(I2.1.t h4|>.t h5|>.t h6),⟨by simp only;omega,by rw [qaS (fun x=>exT x 0) hx,qcK];exact oq⟩⟩,Oz⟩
 obtain rfl:n1=k:=by omega
 rw [List.take_of_length_le O] at hO;obtain ⟨Ao,co,rfl,_,_⟩:=Own.slice hO;refine Zl<|Zv<|Zv<|Zd<|Zt<|Zs<|Zs<|qdA [_] Mo _ ?_;intro s7 h7 hpub7;have e7:=e2.t h7;simp only [cQ9,nQ9];have hSt:=Own.strs hO (qgx hvE hA1.u O) hpub7 (by rw [List.length_map];omega);refine Zr<|W0 Y5<|Wl 0 Y6<|qax Z Z Z<|Nt<|?_;refine qaa Z ?_ ?_<;>intro c8;·have hl1:=qfD hv (.inl c8);obtain ⟨b0,o0,w0,hb0,hw0,hcw,hwl⟩:=Strs.at_ (hSt.le (Lr D)) (show 0 < n1 by omega);cases hb0;rw [← qbM] at hw0;have hg0:=qgI hw0;have hT:=rt_1 (lv:=lv) c8 hw0;refine Zs<|qaJ qac 9 Z _ (fun _ h=>h) fun s9 h9=>za 0 Z (We Y4) Z<|za 1 Z (Wd 0 Y5) Z<|za 2 Z (qah Z Z Uo) Z<|za 3 Z (qan Z) Z<|za 4 Z (qaU (j:=0) Z Z Z Z Z Z (show 0 < n1 by omega)) Z<|za 5 Z (qaq Z Z Z (hcw.le h9) Z) Z<|za 6 Z (qah Z Z Uo) Z<|za 7 Z (qah Z Z Uo) Z<|za 8 Z (qa6 Z) Z<|qaf V<|Zt<|Zo<|Zu<|?_;exact rR [_] L (.t1 Z) Z (e7.t h9) fun _ hS2=>qfd
 refine Zk<|Zt<|Zs<|Sr<|W0 Y5<|Wl 0 Y6<|qax Z Z Z<|Nt<|?_;refine qaa Z ?_ ?_<;>intro c10;·have hl1:=qwx hv c10;obtain ⟨b0,o0,w0,hb0,hw0,hcw,hwl⟩:=Strs.at_ (hSt.le (Lr D)) (show 0 < n1 by omega);cases hb0;rw [← qbM] at hw0;have hg0:=qgI hw0;obtain ⟨b1,o1,w1,hb1,hw1,hcw1,hwl1⟩:=Strs.at_ (hSt.le (Lr D)) (show 1 < n1 by omega);cases hb1;rw [← qbM] at hw1;have hg1:=qgI hw1;have hT:=rt_2 (lv:=lv) c10 hw0 hw1;refine Zs<|qaJ qac 14 Z _ (fun _ h=>h) fun s11 h11=>za 0 Z (We Y4) Z<|za 1 Z (Wd 0 Y5) Z<|za 2 Z (qah Z Z Uo) Z<|za 3 Z (qan Z) Z<|za 4 Z (qaU (j:=0) Z Z Z Z Z Z (show 0 < n1 by omega)) Z<|za 5 Z (qaq Z Z Z (hcw.le h11) Z) Z<|za 6 Z (qah Z Z Uo) Z<|za 7 Z (qah Z Z Uo) Z<|za 8 Z (qan Z) Z<|za 9 Z (qaU (j:=1) Z Z Z Z Z Z (show 1 < n1 by omega)) Z<|za 10 Z (qaq Z Z Z (hcw1.le h11) Z) Z<|za 11 Z (qah Z Z Uo) Z<|za 12 Z (qah Z Z Uo) Z<|za 13 Z (qa6 Z) Z<|qaf V<|Zt<|Zo<|Zu<|?_;exact rR [_] L (.t1 Z) Z (e7.t h11) fun _ hS2=>qfd
 refine Zk<|Zt<|Zs<|Sr<|W0 Y5<|Wl 0 Y6<|qax Z Z Z<|Nt<|?_;refine qaa Z ?_ ?_<;>intro c12;·have hT:=rt_5 (lv:=lv) c12;rw [qbM] at hT htw;have hcl:=qbh (x.exprs.map fun x=>exT x 0);refine Zs<|qaJ qac 8 Z _ (fun _ h=>h) fun s13 h13=>za 0 Z (We Y4) Z<|za 1 Z (Wd 0 Y5) Z<|za 2 Z (qah Z Z Uo) Z<|za 3 Z (qan Z) Z<|qar 4 V<|Jf Z Tt Z Z Z (qdb D _ _ Ao _ co (x.exprs.map fun x=>exT x 0) (hSt.le h13) O) fun s14 h14=>za 5 Z (qah Z Z Uo) Z<|za 6 Z (qah Z Z Uo) Z<|za 7 Z (qa6 Z) Z<|qaf V<|Zt<|Zo<|Zu<|?_;exact rR [_] L (.t1 Z) Z (e7.t h13|>.t h14) fun _ hS2=>qfd
 refine Zk<|Zt<|Zs<|Sr<|W0 Y5<|Wl 0 Y6<|qbl Z Z Z<|Nt<|?_;refine qaa Z ?_ ?_<;>intro c15
 ·rw [qbM] at htw;have hcl:=qbh (x.exprs.map fun x=>exT x 0);refine Sr<|qa4 [(_,_),(_,_),(_,_),(_,_),(_,_)] [_,_,_,_,_] Z Z Z Z Z Z Z Z Z fun βr s16 h16 hcr=>At Z Z<|Zs<|?_;have e16:=e7.t h16;rcases (show x.kind=6∨x.kind=7∨x.kind=8∨x.kind=9∨x.kind=10 by omega) with gk6|gk7|gk8|gk9|gk10
  ·have hT:=rt_6 (lv:=lv) gk6;rw [qbM] at hT;refine qaJ qac 11 Z _ (fun _ h=>h) fun s17 h17=>za 0 Z (qan Z) Z<|za 1 Z (qat Z Z Z Z) Z<|za 2 Z (Wd 0 Y5) Z<|za 3 Z (qba (c:=((0:Nat):Int)) Z Z (by rw [w64 O O];omega)) Z<|za 4 Z (qaU Z Z Z Z Z Z (show 0 < 5 by omega)) Z<|za 5 Z (qaq Z Z Z (hcr.le h17) Z) Z<|za 6 Z (qan Z) Z<|qar 7 V<|Jf Z Tt Z Z Z (qdb D _ _ Ao _ co (x.exprs.map fun x=>exT x 0) (hSt.le (h16.t h17)) O) fun s18 h18=>za 8 Z (qah Z Z Uo) Z<|za 9 Z (qah Z Z Uo) Z<|za 10 Z (qa6 Z) Z<|qaf V<|Zt<|Zo<|Zu<|?_;exact rR [_] L (.t1 Z) Z (e16.t h17|>.t h18) fun _ hS2=>qfd
  ·have hT:=rt_7 (lv:=lv) gk7;rw [qbM] at hT;refine qaJ qac 11 Z _ (fun _ h=>h) fun s19 h19=>za 0 Z (qan Z) Z<|za 1 Z (qat Z Z Z Z) Z<|za 2 Z (Wd 0 Y5) Z<|za 3 Z (qba (c:=((1:Nat):Int)) Z Z (by rw [w64 O O];omega)) Z<|za 4 Z (qaU Z Z Z Z Z Z (show 1 < 5 by omega)) Z<|za 5 Z (qaF 1 Z Z Z (hcr.le h19) Z) Z<|za 6 Z (qan Z) Z<|qar 7 V<|Jf Z Tt Z Z Z (qdb D _ _ Ao _ co (x.exprs.map fun x=>exT x 0) (hSt.le (h16.t h19)) O) fun s20 h20=>za 8 Z (qah Z Z Uo) Z<|za 9 Z (qah Z Z Uo) Z<|za 10 Z (qa6 Z) Z<|qaf V<|Zt<|Zo<|Zu<|?_;exact rR [_] L (.t1 Z) Z (e16.t h19|>.t h20) fun _ hS2=>qfd
  ·have hT:=rt_8 (lv:=lv) gk8;rw [qbM] at hT;refine qaJ qac 11 Z _ (fun _ h=>h) fun s21 h21=>za 0 Z (qan Z) Z<|za 1 Z (qat Z Z Z Z) Z<|za 2 Z (Wd 0 Y5) Z<|za 3 Z (qba (c:=((2:Nat):Int)) Z Z (by rw [w64 O O];omega)) Z<|za 4 Z (qaU Z Z Z Z Z Z (show 2 < 5 by omega)) Z<|za 5 Z (qaF 2 Z Z Z (hcr.le h21) Z) Z<|za 6 Z (qan Z) Z<|qar 7 V<|Jf Z Tt Z Z Z (qdb D _ _ Ao _ co (x.exprs.map fun x=>exT x 0) (hSt.le (h16.t h21)) O) fun s22 h22=>za 8 Z (qah Z Z Uo) Z<|za 9 Z (qah Z Z Uo) Z<|za 10 Z (qa6 Z) Z<|qaf V<|Zt<|Zo<|Zu<|?_;exact rR [_] L (.t1 Z) Z (e16.t h21|>.t h22) fun _ hS2=>qfd
  ·have hT:=rt_9 (lv:=lv) gk9;rw [qbM] at hT;refine qaJ qac 11 Z _ (fun _ h=>h) fun s23 h23=>za 0 Z (qan Z) Z<|za 1 Z (qat Z Z Z Z) Z<|za 2 Z (Wd 0 Y5) Z<|za 3 Z (qba (c:=((3:Nat):Int)) Z Z (by rw [w64 O O];omega)) Z<|za 4 Z (qaU Z Z Z Z Z Z (show 3 < 5 by omega)) Z<|za 5 Z (qaF 3 Z Z Z (hcr.le h23) Z) Z<|za 6 Z (qan Z) Z<|qar 7 V<|Jf Z Tt Z Z Z (qdb D _ _ Ao _ co (x.exprs.map fun x=>exT x 0) (hSt.le (h16.t h23)) O) fun s24 h24=>za 8 Z (qah Z Z Uo) Z<|za 9 Z (qah Z Z Uo) Z<|za 10 Z (qa6 Z) Z<|qaf V<|Zt<|Zo<|Zu<|?_;exact rR [_] L (.t1 Z) Z (e16.t h23|>.t h24) fun _ hS2=>qfd
  have hT:=qBm (lv:=lv) gk10;rw [qbM] at hT;refine qaJ qac 11 Z _ (fun _ h=>h) fun s25 h25=>za 0 Z (qan Z) Z<|za 1 Z (qat Z Z Z Z) Z<|za 2 Z (Wd 0 Y5) Z<|za 3 Z (qba (c:=((4:Nat):Int)) Z Z (by rw [w64 O O];omega)) Z<|za 4 Z (qaU Z Z Z Z Z Z (show 4 < 5 by omega)) Z<|za 5 Z (qaF 4 Z Z Z (hcr.le h25) Z) Z<|za 6 Z (qan Z) Z<|qar 7 V<|Jf Z Tt Z Z Z (qdb D _ _ Ao _ co (x.exprs.map fun x=>exT x 0) (hSt.le (h16.t h25)) O) fun s26 h26=>za 8 Z (qah Z Z Uo) Z<|za 9 Z (qah Z Z Uo) Z<|za 10 Z (qa6 Z) Z<|qaf V<|Zt<|Zo<|Zu<|?_;exact rR [_] L (.t1 Z) Z (e16.t h25|>.t h26) fun _ hS2=>qfd
 have h34:x.kind=3∨x.kind=4:=by omega
 have hl1:=qfD hv (h34.elim (fun h=>.inr (.inl h)) (fun h=>.inr (.inr (.inl h))));obtain ⟨b0,o0,w0,hb0,hw0,hcw,hwl⟩:=Strs.at_ (hSt.le (Lr D)) (show 0 < n1 by omega);cases hb0;rw [← qbM] at hw0;have hg0:=qgI hw0
      
 refine Zk<|Zt<|Sr<|At Z Z<|Zs<|Sr<|W0 Y5<|Wl 0 Y6<|qax Z Z Z<|Nt<|?_;refine qaa Z ?_ ?_<;>intro c27
 ·have hwd:(if x.kind=3 then [105,102] else [119,104,105,108,101])=([105,102]:Str):=if_pos c27;refine Zr<|At Z Z<|Zs<|qaJ qac 18 Z _ (fun _ h=>h) fun s28 h28=>za 0 Z (qan Z) Z<|za 1 Z (qah Z Z Uo) Z<|za 2 Z (qan Z) Z<|za 3 Z (qaU (j:=0) Z Z Z Z Z Z (show 0 < n1 by omega)) Z<|za 4 Z (qaq Z Z Z (hcw.le h28) Z) Z<|za 5 Z (qah Z Z Uo) Z<|za 6 Z (qah Z Z Uo) Z<|za 7 Z (We Y4) Z<|za 8 Z (Wd 0 Y5) Z<|za 9 Z (qan Z) Z<|za 10 Z (qaC Z Z (show IntKind.i64.wrap ((lv:Int)+1)=((lv+1:Nat):Int) by rw [w64 O O];simp)) Z<|za 13 Z (qan Z) Z<|qar 11 V<|Jb Z Tt Z Z Z (hB _ _ A2 n2 q2 x.body (lv+1) (hA2.le (e7.t h28)) hvB O O) ?_;have e28:=e7.t h28;rintro _ _ s29 h29 ⟨rfl,rfl⟩;have e29:=e28.t h29;refine ⟨fun _ _ h=>h,?_⟩;refine za 12 Z (qah Z Z Uo) Z<|qar 14 V<|Jf Z Tt Z Z Z (qha D _ _ lv O) fun s30 h30=>za 15 Z (qah Z Z Uo) Z<|za 16 Z (qah Z Z Uo) Z<|za 17 Z (qa6 Z) Z<|qaf V<|Zt<|Zs<|Sr<|Wb Y5<|Wl 0 Y6<|Ws Y4<|qax Z Z Z<|Nt<|?_;have e30:=e29.t h30;refine qaa Z ?_ ?_<;>intro c31;·have hT:=rt_a h34 hw0 hwd (List.eq_nil_of_length_eq_zero O) (lv:=lv);refine Sr<|Zqm Z Z<|qad (qah Z Z Uo) Z<|At Z Z<|Zo<|Zu<|?_;exact rR [_] L (.t1 Z) Z e30 fun _ hS2=>qfd
  have g0:x.els.length≠0:=by omega
  obtain ⟨e,b,off,z,B1,m1,d1,B2,m2,d2,B3,m3,d3,hd,rfl,hz,hcz,haz,hbz,hez,hnlz⟩:=Stms.at_ (hA3.le e30) (show 0 < n3 by omega);obtain ⟨hvz,hNz⟩:=qfE hvL hz;refine Zk<|Zt<|Zs<|?_;refine qa9 114 (n3=1∧z.kind=3) ?_ ?_
  ·refine Zr<|Wb Y5<|Wl 0 Y6<|Ws Y4<|qax Z Z Z<|Zqm Z Z<|?_;refine qai (t:=107) Z ?_ ?_<;>intro c33;·refine Zg Z Z<|Wb Y5<|Zg Z Z<|Wl 0 Y6<|Zg Z Z<|qad (qau (j:=0) Z Z Z Z Z Z O) Z<|Zg Z Z<|W0 Y5<|Zg Z Z<|qad (qaq Z Z Z (hcz.le (Lr D)) Z) Z<|Zg Z Z<|qax Z Z Z<|ZqT Z Z Z<|Zn<|?_;refine qab (MidB.mk (Lr D) Sb Z (decide_eq_decide.2 O))
   refine Wf Y4<|Wf Y4<|Wf Y4<|Wf Y4<|Wf Y4<|Wf Y4<|ZqF Z Z Z<|Zn<|?_;refine qab (MidB.mk (Lr D) Sb Z ((decide_eq_false O).symm))
  intro s32 h32;refine qaa Z ?_ ?_<;>intro c34;·have g3:=c34;have hT:=rt_b h34 hw0 hwd O hz g3.2 (lv:=lv);have hvz2:=qfF z lv (lv+1) O hvz;have hzl:=qhh z lv hvz2 (Stms.u_at hA3.u hz);refine Sr<|Zqm Z Z<|qad (qah Z Z Uo) Z<|Wb Y5<|Wl 0 Y6<|qad (qau (j:=0) Z Z Z Z Z Z O) Z<|qad (qaw Z Z Z (hcz.le h32) Z) Z<|Zqm Z Z<|Jc Z Z Z (ih e hd _ _ z B1 B2 B3 m1 d1 m2 d2 m3 d3 lv (haz.le h32) (hbz.le h32) (hez.le h32) hvz2 O) ?_;rintro _ _ s35 h35 ⟨rfl,rfl⟩;refine qad (qah Z Z Uo) Z<|At Z Z<|Zo<|Zu<|?_;exact rR [_] L (.t1 Z) Z (e30.t h32|>.t h35) fun _ hS2=>qfd
  have g3:=c34;have hT:=rt_c h34 hw0 hwd g0 (fun h=>g3 ⟨by omega,h.2 z hz⟩) (lv:=lv);refine Zk<|Zt<|Sr<|Zqm Z Z<|qad (qah Z Z Uo) Z<|Wb Y5<|Wl 0 Y6<|Zqm Z Z<|qad (qaC Z Z (show IntKind.i64.wrap ((lv:Int)+1)=((lv+1:Nat):Int) by rw [w64 O O];simp)) Z<|Jc Z Z Z (hB _ _ _ n3 q3 x.els (lv+1) (hA3.le (e30.t h32)) hvL O O) ?_;rintro _ _ s36 h36 ⟨rfl,rfl⟩;refine qad (qah Z Z Uo) Z<|Zqm Z Z<|Je Z Z Z (qha D _ _ lv O) fun s37 h37=>qad (qah Z Z Uo) Z<|qad (qah Z Z Uo) Z<|At Z Z<|Zo<|?_;exact rR [_] L (.t1 Z) Z (e30.t h32|>.t h36|>.t h37) fun _ hS2=>qfd
 have hwd:(if x.kind=3 then [105,102] else [119,104,105,108,101])=([119,104,105,108,101]:Str):=if_neg c27;refine Zk<|Zt<|Zs<|qaJ qac 18 Z _ (fun _ h=>h) fun s38 h38=>za 0 Z (qan Z) Z<|za 1 Z (qah Z Z Uo) Z<|za 2 Z (qan Z) Z<|za 3 Z (qaU (j:=0) Z Z Z Z Z Z (show 0 < n1 by omega)) Z<|za 4 Z (qaq Z Z Z (hcw.le h38) Z) Z<|za 5 Z (qah Z Z Uo) Z<|za 6 Z (qah Z Z Uo) Z<|za 7 Z (We Y4) Z<|za 8 Z (Wd 0 Y5) Z<|za 9 Z (qan Z) Z<|za 10 Z (qaC Z Z (show IntKind.i64.wrap ((lv:Int)+1)=((lv+1:Nat):Int) by rw [w64 O O];simp)) Z<|za 13 Z (qan Z) Z<|qar 11 V<|Jb Z Tt Z Z Z (hB _ _ A2 n2 q2 x.body (lv+1) (hA2.le (e7.t h38)) hvB O O) ?_;have e38:=e7.t h38;rintro _ _ s39 h39 ⟨rfl,rfl⟩;have e39:=e38.t h39;refine ⟨fun _ _ h=>h,?_⟩;refine za 12 Z (qah Z Z Uo) Z<|qar 14 V<|Jf Z Tt Z Z Z (qha D _ _ lv O) fun s40 h40=>za 15 Z (qah Z Z Uo) Z<|za 16 Z (qah Z Z Uo) Z<|za 17 Z (qa6 Z) Z<|qaf V<|Zt<|Zs<|Sr<|Wb Y5<|Wl 0 Y6<|Ws Y4<|qax Z Z Z<|Nt<|?_;have e40:=e39.t h40;refine qaa Z ?_ ?_<;>intro c41;·have hT:=rt_a h34 hw0 hwd (List.eq_nil_of_length_eq_zero O) (lv:=lv);refine Sr<|Zqm Z Z<|qad (qah Z Z Uo) Z<|At Z Z<|Zo<|Zu<|?_;exact rR [_] L (.t1 Z) Z e40 fun _ hS2=>qfd
 have g0:x.els.length≠0:=by omega
 obtain ⟨e,b,off,z,B1,m1,d1,B2,m2,d2,B3,m3,d3,hd,rfl,hz,hcz,haz,hbz,hez,hnlz⟩:=Stms.at_ (hA3.le e40) (show 0 < n3 by omega);obtain ⟨hvz,hNz⟩:=qfE hvL hz;refine Zk<|Zt<|Zs<|?_;refine qa9 114 (n3=1∧z.kind=3) ?_ ?_
 ·refine Zr<|Wb Y5<|Wl 0 Y6<|Ws Y4<|qax Z Z Z<|Zqm Z Z<|?_;refine qai (t:=107) Z ?_ ?_<;>intro c43;·refine Zg Z Z<|Wb Y5<|Zg Z Z<|Wl 0 Y6<|Zg Z Z<|qad (qau (j:=0) Z Z Z Z Z Z O) Z<|Zg Z Z<|W0 Y5<|Zg Z Z<|qad (qaq Z Z Z (hcz.le (Lr D)) Z) Z<|Zg Z Z<|qax Z Z Z<|ZqT Z Z Z<|Zn<|?_;refine qab (MidB.mk (Lr D) Sb Z (decide_eq_decide.2 O))
  refine Wf Y4<|Wf Y4<|Wf Y4<|Wf Y4<|Wf Y4<|Wf Y4<|ZqF Z Z Z<|Zn<|?_;refine qab (MidB.mk (Lr D) Sb Z ((decide_eq_false O).symm))
 intro s42 h42;refine qaa Z ?_ ?_<;>intro c44;·have g3:=c44;have hT:=rt_b h34 hw0 hwd O hz g3.2 (lv:=lv);have hvz2:=qfF z lv (lv+1) O hvz;have hzl:=qhh z lv hvz2 (Stms.u_at hA3.u hz);refine Sr<|Zqm Z Z<|qad (qah Z Z Uo) Z<|Wb Y5<|Wl 0 Y6<|qad (qau (j:=0) Z Z Z Z Z Z O) Z<|qad (qaw Z Z Z (hcz.le h42) Z) Z<|Zqm Z Z<|Jc Z Z Z (ih e hd _ _ z B1 B2 B3 m1 d1 m2 d2 m3 d3 lv (haz.le h42) (hbz.le h42) (hez.le h42) hvz2 O) ?_;rintro _ _ s45 h45 ⟨rfl,rfl⟩;refine qad (qah Z Z Uo) Z<|At Z Z<|Zo<|Zu<|?_;exact rR [_] L (.t1 Z) Z (e40.t h42|>.t h45) fun _ hS2=>qfd
 have g3:=c44;have hT:=rt_c h34 hw0 hwd g0 (fun h=>g3 ⟨by omega,h.2 z hz⟩) (lv:=lv);refine Zk<|Zt<|Sr<|Zqm Z Z<|qad (qah Z Z Uo) Z<|Wb Y5<|Wl 0 Y6<|Zqm Z Z<|qad (qaC Z Z (show IntKind.i64.wrap ((lv:Int)+1)=((lv+1:Nat):Int) by rw [w64 O O];simp)) Z<|Jc Z Z Z (hB _ _ _ n3 q3 x.els (lv+1) (hA3.le (e40.t h42)) hvL O O) ?_;rintro _ _ s46 h46 ⟨rfl,rfl⟩;refine qad (qah Z Z Uo) Z<|Zqm Z Z<|Je Z Z Z (qha D _ _ lv O) fun s47 h47=>qad (qah Z Z Uo) Z<|qad (qah Z Z Uo) Z<|At Z Z<|Zo<|?_;exact rR [_] L (.t1 Z) Z (e40.t h42|>.t h46|>.t h47) fun _ hS2=>qfd
def qkJ(D:Nat):∀ d,RSS D d∧RTC D d
 | 0=>by
  have hB:RSS D 0:=fun L s A n c xs lv hA hv hN hlv=>qlY D 0 (fun e h=>by omega) L s A n c xs lv hA hv hN hlv;exact ⟨hB,fun L s x A1 A2 A3 n1 q1 n2 q2 n3 q3 lv hA1 hA2 hA3 hv hN=>qlZ D 0 hB (fun e h=>by omega) L s x A1 A2 A3 n1 q1 n2 q2 n3 q3 lv hA1 hA2 hA3 hv hN⟩
 | d+1=>by
  have ih:∀ e,d+1=e+1→RTC D e:=fun e h=>(show d=e by omega)▸(qkJ D d).2;have hB:RSS D (d+1):=fun L s A n c xs lv hA hv hN hlv=>qlY D (d+1) ih L s A n c xs lv hA hv hN hlv;exact ⟨hB,fun L s x A1 A2 A3 n1 q1 n2 q2 n3 q3 lv hA1 hA2 hA3 hv hN=>qlZ D (d+1) hB ih L s x A1 A2 A3 n1 q1 n2 q2 n3 q3 lv hA1 hA2 hA3 hv hN⟩
def qc3{α:Type}{f:α→Str}{l:List α}{k:Nat}{x:α}(h:l[k]?=some x):((l.take (k+1)).map f).flatten=((l.take k).map f).flatten++f x:=by
 rw [qaS f h];simp
def qj2{α:Type}{f:α→Str}(l:List α)(k:Nat):(((l.take k).map f).flatten).length≤((l.map f).flatten).length:=by
 induction l generalizing k with
 | nil=>simp
 | cons x r ih=>
  cases k with
  | zero=>simp
  | succ k=>have:=ih k;simp only [List.take_succ_cons,List.map_cons,List.flatten_cons,List.length_append];omega
def pg_1{g:Glo}(h:g.kind=1):qek g=[99,111,110,115,116,32]++g.name++[32,61,32]++qdq g.num++[59,10]:=by unfold qek;rw [if_pos h]
def pg_2{g:Glo}(h:g.kind=2):qek g=[118,97,114,32]++g.name++[59,10]:=by unfold qek;rw [if_neg O,if_pos h]
def pg_3{g:Glo}(h:¬ g.kind=1)(h2:¬ g.kind=2)(h3:g.init=[]):qek g=[97,114,114,97,121,32]++g.name++[91]++qdq g.num++[93]++[59,10]:=by unfold qek;rw [if_neg h,if_neg h2,if_pos h3];simp
def pg_4{g:Glo}(h:¬ g.kind=1)(h2:¬ g.kind=2)(h3:g.init≠[]):qek g=[97,114,114,97,121,32]++g.name++[91]++qdq g.num++[93]++[32,61,32]++qa2 (g.init.map qdq)++[59,10]:=by unfold qek;rw [if_neg h,if_neg h2,if_neg h3];simp
def pf_0{x:Fnc}(h:x.locals=[]):qir x=[102,117,110,99,32]++x.name++[40]++qa2 x.params++[41,32,123,10]++qdE x.body 1++[125,10]:=by unfold qir;rw [if_pos h];simp
def pf_1{x:Fnc}(h:x.locals≠[]):qir x=[102,117,110,99,32]++x.name++[40]++qa2 x.params++[41,32,123,10]++[32,32,118,97,114,32]++qa2 x.locals++[59,10]++qdE x.body 1++[125,10]:=by unfold qir;rw [if_neg h];simp
def qkI(D:Nat)(L:Hl)(s:World)(d:Nat)(p:Prg)(Ag Af:Option Addr)(ng cg nf cf:Nat)(hGl:Glos s Ag ng cg p.globals)(hFn:Fncs d s Af nf cf p.funcs)(hV:PV p):AC prog D 52 [.agg #[.slice Ag ng cg,.slice Af nf cf]] L s fun v L' _=>v=St (qnb p)∧L=L':=by
 have hn1:=hGl.1;have hn2:=hFn.1;have hU:=hGl.u;have hUf:=hFn.u;obtain ⟨hV1,hV2,hVg,hVf,hVl⟩:=hV;have hpl:((p.globals.map qek).flatten).length+((p.funcs.map qir).flatten).length≤1000000:=by rw [qnb,List.length_append] at hVl;exact hVl
 refine qae (fn:=f52) qav func52 V Z ntmps52 Z (rs:=[.tmp 2]) Z [(0,_)] Z<|Sr<|qay Z Z fun β1 s1 h1=>At Z Z<|Sr<|At Z Z<|Zs<|Sr<|At Z Z<|Zp<|qaA (γ:=Nat) (fun k=>[(1,_),(2,_),(3,St (((p.globals.take k).map qek).flatten)),(4,.int .i64 (k:Int))]) (fun _=>_) (fun k tw=>Le D s1 tw∧(k≤ng)) (fun k=>ng - k) (fun _ _ _ h hl=>⟨h.1.trans hl,h.2⟩) 0 (.c4 Z Z Z Z (.nil _)) Z ⟨Le.refl _,Nat.zero_le _⟩ ?_;intro k s2 I2;have hk0:=I2.2;have hle:=qj2 (f:=qek) p.globals k;refine Zs<|Sr<|Zqm Z Z<|W0 Y5<|Wl 0 Y6<|Ws Y4<|qa8 Z Z Z<|Nt<|?_;refine qaa Z ?_ ?_<;>intro c3
 ·have hk:k < ng:=by omega
  obtain ⟨b,off,x,Ai,ni,ci,rfl,hx,hcx,hix,hux,hnl⟩:=Glos.at_ (hGl.le (h1.t I2.1)) hk;have hgx:=hVg x (List.mem_of_getElem? hx);have hg0:=qbY hgx.1;have hil:=qbG hg0.2.2.1;have hdl:=qcd hux;have hni:=hix.1;have hci:=qbh (x.init.map qdq);have hct:=qiO x.init hix.u32;refine Zk<|Zt<|Zs<|Zp<|Sr<|W0 Y5<|Wl 0 Y6<|Zqm Z Z<|qad (qau Z Z Z Z Z Z hk) Z<|qad (qaw Z Z Z (hcx.le (Lr D)) Z) Z<|qag Z [_,_,_,_] Z Z fun β4 s4 h4=>Wt 0 [_,_,_,_] Y9<|Nt<|Zs<|Sr<|W0 Y5<|Wl 0 Y6<|qax Z Z Z<|Nt<|?_;have e4:=I2.1.t h4;refine qaa Z ?_ ?_<;>intro c5;·have hT:=pg_1 c5;refine qaJ qac 11 Z _ (fun _ h=>h) fun s6 h6=>za 0 Z (qan Z) Z<|za 1 Z (qah Z Z Ut) Z<|za 2 Z (We Y4) Z<|za 3 Z (Wd 0 Y5) Z<|za 4 Z (qah Z Z Uo) Z<|za 5 Z (qah Z Z Uo) Z<|za 6 Z (We Y4) Z<|za 7 Z (Wd 0 Y5) Z<|qar 8 V<|Jf Z Tt Z Z Z (qln D _ _ _ hux) fun s7 h7=>za 9 Z (qah Z Z Uo) Z<|za 10 Z (qa6 Z) Z<|qaf V<|Zt<|Zr<|Zqm Z Z<|qad (qah Z Z Ut) Z<|Zqa Z Z<|Zn<|Zb<|Zt<|Zr<|Zqm Z Z<|qaD Z Z Z (w64 O O)<|Zqa Z Z<|Zn<|?_;refine qab ⟨(k+1),[_],(.c2 Z Z (.cons (congrArg (fun l=>some (St l)) (by rw [qc3 hx,hT];simp only [List.append_assoc])) kp)),Z,⟨(e4.t h6|>.t h7),(show k+1≤ng by omega)⟩,O⟩
  have g1:=c5;refine Sr<|W0 Y5<|Wl 0 Y6<|qax Z Z Z<|Nt<|?_;refine qaa Z ?_ ?_<;>intro c8;·have hT:=pg_2 c8;refine Zr<|Zqm Z Z<|qad (qah Z Z Ut) Z<|Wb Y5<|Wl 0 Y6<|qad (qah Z Z Uo) Z<|At Z Z<|Zr<|Zqm Z Z<|qad (qah Z Z Ut) Z<|Zqa Z Z<|Zn<|Zb<|Zt<|Zr<|Zqm Z Z<|qaD Z Z Z (w64 O O)<|Zqa Z Z<|Zn<|?_;refine qab ⟨(k+1),[_],(.c2 Z Z (.cons (congrArg (fun l=>some (St l)) (by rw [qc3 hx,hT];simp only [List.append_assoc])) kp)),Z,⟨e4,(show k+1≤ng by omega)⟩,O⟩
  have g2:=c8;refine Zs<|qaJ qac 12 Z _ (fun _ h=>h) fun s9 h9=>za 0 Z (qan Z) Z<|za 1 Z (qah Z Z Ut) Z<|za 2 Z (We Y4) Z<|za 3 Z (Wd 0 Y5) Z<|za 4 Z (qah Z Z Uo) Z<|za 5 Z (qah Z Z Uo) Z<|za 6 Z (We Y4) Z<|za 7 Z (Wd 0 Y5) Z<|qar 8 V<|Jf Z Tt Z Z Z (qln D _ _ _ hux) fun s10 h10=>za 9 Z (qah Z Z Uo) Z<|za 10 Z (qah Z Z Uo) Z<|za 11 Z (qa6 Z) Z<|qaf V<|Zt<|Sr<|At Z Z<|Zs<|Sr<|At Z Z<|Zp ?_;refine qaA (γ:=Nat×Value×Hl) (fun g=>[(1,_),(2,_),(3,_),(4,_),(5,_),(6,g.2.1),(7,.int .i64 (g.1:Int))]) (fun g=>_::_::(g.2.2++L)) (fun g tw=>Le D s10 tw∧(g.1≤ni∧FL.Own 9 1 g.2.2 g.2.1 g.1 (sb ((x.init.take g.1).map qdq)))) (fun g=>ni - g.1) (fun _ _ _ h hl=>⟨h.1.trans hl,h.2⟩) (0,.slice none 0 0,[]) (.c6 Z Z Z Z Z Z (.cons Z (.nil _))) Z ⟨Le.refl _,⟨Nat.zero_le _,Own.nil⟩⟩ ?_;intro g s11 I11;have e11:=e4.t h9|>.t h10|>.t I11.1;obtain ⟨j,vo,Mo⟩:=g;obtain ⟨hj0,hO⟩:=I11.2;simp only at hj0 hO;dsimp only;refine Zs<|Sr<|Zqm Z Z<|Wb Y5<|Wl 0 Y6<|Ws Y4<|qa8 Z Z Z<|Nt<|?_;refine qaa Z ?_ ?_<;>intro c12
  ·have hj:j < ni:=by omega
   obtain ⟨b2,off2,y,hb2,hy,hcy,huy⟩:=Wds.at_ (hix.le (h4.t h9|>.t h10|>.t I11.1)) hj;subst hb2;refine Zk<|Zt<|Zs<|Zp<|Zr<|Zqm Z Z<|Wb Y5<|Wl 0 Y6<|Zqm Z Z<|qad (qaU Z Z Z Z Z Z hj) Z<|qad (qaq Z Z Z (hcy.le (Lr D)) Z) Z<|Je Z Z Z (qln D _ _ _ huy) fun s13 h13=>qa4 [(_,_)] [_] Z Z Z Z Z Z Z Z Z fun βn s14 h14 hcb=>qbq (sz:=1) [_,_] Mo L Z Z Z Z Z Z Z hO (Row.of_cells (hcb.le (Lr D)) Z Z) ⟨by simp [ti9];omega,by omega⟩ Z ?_;intro vq Mq s15 h15 oq;obtain ⟨Avq,cvq,rfl,_,_⟩:=Own.slice oq;simp only [cQ9,nQ9];refine Zqa Z Z<|Zn<|Zb<|Zt<|Zr<|Zqm Z Z<|qaD Z Z Z (w64 O O)<|Zqa Z Z<|Zn<|?_;refine qab ⟨(j+1,.slice Avq (j+1) cvq,Mq),[],kp,Z,⟨(I11.1.t h13|>.t h14|>.t h15),⟨by simp only;omega,by rw [qaS qdq hy,qcK];exact oq⟩⟩,Oz⟩
  obtain rfl:ni=j:=by omega
  rw [List.take_of_length_le O] at hO;obtain ⟨Ao,co,rfl,_,_⟩:=Own.slice hO;refine Zl<|Zv<|Zv<|Zd<|Zt<|Zs<|qdA [_,_] Mo _ ?_;intro s16 h16 hpub16;simp only [cQ9,nQ9];have hSt:=Own.strs hO (qnZ hix.u32) hpub16 (by rw [List.length_map];omega);refine Zr<|Zqm Z Z<|Ws Y4<|qbl Z Z Z<|Nt<|?_;refine qaa Z ?_ ?_<;>intro c17;·have hT:=pg_4 g1 g2 (fun h=>by rw [h] at hni;simp at hni;omega);refine Zr<|Zqm Z Z<|qad (qah Z Z Ut) Z<|Zqm Z Z<|Je Z Z Z (qdb D _ _ Ao _ co (x.init.map qdq) (hSt.le (Lr D)) O) fun s18 h18=>qad (qah Z Z Ut) Z<|At Z Z<|Zr<|Zqm Z Z<|qad (qah Z Z Ut) Z<|Zqa Z Z<|Zn<|Zb<|Zt<|Zr<|Zqm Z Z<|qaD Z Z Z (w64 O O)<|Zqa Z Z<|Zn<|?_;refine qab ⟨(k+1),[_],(.c2 Z Z (.cons (congrArg (fun l=>some (St l)) (by rw [qc3 hx,hT];simp only [List.append_assoc])) kp)),Z,⟨(e11.t h16|>.t h18),(show k+1≤ng by omega)⟩,O⟩
  have hT:=pg_3 g1 g2 (List.eq_nil_of_length_eq_zero O);refine Zk<|Zt<|Zr<|Zqm Z Z<|qad (qah Z Z Ut) Z<|Zqa Z Z<|Zn<|Zb<|Zt<|Zr<|Zqm Z Z<|qaD Z Z Z (w64 O O)<|Zqa Z Z<|Zn<|?_;refine qab ⟨(k+1),[_],(.c2 Z Z (.cons (congrArg (fun l=>some (St l)) (by rw [qc3 hx,hT];simp only [List.append_assoc])) kp)),Z,⟨(e11.t h16),(show k+1≤ng by omega)⟩,O⟩
 obtain rfl:ng=k:=by omega
 refine Zl<|Zv<|Zv<|Zd<|Zt<|Zs<|Sr<|At Z Z<|Zp<|qaA (γ:=Nat) (fun k=>[(1,_),(2,_),(3,St ((p.globals.map qek).flatten++((p.funcs.take k).map qir).flatten)),(8,.int .i64 (k:Int))]) (fun _=>_) (fun k tw=>Le D s2 tw∧(k≤nf)) (fun k=>nf - k) (fun _ _ _ h hl=>⟨h.1.trans hl,h.2⟩) 0 (.c2 Z Z (.cons (congrArg (fun l=>some (St l)) (by rw [List.take_of_length_le (show p.globals.length≤ng by omega)];simp)) (.cons Z (.nil _)))) Z ⟨Le.refl _,Nat.zero_le _⟩ ?_;intro k s19 I19;have e19:=h1.t I2.1|>.t I19.1;have hk0:=I19.2;have hle:=qj2 (f:=qir) p.funcs k;refine Zs<|Sr<|Zqm Z Z<|Wb Y5<|Wl 0 Y6<|Ws Y4<|qa8 Z Z Z<|Nt<|?_;refine qaa Z ?_ ?_<;>intro c20
 ·have hk:k < nf:=by omega
  obtain ⟨b,off,x,B1,m1,d1,B2,m2,d2,B3,m3,d3,rfl,hx,hcx,hpx,hlx,hbx,hnl⟩:=Fncs.at_ (hFn.le e19) hk;obtain ⟨hi1,hi2,hi3,hi4,hi5,hi6⟩:=hVf x (List.mem_of_getElem? hx);have hil:=qbG hi1;have hp1:=qbh x.params;have hp2:=qeI x.params fun w hw=>hi4 w (List.mem_append_left _ hw);have hl1:=qbh x.locals;have hl2:=qeI x.locals fun w hw=>hi4 w (List.mem_append_right _ hw);have hln:=hlx.1;have hbl:=qcY x.body 1 hi5 (hUf x (List.mem_of_getElem? hx));refine Zk<|Zt<|Zs<|Zp<|Sr<|Wb Y5<|Wl 0 Y6<|Zqm Z Z<|qad (qau Z Z Z Z Z Z hk) Z<|qad (qaw Z Z Z (hcx.le (Lr D)) Z) Z<|qag Z [_,_,_,_] Z Z fun β21 s21 h21=>Wt 0 [_,_,_,_] Y9<|Nt<|Zs<|qaJ qac 12 Z _ (fun _ h=>h) fun s22 h22=>za 0 Z (qan Z) Z<|za 1 Z (qah Z Z Ut) Z<|za 2 Z (qat Z Z Z Z) Z<|za 3 Z (Wd 0 Y5) Z<|za 4 Z (qah Z Z Uo) Z<|za 5 Z (qah Z Z Uo) Z<|za 6 Z (We Y4) Z<|za 7 Z (Wd 0 Y5) Z<|qar 8 V<|Jf Z Tt Z Z Z (qdb D _ _ B1 m1 d1 x.params (hpx.le (h21.t h22)) O) fun s23 h23=>za 9 Z (qah Z Z Uo) Z<|za 10 Z (qah Z Z Uo) Z<|za 11 Z (qa6 Z) Z<|qaf V<|Zt<|Zs<|Sr<|Wb Y5<|Wl 0 Y6<|Ws Y4<|qbl Z Z Z<|Nt<|?_;have e23:=I19.1.t h21|>.t h22|>.t h23;refine qaa Z ?_ ?_<;>intro c24;·have hT:=pf_1 (x:=x) (fun h=>by rw [h] at hln;simp at hln;omega);refine Zr<|Zqm Z Z<|qad (qah Z Z Ut) Z<|Wb Y5<|Wl 0 Y6<|Je Z Z Z (qdb D _ _ B2 m2 d2 x.locals (hlx.le (h21.t h22|>.t h23)) O) fun s25 h25=>qad (qah Z Z Uo) Z<|qad (qah Z Z Uo) Z<|At Z Z<|Zr<|Zqm Z Z<|Wb Y5<|Wl 0 Y6<|Jc Z Z Z ((qkJ D d).1 _ _ B3 m3 d3 x.body 1 (hbx.le (h21.t h22|>.t h23|>.t h25)) hi5 hi6 O) ?_;rintro _ _ s26 h26 ⟨rfl,rfl⟩;refine qad (qah Z Z Ut) Z<|qad (qah Z Z Uo) Z<|Zqa Z Z<|Zn<|Zb<|Zt<|Zr<|Zqm Z Z<|qaD Z Z Z (w64 O O)<|Zqa Z Z<|Zn<|?_;refine qab ⟨(k+1),[_],(.c2 Z Z (.cons (congrArg (fun l=>some (St l)) (by rw [qc3 hx,hT];simp only [List.append_assoc])) kp)),Z,⟨(e23.t h25|>.t h26),(show k+1≤nf by omega)⟩,O⟩
  have hT:=pf_0 (x:=x) (List.eq_nil_of_length_eq_zero O);refine Zk<|Zt<|Zr<|Zqm Z Z<|Wb Y5<|Wl 0 Y6<|Jc Z Z Z ((qkJ D d).1 _ _ B3 m3 d3 x.body 1 (hbx.le (h21.t h22|>.t h23)) hi5 hi6 O) ?_;rintro _ _ s27 h27 ⟨rfl,rfl⟩;refine qad (qah Z Z Ut) Z<|qad (qah Z Z Uo) Z<|Zqa Z Z<|Zn<|Zb<|Zt<|Zr<|Zqm Z Z<|qaD Z Z Z (w64 O O)<|Zqa Z Z<|Zn<|?_;refine qab ⟨(k+1),[_],(.c2 Z Z (.cons (congrArg (fun l=>some (St l)) (by rw [qc3 hx,hT];simp only [List.append_assoc])) kp)),Z,⟨(e23.t h27),(show k+1≤nf by omega)⟩,O⟩
 obtain rfl:nf=k:=by omega
 refine Zl<|Zv<|Zv<|Zd<|Zt<|Sr<|Zqm Z Z<|At Z Z<|Zo<|?_;exact rR [_] L (.t1 Z) Z e19 fun _ hS2=>⟨by rw [List.take_of_length_le (show p.funcs.length≤nf by omega)];rfl,rfl⟩
def qrM(D:Nat)(L:Hl)(s:World)(d:Nat)(p:Prg)(Ag Af:Option Addr)(ng cg nf cf:Nat)(hGl:Glos s Ag ng cg p.globals)(hFn:Fncs d s Af nf cf p.funcs):AC prog D 24 [.agg #[.slice Ag ng cg,.slice Af nf cf]] L s fun v L' _=>v=.agg #[.int .i64 (qf2 p).1,.int .i64 (qf2 p).2]∧L=L':=by
 have hU:prU p:=⟨hGl.u,hFn.u⟩;refine qae (fn:=f24) qav func24 V Z ntmps24 Z (rs:=[.cell 2 27]) Z [(0,_)] Z<|Sr<|qay Z Z fun β1 s1 h1=>qag Z [_,_] Z Z fun β2 s2 h2=>Nt<|Sr<|qad (qao 1 [_,_] Z Z Z Z Z) Z<|Je Z Z Z (qpd D _ _ d p Ag Af ng cg nf cf (hGl.le (h1.t h2)) (hFn.le (h1.t h2))) fun s3 h3=>qag Z [_,_] Z Z fun β4 s4 h4=>Wt 0 [_,_] Y9<|Nt<|Zs<|?_;have e4:=h1.t h2|>.t h3|>.t h4;refine qa9 14 ((qbf p).1=0∧12000 < (qnb p).length) ?_ ?_
 ·refine Zr<|W0 Y5<|Wl 0 Y6<|qax Z Z Z<|Zqm Z Z<|?_;refine qai (t:=9) Z ?_ ?_<;>intro c6;·refine Zg Z Z<|qad (qao 2 [_,_] Z Z Z Z Z) Z<|Zg Z Z<|Je Z Z Z (qkI D _ _ d p Ag Af ng cg nf cf (hGl.le e4) (hFn.le e4) (PV.of hU As)) fun s7 h7=>Zg Z Z<|qfg Z Z Z Z<|Zg Z Z<|qbl Z Z Z<|ZqT Z Z Z<|Zn<|?_;refine qab (MidB.mk h7 Sb Z (decide_eq_decide.2 O))
  refine Wf Y4<|Wf Y4<|Wf Y4<|Wf Y4<|ZqF Z Z Z<|Zn<|?_;refine qab (MidB.mk (Lr D) Sb Z ((decide_eq_false O).symm))
 intro s5 h5;refine qaa Z ?_ ?_<;>intro c8;·have hE:=qo2 (qhc c8.1) c8.2;refine Zr<|Je Z Z Z (qee D _ _ _ _) fun s9 h9=>Wt 0 [_,_] Y9<|Nt<|Sr<|qad (qao 0 [_,_] Z Z Z Z Z) Z<|Wt 1 [_,_] Y9<|Nt<|Zo<|?_;exact rR [_,_,_] L (.agg (us:=[_,_]) 1 Z Z Z Z Z (.nil)) Z (e4.t h5|>.t h9) fun _ hS2=>qck
 have hE:qf2 p=qbf p:=by
   by_cases h0:(qbf p).1=0
   · rw [qzw (qhc h0) (fun h=>c8 ⟨h0,h⟩),qhc h0]
   · exact qo3 h0
 refine Zk<|Zt<|Sr<|qad (qao 0 [_,_] Z Z Z Z Z) Z<|Wt 1 [_,_] Y9<|Nt<|Zo<|?_;exact rR [_,_,_] L (.agg (us:=[_,_]) 1 Z Z Z Z Z (.nil)) Z (e4.t h5) fun _ hS2=>qck
end Go.Proofs.YtflplmcjbppfcaaGreatDoor
