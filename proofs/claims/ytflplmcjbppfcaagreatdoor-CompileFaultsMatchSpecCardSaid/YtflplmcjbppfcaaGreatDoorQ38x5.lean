/- Part 5. -/
import Derived.Test.YtflplmcjbppfcaaGreatDoorQ38x4
import Derived.Lib.Builder
import Derived.Lib.UnsafeStr
import Derived.Laws.Externs
import Derived.Lib.SmallJoins
import Derived.Lib.Repeat
set_option linter.unusedVariables false
set_option linter.defProp false
set_option linter.unusedSimpArgs false
set_option linter.unnecessarySimpa false
set_option maxRecDepth 100000
set_option maxHeartbeats 8000000
namespace Go.Proofs.YtflplmcjbppfcaaGreatDoor
open Go Go.FL Go.RowKit
def qi5(t:Tab):Nat→List Int→List (List UInt8×Int)→List (Int×Nat×List UInt8×Int)→List (List UInt8)→(Int×Int) ⊕ (List Int×List (List UInt8×Int)×List (Int×Nat×List UInt8×Int))
 | _,w,l,r,[]=>.inr (w,l,r)
 | i,w,l,r,tx::rest=>match qct tx with
  | none=>.inl (1,(i:Int))
  | some x=>if qeb t w l (some x)≠0 then .inl (qeb t w l (some x),(i:Int)) else qi5 t (i+1) (qgt t w x) (qm9 w l x) (qk6 t w r (i:Int) x) rest
def qlU(l:List (List UInt8×Int)):List (Int×Nat×List UInt8×Int)→List Int→(Int×Int) ⊕ List Int
 | [],w=>.inr w
 | x::rest,w=>match qb7 l x.2.2.1 with
  | none=>.inl (27,x.1)
  | some a=>qlU l rest (w.set x.2.1 (w32 (w.getD x.2.1 0+a)))
def qhD(t:Tab)(tx:List UInt8):(Int×Int) ⊕ (List Int×List (List UInt8×Int)):=
 if (qaO t).1≠0 then .inl (qaO t) else if 400000 < tx.length then .inl (3,-2)
 else match qi5 t 0 [] [] [] (splitB 10 tx) with
  | .inl f=>.inl f
  | .inr x=>match qlU x.2.1 x.2.2 x.1 with
   | .inl f=>.inl f
   | .inr w=>.inr (w,x.2.1)
def qgO{t:Tab}{i:Nat}{w:List Int}{l:List (List UInt8×Int)}{r:List (Int×Nat×List UInt8×Int)}{tx:List UInt8}{rest:List (List UInt8)}(h:qeb t w l (qct tx)≠0):qi5 t i w l r (tx::rest)=.inl (qeb t w l (qct tx),(i:Int)):=by
 simp only [qi5];cases hx:qct tx with
 | none=>rfl
 | some x=>rw [hx] at h;simp only [ne_eq,h,not_false_eq_true,if_true]
def qgP{t:Tab}{i:Nat}{w:List Int}{l:List (List UInt8×Int)}{r:List (Int×Nat×List UInt8×Int)}{tx:List UInt8}{rest:List (List UInt8)}{x:Ln}(hx:qct tx=some x)(h:qeb t w l (some x)=0):qi5 t i w l r (tx::rest)=qi5 t (i+1) (qgt t w x) (qm9 w l x) (qk6 t w r (i:Int) x) rest:=by
 simp only [qi5,hx,h,ne_eq,not_true_eq_false,if_false]
def qox{t:Tab}{w:List Int}{l:List (List UInt8×Int)}{tx:List UInt8}(h:qeb t w l (qct tx)=0):∃ x,qct tx=some x∧qeb t w l (some x)=0:=by
 cases hx:qct tx with
 | none=>rw [hx] at h;cases h
 | some x=>rw [hx] at h;exact ⟨x,rfl,h⟩
def qqq{t:Tab}{w:List Int}{l:List (List UInt8×Int)}{x:Ln}(hw:(w.length:Int)≤t.cells)(h:qeb t w l (some x)=0):((qgt t w x).length:Int)≤t.cells:=by
 simp only [qeb] at h;split at h
 · cases h
 split at h
 · rename_i ho;rw [qgt,if_pos ho];exact hw
 split at h
 · cases h
 split at h
 · cases h
 split at h
 · cases h
 split at h
 · cases h
 · omega
def qn3(w:List Int)(x:Ln)(c:Int)(o:Bool):w.length≤(qcq w x c o).length:=by
 unfold qcq;repeat' split
 all_goals (try simp only [List.length_append,List.length_cons,List.length_nil,List.length_replicate])
 all_goals omega
def qqS{r:List (Int×Nat×List UInt8×Int)}{w:List Int}{i:Int}{x:Ln}{c:Int}{o:Bool}(h:∀ y∈r,y.2.1 < w.length):∀ y∈qdG r w i x c o,y.2.1 < (qcq w x c o).length:=by
  have hl:=qn3 w x c o;intro y hy;unfold qdG at hy;split at hy
  · exact Nat.lt_of_lt_of_le (h y hy) hl
  · rename_i hs
    split at hy
    · rename_i hh
      rcases List.mem_append.1 hy with h1|h1
      · exact Nat.lt_of_lt_of_le (h y h1) hl
      · rw [List.mem_singleton.1 h1]
        simp only [qcq,hs,if_false,hh.1,if_true,List.length_append,List.length_cons,List.length_nil];omega
    · exact Nat.lt_of_lt_of_le (h y hy) hl
def qvf{t:Tab}{r:List (Int×Nat×List UInt8×Int)}{w:List Int}{i:Int}{x:Ln}(h:∀ y∈r,y.2.1 < w.length):∀ y∈qk6 t w r i x,y.2.1 < (qgt t w x).length:=by
 unfold qk6 qgt;split
 · exact h
 · exact qqS h
def qqr{w:List Int}{l:List (List UInt8×Int)}{x:Ln}:(qm9 w l x).length≤l.length+1:=by unfold qm9;split<;>simp
def qqs{t:Tab}{r:List (Int×Nat×List UInt8×Int)}{w:List Int}{i:Int}{x:Ln}:(qk6 t w r i x).length≤r.length+1:=by
 unfold qk6 qdG;repeat' split
 all_goals simp
def qkV(ba bm:Nat)(tc:Int)(A:Option Addr)(n c:Nat)(g:AG)(x y z:Nat×Obj)(L:Hl):(HA ba bm tc A n c g (x::y::z::L)).Perm (x::y::z::HA ba bm tc A n c g L):=
 (qiV ..).trans (List.Perm.cons _ (qne ..))
def qnd(ba bm:Nat)(tc:Int)(A:Option Addr)(n c:Nat)(g:AG)(L:Hl):HA ba bm tc A n c g L=HA ba bm tc A n c g []++L:=by simp [HA]
def Labs(s:World)(A:Option Addr)(n c:Nat)(l:List (List UInt8×Int)):Prop:=Sl 2 (fun _ x cs=>cs=[St x.1,.int .u32 x.2]∧U32 x.2) s A n c l
def Labs.le{D:Nat}{s s':World}{A:Option Addr}{n c:Nat}{l:List (List UInt8×Int)}(h:Labs s A n c l)(hl:Le D s s'):Labs s' A n c l:=Sl.le (fun _ _ h=>h) h hl
def Refs(s:World)(A:Option Addr)(n c:Nat)(l:List (Int×Nat×List UInt8×Int)):Prop:=Sl 4 (fun _ x cs=>cs=[Value.int .i64 x.1,Value.int .i64 (x.2.1:Int),St x.2.2.1,Value.int .u32 x.2.2.2]) s A n c l
def Refs.le{D:Nat}{s s':World}{A:Option Addr}{n c:Nat}{l:List (Int×Nat×List UInt8×Int)}(h:Refs s A n c l)(hl:Le D s s'):Refs s' A n c l:=Sl.le (fun _ _ h=>h) h hl
def qk9{α β:Type}{R:α→β→Prop}(f:α→β)(l:List α)(h:∀ x∈l,R x (f x)):All2 R l (l.map f):=by
 induction l with
 | nil=>exact All2.nil
 | cons x l ih=>exact All2.cons (h x Mc) (ih fun y hy=>h y (List.mem_cons_of_mem _ hy))
def Own.labs{e:Nat}{A:Hl}{Ad:Option Addr}{n c:Nat}{l:List (List UInt8×Int)}{s:World}(h:FL.Own e 2 A (.slice Ad n c) n (lbv l))(hu:∀ x∈l,U32 x.2)(hp:Pub A s)(hn:n=l.length):Labs s Ad n c l:=
 Own.rows (R:=fun _ (x:List UInt8×Int) cs=>cs=[St x.1,.int .u32 x.2]∧U32 x.2) h hp (qk9 (fun (x:List UInt8×Int)=>[St x.1,Value.int .u32 x.2]) l fun x hx=>⟨rfl,rfl,hu x hx⟩) hn
def Own.refs{e:Nat}{A:Hl}{Ad:Option Addr}{n c:Nat}{l:List (Int×Nat×List UInt8×Int)}{s:World}(h:FL.Own e 4 A (.slice Ad n c) n (rfv l))(hp:Pub A s)(hn:n=l.length):Refs s Ad n c l:=
 Own.rows (R:=fun _ (x:Int×Nat×List UInt8×Int) cs=>cs=[Value.int .i64 x.1,Value.int .i64 (x.2.1:Int),St x.2.2.1,Value.int .u32 x.2.2.2]) h hp (qk9 (fun (x:Int×Nat×List UInt8×Int)=>[Value.int .i64 x.1,Value.int .i64 (x.2.1:Int),St x.2.2.1,Value.int .u32 x.2.2.2]) l fun x hx=>⟨rfl,rfl⟩) hn
def Refs.at_{s:World}{A:Option Addr}{n c k:Nat}{l:List (Int×Nat×List UInt8×Int)}(h:Refs s A n c l)(hk:k < n):∃ b off x,A=some ⟨b,off,none⟩∧l[k]?=some x∧CellsAt s b (off+k * 4) [Value.int .i64 x.1,Value.int .i64 (x.2.1:Int),St x.2.2.1,Value.int .u32 x.2.2.2]:=by
 have hx:k < l.length:=by rw [← h.1];exact hk
 obtain ⟨b,off,cs,h1,h2,h3,h4⟩:=h.2.2.2 k l[k] (List.getElem?_eq_getElem hx);exact ⟨b,off,l[k],h1,List.getElem?_eq_getElem hx,by rw [← h4];exact h2⟩
def qg6{e:Nat}{M:Hl}{Ad:Option Addr}{n c:Nat}{xs:List Value}(h:FL.Own e 1 M (.slice Ad n c) n xs)(hn:0 < n):∃ b ys,Ad=some ⟨b,0,none⟩∧M=[(b,cb (xs++ys) e)]∧xs.length=n∧xs.length+ys.length=c∧n≤c∧c≤9223372036854775807:=by
 cases h with
 | nil=>omega
 | blk b cap _ _ ys h1 h2 h3 h4=>exact ⟨b,ys,rfl,rfl,by simpa using h1,by simpa using h2,h3,h4⟩
def qlS{e b c n:Nat}{xs ys:List Value}(h1:xs.length=n)(h2:xs.length+ys.length=c)(h3:n≤c)(h4:c≤9223372036854775807):FL.Own e 1 [(b,cb (xs++ys) e)] (.slice (some ⟨b,0,none⟩) n c) n xs:=
 .blk b c n xs ys (by simpa using h1) (by simpa using h2) h3 h4
def qrJ{l:List (List UInt8×Int)}{r:List (Int×Nat×List UInt8×Int)}{w:List Int}{k:Nat}{x:Int×Nat×List UInt8×Int}{a:Int}(hx:r[k]?=some x)(ha:qb7 l x.2.2.1=some a):qlU l (r.drop k) w=qlU l (r.drop (k+1)) (w.set x.2.1 (w32 (w.getD x.2.1 0+a))):=by
 obtain ⟨hk,rfl⟩:=List.getElem?_eq_some_iff.1 hx;rw [List.drop_eq_getElem_cons hk,qlU,ha]
def qg9{l:List (List UInt8×Int)}{r:List (Int×Nat×List UInt8×Int)}{w:List Int}{k:Nat}{x:Int×Nat×List UInt8×Int}(hx:r[k]?=some x)(ha:qb7 l x.2.2.1=none):qlU l (r.drop k) w=.inl (27,x.1):=by
 obtain ⟨hk,rfl⟩:=List.getElem?_eq_some_iff.1 hx;rw [List.drop_eq_getElem_cons hk,qlU,ha]
def setU{w:List Int}(h:∀ x∈w,U32 x)(p:Nat)(v:Int)(hv:U32 v):∀ x∈w.set p v,U32 x:=fun x hx=>by
 rcases List.mem_or_eq_of_mem_set hx with h1|h1
 · exact h x h1
 · rw [h1];exact hv
def qv2{l:List Int}{y:List Value}{p:Nat}(h:p < l.length):nth (wv l++y) (0+p)=some (.int .u32 (l.getD p 0)):=by
 have:=qe4 (l:=l) (y:=y) (i:=(p:Int)) O O;simpa using this
def qwv{l:List Int}{y:List Value}{p:Nat}(v:Int)(h:p < l.length):qbz (wv l++y) (0+p) [.int .u32 v]=wv (l.set p v)++y:=by
 have:=qhf (l:=l) (y:=y) (i:=(p:Int)) v O O;simpa using this
def qvo{l:List Int}{y:List Value}{p:Nat}(h:p < l.length):Nat.ble (0+p+1) (wv l++y).length=true:=by
 have:=qgR (l:=l) (y:=y) (i:=(p:Int)) O O;simpa using this
open Go.FL
attribute [local irreducible] JC JO JA JB qaZ qaL qb4 AC fill CellsAt QE Ev Mid
def qvd(D:Nat)(L:Hl)(s:World)(x0 x1 x2:Nat×Obj)(hG:GW s)(ba bm:Nat)(t:Tab)(A:Option Addr)(n c:Nat)(hA:Inss s A n c t.ins)(g:AG)(hg:AGok g)(num:Int)(tx:List UInt8)(htx:tx.length≤400000)(htc:0≤t.cells∧t.cells≤65536)(hwl:(g.w.length:Int)≤t.cells)(hrl:g.r.length≤1000000)(hll:g.l.length≤1000000):AC Tryz.prog D 64 [.pointer (some ⟨ba,0,none⟩),.int .i64 num,St tx] (x0::x1::x2::HA ba bm t.cells A n c g L) s fun v L' _=>∃ g',L'=x0::x1::x2::HA ba bm t.cells A n c g' L∧v=.int .i64 (qeb t g.w g.l (qct tx))∧∀ x,qct tx=some x→qeb t g.w g.l (some x)=0→AGok g'∧g'.w=qgt t g.w x∧g'.l=qm9 g.w g.l x∧g'.r=qk6 t g.w g.r num x:=
 AC.perm (qkV ..).symm (qvc D (x0::x1::x2::L) s hG ba bm t A n c hA g hg num tx htx htc hwl hrl hll) fun v L1 s1 ⟨g',h1,h2⟩=>⟨_,by rw [h1];exact qkV ..,g',rfl,h2⟩
def qic{t:Tab}{tx:List UInt8}(h:(qaO t).1≠0):qhD t tx=.inl (qaO t):=by rw [qhD,if_pos h]
def qib{t:Tab}{tx:List UInt8}(h:(qaO t).1=0)(h2:400000 < tx.length):qhD t tx=.inl (3,-2):=by rw [qhD,if_neg (by simpa using h),if_pos h2]
def qia{t:Tab}{tx:List UInt8}{f:Int×Int}(h:(qaO t).1=0)(h2:¬ 400000 < tx.length)(h3:qi5 t 0 [] [] [] (splitB 10 tx)=.inl f):qhD t tx=.inl f:=by rw [qhD,if_neg (by simpa using h),if_neg h2,h3]
def qkb{t:Tab}{tx:List UInt8}{f:Int×Int}{w:List Int}{l:List (List UInt8×Int)}{r:List (Int×Nat×List UInt8×Int)}(h:(qaO t).1=0)(h2:¬ 400000 < tx.length)(h3:qi5 t 0 [] [] [] (splitB 10 tx)=.inr (w,l,r))(h4:qlU l r w=.inl f):qhD t tx=.inl f:=by rw [qhD,if_neg (by simpa using h),if_neg h2,h3];simp only [h4]
def qnG{t:Tab}{tx:List UInt8}{w w2:List Int}{l:List (List UInt8×Int)}{r:List (Int×Nat×List UInt8×Int)}(h:(qaO t).1=0)(h2:¬ 400000 < tx.length)(h3:qi5 t 0 [] [] [] (splitB 10 tx)=.inr (w,l,r))(h4:qlU l r w=.inr w2):qhD t tx=.inr (w2,l):=by rw [qhD,if_neg (by simpa using h),if_neg h2,h3];simp only [h4]
def qyp:AGok ⟨.slice none 0 0,[],.slice none 0 0,[],.slice none 0 0,[],[],0,[],[],[]⟩:=⟨Own.nil,Own.nil,Own.nil,fun _=>rfl,(fun _ h=>by cases h),(fun _ h=>by cases h),(fun _ h=>by cases h)⟩
def qAs{p:Prop} (h:p:=by
 first
  | (refine ⟨[],rfl,.pointer none,_,_,rfl,.inl ⟨hbad,qic hbad⟩⟩)
  | (refine ⟨[],rfl,.pointer none,3,-2,rfl,.inl ⟨by decide,qib ht0 hlong⟩⟩)
  | (exact ⟨_,qnd ..,.pointer none,_,_,rfl,.inl ⟨hcode,qia ht0 hlong (by rw [hS,hdr];exact qgO hcode)⟩⟩)
  | (exact ⟨[_,_,_],rfl,.pointer none,_,_,rfl,.inl ⟨by decide,qkb ht0 hlong hS (by rw [hR];exact qg9 hxr hmiss)⟩⟩)
  | (exact ⟨_,rfl,_,0,0,rfl,.inr ⟨rfl,rfl,ba,bm,Aw,w.length,cw,Al,l.length,cl,_,es,ck,Mj,wj,l,rfl,rfl,hOj,huj,hLb.le ((noSuchMark).t hS2),qnG ht0 hlong hS hR⟩⟩)):p:=h
def qkc(D:Nat)(L:Hl)(s:World)(hG:GW s)(t:Tab)(A:Option Addr)(n c:Nat)(hA:Inss s A n c t.ins)(tx:List UInt8):AC Tryz.prog D 33 [.agg #[.int .i64 t.cells,.slice A n c],St tx] L s fun v L' s'=>∃ M',L'=M'++L∧∃ p f1 f2,v=.tuple #[p,.agg #[.int .i64 f1,.int .i64 f2]]∧((f1≠0∧qhD t tx=.inl (f1,f2))∨(f1=0∧f2=0∧∃ ba bm Aw nw cw Al nl cl vr es ck Mw w l,p=.pointer (some ⟨ba,0,none⟩)∧M'=(ba,cb [.int .i64 t.cells,.slice A n c,.slice Aw nw cw,.slice Al nl cl,.map (some bm),vr] 89)::(bm,mp (fun l=>St l) es ck)::Mw∧FL.Own 46 1 Mw (.slice Aw nw cw) nw (wv w)∧(∀ x∈w,U32 x)∧Labs s' Al nl cl l∧qhD t tx=.inr (w,l))):=by
 have hF:=qiN t;refine qae (fn:=Tryz.f33) qav Tryz.func33 V Z Tryz.ntmps33 Z (rs:=[.tmp 4,.cell 5 27]) Z [(0,_),(1,_)] Z<|Sr<|qay Z Z fun β1 s1 h1=>Zqa Z Z<|qag Z [_,_] Z Z fun β2 s2 h2=>Nt<|Zs<|Sr<|qad (qao 1 [_,_] Z Z Z Z Z) Z<|Je Z Z Z (qe8 D _ _ _ _ _ _ (hA.le (h1.t h2))) fun s3 h3=>qag Z [_,_] Z Z fun β4 s4 h4=>Wt 0 [_,_] Y9<|Nt<|Sr<|qad (qao 0 [_,_] Z Z Z Z Z) Z<|qad (qak [] [_,_] Z Z Z Z Z Z) Z<|qad (qb9 Z Z (qbL _ _ _ _)) Z<|Nt<|?_;have e4:=h1.t h2|>.t h3|>.t h4;refine qaM Z ?_ ?_<;>intro c5;·have hbad:(qaO t).1≠0:=fun h=>c5 ⟨h,hF h⟩;refine Zs<|qaH qac 3 Z [1] (by intro x hx;exact qas hx) fun s6 h6=>za 0 Z (qao 0 [_,_] Z Z Z Z Z) Z<|za 1 Z (qa6 Z) Z<|qar 2 V<|Wu Z Tt 1 [_,_] Y9 (sM (qet (sbE _)))<|qaf V<|Zt<|Zo<|Zu<|?_;exact rR [_,_,_] _ (.tmp Z (.agg (us:=[_,_]) 1 Z Z Z Z Z (.nil))) Z (e4.t h6) fun _ hS2=>qAs
 have ht0:(qaO t).1=0:=c5.1;have hcells:=(qAo hA ht0).cells;refine Zk<|Zt<|Zs<|Sr<|Zqm Z Z<|qfg Z Z Z Z<|qbl Z Z Z<|Nt<|?_;refine qaa Z ?_ ?_<;>intro c7
 ·have hlong:400000 < tx.length:=by omega
  refine Sr<|Je Z Z Z (qgM D _ _ _ _) fun s8 h8=>Zqa Z Z<|Wt 1 [_,_] Y9<|Nt<|Zo<|Zu<|?_;exact rR [_,_,_] _ (.tmp Z (.agg (us:=[_,_]) 1 Z Z Z Z Z (.nil))) Z (e4.t h8) fun _ hS2=>qAs
 have hlong:¬ 400000 < tx.length:=by omega
 refine Zk<|Zt<|Sr<|qad (qao 2 [_,_] Z Z Z Z Z) Z<|qex (fun l=>St l) Z fun bm s9 h9=>qad (qak [(_,_),(_,_)] [_,_,_,_,_,_] Z Z Z Z Z Z) Z<|qay Z Z fun ba s10 h10=>At Z Z<|Zs<|Zs<|qbk 4<|qbk 4<|qbk 4<|Zr<|Zqm Z Z<|Jc Z Z Z (qnH D _ _ tx 10 O) ?_;have e10:=e4.t h9|>.t h10;rintro _ _ s11 h11 ⟨rfl,Atq9,nt,ct,rfl,hTx⟩;have e11:=e10.t h11;have hnt:=hTx.1;have hct:=qhg 10 tx;have hcl:tx.count 10≤tx.length:=List.count_le_length;simp only [show ((10:UInt8).toNat:Int)=10 from rfl] at hnt hct hTx;refine Ws Y4<|Zqm Z Z<|Nt<|Zp<|?_
   
 refine qbV [_,_,_] (γ:=Nat×AG) (fun g=>[(4,_),(5,_),(7,_),(30,_),(31,_),(32,.int .i64 (g.1:Int))]) (fun g=>HA ba bm t.cells A n c g.2 L) (fun g tw=>Le D s11 tw∧(g.1≤nt∧AGok g.2∧(g.2.w.length:Int)≤t.cells∧g.2.l.length≤g.1∧g.2.r.length≤g.1∧(∀ y∈g.2.r,y.2.1 < g.2.w.length)∧qi5 t 0 [] [] [] (splitB 10 tx)=qi5 t g.1 g.2.w g.2.l g.2.r ((splitB 10 tx).drop g.1))) (fun g=>nt - g.1) (fun _ _ _ h hl=>⟨h.1.trans hl,h.2⟩) (0,⟨.slice none 0 0,[],.slice none 0 0,[],.slice none 0 0,[],[],0,[],[],[]⟩) (.c6 Z Z Z Z Z Z (.nil _)) Z ⟨Le.refl _,⟨Nat.zero_le _,qyp,by simp only [List.length_nil];omega,Nat.le_refl _,Nat.le_refl _,(fun _ h=>by cases h),Z⟩⟩ ?_;intro g s12 I12;have e12:=e11.t I12.1;simp only [cQ9,nQ9];obtain ⟨k,g⟩:=g;obtain ⟨hk0,hg,hwl,hll,hrl,hlt,hS⟩:=I12.2;simp only at hk0 hg hwl hll hrl hlt hS;dsimp only;refine Sr<|qa8 Z Z Z<|Nt<|Zs<|?_;refine qaa Z ?_ ?_<;>intro c13
 ·have hk:k < nt:=by omega
  obtain ⟨b,off,tx1,rfl,htxk,hctx,_⟩:=Strs.at_ (hTx.le I12.1) hk;have htx1:tx1.length≤400000:=by have:=qdx 10 [] tx tx1 (List.mem_of_getElem? htxk);simp only [List.length_nil,Nat.zero_add] at this;omega
  have hdr:(splitB 10 tx).drop k=tx1::(splitB 10 tx).drop (k+1):=by
    obtain ⟨hk2,rfl⟩:=List.getElem?_eq_some_iff.1 htxk;exact List.drop_eq_getElem_cons hk2
  refine Zk<|Zt<|Zs<|Zp<|Sr<|Zqm Z Z<|qad (qaU Z Z Z Z Z Z hk) Z<|qad (qaq Z Z Z (hctx.le (Lr D)) Z) Z<|Zqa Z Z<|At Z Z<|Sr<|Zqm Z Z<|Zqm Z Z<|Zqm Z Z<|Jc Z Z Z (qvd D L _ _ _ _ (hG.le e12) ba bm t A n c (hA.le e12) g hg _ tx1 htx1 O hwl O O) ?_;rintro _ _ s14 h14 ⟨g',rfl,rfl,hadd⟩;refine At Z Z<|Sr<|Zqm Z Z<|qcb Z Z Z<|Nt<|?_;refine qaM Z ?_ ?_<;>intro c15;·have hcode:=c15;refine Sr<|Zqm Z Z<|Zqm Z Z<|Je Z Z Z (qgM D _ _ _ _) fun s16 h16=>Zqa Z Z<|Wt 1 [_,_] Y9<|Nt<|Zo<|Zc<|Zu<|Zu<|Zc<|Zu<|?_;exact rR [_,_,_] _ (.tmp Z (.agg (us:=[_,_]) 1 Z Z Z Z Z (.nil))) Z (e12.t h14|>.t h16) fun _ hS2=>qAs
  have hcode:qeb t g.w g.l (qct tx1)=0:=by simpa using c15
  obtain ⟨x,hx,he0⟩:=qox hcode;obtain ⟨hg2,ew,el,er⟩:=hadd x hx he0;refine Zk<|Zb<|Zt<|Zr<|qaD Z Z Z (w64 O O)<|Zqm Z Z<|Zn<|?_;refine qab ⟨(k+1,g'),[],kp,Z,⟨(I12.1.t h14),⟨by simp only;omega,hg2,by simp only [ew];exact qqq hwl he0,by simp only [el];have:=qqr (w:=g.w) (l:=g.l) (x:=x);omega,by simp only [er];have:=qqs (t:=t) (w:=g.w) (r:=g.r) (i:=(k:Int)) (x:=x);omega,by simp only [er,ew];exact qvf hlt,by simp only [ew,el,er];rw [hS,hdr,qgP hx he0]⟩⟩,Oz⟩
 have hdr:(splitB 10 tx).drop k=[]:=List.drop_eq_nil_of_le O;rw [hdr,qi5] at hS;have hgu:=hg;obtain ⟨vw,Mw,vl,Ml,vr,Mr,es,ck,w,l,r⟩:=g;obtain ⟨hOw,hOl,hOr,hE,huw,hul,hur⟩:=hg;simp only at hOw hOl hOr hE huw hul hur;obtain ⟨Aw,cw,rfl,kw,kx⟩:=Own.slice hOw;obtain ⟨Al,cl,rfl,kl,km⟩:=Own.slice hOl;obtain ⟨Ar,cr,rfl,kr,ks⟩:=Own.slice hOr;simp only [HA];simp only at hS hlt hwl hll hrl;refine Zl<|Zv<|Zv<|Zd<|Zt<|Zs<|Zs<|qdA (_::_::_::_::_::Mw) Ml _ ?_;intro s17 h17 hpub17;simp only [cQ9,nQ9];have hLb:=Own.labs hOl hul hpub17 rfl;refine qdA (_::_::_::_::_::Mw) Mr _ ?_;intro s18 h18 hpub18;simp only [cQ9,nQ9];have hRf:=Own.refs hOr hpub18 rfl;refine Zr<|Zqm Z Z<|qaQ Z Z<|Wb Y5<|Wl 3 Y6<|Ws Y4<|Zqm Z Z<|Nt<|Zp<|?_;refine qbV [_,_,_] (γ:=Nat×Hl×List Int) (fun g=>[(4,_),(5,_),(7,_),(50,_),(51,_),(52,.int .i64 (g.1:Int))]) (fun g=>(ba,cb [.int .i64 t.cells,.slice A n c,.slice Aw w.length cw,.slice Al l.length cl,.map (some bm),.slice Ar r.length cr] 89)::(bm,mp (fun l=>St l) es ck)::(g.2.1++L)) (fun g tw=>Le D s18 tw∧(g.1≤r.length∧FL.Own 46 1 g.2.1 (.slice Aw w.length cw) w.length (wv g.2.2)∧g.2.2.length=w.length∧(∀ x∈g.2.2,U32 x)∧qlU l r w=qlU l (r.drop g.1) g.2.2)) (fun g=>r.length - g.1) (fun _ _ _ h hl=>⟨h.1.trans hl,h.2⟩) (0,Mw,w) (.c6 Z Z Z Z Z Z (.nil _)) Z ⟨Le.refl _,⟨Nat.zero_le _,hOw,Z,huw,Z⟩⟩ ?_;intro g s19 I19;have e19:=e12.t h17|>.t h18|>.t I19.1;simp only [cQ9,nQ9];obtain ⟨j,Mj,wj⟩:=g;obtain ⟨hj0,hOj,hwj,huj,hR⟩:=I19.2;simp only at hj0 hOj hwj huj hR;dsimp only;refine Sr<|qa8 Z Z Z<|Nt<|Zs<|?_;refine qaa Z ?_ ?_<;>intro c20
 ·have hk:j < r.length:=by omega
  obtain ⟨br,ofr,x,hAr,hxr,hcr⟩:=Refs.at_ (hRf.le I19.1) hk;subst hAr;have hpl:=hlt x (List.mem_of_getElem? hxr);obtain ⟨bw,yw,hAw,hMw,g1,g2,g3,g4⟩:=qg6 hOj O;subst hMw;subst hAw;simp only [cQ9,nQ9];refine Zk<|Zt<|Zs<|Zp<|Sr<|qad (qau Z Z Z Z Z Z hk) Z<|qad (qaw Z Z Z (hcr.le (Lr D)) Z) Z<|qag Z [_,_,_,_] Z Z fun β21 s21 h21=>Wt 0 [_,_,_,_] Y9<|Nt<|Zs<|qaJ qac 13 Z _ (fun _ h=>h) fun s22 h22=>za 0 Z (qan Z) Z<|za 1 Z (qam Z) Z<|za 2 Z (We Y4) Z<|za 3 Z (Wd 4 Y5) Z<|za 4 Z (We Y4) Z<|za 5 Z (qat Z Z Z Z) Z<|za 6 Z (Wd 0 Y5) Z<|za 7 Z (qaz (qhA KeyK.str 5 qoB Z Z Z) (show Value.tuple #[(qaW es x.2.2.1).getD (.int .u32 0),.bool (qaW es x.2.2.1).isSome]=.tuple #[(qaW es x.2.2.1).getD (.int .u32 0),.bool (qb7 l x.2.2.1).isSome] by rw [hE,Option.isSome_map])) Z<|za 8 Z (qan Z) Z<|za 9 Z (qff Z Z) Z<|za 10 Z (qff Z Z) Z<|za 11 Z (qa6 Z) Z<|za 12 Z (qa6 Z) Z ?_;refine qaf V<|Zt<|Zs<|Sr<|Zqm Z Z<|qbF Z Z<|Nt<|?_;refine qb8 Z ?_ ?_<;>intro c23
  ·have hmiss:qb7 l x.2.2.1=none:=by simpa using c23
   refine Sr<|W0 Y5<|Wl 0 Y6<|Je Z Z Z (qgM D _ _ _ _) fun s24 h24=>Zqa Z Z<|Wt 2 [_,_] Y9<|Nt<|Zo<|Zu<|Zc<|Zu<|Zu<|Zc<|Zu<|?_;refine rR [_,_,_,_] _ (.tmp Z (.agg (us:=[_,_]) 2 Z Z Z Z Z (.nil))) Z (e19.t h21|>.t h22|>.t h24) fun _ hS2=>?_;first
     | (refine ⟨[],rfl,.pointer none,_,_,rfl,.inl ⟨hbad,qic hbad⟩⟩)
     | (refine ⟨[],rfl,.pointer none,3,-2,rfl,.inl ⟨by decide,qib ht0 hlong⟩⟩)
     | (exact ⟨_,qnd ..,.pointer none,_,_,rfl,.inl ⟨hcode,qia ht0 hlong (by rw [hS,hdr];exact qgO hcode)⟩⟩)
     | (exact ⟨[_,_,_],rfl,.pointer none,_,_,rfl,.inl ⟨by decide,qkb ht0 hlong hS (by rw [hR];exact qg9 hxr hmiss)⟩⟩)
     | (exact ⟨_,rfl,_,0,0,rfl,.inr ⟨rfl,rfl,ba,bm,Aw,w.length,cw,Al,l.length,cl,_,es,ck,Mj,wj,l,rfl,rfl,hOj,huj,hLb.le (h18.t I19.1|>.t h21|>.t h22|>.t h24|>.t hS2),qnG ht0 hlong hS hR⟩⟩)
  obtain ⟨a,ha⟩:=Option.isSome_iff_exists.1 c23;rw [show (qaW es x.2.2.1).getD (Value.int .u32 0)=.int .u32 a by rw [hE,ha];rfl];refine Zk<|Zt<|qaH qac 12 Z [6] (by intro x hx;exact qas hx) fun s25 h25=>za 0 Z (qan Z) Z<|za 1 Z (qam Z) Z<|za 2 Z (We Y4) Z<|za 3 Z (Wd 4 Y5) Z<|za 4 Z (We Y4) Z<|za 5 Z (Wd 0 Y5) Z<|za 6 Z (qaU Z Z Z Z Z Z O) Z<|za 8 Z (qan Z) Z<|qar 7 V<|qbA Z Tt (qca 6 Z Z Z Z (qv2 O)) Z<|za 9 Z (qaz (qkX Z Z) (congrArg (Value.int .u32) (qxJ _))) Z<|za 10 Z (qaU Z Z Z Z Z Z O) Z<|qar 11 V<|qbs Z Tt 6 _ Z Z Z Z Z (qvo O) Z (qwv _ O) Z (fun x hx=>hx)<|qaf V<|Zb<|Zt<|Zr<|qaD Z Z Z (w64 O O)<|Zqm Z Z<|Zn<|?_;refine qab ⟨(j+1,[(bw,cb (wv (wj.set x.2.1 (w32 (wj.getD x.2.1 0+a)))++yw) 46)],wj.set x.2.1 (w32 (wj.getD x.2.1 0+a))),[_],kp,Z,⟨(I19.1.t h21|>.t h22|>.t h25),⟨by simp only;omega,qlS (by simp only [qcj,List.length_set];exact hwj) (by simp only [qcj,List.length_set];rw [qcj] at g2;exact g2) g3 g4,by simp only [List.length_set];exact hwj,setU huj _ _ (qBG _),by simp only;rw [hR,qrJ hxr ha]⟩⟩,Oz⟩
 have hdr2:r.drop j=[]:=List.drop_eq_nil_of_le O;rw [hdr2,qlU] at hR;refine Zl<|Zv<|Zv<|Zd<|Zt<|Sr<|Zqm Z Z<|qad (qak [] [_,_] Z Z Z Z Z Z) Z<|Zqa Z Z<|Wt 1 [_,_] Y9<|Nt<|Zo<|?_;refine rR [_,_,_] _ (.tmp Z (.agg (us:=[_,_]) 1 Z Z Z Z Z (.nil))) Z e19 fun _ hS2=>?_;first
   | (refine ⟨[],rfl,.pointer none,_,_,rfl,.inl ⟨hbad,qic hbad⟩⟩)
   | (refine ⟨[],rfl,.pointer none,3,-2,rfl,.inl ⟨by decide,qib ht0 hlong⟩⟩)
   | (exact ⟨_,qnd ..,.pointer none,_,_,rfl,.inl ⟨hcode,qia ht0 hlong (by rw [hS,hdr];exact qgO hcode)⟩⟩)
   | (exact ⟨[_,_,_],rfl,.pointer none,_,_,rfl,.inl ⟨by decide,qkb ht0 hlong hS (by rw [hR];exact qg9 hxr hmiss)⟩⟩)
   | (exact ⟨_,rfl,_,0,0,rfl,.inr ⟨rfl,rfl,ba,bm,Aw,w.length,cw,Al,l.length,cl,_,es,ck,Mj,wj,l,rfl,rfl,hOj,huj,hLb.le (h18.t I19.1|>.t hS2),qnG ht0 hlong hS hR⟩⟩)
def qvk(t:Tab)(tx:List UInt8):List Int:=match qhD t tx with
 | .inl _=>[]
 | .inr x=>x.1
def qAk(t:Tab)(tx:List UInt8):List (List UInt8×Int):=match qhD t tx with
 | .inl _=>[]
 | .inr x=>x.2
def qhv(t:Tab)(tx:List UInt8):Int×Int:=match qhD t tx with
 | .inl f=>f
 | .inr _=>(0,0)
def qyt{t:Tab}{tx:List UInt8}{f:Int×Int}(h:qhD t tx=.inl f):qvk t tx=[]∧qAk t tx=[]∧qhv t tx=f:=by simp [qvk,qAk,qhv,h]
def qyu{t:Tab}{tx:List UInt8}{w:List Int}{l:List (List UInt8×Int)}(h:qhD t tx=.inr (w,l)):qvk t tx=w∧qAk t tx=l∧qhv t tx=(0,0):=by simp [qvk,qAk,qhv,h]
def Labs.nil(s:World):Labs s none 0 0 []:=⟨rfl,Nat.le_refl _,by omega,fun i x h=>by cases h⟩
def Cz29{p:Prop} (h:p:=by
 first
  | (exact ⟨_,rfl,fun s2 hs2 hp=>⟨Aw,nw,cw,by rw [e3];rfl,by rw [e1];exact Own.wds hOw huw hp⟩⟩)
  | (exact ⟨_,rfl,fun s2 hs2 hp=>⟨none,0,0,by rw [e3];rfl,by first|(rw [e1];exact Wds.nil _ _ _ O)|(rw [e2];exact Labs.nil _)⟩⟩)):p:=h
def qi6(D:Nat)(L:Hl)(s:World)(hG:GW s)(t:Tab)(A:Option Addr)(n c:Nat)(hA:Inss s A n c t.ins)(tx:List UInt8):AC Tryz.prog D 11 [.agg #[.int .i64 t.cells,.slice A n c],St tx] L s fun v L' s'=>∃ M',L'=M'++L∧∀ s2,Le D s' s2→Pub M' s2→∃ A1 n1 c1,v=.tuple #[.slice A1 n1 c1,.agg #[.int .i64 (qhv t tx).1,.int .i64 (qhv t tx).2]]∧Wds s2 A1 n1 c1 (qvk t tx):=by
 refine qae (fn:=Tryz.f11) qav Tryz.func11 V Z Tryz.ntmps11 Z (rs:=[.tmp 4,.cell 5 27]) Z [(0,_),(1,_)] Z<|Sr<|qay Z Z fun β1 s1 h1=>Zqa Z Z<|qag Z [_,_] Z Z fun β2 s2 h2=>Nt<|Sr<|qad (qao 1 [_,_] Z Z Z Z Z) Z<|Zqm Z Z<|Jc Z Z Z (AC.mid [_,_] [] _ (qkc D _ _ (hG.le (h1.t h2)) _ _ _ _ (hA.le (h1.t h2)) tx)) ?_;rintro _ _ s3 h3 ⟨Mx,rfl,p,f1,f2,rfl,hR⟩;simp only [cQ9,nQ9];refine Zqm Z Z<|Zqx Z Z Z<|Zqx Z Z Z<|qag Z [_,_] Z Z fun β4 s4 h4=>Zqa Z Z<|Wt 0 [_,_] Y9<|Nt<|Zs<|Sr<|qad (qao 0 [_,_] Z Z Z Z Z) Z<|qad (qak [] [_,_] Z Z Z Z Z Z) Z<|qad (qb9 Z Z (qbL _ _ _ _)) Z<|Nt<|?_;have e4:=h1.t h2|>.t h3|>.t h4;refine qaM Z ?_ ?_<;>intro c5
 ·obtain ⟨hne,hbad⟩|⟨hz1,hz2,_⟩:=hR
  rotate_left
  · exact absurd ⟨hz1,hz2⟩ c5
  obtain ⟨e1,e2,e3⟩:=qyt hbad;refine Zs<|qaH qac 3 Z [1] (by intro x hx;exact qas hx) fun s6 h6=>za 0 Z (qao 0 [_,_] Z Z Z Z Z) Z<|za 1 Z (qa6 Z) Z<|qar 2 V<|Wu Z Tt 1 [_,_] Y9 (sM (qet (sbE _)))<|qaf V<|Zt<|Zo<|Zu<|?_;exact rR [_,_,_] _ (.tmp Z (.agg (us:=[_,_]) 1 Z Z Z Z Z (.nil))) Z (e4.t h6) fun _ hS2=>Cz29
 obtain ⟨hne,hbad⟩|⟨hz1,hz2,ba,bm,Aw,nw,cw,Al,nl,cl,vr,es,ck,Mw,w,l,hp,hM,hOw,huw,hLb,hok⟩:=hR
 · exact absurd c5.1 hne
 subst hp;subst hM;have hnw:=hLb.1;simp only [List.cons_append];obtain ⟨e1,e2,e3⟩:=qyu hok;refine Zk<|Zt<|Sr<|Zqm Z Z<|qaQ Z Z<|Wb Y5<|Wl 3 Y6<|qad (qak [] [_,_] Z Z Z Z Z Z) Z<|Zqa Z Z<|Wt 1 [_,_] Y9<|Nt<|Zo<|?_;exact rR [_,_,_,_,_] _ (.tmp Z (.agg (us:=[_,_]) 1 Z Z Z Z Z (.nil))) Z e4 fun _ hS2=>Cz29
def qf9(D:Nat)(L:Hl)(s:World)(hG:GW s)(t:Tab)(A:Option Addr)(n c:Nat)(hA:Inss s A n c t.ins)(tx:List UInt8):AC Tryz.prog D 11 [.agg #[.int .i64 t.cells,.slice A n c],St tx] L s fun v L' s'=>L=L'∧∃ A1 n1 c1,v=.tuple #[.slice A1 n1 c1,.agg #[.int .i64 (qhv t tx).1,.int .i64 (qhv t tx).2]]∧Wds s' A1 n1 c1 (qvk t tx):=AC.pubW (qi6 D L s hG t A n c hA tx)
end Go.Proofs.YtflplmcjbppfcaaGreatDoor
namespace Go.FL
open Go Go.RowKit
def qrx{e:Nat}{M:Hl}{Ad:Option Addr}{n c:Nat}{xs:List Value}(h:FL.Own e 1 M (.slice Ad n c) n xs)(hn:0 < n):∃ b ys,Ad=some ⟨b,0,none⟩∧M=[(b,cb (xs++ys) e)]∧xs.length=n∧xs.length+ys.length=c∧n≤c∧c≤9223372036854775807:=by
 cases h with
 | nil=>omega
 | blk b cap _ _ ys h1 h2 h3 h4=>exact ⟨b,ys,rfl,rfl,by simpa using h1,by simpa using h2,h3,h4⟩
section
variable{P:Program}{TT:qa5}{D n:Nat}{Q:qbC}{fr:Fr}{L L' K:Hl}{s s' s0:World}{ops:Array Oper}{rest:List Oper}{d ty:Nat}{op:Op}{pos:String}{af:Array Edge}{v:Value}
def qx5{x:Operand}{p:Option Addr}{t t' te:Nat}(hp:P.underlying t=some (.pointer te))(hx:lk fr x=some (.pointer p)):QE P TT D fr (.binOp .eql t x (.const (.pointer none)) t') ty K s0 (.bool p.isNone):=
 QE.pure fun _ dst pos af g ρ hρ w=>by
  have hc:=hρ (.const (.pointer none)) _ rfl;have h:∀ k:Nat,(Op.equalIn (k+1) t (.pointer p) (.pointer none)).run P w=.ok p.isNone w:=fun k=>by cases p<;>simp [Op.equalIn,run_underlying hp]
  have h2:(binOp .eql t (.pointer p) (.pointer none)).run P w=.ok (.bool p.isNone) w:=by simp only [binOp];simp [Op.equal,Op.maxDepth,h 9999]
  simp [execOp,hρ x _ hx,hc,eqGuard,h2]
def qk1{x:Operand}{p:Option Addr}{t t' te:Nat}(hp:P.underlying t=some (.pointer te))(hx:lk fr x=some (.pointer p)):QE P TT D fr (.binOp .neq t x (.const (.pointer none)) t') ty K s0 (.bool p.isSome):=
 QE.pure fun _ dst pos af g ρ hρ w=>by
  have hc:=hρ (.const (.pointer none)) _ rfl;have h:∀ k:Nat,(Op.equalIn (k+1) t (.pointer p) (.pointer none)).run P w=.ok p.isNone w:=fun k=>by cases p<;>simp [Op.equalIn,run_underlying hp]
  have h2:(binOp .neq t (.pointer p) (.pointer none)).run P w=.ok (.bool p.isSome) w:=by simp only [binOp];cases p<;>simp [Op.equal,Op.maxDepth,h 9999]
  simp [execOp,hρ x _ hx,hc,eqGuard,h2]
def qx6{x y:Operand}{a:Addr}{t t' te:Nat}{ti:TI}(hp:P.underlying t=some (.pointer te))(hte:qaE TT te=some ti)(hx:lk fr x=some (.pointer (some a)))(hy:lk fr y=some (.pointer (some a))):QE P TT D fr (.binOp .neq t x y t') ty K s0 (.bool false):=
 QE.pure fun hT dst pos af g ρ hρ w=>by
  obtain ⟨i,i1,_⟩:=qdY (hT.at_ hte);simp [execOp,hρ x _ hx,hρ y _ hy,eqGuard,Lib.run_neq_ptr_same w a hp i1]
def qhd{zs:List Value}{b e:Nat}(ho:OKL D L s)(hi:(b,cb zs e)∈L):(fill L s).shape? b=some (e,zs.length):=by
 have:=qa7 ho hi;unfold World.shape?;rw [this];simp [cb]
def qx9{t t' te b e:Nat}{x:Operand}{ti:TI}{zs:List Value}(i:Nat)(hs:P.underlying t=some (.pointer te))(hd:P.underlying t'=some .unsafePointer)(hte:qaE TT te=some ti)(hx:lk fr x=some (.pointer (some ⟨b,0,none⟩)))(hi:K[i]?=some (b,cb zs e))(hz:Nat.blt 0 zs.length=true):QE P TT D fr (.convert t t' x) ty K s0 (.pointer (some ⟨b,0,none⟩)):=
 fun hT dst pos af g ρ hρ L s ho hl hK=>by
  obtain ⟨i0,i1,i2,_⟩:=qdY (hT.at_ hte);have hpos:0 < ti.size:=(hT.at_ hte).2.2.2.2.2.1;have hr:=Lib.run_to_unsafe (P:=P) (fill L s) ⟨b,0,none⟩ hs hd i1 (by rw [i2];omega) (qhd ho (hK _ (List.mem_of_getElem? hi))) (by simpa using hz);simp only [execOp,hρ x _ hx,Sem.run_bind,hr,Result.andThen_ok,Sem.run_pure]
def qqd{t t' te b e:Nat}{x:Operand}{ti:TI}{zs:List Value}(i:Nat)(hs:P.underlying t=some .unsafePointer)(hd:P.underlying t'=some (.pointer te))(hte:qaE TT te=some ti)(hx:lk fr x=some (.pointer (some ⟨b,0,none⟩)))(hi:K[i]?=some (b,cb zs e))(hlies:liesAt P P.depth e (zs.length / P.cellsOf e) 0 te 1=true):QE P TT D fr (.convert t t' x) ty K s0 (.pointer (some ⟨b,0,none⟩)):=
 fun hT dst pos af g ρ hρ L s ho hl hK=>by
  obtain ⟨i0,i1,i2,_⟩:=qdY (hT.at_ hte);have hr:=Lib.run_from_unsafe (P:=P) (fill L s) ⟨b,0,none⟩ hs hd i1 (qhd ho (hK _ (List.mem_of_getElem? hi))) hlies;simp only [execOp,hρ x _ hx,Sem.run_bind,hr,Result.andThen_ok,Sem.run_pure]
def quO{f:FuncId}{fn:Func}{x y:Operand}{ts:Array TypeId}(hf:P.funcs[f]?=some fn)(hname:(fn.name == "runtime.NumGoroutine")=false)(hb:fn.body.isNone=true)(hn:Extern.findNext fn=none)(he:Extern.find fn=some Extern.AbiNoEscape.same)(hx:lk fr x=some (.func (.func f) #[] #[]))(hy:lk fr y=some v) :
  QE P TT D fr (.call { callee:=.value x,args:=#[y],argTypes:=ts }) ty K s0 v:=
 QE.pure fun hT dst pos af g ρ hρ w=>by
  have hr:=run_callFunc_extern hf hname hb hn he #[v] w;rw [Lib.run_noEscape] at hr;simp [execOp,resolve,Deferred.ofValue,invoke,hρ x _ hx,hρ y _ hy,hr]
def qya{x:Operand}{ts:Array TypeId}{A:Option Addr}{m c:Nat}(hx:lk fr x=some (.slice A m c))(hc:A=none∨c≠0):QE P TT D fr (.call { callee:=.builtin .unsafeSliceData,args:=#[x],argTypes:=ts }) ty K s0 (.pointer A):=
  QE.pure fun hT dst pos af g ρ hρ w=>by
    rcases hc with rfl|hc
    · simp [execOp,resolve,invoke,builtin,hρ x _ hx,Lib.run_unsafeSliceData_nil]
    · cases A with
      | none=>simp [execOp,resolve,invoke,builtin,hρ x _ hx,Lib.run_unsafeSliceData_nil]
      | some a=>simp [execOp,resolve,invoke,builtin,hρ x _ hx,Lib.run_unsafeSliceData_row _ _ _ _ _ _ hc]
def qmD(w:World)(g e k:Nat)(cs:Array Value)(hk:k≠0)(hg:g < w.heap.size):(qbo w g (.cells cs e (0,0))).freeze ⟨g,0,none⟩ k=qbo w g (.cells cs e (0,k)):=by
  unfold World.freeze;rw [if_neg hk];refine qdz (qdt fun j=>?_) Z Z Z Z;show ((w.heap.setIfInBounds g _).modify g _)[j]?=(w.heap.setIfInBounds g _)[j]?;rw [Array.getElem?_modify];by_cases hj:g=j
  · subst hj
    rw [if_pos rfl,Array.getElem?_setIfInBounds_self,Array.getElem?_setIfInBounds_self];simp [hg]
  · rw [if_neg hj,Array.getElem?_setIfInBounds_ne hj,Array.getElem?_setIfInBounds_ne hj]
end
open Go Go.RowKit Go.Proofs.YtflplmcjbppfcaaGreatDoor
section
variable{P:Program}{TT:qa5}{D n:Nat}{Q:qbC}{fr:Fr}{L L' K:Hl}{s s' s0:World}{ops:Array Oper}{rest:List Oper}{d ty:Nat}{op:Op}{pos:String}{af:Array Edge}{v:Value}
def quz{tp ti0 e:Nat}{x y:Operand}{A:Option Addr}{l:List UInt8}{c:Nat}(X M L0:Hl)(hp:P.underlying tp=some (.pointer e))(hce:P.cellsOf e=1)(hx:lk fr x=some (.pointer A))(hy:lk fr y=some (.int .i64 (l.length:Int)))(hO:FL.Own e 1 M (.slice A l.length c) l.length (bv l))(hn:l=[]→M=[])(ho:OKL D (X++(M++L0)) s) :
    ∃ s',Ev P TT D fr (.call { callee:=.builtin .unsafeString,args:=#[x,y],argTypes:=#[tp,ti0] }) ty (X++(M++L0)) s (.value (St l)) (X++L0) s'∧Le D s s':=by
  by_cases h0:l=[]
  · subst h0
    have hM:=hn rfl;subst hM;refine ⟨s,fun hT ho dst pos af g ρ hρ=>⟨?_,by simpa using ho⟩,Le.refl _⟩;simp only [List.length_nil] at hy;have hr:=Lib.run_unsafeString_none (P:=P) (fill (X++([]++L0)) s) tp ti0 ty A;simp [execOp,resolve,invoke,builtin,hρ x _ hx,hρ y _ hy];simp at hr;rw [hr];rfl
  · have hl0:l.length≠0:=by simpa using h0
    obtain ⟨g,ys,hA,hM,g1,g2,g3,g4⟩:∃ g ys,A=some ⟨g,0,none⟩∧M=[(g,cb (bv l++ys) e)]∧(bv l).length=l.length∧(bv l).length+ys.length=c∧l.length≤c∧c≤9223372036854775807:=qrx hO O;subst hA;subst hM;have hperm:(X++([(g,cb (bv l++ys) e)]++L0)).Perm ((g,cb (bv l++ys) e)::(X++L0)):=by simpa using List.perm_middle
    have ho2:=ho.perm hperm;have hgs:g < s.heap.size:=ho2.lt Mc;have hgs2:g < (fill (X++L0) s).heap.size:=by rw [qaN];exact hgs
    have ho3:OKL D ([(g,Obj.cells (bv l++ys).toArray e (0,l.length))]++(X++L0)) s:=⟨by simpa using ho2.nd,fun x hx=>by
      rcases List.mem_cons.1 hx with rfl|hx
      · exact ho2.dm (g,cb (bv l++ys) e) Mc
      · exact ho2.dm x (List.mem_cons_of_mem _ hx)⟩
    obtain ⟨d1,d2,d3⟩:=qbn ho3;have hbl:(bv l).length=l.length:=g1;have hus:=Lib.run_unsafeString_row (P:=P) (fill (X++([(g,cb (bv l++ys) e)]++L0)) s) tp ti0 ty e hp hce g ((bv l++ys).length) (qhd ho (by simp)) l h0 (by simp [hbl]) O (fun j x hx=>by
      rw [add_lit,Nat.zero_add,qcV ho (zs:=bv l++ys) (t:=e) (by simp),List.getElem?_append_left (by rw [hbl];exact (List.getElem?_eq_some_iff.1 hx).1)];simp [bv,hx])
    have hw:(fill (X++([(g,cb (bv l++ys) e)]++L0)) s).freeze ⟨g,0,none⟩ l.length=fill (X++L0) (fill [(g,Obj.cells (bv l++ys).toArray e (0,l.length))] s):=by
      rw [qbv hperm _ ho,← d1];exact qmD (fill (X++L0) s) g e l.length (bv l++ys).toArray hl0 hgs2
    refine ⟨fill [(g,Obj.cells (bv l++ys).toArray e (0,l.length))] s,fun hT _ dst pos af gg ρ hρ=>⟨?_,d2⟩,d3⟩;rw [hw] at hus;simp only [execOp,resolve,invoke,builtin,Sem.run_bind,Sem.run_pure,Result.andThen_ok,List.map_toArray,List.map_cons,List.map_nil,hρ x _ hx,hρ y _ hy,hus]
def quD{i0 tp ti0 e:Nat}{g:Option (Nat×Bool)}{fuel:Nat}{listed:Array Bool}{x y:Operand}{A:Option Addr}{l:List UInt8}{c:Nat}(hi0:ops[i0]?=some ⟨some d,.call { callee:=.builtin .unsafeString,args:=#[x,y],argTypes:=#[tp,ti0] },ty,pos,af,g⟩)(hgk:GOK ops fr g)
  (X M L0:Hl) (hL:L=X++(M++L0)) (hp:P.underlying tp=some (.pointer e)) (hce:P.cellsOf e=1) (hx:lk fr x=some (.pointer A)) (hy:lk fr y=some (.int .i64 (l.length:Int))) (hO:FL.Own e 1 M (.slice A l.length c) l.length (bv l)) (hn:l=[]→M=[]) (hd:Nat.blt d n=true) (hK:∀ x∈K,x∈X++(M++L0)→x∈X++L0)
  (kk:∀ s',Le D s s'→JA P TT D n ops Q K s0 fuel (listed.setIfInBounds i0 true) ((d,St l)::fr) (X++L0) s'):JB P TT D n ops Q K s0 fuel listed i0 fr L s:=fun hT a hr ho hl0 hKL=>by
 subst hL;obtain ⟨s',h1,h2⟩:=quz (ty:=ty) X M L0 hp hce hx hy hO hn ho;exact qiW hi0 hgk h1 h2 hK hd (kk s' h2) hT a hr ho hl0 hKL
end
end Go.FL
namespace Go.Proofs.YtflplmcjbppfcaaGreatDoor
open Go Go.FL
inductive Ex where
 | mk (kind op num:Int) (name:List UInt8) (args:List Ex)
inductive Stm where
 | mk (kind:Int) (name:List UInt8) (exprs:List Ex) (body els:List Stm)
def Ex.kind:Ex→Int|.mk k _ _ _ _=>k
def Ex.op:Ex→Int|.mk _ o _ _ _=>o
def Ex.num:Ex→Int|.mk _ _ n _ _=>n
def Ex.name:Ex→List UInt8|.mk _ _ _ s _=>s
def Ex.args:Ex→List Ex|.mk _ _ _ _ l=>l
def Stm.kind:Stm→Int|.mk k _ _ _ _=>k
def Stm.name:Stm→List UInt8|.mk _ s _ _ _=>s
def Stm.exprs:Stm→List Ex|.mk _ _ l _ _=>l
def Stm.body:Stm→List Stm|.mk _ _ _ b _=>b
def Stm.els:Stm→List Stm|.mk _ _ _ _ e=>e
structure Fnc where
 name:List UInt8
 params:List (List UInt8)
 locals:List (List UInt8)
 body:List Stm
structure Glo where
 kind:Int
 name:List UInt8
 num:Int
 init:List Int
structure Prg where
 globals:List Glo
 funcs:List Fnc
def ExR:Nat→World→Ex→List Value→Prop
 | 0,_,_,_=>False
 | d+1,s,x,cs=>∃ A n c,cs=[.int .i64 x.kind,.int .i64 x.op,.int .u32 x.num,St x.name,.slice A n c]∧Sl 5 (ExR d) s A n c x.args∧U32 x.num∧x.name.length≤9223372036854775807
def Exs(d:Nat)(s:World)(A:Option Addr)(n c:Nat)(l:List Ex):Prop:=Sl 5 (ExR d) s A n c l
def StR:Nat→World→Stm→List Value→Prop
 | 0,_,_,_=>False
 | d+1,s,x,cs=>∃ A1 n1 c1 A2 n2 c2 A3 n3 c3,cs=[.int .i64 x.kind,St x.name,.slice A1 n1 c1,.slice A2 n2 c2,.slice A3 n3 c3]∧Exs d s A1 n1 c1 x.exprs∧Sl 5 (StR d) s A2 n2 c2 x.body∧Sl 5 (StR d) s A3 n3 c3 x.els∧x.name.length≤9223372036854775807
def Stms(d:Nat)(s:World)(A:Option Addr)(n c:Nat)(l:List Stm):Prop:=Sl 5 (StR d) s A n c l
def ExR.le{D:Nat}{s s':World}(hl:Le D s s'):∀ {d:Nat} {x:Ex} {cs:List Value},ExR d s x cs→ExR d s' x cs
 | 0,_,_,h=>h
 | _+1,_,_,⟨A,n,c,h1,h2,h3⟩=>⟨A,n,c,h1,Sl.le (fun _ _ h=>ExR.le hl h) h2 hl,h3⟩
def Exs.le{D d:Nat}{s s':World}{A:Option Addr}{n c:Nat}{l:List Ex}(h:Exs d s A n c l)(hl:Le D s s'):Exs d s' A n c l:=Sl.le (fun _ _ h=>ExR.le hl h) h hl
def StR.le{D:Nat}{s s':World}(hl:Le D s s'):∀ {d:Nat} {x:Stm} {cs:List Value},StR d s x cs→StR d s' x cs
 | 0,_,_,h=>h
 | _+1,_,_,⟨A1,n1,c1,A2,n2,c2,A3,n3,c3,h1,h2,h3,h4,h5⟩=>⟨A1,n1,c1,A2,n2,c2,A3,n3,c3,h1,h2.le hl,Sl.le (fun _ _ h=>StR.le hl h) h3 hl,Sl.le (fun _ _ h=>StR.le hl h) h4 hl,h5⟩
def Stms.le{D d:Nat}{s s':World}{A:Option Addr}{n c:Nat}{l:List Stm}(h:Stms d s A n c l)(hl:Le D s s'):Stms d s' A n c l:=Sl.le (fun _ _ h=>StR.le hl h) h hl
def Sl.imp{α:Type}{sz:Nat}{R R':World→α→List Value→Prop}{s:World}{A:Option Addr}{n c:Nat}{l:List α}(hR:∀ x cs,R s x cs→R' s x cs)(h:Sl sz R s A n c l):Sl sz R' s A n c l:=
 ⟨h.1,h.2.1,h.2.2.1,fun i x hi=>by
  obtain ⟨b,off,cs,h1,h2,h3,h4⟩:=h.2.2.2 i x hi;exact ⟨b,off,cs,h1,h2,h3,hR x cs h4⟩⟩
def ExR.up{s:World}:∀ {d e:Nat},d≤e→∀ {x:Ex} {cs:List Value},ExR d s x cs→ExR e s x cs
 | 0,_,_,_,_,h=>h.elim
 | d+1,0,h,_,_,_=>by omega
 | d+1,e+1,h,_,_,⟨A,n,c,h1,h2,h3⟩=>⟨A,n,c,h1,Sl.imp (fun _ _ k=>ExR.up O k) h2,h3⟩
def Exs.up{s:World}{d e:Nat}{A:Option Addr}{n c:Nat}{l:List Ex}(h:Exs d s A n c l)(he:d≤e):Exs e s A n c l:=Sl.imp (fun _ _ k=>ExR.up he k) h
def StR.up{s:World}:∀ {d e:Nat},d≤e→∀ {x:Stm} {cs:List Value},StR d s x cs→StR e s x cs
 | 0,_,_,_,_,h=>h.elim
 | d+1,0,h,_,_,_=>by omega
 | d+1,e+1,h,_,_,⟨A1,n1,c1,A2,n2,c2,A3,n3,c3,h1,h2,h3,h4,h5⟩=>⟨A1,n1,c1,A2,n2,c2,A3,n3,c3,h1,h2.up O,Sl.imp (fun _ _ k=>StR.up O k) h3,Sl.imp (fun _ _ k=>StR.up O k) h4,h5⟩
def Stms.up{s:World}{d e:Nat}{A:Option Addr}{n c:Nat}{l:List Stm}(h:Stms d s A n c l)(he:d≤e):Stms e s A n c l:=Sl.imp (fun _ _ k=>StR.up he k) h
def Exs.at_{d:Nat}{s:World}{A:Option Addr}{n c k:Nat}{l:List Ex}(h:Exs d s A n c l)(hk:k < n):∃ e b off x A' n' c',d=e+1∧A=some ⟨b,off,none⟩∧l[k]?=some x∧CellsAt s b (off+k * 5) [.int .i64 x.kind,.int .i64 x.op,.int .u32 x.num,St x.name,.slice A' n' c']∧Exs e s A' n' c' x.args∧U32 x.num∧x.name.length≤9223372036854775807:=by
 have hl:k < l.length:=by rw [← h.1];exact hk
 obtain ⟨b,off,cs,h1,h2,_,h4⟩:=h.2.2.2 k l[k] (List.getElem?_eq_getElem hl);cases d with
 | zero=>exact h4.elim
 | succ e=>
  obtain ⟨A',n',c',rfl,h5,h6,h7⟩:=h4;exact ⟨e,b,off,l[k],A',n',c',rfl,h1,List.getElem?_eq_getElem hl,h2,h5,h6,h7⟩
def Stms.at_{d:Nat}{s:World}{A:Option Addr}{n c k:Nat}{l:List Stm}(h:Stms d s A n c l)(hk:k < n):∃ e b off x A1 n1 c1 A2 n2 c2 A3 n3 c3,d=e+1∧A=some ⟨b,off,none⟩∧l[k]?=some x∧CellsAt s b (off+k * 5) [.int .i64 x.kind,St x.name,.slice A1 n1 c1,.slice A2 n2 c2,.slice A3 n3 c3]∧Exs e s A1 n1 c1 x.exprs∧Stms e s A2 n2 c2 x.body∧Stms e s A3 n3 c3 x.els∧x.name.length≤9223372036854775807:=by
 have hl:k < l.length:=by rw [← h.1];exact hk
 obtain ⟨b,off,cs,h1,h2,_,h4⟩:=h.2.2.2 k l[k] (List.getElem?_eq_getElem hl);cases d with
 | zero=>exact h4.elim
 | succ e=>
  obtain ⟨A1,n1,c1,A2,n2,c2,A3,n3,c3,rfl,h5,h6,h7,h8⟩:=h4;exact ⟨e,b,off,l[k],A1,n1,c1,A2,n2,c2,A3,n3,c3,rfl,h1,List.getElem?_eq_getElem hl,h2,h5,h6,h7,h8⟩
def FnR(d:Nat)(s:World)(x:Fnc)(cs:List Value):Prop:=∃ A1 n1 c1 A2 n2 c2 A3 n3 c3,cs=[St x.name,.slice A1 n1 c1,.slice A2 n2 c2,.slice A3 n3 c3]∧Strs s A1 n1 c1 x.params∧Strs s A2 n2 c2 x.locals∧Stms d s A3 n3 c3 x.body∧x.name.length≤9223372036854775807
def Fncs(d:Nat)(s:World)(A:Option Addr)(n c:Nat)(l:List Fnc):Prop:=Sl 4 (FnR d) s A n c l
def GlR(s:World)(x:Glo)(cs:List Value):Prop:=∃ A n c,cs=[.int .i64 x.kind,St x.name,.int .u32 x.num,.slice A n c]∧Wds s A n c x.init∧U32 x.num∧x.name.length≤9223372036854775807
def Glos(s:World)(A:Option Addr)(n c:Nat)(l:List Glo):Prop:=Sl 4 GlR s A n c l
def FnR.le{D d:Nat}{s s':World}{x:Fnc}{cs:List Value}(h:FnR d s x cs)(hl:Le D s s'):FnR d s' x cs:=by
 obtain ⟨A1,n1,c1,A2,n2,c2,A3,n3,c3,h1,h2,h3,h4,h5⟩:=h;exact ⟨A1,n1,c1,A2,n2,c2,A3,n3,c3,h1,h2.le hl,h3.le hl,h4.le hl,h5⟩
def Fncs.le{D d:Nat}{s s':World}{A:Option Addr}{n c:Nat}{l:List Fnc}(h:Fncs d s A n c l)(hl:Le D s s'):Fncs d s' A n c l:=Sl.le (fun _ _ h=>h.le hl) h hl
def GlR.le{D:Nat}{s s':World}{x:Glo}{cs:List Value}(h:GlR s x cs)(hl:Le D s s'):GlR s' x cs:=by
 obtain ⟨A,n,c,h1,h2,h3⟩:=h;exact ⟨A,n,c,h1,h2.le hl,h3⟩
def Glos.le{D:Nat}{s s':World}{A:Option Addr}{n c:Nat}{l:List Glo}(h:Glos s A n c l)(hl:Le D s s'):Glos s' A n c l:=Sl.le (fun _ _ h=>h.le hl) h hl
def Fncs.at_{d:Nat}{s:World}{A:Option Addr}{n c k:Nat}{l:List Fnc}(h:Fncs d s A n c l)(hk:k < n):∃ b off x A1 n1 c1 A2 n2 c2 A3 n3 c3,A=some ⟨b,off,none⟩∧l[k]?=some x∧CellsAt s b (off+k * 4) [St x.name,.slice A1 n1 c1,.slice A2 n2 c2,.slice A3 n3 c3]∧Strs s A1 n1 c1 x.params∧Strs s A2 n2 c2 x.locals∧Stms d s A3 n3 c3 x.body∧x.name.length≤9223372036854775807:=by
 have hl:k < l.length:=by rw [← h.1];exact hk
 obtain ⟨b,off,cs,h1,h2,_,A1,n1,c1,A2,n2,c2,A3,n3,c3,rfl,h5⟩:=h.2.2.2 k l[k] (List.getElem?_eq_getElem hl);exact ⟨b,off,l[k],A1,n1,c1,A2,n2,c2,A3,n3,c3,h1,List.getElem?_eq_getElem hl,h2,h5⟩
def Glos.at_{s:World}{A:Option Addr}{n c k:Nat}{l:List Glo}(h:Glos s A n c l)(hk:k < n):∃ b off x A' n' c',A=some ⟨b,off,none⟩∧l[k]?=some x∧CellsAt s b (off+k * 4) [.int .i64 x.kind,St x.name,.int .u32 x.num,.slice A' n' c']∧Wds s A' n' c' x.init∧U32 x.num∧x.name.length≤9223372036854775807:=by
 have hl:k < l.length:=by rw [← h.1];exact hk
 obtain ⟨b,off,cs,h1,h2,_,A',n',c',rfl,h5⟩:=h.2.2.2 k l[k] (List.getElem?_eq_getElem hl);exact ⟨b,off,l[k],A',n',c',h1,List.getElem?_eq_getElem hl,h2,h5⟩
def kwords:List Str:=[[97,114,114,97,121],[98,114,101,97,107],[99,111,110,115,116],[99,111,110,116,105,110,117,101],[101,108,115,101],[102,117,110,99],[103,101,116],[105,102],[112,117,116],[114,101,116,117,114,110],[115,116,111,112],[118,97,114],[119,104,105,108,101]]
def kwB(s:Str):Bool:=kwords.any fun w=>decide (w=s)
def qaY(s:Str):Bool:=(decide (s≠[]) && decide ((s.length:Int)≤12) && qaX 0 s) && !kwB s
def qfm(g:Glo):Int:=if g.kind < 1∨3 < g.kind then 5 else if qaY g.name=false then 7 else if (g.kind≠3∧g.init≠[])∨(g.kind=2∧g.num≠0) then 6 else if g.kind=3∧(g.num < 1∨40000 < g.num) then 4 else if g.kind=3∧g.num < (g.init.length:Int) then 2 else 0
def qoK(k:Int):Bool:=decide (2≤k∧k≤4)
def qcJ(k:Int):Nat:=if k=3∨k=6 then 1 else if k=7 then 2 else 0
def qep(k:Int):Nat:=if k=3∨k=6 then 1 else if k=4 then 6 else if k=7 then 2 else 0
def exC(k o n:Int)(nm:Str)(na:Nat):Int:=if k < 1∨7 < k∨(k=6∧(o < 1∨3 < o))∨(k=7∧(o < 4∨21 < o)) then 5 else if qoK k=true∧qaY nm=false then 7 else if (qoK k=false∧nm≠[])∨(k≠1∧n≠0)∨(k < 6∧o≠0)∨na < qcJ k∨qep k < na then 6 else 0
def qda(k:Int):Bool:=decide (k=1) || decide (k=2) || decide (k=5)
def qdu(k:Int):Nat:=if k=2 then 2 else if k=5∨8 < k then 0 else 1
def qd0(k:Int):Nat:=if k=2 then 2 else if k=5 then 6 else if 8 < k then 0 else 1
def stC(k:Int)(nm:Str)(ne nb nl:Nat):Int:=if k < 1∨10 < k then 5 else if qda k=true∧qaY nm=false then 7 else if (qda k=false∧nm≠[])∨ne < qdu k∨qd0 k < ne∨(0 < nb∧k≠3∧k≠4)∨(0 < nl∧k≠3) then 6 else 0
mutual
def wkX:Ex→Nat→Nat→Nat×Int
 | .mk k o n nm az,lv,c=>if 16 < lv∨2000 < c+1 then (c+1,2) else if exC k o n nm az.length≠0 then (c+1,exC k o n nm az.length) else qcE az (lv+1) (c+1)
def qcE:List Ex→Nat→Nat→Nat×Int
 | [],_,c=>(c,0)
 | x::r,lv,c=>if (wkX x lv c).2≠0 then wkX x lv c else qcE r lv (wkX x lv c).1
end
mutual
def wkS:Stm→Nat→Nat→Nat×Int
 | .mk k nm es b e,lv,c=>if 16 < lv∨2000 < c+1 then (c+1,2) else if stC k nm es.length b.length e.length≠0 then (c+1,stC k nm es.length b.length e.length)
  else if (qcE es 1 (c+1)).2≠0 then qcE es 1 (c+1) else if (qci b (lv+1) (qcE es 1 (c+1)).1).2≠0 then qci b (lv+1) (qcE es 1 (c+1)).1 else qci e (lv+1) (qci b (lv+1) (qcE es 1 (c+1)).1).1
def qci:List Stm→Nat→Nat→Nat×Int
 | [],_,c=>(c,0)
 | x::r,lv,c=>if (wkS x lv c).2≠0 then wkS x lv c else qci r lv (wkS x lv c).1
end
def fnC(x:Fnc)(c:Nat):Nat×Int:=if qaY x.name=false then (c,7) else if 6 < x.params.length∨12 < x.locals.length then (c,2) else if (x.params++x.locals).any (fun s=>!qaY s)=true then (c,7) else qci x.body 1 c
def qfH(o:Int):Int:=if o=21 then 1 else if o=20 then 2 else if 14≤o∧o≤19 then 3 else if 10≤o∧o≤13 then 4 else 5
def signL:List Str:=[[],[33],[45],[126],[42],[47],[37],[60,60],[62,62],[38],[43],[45],[124],[94],[61,61],[33,61],[60],[60,61],[62],[62,61],[38,38],[124,124]]
def qmV(o:Int):Str:=signL.getD o.toNat []
def qa2:List Str→Str
 | []=>[]
 | [x]=>x
 | x::y::r=>x++44::32::qa2 (y::r)
def qgg(k o:Int):List Int:=if k=6 then [9] else if k=7 then [qfH o,qfH o+1] else []
def exW(k o n:Int)(nm:Str)(az:List Str)(out:Int):Str:=if k=1 then qdq n else if k=2 then nm else if k=3 then nm++[91]++qa2 az++[93] else if k=4 then nm++[40]++qa2 az++[41] else if k=5 then [103,101,116] else if k=6 then qmV o++az.getD 0 []
 else if qfH o < out then [40]++(az.getD 0 []++[32]++qmV o++[32]++az.getD 1 [])++[41] else az.getD 0 []++[32]++qmV o++[32]++az.getD 1 []
mutual
def exT:Ex→Int→Str
 | .mk k o n nm az,out=>exW k o n nm (qdT az (qgg k o)) out
def qdT:List Ex→List Int→List Str
 | [],_=>[]
 | x::r,os=>exT x (os.headD 0)::qdT r os.tail
end
def qaT:Nat→Str
 | 0=>[]
 | n+1=>qaT n++[32,32]
def qhp(k:Int)(nm:Str)(es:List Str):Str:=if k=1 then nm++[32,61,32]++es.getD 0 []++[59,10] else if k=2 then nm++[91]++es.getD 0 []++[93,32,61,32]++es.getD 1 []++[59,10] else if k=5 then nm++[40]++qa2 es++[41,59,10]
 else (if k=6 then [114,101,116,117,114,110,32] else if k=7 then [112,117,116,32] else if k=8 then [115,116,111,112,32] else if k=9 then [98,114,101,97,107] else [99,111,110,116,105,110,117,101])++qa2 es++[59,10]
def qp6:List Stm→Bool
 | [.mk k _ _ _ _]=>decide (k=3)
 | _=>false
mutual
def stT:Stm→Nat→Str
 | .mk k nm es b e,lv=>if k=3∨k=4 then
   (if k=3 then [105,102] else [119,104,105,108,101])++[32,40]++(qdT es []).getD 0 []++[41,32,123,10]++qdE b (lv+1)++qaT lv++[125] ++
    (if e.isEmpty=true then [10] else if qp6 e=true then [32,101,108,115,101,32]++st1 e lv else [32,101,108,115,101,32,123,10]++qdE e (lv+1)++qaT lv++[125,10])
  else qhp k nm (qdT es [])
def qdE:List Stm→Nat→Str
 | [],_=>[]
 | x::r,lv=>qaT lv++stT x lv++qdE r lv
def st1:List Stm→Nat→Str
 | [],_=>[]
 | x::_,lv=>stT x lv
end
def qek(g:Glo):Str:=(if g.kind=1 then [99,111,110,115,116,32]++g.name++[32,61,32]++qdq g.num else if g.kind=2 then [118,97,114,32]++g.name
 else [97,114,114,97,121,32]++g.name++[91]++qdq g.num++[93]++(if g.init=[] then [] else [32,61,32]++qa2 (g.init.map qdq)))++[59,10]
def qir(x:Fnc):Str:=[102,117,110,99,32]++x.name++[40]++qa2 x.params++[41,32,123,10]++(if x.locals=[] then [] else [32,32,118,97,114,32]++qa2 x.locals++[59,10])++qdE x.body 1++[125,10]
def qnb(p:Prg):Str:=(p.globals.map qek).flatten++(p.funcs.map qir).flatten
def fnF:List Fnc→Nat→Nat→Int×Int
 | [],_,_=>(0,0)
 | x::r,i,c=>if (fnC x c).2≠0 then ((fnC x c).2,(i:Int)) else fnF r (i+1) (fnC x c).1
def glF:List Glo→Nat→Int×Int
 | [],_=>(0,0)
 | g::r,i=>if qfm g≠0 then (qfm g,(i:Int)) else glF r (i+1)
def qbf(p:Prg):Int×Int:=if 64 < p.globals.length∨64 < p.funcs.length then (2,-1) else if (glF p.globals 0).1≠0 then glF p.globals 0 else if 1000 < (p.globals.map fun g=>g.init.length).sum then (2,-1) else fnF p.funcs p.globals.length 0
def qf2(p:Prg):Int×Int:=if (qbf p).1≠0 then qbf p else if 12000 < (qnb p).length then (14,-1) else (0,0)
def smallP:Prg:=⟨[⟨1,[110],3,[]⟩],[⟨[109,97,105,110],[],[],[.mk 7 [] [.mk 7 10 0 [] [.mk 5 0 0 [] [],.mk 7 4 0 [] [.mk 2 0 0 [110] [],.mk 1 0 2 [] []]]] [] []]⟩]⟩
open Go.FL
attribute [local irreducible] JC JO JA JB qaZ qaL qb4 AC fill CellsAt QE Ev Mid
def qmF(D:Nat)(L:Hl)(s:World)(r:Int):AC Tryz.prog D 173 [.int .i32 r] L s fun v L' _=>v=.bool (decide ((r < 97∨122 < r)∧(r < 48∨57 < r)))∧L=L':=by
 refine qae (fn:=Tryz.f173) qav Tryz.func173 V Z Tryz.ntmps173 Z (rs:=[.tmp 2]) Z [(0,_)] Z<|Sr<|At Z Z<|Sr<|Zqm Z Z<|qa8 Z Z Z<|Zqm Z Z<|?_;refine qai (t:=5) Z ?_ ?_<;>intro c1
 ·refine Wf Y4<|Wf Y4<|ZqT Z Z Z<|Zqm Z Z<|Zg Z Z<|Zqm Z Z<|Zg Z Z<|qa8 Z Z Z<|Zg Z Z<|Zqm Z Z<|?_;refine qai (t:=12) Z ?_ ?_<;>intro c2;·refine Wf Y4<|Wf Y4<|Zg Z Z<|ZqT Z Z Z<|ZqT Z Z Z<|At Z Z<|Zo<|?_;exact rR [] L (.t1 Z) Z (Lr D) fun _ hS2=>qp1
  refine Zg Z Z<|Zqm Z Z<|Zg Z Z<|qbl Z Z Z<|Zg Z Z<|ZqF Z Z Z<|ZqT Z Z Z<|At Z Z<|Zo<|?_;exact rR [] L (.t1 Z) Z (Lr D) fun _ hS2=>qp1
 refine Zg Z Z<|Zqm Z Z<|Zg Z Z<|qbl Z Z Z<|ZqF Z Z Z<|Zqm Z Z<|?_;refine qai (t:=9) Z ?_ ?_<;>intro c3
 ·refine Zg Z Z<|Zqm Z Z<|Zg Z Z<|qa8 Z Z Z<|Zg Z Z<|Zqm Z Z<|?_;refine qai (t:=12) Z ?_ ?_<;>intro c4;·refine Wf Y4<|Wf Y4<|Zg Z Z<|ZqT Z Z Z<|ZqT Z Z Z<|At Z Z<|Zo<|?_;exact rR [] L (.t1 Z) Z (Lr D) fun _ hS2=>qp1
  refine Zg Z Z<|Zqm Z Z<|Zg Z Z<|qbl Z Z Z<|Zg Z Z<|ZqF Z Z Z<|ZqT Z Z Z<|At Z Z<|Zo<|?_;exact rR [] L (.t1 Z) Z (Lr D) fun _ hS2=>qp1
 refine Wf Y4<|Wf Y4<|Wf Y4<|Zh Z Z Z<|Zh Z Z Z<|Wf Y4<|ZqF Z Z Z<|At Z Z<|Zo<|?_;exact rR [] L (.t1 Z) Z (Lr D) fun _ hS2=>qp1
end Go.Proofs.YtflplmcjbppfcaaGreatDoor
namespace Go.Proofs.YtflplmcjbppfcaaGreatDoor
open Go.Proofs.Tryz
open Go Go.FL Go.RowKit
section
variable(D:Nat)(L:Hl)(s:World)
def qkx:qh5 prog 177:=⟨_,func177,by kernel_rfl,by kernel_rfl⟩
def qjt:∀ args w,(callFunc 173 args).run prog w=.ok (.enter 173 args) w:=enters_of func173 V rfl
def qjj(l:List UInt8):AC prog D 170 [St l,.func (.func 173) #[] #[]] L s fun v L' _=>v=.bool (l.any qkd)∧L=L':=
  AC.of_calls qfl fun _=>by
    refine (Any.strings_ContainsFunc_grows laysGw17 173 #[] qjt qtS ⟨l.toArray⟩ (fill L s) (fun W x _ _=>?_)).mono ?_
    · exact qeY (args:=[.int .i32 (x:Int)]) fun D=>qmF D [] W x
    · rintro e w' ⟨he,hb⟩
      refine ⟨_,he,hb,fun s' _ _ _=>⟨?_,Z⟩⟩;have:=qor l (⟨l.toArray⟩:ByteArray).size 0 (by simp [Lib.size_eq]);rw [List.drop_zero] at this;rw [← this];rfl
def qlI(A:Option Addr)(n c:Nat)(ws:List (List UInt8))(hS:Strs s A n c ws)(sep:List UInt8)(hlen:(Lib.join ws sep).length≤140737488355328)(hn:ws.length≤140737488355328):AC prog D 47 [.slice A n c,St sep] L s fun v L' _=>v=St (Lib.join ws sep)∧L=L':=by
  obtain rfl:=hS.1;by_cases h0:ws=[]
  · subst h0
    refine AC.of_calls qjA fun _=>(Any.strings_Join_none lays156 Tryz.Builder_Extra_156 A c ⟨sep.toArray⟩ (fill L s)).mono fun e w' ⟨he,hw⟩=>?_;exact ⟨_,he,by rw [hw];exact qc1 _,fun s' _ _ _=>⟨rfl,rfl⟩⟩
  · obtain ⟨x,r,rfl⟩:∃ x r,ws=x::r:=by cases ws with
      | nil=>exact absurd rfl h0
      | cons x r=>exact ⟨x,r,rfl⟩
    obtain ⟨b,off,cs,hA,hc,_,rfl,_⟩:=hS.2.2.2 0 x rfl;subst hA;have hmap:((x::r).map fun x=>(⟨x.toArray⟩:ByteArray)).map (·.data.toList)=x::r:=by
      rw [List.map_map];exact List.map_id'' (fun _=>rfl) _
    refine AC.of_calls qjA fun ho=>?_;have hbk:b < (fill L s).heap.size:=by rw [qaN];exact qnS (hc 0 (St x) rfl)
    have:=Any.strings_Join lays156 Tryz.Builder_Extra_156 b off c ((x::r).map fun x=>(⟨x.toArray⟩:ByteArray)) ⟨sep.toArray⟩ (fill L s) (qm1 D s hS (qei ho) rfl) hbk (by rw [List.length_map];exact hn) (by rw [List.length_map];exact hS.2.1) (by rw [hmap];exact hlen);rw [List.length_map,hmap] at this;refine this.mono fun e w' ⟨he,hb⟩=>⟨_,he,hb,fun s' _ _ _=>⟨Z,Z⟩⟩
def qmt(hG:GP s)(l:List UInt8)(ws:List (List UInt8))(hf:Lib.fields l=ws)(ha:l.all (fun b=>decide (b.toNat < 128))=true)(hl:l.length≤4000000):AC prog D 174 [St l] L s fun v L' _=>∃ β,L'=(β,cb (sb ws) 9)::L∧v=.slice (some ⟨β,0,none⟩) ws.length ws.length:=
  ⟨qjB,fun ho=>by
    have hsz:(⟨l.toArray⟩:ByteArray).size=l.length:=by simp [Lib.size_eq]
    refine (Any.strings_Fields lays157 V V ⟨l.toArray⟩ (fill L s) O (fun j b hj=>?_) (qys (hG.le (qei ho)))).mono ?_
    · have hm:b∈l:=List.mem_of_getElem? (by simpa using hj)
      exact of_decide_eq_true (List.all_eq_true.1 ha b hm)
    · rintro e w' ⟨he,hw⟩
      have hf:Lib.fields (⟨l.toArray⟩:ByteArray).data.toList=ws:=hf;obtain ⟨h1,h2,h3⟩:=qaP ho (cb (sb ws) 9);refine ⟨_,_,_,he,?_,h2,h3,s.heap.size,Z,?_⟩
      · rw [hw,hf,← h1];rfl
      · rw [hf,qaN]⟩
def qo8(l:List UInt8)(n:Nat)(h1:n≤9223372036854775807)(h2:l.length * n≤140737488355328):AC prog D 177 [St l,.int .i64 (n:Int)] L s fun v L' _=>v=St (Lib.repeatL l n)∧L=L':=
 AC.of_calls qkx fun _=>by
  refine (Any.strings_Repeat lays105 Tryz.Builder_Extra_105 ⟨l.toArray⟩ n (fill L s) h1 (by simpa [Lib.size_eq] using h2)).mono ?_;rintro e w' ⟨he,hb⟩;exact ⟨_,he,hb,fun s' _ _ _=>⟨rfl,rfl⟩⟩
end
open Go.FL
attribute [local irreducible] JC JO JA JB qaZ qaL qb4 AC fill CellsAt QE Ev Mid
def qzk{α:Type}{l:List α}{x:α}(h:l[0]?=some x):∃ r,l=x::r:=by
 cases l with
 | nil=>cases h
 | cons y r=>simp at h;subst h;exact ⟨r,rfl⟩
def qdO(l:List UInt8):Bool:=decide (l≠[]) && qaX 0 l
def qpX{l:List UInt8}{c:UInt8}(h:l[0]?=some c)(hc:¬ ((c.toNat:Int) < 97)∧¬ (122 < (c.toNat:Int))):qdO l=!l.any qkd:=by
 obtain ⟨r,rfl⟩:=qzk h;have hl:qgf c=true:=by simp only [qgf,Bool.and_eq_true,decide_eq_true_eq];omega
 have hb:qkd c=false:=by simp [qkd,hl]
 simp only [qdO,qaX,qef,hl,Bool.true_or,Bool.true_and,List.any_cons,hb,Bool.false_or,qjg (l:=r) (i:=0+1) O];simp
def qmg{l:List UInt8}{c:UInt8}(h:l[0]?=some c)(hc:(c.toNat:Int) < 97∨122 < (c.toNat:Int)):qdO l=false:=by
 obtain ⟨r,rfl⟩:=qzk h;have hl:qgf c=false:=by rw [Bool.eq_false_iff];simp only [qgf,ne_eq,Bool.and_eq_true,decide_eq_true_eq];omega
 simp [qdO,qaX,qef,hl]
def qfW(l:List UInt8):qaY l=(qdO l && decide ((l.length:Int)≤12) && !kwB l):=by
 unfold qaY qdO;cases decide (l≠[])<;>cases decide ((l.length:Int)≤12)<;>cases qaX 0 l<;>simp
def kwT:Str:=[97,114,114,97,121,32,98,114,101,97,107,32,99,111,110,115,116,32,99,111,110,116,105,110,117,101,32,101,108,115,101,32,102,117,110,99,32,103,101,116,32,105,102,32,112,117,116,32,114,101,116,117,114,110,32,115,116,111,112,32,118,97,114,32,119,104,105,108,101]
def sgT:Str:=[33,32,45,32,126,32,42,32,47,32,37,32,60,60,32,62,62,32,38,32,43,32,45,32,124,32,94,32,61,61,32,33,61,32,60,32,60,61,32,62,32,62,61,32,38,38,32,124,124]
def qvV:Lib.fields kwT=kwords:=by decide +kernel
def qwn:Lib.fields sgT=signL.tail:=by decide +kernel
def qzm(l:Str):decide (0≤qbt (fun x=>decide (l=x)) kwords 0)=kwB l:=by
 rw [qjF,kwB];congr 1;funext w;exact decide_eq_decide.2 eq_comm
def qi3{α β:Type}{R:α→β→Prop}(f:α→β)(l:List α)(h:∀ x∈l,R x (f x)):All2 R l (l.map f):=by
 induction l with
 | nil=>exact All2.nil
 | cons x l ih=>exact All2.cons (h x Mc) (ih fun y hy=>h y (List.mem_cons_of_mem _ hy))
def qpp(l:List Str):(l.map fun x=>[St x]).flatten=sb l:=by
 induction l with
 | nil=>rfl
 | cons x r ih=>show [St x]++(r.map fun x=>[St x]).flatten=St x::sb r;rw [ih];rfl
def qhO(D:Nat)(L:Hl)(s:World)(hG:GP s)(l:List UInt8)(ws:List Str)(hf:Lib.fields l=ws)(ha:l.all (fun b=>decide (b.toNat < 128))=true)(hl:l.length≤4000000)(hn:ws.length≤1000)(hx:∀ x∈ws,x.length≤1000):AC prog D 174 [St l] L s fun v L' s'=>L=L'∧∃ A n c,v=.slice A n c∧Strs s' A n c ws:=
 AC.pubW ((qmt D L s hG l ws hf ha hl).mono fun v L' s' _ ⟨β,h1,h2⟩=>⟨[_],h1,fun s2 h3 hp=>⟨_,_,_,h2,by
  exact Sl.lit (R:=fun _ x cs=>cs=[St x]∧x.length≤9223372036854775807) (ws.map fun x=>[St x]) (hp _ _ _ Mc) (qpp ws) (qi3 (fun x=>[St x]) ws fun x hx1=>⟨rfl,rfl,by have:=hx x hx1;omega⟩) _ rfl O⟩⟩)
def qkO(D:Nat)(L:Hl)(s:World)(A:Option Addr)(n c:Nat)(l:List (List UInt8))(hA:Strs s A n c l)(w:List UInt8):AC prog D 106 [.slice A n c,St w] L s fun v L' _=>v=.int .i64 (qbt (fun x=>decide (w=x)) l 0)∧L=L':=by
 have hn:=hA.1;have hc1:=hA.2.1;have hc2:=hA.2.2.1;refine qae (fn:=f106) qav func106 V Z ntmps106 Z (rs:=[.tmp 4]) Z [(0,_),(1,_)] Z<|Sr<|At Z Z<|Zs<|Sr<|Zqm Z Z<|Ws Y4<|Zqm Z Z<|Nt<|Zp<|?_;refine qaA (γ:=Nat) (fun k=>[(0,_),(1,_),(4,_),(7,_),(8,.int .i64 (k:Int))]) (fun _=>_) (fun k tw=>Le D s tw∧(k≤n∧∀ i x,i < k→l[i]?=some x→decide (w=x)=false)) (fun k=>n - k) (fun _ _ _ h hl=>⟨h.1.trans hl,h.2⟩) 0 (.c5 Z Z Z Z Z (.nil _)) Z ⟨Le.refl _,⟨Nat.zero_le _,fun i x hi=>by omega⟩⟩ ?_;intro k s1 I1;have hk0:=I1.2.1;have hI:=I1.2.2;refine Sr<|qa8 Z Z Z<|Nt<|Zs<|?_;refine qaa Z ?_ ?_<;>intro c2
 ·have hk:k < n:=by omega
  obtain ⟨b,off,x,rfl,hx,hcx,_⟩:=Strs.at_ (hA.le I1.1) hk;refine Zk<|Zt<|Zs<|Zp<|Sr<|Zqm Z Z<|At Z Z<|Sr<|Zqm Z Z<|Zqm Z Z<|Zqm Z Z<|qad (qaU Z Z Z Z Z Z hk) Z<|qad (qaq Z Z Z hcx Z) Z<|qht Z Z Z<|Nt<|?_;refine qaa Z ?_ ?_<;>intro c3;·have hz:=decide_eq_true c3;refine Sr<|Zqm Z Z<|At Z Z<|Zo<|Zc<|Zu<|Zu<|Zc<|Zu<|?_;refine rR [] L (.t1 Z) Z I1.1 fun _ hS2=>?_;refine ⟨?_,Z⟩;simp only [qbP];rw [qfo hI hx hz,Nat.zero_add]
  have hz:=decide_eq_false c3;refine Zk<|Zb<|Zt<|Zr<|qaD Z Z Z (w64 O O)<|Zqm Z Z<|Zn<|?_;refine qab ⟨(k+1),[],kp,Z,⟨I1.1,⟨by omega,qa1 hI hx hz⟩⟩,O⟩
 refine Zl<|Zv<|Zv<|Zd<|Zt<|Sr<|At Z Z<|Zo<|?_;refine rR [] L (.t1 Z) Z I1.1 fun _ hS2=>?_;refine ⟨?_,Z⟩;simp only [qbP];rw [qeC (fun i a hi h=>hI i a O h)]
def ql2(D:Nat)(L:Hl)(s:World)(A:Option Addr)(n c:Nat)(l:List (List UInt8))(hA:Strs s A n c l)(w:List UInt8):AC prog D 69 [.slice A n c,St w] L s fun v L' _=>v=.bool (decide (0≤qbt (fun x=>decide (w=x)) l 0))∧L=L':=by
 refine qae (fn:=f69) qav func69 V Z ntmps69 Z (rs:=[.tmp 4]) Z [(0,_),(1,_)] Z<|Sr<|At Z Z<|Sr<|Zqm Z Z<|Zqm Z Z<|Je Z Z Z (qkO D _ _ A n c l (hA.le (Lr D)) w) fun s1 h1=>qhn Z Z Z<|At Z Z<|Zo<|?_;exact rR [] L (.t1 Z) Z h1 fun _ hS2=>⟨rfl,rfl⟩
def qmG(D:Nat)(L:Hl)(s:World)(hG:GP s)(l:List UInt8):AC prog D 141 [St l] L s fun v L' _=>v=.bool (kwB l)∧L=L':=by
 refine qae (fn:=f141) qav func141 V Z ntmps141 Z (rs:=[.tmp 2]) Z [(0,_)] Z<|Sr<|At Z Z<|Sr<|Jc Z Z Z (qhO D _ _ (hG.le (Lr D)) kwT kwords qvV (by decide +kernel) Dc Dc Dc) ?_;rintro _ _ s1 h1 ⟨rfl,Ak,nk,ck,rfl,hK⟩;refine Zqm Z Z<|Je Z Z Z (ql2 D _ _ Ak nk ck kwords (hK.le (Lr D)) l) fun s2 h2=>At Z Z<|Zo<|?_;exact rR [] L (.t1 Z) Z (h1.t h2) fun _ hS2=>⟨by simp only [qbP,qzm],rfl⟩
def qou(D:Nat)(L:Hl)(s:World)(l:List UInt8):AC prog D 140 [St l] L s fun v L' _=>v=.bool (qdO l)∧L=L':=by
 refine qae (fn:=f140) qav func140 V Z ntmps140 Z (rs:=[.tmp 2]) Z [(0,_)] Z<|Sr<|At Z Z<|Zs<|Sr<|Zqm Z Z<|qht Z Z Z<|Zqm Z Z<|?_;refine qai (t:=5) Z ?_ ?_<;>intro c1;·refine Wf Y4<|Wf Y4<|Wf Y4<|ZqT Z Z Z<|Zqm Z Z<|Wf Y4<|Wf Y4<|Wf Y4<|ZqT Z Z Z<|Nt<|Zy Z<|Sr<|At Z Z<|Zo<|Zu<|?_;refine rR [] L (.t1 Z) Z (Lr D) fun _ hS2=>?_;refine ⟨?_,Z⟩;simp [qbP,qdO, *];done
 refine Zg Z Z<|Zqm Z Z<|Zg Z Z<|?_;obtain ⟨ch,hch⟩:∃ ch,l[0]?=some ch:=⟨_,List.getElem?_eq_getElem (List.length_pos_iff.2 As)⟩;refine qad (qd8 Z Z Z Z hch) Z<|Zg Z Z<|qa8 Z Z Z<|ZqF Z Z Z<|Zqm Z Z<|?_;refine qai (t:=10) Z ?_ ?_<;>intro c2;·refine Wf Y4<|Wf Y4<|Wf Y4<|ZqT Z Z Z<|Nt<|Zy Z<|Sr<|At Z Z<|Zo<|Zu<|?_;refine rR [] L (.t1 Z) Z (Lr D) fun _ hS2=>?_;refine ⟨?_,Z⟩;rw [show qdO l=false from qmg hch O];rfl
 refine Zg Z Z<|Zqm Z Z<|Zg Z Z<|qad (qd8 Z Z Z Z hch) Z<|Zg Z Z<|qbl Z Z Z<|ZqF Z Z Z<|Nt<|?_;refine qaa Z ?_ ?_<;>intro c3;·refine Sr<|At Z Z<|Zo<|Zu<|?_;refine rR [] L (.t1 Z) Z (Lr D) fun _ hS2=>?_;refine ⟨?_,Z⟩;rw [show qdO l=false from qmg hch O];rfl
 refine Zk<|Zt<|Sr<|Zqm Z Z<|Je Z Z Z (qjj D _ _ _) fun s4 h4=>qbF Z Z<|At Z Z<|Zo<|?_;refine rR [] L (.t1 Z) Z h4 fun _ hS2=>?_;refine ⟨?_,Z⟩;rw [qpX hch ⟨by omega,by omega⟩];rfl
def qfn(D:Nat)(L:Hl)(s:World)(hG:GP s)(l:List UInt8):AC prog D 100 [St l] L s fun v L' _=>v=.bool (qaY l)∧L=L':=by
 refine qae (fn:=f100) qav func100 V Z ntmps100 Z (rs:=[.tmp 2]) Z [(0,_)] Z<|Sr<|At Z Z<|Sr<|Zqm Z Z<|Je Z Z Z (qou D _ _ l) fun s1 h1=>Zqm Z Z ?_;refine qeV (t:=5) Z ?_ ?_<;>intro c2
 ·refine Zg Z Z<|Zqm Z Z<|Zg Z Z<|qfg Z Z Z Z<|Zg Z Z<|qp3 Z Z Z<|ZqT Z Z Z<|Zqm Z Z<|?_;refine qai (t:=10) Z ?_ ?_<;>intro c3;·refine Zg Z Z<|Zqm Z Z<|Zg Z Z<|Je Z Z Z (qmG D _ _ (hG.le h1) l) fun s4 h4=>Zg Z Z<|qbF Z Z<|ZqT Z Z Z<|At Z Z<|Zo<|?_;refine rR [] L (.t1 Z) Z (h1.t h4) fun _ hS2=>?_;refine ⟨?_,Z⟩;rw [qfW];simp only [qbP];rw [show qdO l=true by assumption,show decide ((l.length:Int)≤12)=true from decide_eq_true O];rfl
  refine Wf Y4<|Wf Y4<|Wf Y4<|ZqF Z Z Z<|At Z Z<|Zo<|?_;refine rR [] L (.t1 Z) Z h1 fun _ hS2=>?_;refine ⟨?_,Z⟩;rw [qfW];simp only [qbP];rw [show qdO l=true by assumption,show decide ((l.length:Int)≤12)=false from decide_eq_false O];rfl
 refine Wf Y4<|Wf Y4<|Wf Y4<|ZqF Z Z Z<|Zqm Z Z<|Wf Y4<|Wf Y4<|Wf Y4<|ZqF Z Z Z<|At Z Z<|Zo ?_;refine rR [] L (.t1 Z) Z h1 fun _ hS2=>?_;refine ⟨?_,Z⟩;rw [qfW];simp only [qbP];rw [show qdO l=false by assumption];rfl
def qkP(D:Nat)(L:Hl)(s:World)(hG:GP s)(o:Int)(ho:1≤o∧o≤21):AC prog D 203 [.int .i64 o] L s fun v L' _=>v=St (qmV o)∧L=L':=by
 obtain ⟨j,rfl⟩:∃ j:Nat,o=(j:Int)+1:=⟨(o - 1).toNat,by omega⟩;refine qae (fn:=f203) qav func203 V Z ntmps203 Z (rs:=[.tmp 2]) Z [(0,_)] Z<|Sr<|At Z Z<|Sr<|Jc Z Z Z (qhO D _ _ (hG.le (Lr D)) sgT signL.tail qwn (by decide +kernel) Dc Dc Dc) ?_;rintro _ _ s1 h1 ⟨rfl,Ak,nk,ck,rfl,hK⟩;have hnk:nk=21:=hK.1;obtain ⟨bk,ok,xk,rfl,hxk,hck,_⟩:=Strs.at_ hK (show j < nk by omega);refine Zqm Z Z<|qad (qba (c:=((j:Nat):Int)) Z Z (by rw [w64 O O];omega)) Z<|qad (qaU Z Z Z Z Z Z (show j < nk by omega)) Z<|qad (qaq Z Z Z (hck.le (Lr D)) Z) Z<|At Z Z<|Zo<|?_;refine rR [] L (.t1 Z) Z h1 fun _ hS2=>?_;refine ⟨?_,Z⟩;rw [qmV,show ((j:Int)+1).toNat=j+1 by omega,List.getD,show signL[j+1]?=signL.tail[j]? from rfl,hxk];rfl
def qcl{p:Prop} (h:p:=by
 refine ⟨?_,Z⟩;simp only [qbP];unfold qfH;repeat' split
 all_goals (first|rfl|(exfalso;omega))):p:=h
def qdh(D:Nat)(L:Hl)(s:World)(o:Int):AC prog D 205 [.int .i64 o] L s fun v L' _=>v=.int .i64 (qfH o)∧L=L':=by
 refine qae (fn:=f205) qav func205 V Z ntmps205 Z (rs:=[.tmp 2]) Z [(0,_)] Z<|Sr<|At Z Z<|Zs<|Sr<|Zqm Z Z<|Nt<|Zp<|Sr<|qax Z Z Z<|At Z Z<|?_;refine qaa Z ?_ ?_<;>intro c1;·refine Sr<|At Z Z<|Zo<|Zc<|Zu<|?_;exact rR [] L (.t1 Z) Z (Lr D) fun _ hS2=>qcl
 refine Sr<|qax Z Z Z<|At Z Z<|?_;refine qaa Z ?_ ?_<;>intro c2;·refine Sr<|At Z Z<|Zo<|Zc<|Zu<|?_;exact rR [] L (.t1 Z) Z (Lr D) fun _ hS2=>qcl
 refine Zs<|Sr<|qax Z Z Z<|At Z Z<|?_;refine qaa Z ?_ ?_<;>intro c3
 ·refine Zk<|Zt<|?_;refine qaa Z ?_ ?_<;>intro c4;·refine Sr<|At Z Z<|Zo<|Zc<|Zu<|?_;exact rR [] L (.t1 Z) Z (Lr D) fun _ hS2=>qcl
  refine Zs<|Sr<|qax Z Z Z<|At Z Z<|?_;refine qaa Z ?_ ?_<;>intro c5
  ·refine Zk<|Zt<|?_;refine qaa Z ?_ ?_<;>intro c6;·refine Sr<|At Z Z<|Zo<|Zc<|Zu<|?_;exact rR [] L (.t1 Z) Z (Lr D) fun _ hS2=>qcl
   refine Zk<|Zb<|Zt<|Sr<|At Z Z<|Zo<|?_;exact rR [] L (.t1 Z) Z (Lr D) fun _ hS2=>qcl
  refine Sr<|qax Z Z Z<|At Z Z<|?_;refine qaa Z ?_ ?_<;>intro c7
  ·refine Zk<|Zt<|?_;refine qaa Z ?_ ?_<;>intro c8;·refine Sr<|At Z Z<|Zo<|Zc<|Zu<|?_;exact rR [] L (.t1 Z) Z (Lr D) fun _ hS2=>qcl
   refine Zk<|Zb<|Zt<|Sr<|At Z Z<|Zo<|?_;exact rR [] L (.t1 Z) Z (Lr D) fun _ hS2=>qcl
  refine Sr<|qax Z Z Z<|At Z Z<|?_;refine qaa Z ?_ ?_<;>intro c9
  ·refine Zk<|Zt<|?_;refine qaa Z ?_ ?_<;>intro c10;·refine Sr<|At Z Z<|Zo<|Zc<|Zu<|?_;exact rR [] L (.t1 Z) Z (Lr D) fun _ hS2=>qcl
   refine Zk<|Zb<|Zt<|Sr<|At Z Z<|Zo<|?_;exact rR [] L (.t1 Z) Z (Lr D) fun _ hS2=>qcl
  refine Zr<|qax Z Z Z<|At Z Z<|?_;refine qaa Z ?_ ?_<;>intro c11;·refine Sr<|At Z Z<|Zo<|Zc<|Zu<|?_;exact rR [] L (.t1 Z) Z (Lr D) fun _ hS2=>qcl
  refine Zk<|Zb<|Zt<|Sr<|At Z Z<|Zo<|?_;exact rR [] L (.t1 Z) Z (Lr D) fun _ hS2=>qcl
 refine Sr<|qax Z Z Z<|At Z Z<|?_;refine qaa Z ?_ ?_<;>intro c12
 ·refine Zk<|Zt<|?_;refine qaa Z ?_ ?_<;>intro c13;·refine Sr<|At Z Z<|Zo<|Zc<|Zu<|?_;exact rR [] L (.t1 Z) Z (Lr D) fun _ hS2=>qcl
  refine Zs<|Sr<|qax Z Z Z<|At Z Z<|?_;refine qaa Z ?_ ?_<;>intro c14
  ·refine Zk<|Zt<|?_;refine qaa Z ?_ ?_<;>intro c15;·refine Sr<|At Z Z<|Zo<|Zc<|Zu<|?_;exact rR [] L (.t1 Z) Z (Lr D) fun _ hS2=>qcl
   refine Zk<|Zb<|Zt<|Sr<|At Z Z<|Zo<|?_;exact rR [] L (.t1 Z) Z (Lr D) fun _ hS2=>qcl
  refine Sr<|qax Z Z Z<|At Z Z<|?_;refine qaa Z ?_ ?_<;>intro c16
  ·refine Zk<|Zt<|?_;refine qaa Z ?_ ?_<;>intro c17;·refine Sr<|At Z Z<|Zo<|Zc<|Zu<|?_;exact rR [] L (.t1 Z) Z (Lr D) fun _ hS2=>qcl
   refine Zk<|Zb<|Zt<|Sr<|At Z Z<|Zo<|?_;exact rR [] L (.t1 Z) Z (Lr D) fun _ hS2=>qcl
  refine Sr<|qax Z Z Z<|At Z Z<|?_;refine qaa Z ?_ ?_<;>intro c18
  ·refine Zk<|Zt<|?_;refine qaa Z ?_ ?_<;>intro c19;·refine Sr<|At Z Z<|Zo<|Zc<|Zu<|?_;exact rR [] L (.t1 Z) Z (Lr D) fun _ hS2=>qcl
   refine Zk<|Zb<|Zt<|Sr<|At Z Z<|Zo<|?_;exact rR [] L (.t1 Z) Z (Lr D) fun _ hS2=>qcl
  refine Zr<|qax Z Z Z<|At Z Z<|?_;refine qaa Z ?_ ?_<;>intro c20;·refine Sr<|At Z Z<|Zo<|Zc<|Zu<|?_;exact rR [] L (.t1 Z) Z (Lr D) fun _ hS2=>qcl
  refine Zk<|Zb<|Zt<|Sr<|At Z Z<|Zo<|?_;exact rR [] L (.t1 Z) Z (Lr D) fun _ hS2=>qcl
 refine Sr<|qax Z Z Z<|At Z Z<|?_;refine qaa Z ?_ ?_<;>intro c21
 ·refine Zk<|Zt<|?_;refine qaa Z ?_ ?_<;>intro c22;·refine Sr<|At Z Z<|Zo<|Zc<|Zu<|?_;exact rR [] L (.t1 Z) Z (Lr D) fun _ hS2=>qcl
  refine Zs<|Sr<|qax Z Z Z<|At Z Z<|?_;refine qaa Z ?_ ?_<;>intro c23
  ·refine Zk<|Zt<|?_;refine qaa Z ?_ ?_<;>intro c24;·refine Sr<|At Z Z<|Zo<|Zc<|Zu<|?_;exact rR [] L (.t1 Z) Z (Lr D) fun _ hS2=>qcl
   refine Zk<|Zb<|Zt<|Sr<|At Z Z<|Zo<|?_;exact rR [] L (.t1 Z) Z (Lr D) fun _ hS2=>qcl
  refine Sr<|qax Z Z Z<|At Z Z<|?_;refine qaa Z ?_ ?_<;>intro c25
  ·refine Zk<|Zt<|?_;refine qaa Z ?_ ?_<;>intro c26;·refine Sr<|At Z Z<|Zo<|Zc<|Zu<|?_;exact rR [] L (.t1 Z) Z (Lr D) fun _ hS2=>qcl
   refine Zk<|Zb<|Zt<|Sr<|At Z Z<|Zo<|?_;exact rR [] L (.t1 Z) Z (Lr D) fun _ hS2=>qcl
  refine Sr<|qax Z Z Z<|At Z Z<|?_;refine qaa Z ?_ ?_<;>intro c27
  ·refine Zk<|Zt<|?_;refine qaa Z ?_ ?_<;>intro c28;·refine Sr<|At Z Z<|Zo<|Zc<|Zu<|?_;exact rR [] L (.t1 Z) Z (Lr D) fun _ hS2=>qcl
   refine Zk<|Zb<|Zt<|Sr<|At Z Z<|Zo<|?_;exact rR [] L (.t1 Z) Z (Lr D) fun _ hS2=>qcl
  refine Zr<|qax Z Z Z<|At Z Z<|?_;refine qaa Z ?_ ?_<;>intro c29;·refine Sr<|At Z Z<|Zo<|Zc<|Zu<|?_;exact rR [] L (.t1 Z) Z (Lr D) fun _ hS2=>qcl
  refine Zk<|Zb<|Zt<|Sr<|At Z Z<|Zo<|?_;exact rR [] L (.t1 Z) Z (Lr D) fun _ hS2=>qcl
 refine Sr<|qax Z Z Z<|At Z Z<|?_;refine qaa Z ?_ ?_<;>intro c30
 ·refine Zk<|Zt<|?_;refine qaa Z ?_ ?_<;>intro c31;·refine Sr<|At Z Z<|Zo<|Zc<|Zu<|?_;exact rR [] L (.t1 Z) Z (Lr D) fun _ hS2=>qcl
  refine Zs<|Sr<|qax Z Z Z<|At Z Z<|?_;refine qaa Z ?_ ?_<;>intro c32
  ·refine Zk<|Zt<|?_;refine qaa Z ?_ ?_<;>intro c33;·refine Sr<|At Z Z<|Zo<|Zc<|Zu<|?_;exact rR [] L (.t1 Z) Z (Lr D) fun _ hS2=>qcl
   refine Zk<|Zb<|Zt<|Sr<|At Z Z<|Zo<|?_;exact rR [] L (.t1 Z) Z (Lr D) fun _ hS2=>qcl
  refine Sr<|qax Z Z Z<|At Z Z<|?_;refine qaa Z ?_ ?_<;>intro c34
  ·refine Zk<|Zt<|?_;refine qaa Z ?_ ?_<;>intro c35;·refine Sr<|At Z Z<|Zo<|Zc<|Zu<|?_;exact rR [] L (.t1 Z) Z (Lr D) fun _ hS2=>qcl
   refine Zk<|Zb<|Zt<|Sr<|At Z Z<|Zo<|?_;exact rR [] L (.t1 Z) Z (Lr D) fun _ hS2=>qcl
  refine Sr<|qax Z Z Z<|At Z Z<|?_;refine qaa Z ?_ ?_<;>intro c36
  ·refine Zk<|Zt<|?_;refine qaa Z ?_ ?_<;>intro c37;·refine Sr<|At Z Z<|Zo<|Zc<|Zu<|?_;exact rR [] L (.t1 Z) Z (Lr D) fun _ hS2=>qcl
   refine Zk<|Zb<|Zt<|Sr<|At Z Z<|Zo<|?_;exact rR [] L (.t1 Z) Z (Lr D) fun _ hS2=>qcl
  refine Zr<|qax Z Z Z<|At Z Z<|?_;refine qaa Z ?_ ?_<;>intro c38;·refine Sr<|At Z Z<|Zo<|Zc<|Zu<|?_;exact rR [] L (.t1 Z) Z (Lr D) fun _ hS2=>qcl
  refine Zk<|Zb<|Zt<|Sr<|At Z Z<|Zo<|?_;exact rR [] L (.t1 Z) Z (Lr D) fun _ hS2=>qcl
 refine Sr<|qax Z Z Z<|At Z Z<|?_;refine qaa Z ?_ ?_<;>intro c39
 ·refine Zk<|Zt<|?_;refine qaa Z ?_ ?_<;>intro c40;·refine Sr<|At Z Z<|Zo<|Zc<|Zu<|?_;exact rR [] L (.t1 Z) Z (Lr D) fun _ hS2=>qcl
  refine Zs<|Sr<|qax Z Z Z<|At Z Z<|?_;refine qaa Z ?_ ?_<;>intro c41
  ·refine Zk<|Zt<|?_;refine qaa Z ?_ ?_<;>intro c42;·refine Sr<|At Z Z<|Zo<|Zc<|Zu<|?_;exact rR [] L (.t1 Z) Z (Lr D) fun _ hS2=>qcl
   refine Zk<|Zb<|Zt<|Sr<|At Z Z<|Zo<|?_;exact rR [] L (.t1 Z) Z (Lr D) fun _ hS2=>qcl
  refine Sr<|qax Z Z Z<|At Z Z<|?_;refine qaa Z ?_ ?_<;>intro c43
  ·refine Zk<|Zt<|?_;refine qaa Z ?_ ?_<;>intro c44;·refine Sr<|At Z Z<|Zo<|Zc<|Zu<|?_;exact rR [] L (.t1 Z) Z (Lr D) fun _ hS2=>qcl
   refine Zk<|Zb<|Zt<|Sr<|At Z Z<|Zo<|?_;exact rR [] L (.t1 Z) Z (Lr D) fun _ hS2=>qcl
  refine Sr<|qax Z Z Z<|At Z Z<|?_;refine qaa Z ?_ ?_<;>intro c45
  ·refine Zk<|Zt<|?_;refine qaa Z ?_ ?_<;>intro c46;·refine Sr<|At Z Z<|Zo<|Zc<|Zu<|?_;exact rR [] L (.t1 Z) Z (Lr D) fun _ hS2=>qcl
   refine Zk<|Zb<|Zt<|Sr<|At Z Z<|Zo<|?_;exact rR [] L (.t1 Z) Z (Lr D) fun _ hS2=>qcl
  refine Zr<|qax Z Z Z<|At Z Z<|?_;refine qaa Z ?_ ?_<;>intro c47;·refine Sr<|At Z Z<|Zo<|Zc<|Zu<|?_;exact rR [] L (.t1 Z) Z (Lr D) fun _ hS2=>qcl
  refine Zk<|Zb<|Zt<|Sr<|At Z Z<|Zo<|?_;exact rR [] L (.t1 Z) Z (Lr D) fun _ hS2=>qcl
 refine Zr<|qax Z Z Z<|At Z Z<|?_;refine qaa Z ?_ ?_<;>intro c48;·refine Sr<|At Z Z<|Zo<|Zc<|Zu<|?_;exact rR [] L (.t1 Z) Z (Lr D) fun _ hS2=>qcl
 refine Zs<|Sr<|qax Z Z Z<|At Z Z<|?_;refine qaa Z ?_ ?_<;>intro c49
 ·refine Zk<|Zt<|?_;refine qaa Z ?_ ?_<;>intro c50;·refine Sr<|At Z Z<|Zo<|Zc<|Zu<|?_;exact rR [] L (.t1 Z) Z (Lr D) fun _ hS2=>qcl
  refine Zk<|Zb<|Zt<|Sr<|At Z Z<|Zo<|?_;exact rR [] L (.t1 Z) Z (Lr D) fun _ hS2=>qcl
 refine Sr<|qax Z Z Z<|At Z Z<|?_;refine qaa Z ?_ ?_<;>intro c51
 ·refine Zk<|Zt<|?_;refine qaa Z ?_ ?_<;>intro c52;·refine Sr<|At Z Z<|Zo<|Zc<|Zu<|?_;exact rR [] L (.t1 Z) Z (Lr D) fun _ hS2=>qcl
  refine Zk<|Zb<|Zt<|Sr<|At Z Z<|Zo<|?_;exact rR [] L (.t1 Z) Z (Lr D) fun _ hS2=>qcl
 refine Sr<|qax Z Z Z<|At Z Z<|?_;refine qaa Z ?_ ?_<;>intro c53
 ·refine Zk<|Zt<|?_;refine qaa Z ?_ ?_<;>intro c54;·refine Sr<|At Z Z<|Zo<|Zc<|Zu<|?_;exact rR [] L (.t1 Z) Z (Lr D) fun _ hS2=>qcl
  refine Zk<|Zb<|Zt<|Sr<|At Z Z<|Zo<|?_;exact rR [] L (.t1 Z) Z (Lr D) fun _ hS2=>qcl
 refine Zr<|qax Z Z Z<|At Z Z<|?_;refine qaa Z ?_ ?_<;>intro c55;·refine Sr<|At Z Z<|Zo<|Zc<|Zu<|?_;exact rR [] L (.t1 Z) Z (Lr D) fun _ hS2=>qcl
 refine Zk<|Zb<|Zt<|Sr<|At Z Z<|Zo<|?_;exact rR [] L (.t1 Z) Z (Lr D) fun _ hS2=>qcl
def qer(D:Nat)(L:Hl)(s:World)(hG:GP s)(n:Int)(hu:U32 n):AC prog D 103 [.int .u32 n] L s fun v L' _=>v=St (qdq n)∧L=L':=by
 have h2:=hu.2;obtain ⟨u,rfl⟩:=Int.eq_ofNat_of_zero_le hu.1;refine qae (fn:=f103) qav func103 V Z ntmps103 Z (rs:=[.tmp 2]) Z [(0,_)] Z<|Sr<|At Z Z<|Sr<|Zqm Z Z<|qad (qaR Z Z Z Z Z (qBH O O)) Z<|Je Z Z Z (qog D _ _ (hG.gw.le (Lr D)) u O) fun s1 h1=>At Z Z<|Zo<|?_;exact rR [] L (.t1 Z) Z h1 fun _ hS2=>⟨rfl,rfl⟩
end Go.Proofs.YtflplmcjbppfcaaGreatDoor
namespace Go.Proofs.YtflplmcjbppfcaaGreatDoor
open Go Go.FL
mutual
def exN:Ex→Nat
 | .mk _ _ _ _ az=>1+qbD az
def qbD:List Ex→Nat
 | []=>0
 | x::r=>exN x+qbD r
end
mutual
def exV:Ex→Bool
 | .mk k o n nm az=>decide (exC k o n nm az.length=0) && qgy az
def qgy:List Ex→Bool
 | []=>true
 | x::r=>exV x && qgy r
end
mutual
def exU:Ex→Bool
 | .mk _ _ n _ az=>decide (0≤n∧n < 4294967296) && qiT az
def qiT:List Ex→Bool
 | []=>true
 | x::r=>exU x && qiT r
end
mutual
def stN:Stm→Nat
 | .mk _ _ es b e=>1+qbD es+qbr b+qbr e
def qbr:List Stm→Nat
 | []=>0
 | x::r=>stN x+qbr r
end
mutual
def stV:Stm→Nat→Bool
 | .mk k nm es b e,lv=>decide (lv≤16) && decide (stC k nm es.length b.length e.length=0) && qgy es && qdP b (lv+1) && qdP e (lv+1)
def qdP:List Stm→Nat→Bool
 | [],_=>true
 | x::r,lv=>stV x lv && qdP r lv
end
mutual
def stU:Stm→Bool
 | .mk _ _ es b e=>qiT es && qgG b && qgG e
def qgG:List Stm→Bool
 | []=>true
 | x::r=>stU x && qgG r
end
mutual
def qz9:∀ (x:Ex) (lv c:Nat),(wkX x lv c).2=0→exV x=true∧(wkX x lv c).1=c+exN x∧c+exN x≤2000
 | .mk k o n nm az,lv,c,h=>by
  simp only [wkX] at h ⊢;split at h
  · cases h
  rename_i h1;split at h
  · rename_i h2;exact absurd h h2
  rename_i h2;rw [if_neg h1,if_neg h2];obtain ⟨k1,k2,k3⟩:=qf8 az (lv+1) (c+1) h;refine ⟨by simp only [exV,k1,Bool.and_true,decide_eq_true_eq];simpa using h2,by rw [k2,exN];omega,by rw [exN];rcases k3 with k3|k3<;>omega⟩
def qf8:∀ (l:List Ex) (lv c:Nat),(qcE l lv c).2=0→qgy l=true∧(qcE l lv c).1=c+qbD l∧(qbD l=0∨c+qbD l≤2000)
 | [],_,c,_=>⟨rfl,rfl,.inl rfl⟩
 | x::r,lv,c,h=>by
  simp only [qcE] at h ⊢;split at h
  · rename_i h1;exact absurd h h1
  rename_i h1;rw [if_neg h1];obtain ⟨a1,a2,a3⟩:=qz9 x lv c (by simpa using h1);obtain ⟨b1,b2,b3⟩:=qf8 r lv _ h;refine ⟨by simp only [qgy,a1,b1,Bool.and_true],by rw [b2,a2,qbD];omega,.inr ?_⟩;rw [a2] at b3;rw [qbD];rcases b3 with b3|b3<;>omega
end
mutual
def qz8:∀ (x:Stm) (lv c:Nat),(wkS x lv c).2=0→stV x lv=true∧(wkS x lv c).1=c+stN x∧c+stN x≤2000
  | .mk k nm es b e,lv,c,h=>by
    simp only [wkS] at h ⊢;split at h
    · cases h
    rename_i h1;split at h
    · rename_i h2;exact absurd h h2
    rename_i h2;split at h
    · rename_i h3;exact absurd h h3
    rename_i h3;split at h
    · rename_i h4;exact absurd h h4
    rename_i h4;rw [if_neg h1,if_neg h2,if_neg h3,if_neg h4];obtain ⟨a1,a2,a3⟩:=qf8 es 1 (c+1) (by simpa using h3);obtain ⟨b1,b2,b3⟩:=qd5 b (lv+1) _ (by simpa using h4);obtain ⟨e1,e2,e3⟩:=qd5 e (lv+1) _ h;rw [b2,a2] at e3 e2;rw [a2] at b3;refine ⟨?_,by rw [b2,a2,e2,stN];omega,?_⟩
    · simp only [stV,a1,b1,e1,Bool.and_true,Bool.and_eq_true,decide_eq_true_eq]
      exact ⟨by omega,by simpa using h2⟩
    · rw [stN]
      rcases a3 with a3|a3<;>rcases b3 with b3|b3<;>rcases e3 with e3|e3<;>omega
def qd5:∀ (l:List Stm) (lv c:Nat),(qci l lv c).2=0→qdP l lv=true∧(qci l lv c).1=c+qbr l∧(qbr l=0∨c+qbr l≤2000)
 | [],_,c,_=>⟨rfl,rfl,.inl rfl⟩
 | x::r,lv,c,h=>by
  simp only [qci] at h ⊢;split at h
  · rename_i h1;exact absurd h h1
  rename_i h1;rw [if_neg h1];obtain ⟨a1,a2,a3⟩:=qz8 x lv c (by simpa using h1);obtain ⟨b1,b2,b3⟩:=qd5 r lv _ h;refine ⟨by simp only [qdP,a1,b1,Bool.and_true],by rw [b2,a2,qbr];omega,.inr ?_⟩;rw [a2] at b3;rw [qbr];rcases b3 with b3|b3<;>omega
end
def qhq(l:List Str):Nat:=(l.map fun w=>w.length+2).sum
def qbJ(w:Str)(l:List Str):qhq (w::l)=w.length+2+qhq l:=by simp [qhq]
def qbh:∀ l:List Str,(qa2 l).length≤qhq l
 | []=>Nat.zero_le _
 | [x]=>by simp [qa2,qhq]
 | x::y::r=>by
  have:=qbh (y::r);rw [qa2,qbJ];simp only [List.length_append,List.length_cons] at this ⊢;omega
def qis(l:List Str):(l.getD 0 []).length≤qhq l:=by
 cases l with
 | nil=>exact Nat.zero_le _
 | cons x r=>rw [qbJ];simp only [List.getD_cons_zero];omega
def qjD(l:List Str):(l.getD 0 []).length+(l.getD 1 []).length≤qhq l:=by
 match l with
 | []=>exact Nat.zero_le _
 | [x]=>simp [qhq]
 | x::y::r=>rw [qbJ,qbJ];simp only [List.getD_cons_zero,List.getD_cons_succ];omega
def qpq(o:Int):(qmV o).length≤2:=by
 unfold qmV;have h:∀ x∈signL,x.length≤2:=by decide
 by_cases hk:o.toNat < signL.length
 · rw [List.getD,List.getElem?_eq_getElem hk];exact h _ (List.getElem_mem hk)
 · rw [List.getD,List.getElem?_eq_none O];exact Nat.zero_le _
def qcd{n:Int}(h:0≤n∧n < 4294967296):(qdq n).length≤10:=(qkj (u:=n.toNat) O).2
def qbG{l:Str}(h:qaY l=true):l.length≤12:=by
 unfold qaY at h;simp only [Bool.and_eq_true,decide_eq_true_eq] at h;have:=h.1.1.2;omega
def qij{k o n:Int}{nm:Str}{na:Nat}(h:exC k o n nm na=0):nm.length≤12:=by
 unfold exC at h;split at h
 · cases h
 split at h
 · cases h
 rename_i h2;split at h
 · cases h
 rename_i h3;cases hn:qoK k with
 | true=>
  cases hi:qaY nm with
  | true=>exact qbG hi
  | false=>exact absurd ⟨hn,hi⟩ h2
 | false=>
  by_cases he:nm=[]
  · rw [he];exact Nat.zero_le _
  · exact absurd (.inl ⟨hn,he⟩) h3
def qvH{k o n:Int}{nm:Str}{az:List Str}{out:Int}(hn:0≤n∧n < 4294967296)(hm:nm.length≤12):(exW k o n nm az out).length≤20+qhq az:=by
 have h0:=qcd hn;have h1:=qbh az;have h2:=qis az;have h3:=qjD az;have h4:=qpq o;unfold exW;repeat' split
 all_goals ((try simp only [List.length_append,List.length_cons,List.length_nil]);omega)
mutual
def qg0:∀ (x:Ex) (out:Int),exV x=true→exU x=true→(exT x out).length+2≤40 * exN x
 | .mk k o n nm az,out,hv,hu=>by
  simp only [exV,Bool.and_eq_true,decide_eq_true_eq] at hv;simp only [exU,Bool.and_eq_true,decide_eq_true_eq] at hu;have h1:=qdU az (qgg k o) hv.2 hu.2;have h2:=qvH (k:=k) (o:=o) (az:=qdT az (qgg k o)) (out:=out) hu.1 (qij hv.1);simp only [exT,exN];omega
def qdU:∀ (l:List Ex) (os:List Int),qgy l=true→qiT l=true→qhq (qdT l os)≤40 * qbD l
 | [],_,_,_=>Nat.zero_le _
 | x::r,os,hv,hu=>by
  simp only [qgy,Bool.and_eq_true] at hv;simp only [qiT,Bool.and_eq_true] at hu;have h1:=qg0 x (os.headD 0) hv.1 hu.1;have h2:=qdU r os.tail hv.2 hu.2;simp only [qdT,qbJ,qbD];omega
end
def qbO(n:Nat):(qaT n).length=2 * n:=by
 induction n with
 | zero=>rfl
 | succ n ih=>simp only [qaT,List.length_append,List.length_cons,List.length_nil,ih];omega
def ql4{k:Int}{nm:Str}{a b c:Nat}(h:stC k nm a b c=0):nm.length≤12:=by
 unfold stC at h;split at h
 · cases h
 split at h
 · cases h
 rename_i h2;split at h
 · cases h
 rename_i h3;cases hn:qda k with
 | true=>
  cases hi:qaY nm with
  | true=>exact qbG hi
  | false=>exact absurd ⟨hn,hi⟩ h2
 | false=>
  by_cases he:nm=[]
  · rw [he];exact Nat.zero_le _
  · exact absurd (.inl ⟨hn,he⟩) h3
def qrY{k:Int}{nm:Str}{es:List Str}(hm:nm.length≤12):(qhp k nm es).length≤30+qhq es:=by
 have h1:=qbh es;have h3:=qjD es;have h2:=qis es;unfold qhp;repeat' split
 all_goals ((try simp only [List.length_append,List.length_cons,List.length_nil]);omega)
mutual
def qfF:∀ (x:Stm) (lv m:Nat),lv≤m→stV x m=true→stV x lv=true
 | .mk k nm es b e,lv,m,hl,hv=>by
  simp only [stV,Bool.and_eq_true,decide_eq_true_eq] at hv ⊢;exact ⟨⟨⟨⟨by omega,hv.1.1.1.2⟩,hv.1.1.2⟩,qhi b (lv+1) (m+1) O hv.1.2⟩,qhi e (lv+1) (m+1) O hv.2⟩
def qhi:∀ (l:List Stm) (lv m:Nat),lv≤m→qdP l m=true→qdP l lv=true
 | [],_,_,_,_=>rfl
 | x::r,lv,m,hl,hv=>by
  simp only [qdP,Bool.and_eq_true] at hv ⊢;exact ⟨qfF x lv m hl hv.1,qhi r lv m hl hv.2⟩
end
mutual
def qhh:∀ (x:Stm) (lv:Nat),stV x lv=true→stU x=true→(stT x lv).length+34≤200 * stN x
 | .mk k nm es b e,lv,hv,hu=>by
  simp only [stV,Bool.and_eq_true,decide_eq_true_eq] at hv;simp only [stU,Bool.and_eq_true] at hu;have h1:=qdU es [] hv.1.1.2 hu.1.1;have h2:=qcY b (lv+1) hv.1.2 hu.1.2;have h3:=qcY e (lv+1) hv.2 hu.2;have h4:=qis (qdT es []);have h5:=qbO lv;have h6:=qrY (k:=k) (es:=qdT es []) (ql4 hv.1.1.1.2);have h7:=hv.1.1.1.1;have h8:=qww e lv hu.2 hv.2;simp only [stT,stN];repeat' split
  all_goals ((try simp only [List.length_append,List.length_cons,List.length_nil]);omega)
def qcY:∀ (l:List Stm) (lv:Nat),qdP l lv=true→qgG l=true→(qdE l lv).length≤200 * qbr l
 | [],_,_,_=>Nat.zero_le _
 | x::r,lv,hv,hu=>by
  simp only [qdP,Bool.and_eq_true] at hv;simp only [qgG,Bool.and_eq_true] at hu;have h1:=qhh x lv hv.1 hu.1;have h2:=qcY r lv hv.2 hu.2;have h3:=qbO lv;have h4:lv≤16:=by
   have:=hv.1;cases x with
   | mk k nm es b e=>simp only [stV,Bool.and_eq_true,decide_eq_true_eq] at this;exact this.1.1.1.1
  simp only [qdE,List.length_append,qbr];omega
def qww:∀ (l:List Stm) (lv:Nat),qgG l=true→qdP l (lv+1)=true→(st1 l lv).length≤200 * qbr l
 | [],_,_,_=>Nat.zero_le _
 | x::r,lv,hu,hv=>by
  simp only [qdP,Bool.and_eq_true] at hv;simp only [qgG,Bool.and_eq_true] at hu;have h1:=qhh x lv (qfF x lv (lv+1) O hv.1) hu.1;simp only [st1,qbr];omega
end
open Go.Proofs.Tryz
open Go.FL
attribute [local irreducible] JC JO JA JB qaZ qaL qb4 AC fill CellsAt QE Ev Mid
def qAt{p:Prop} (h:p:=by
 refine ⟨?_,Z⟩;simp only [qbP];exact congrArg Value.bool (decide_eq_decide.2 O)):p:=h
def qAu{p:Prop} (h:p:=by
 refine ⟨?_,Z⟩;simp only [qbP];exact congrArg Value.bool (decide_eq_false O).symm):p:=h
def qqU(D:Nat)(L:Hl)(s:World)(bc c lv:Nat)(hc:c≤2000):AC prog D 142 [.pointer (some ⟨bc,0,none⟩),.int .i64 (lv:Int)] ((bc,cb [.int .i64 (c:Int)] 152)::L) s fun v L' _=>v=.bool (decide (¬ (16 < lv∨2000 < c+1)))∧L'=(bc,cb [.int .i64 ((c+1:Nat):Int)] 152)::L:=by
 refine qae (fn:=f142) qav func142 V Z ntmps142 Z (rs:=[.tmp 4]) Z [(0,_),(1,_)] Z<|Sr<|At Z Z<|Sr<|Zqm Z Z<|qaQ Z Z<|W0 Y5<|Wl 0 Y6<|qad (qaC (c:=((c+1:Nat):Int)) Z Z (by rw [w64 O O];simp)) Z<|qaQ Z Z<|W0 Y5<|Wt 0 [_] Y9<|Nt<|Sr<|Zqm Z Z<|qp3 Z Z Z<|Zqm Z Z<|?_;refine qai (t:=14) Z ?_ ?_<;>intro c1;·refine Zg Z Z<|Zqm Z Z<|Zg Z Z<|qaQ Z Z<|Zg Z Z<|W0 Y5<|Zg Z Z<|Wl 0 Y6<|Zg Z Z<|qp3 Z Z Z<|ZqT Z Z Z<|At Z Z<|Zo<|?_;exact rR [] _ (.t1 Z) Z (Lr D) fun _ hS2=>qAt
 refine Wf Y4<|Wf Y4<|Wf Y4<|Wf Y4<|Wf Y4<|ZqF Z Z Z<|At Z Z<|Zo<|?_;exact rR [] _ (.t1 Z) Z (Lr D) fun _ hS2=>qAu
def qp8{p:Prop} (h:p:=by
 refine ⟨?_,Z⟩;have h9:k=1∨k=2∨k=3∨k=4∨k=5∨k=6∨k=7∨k=8∨k=9∨k=10:=by omega
 rcases h9 with rfl|rfl|rfl|rfl|rfl|rfl|rfl|rfl|rfl|rfl<;>first|rfl|(exfalso;omega)):p:=h
def qpw(D:Nat)(L:Hl)(s:World)(k:Int)(h1:1≤k)(h2:k≤10):AC prog D 143 [.int .i64 k] L s fun v L' _=>v=.tuple #[.int .i64 (qdu k:Int),.int .i64 (qd0 k:Int),.bool (qda k),.bool (decide (k=3∨k=4)),.bool (decide (k=3))]∧L=L':=by
 refine qae (fn:=f143) qav func143 V Z ntmps143 Z (rs:=[.tmp 2,.tmp 3,.tmp 4,.tmp 5,.tmp 6]) Z [(0,_)] Z<|Sr<|Zqa Z Z<|Zqa Z Z<|Zqa Z Z<|Zqa Z Z<|At Z Z<|Zs<|Sr<|Zqm Z Z<|Nt<|Zp<|Sr<|qax Z Z Z<|At Z Z<|?_;refine qaa Z ?_ ?_<;>intro c1;·refine Sr<|Zqa Z Z<|Zqa Z Z<|Zqa Z Z<|Zqa Z Z<|At Z Z<|Zo<|Zc<|Zu<|?_;exact rR [] L (.tmp Z (.tmp Z (.tmp Z (.tmp Z (.t1 Z))))) Z (Lr D) fun _ hS2=>qp8
 refine Sr<|qax Z Z Z<|At Z Z<|?_;refine qaa Z ?_ ?_<;>intro c2;·refine Sr<|Zqa Z Z<|Zqa Z Z<|Zqa Z Z<|Zqa Z Z<|At Z Z<|Zo<|Zc<|Zu<|?_;exact rR [] L (.tmp Z (.tmp Z (.tmp Z (.tmp Z (.t1 Z))))) Z (Lr D) fun _ hS2=>qp8
 refine Sr<|qax Z Z Z<|At Z Z<|?_;refine qaa Z ?_ ?_<;>intro c3;·refine Sr<|Zqa Z Z<|Zqa Z Z<|Zqa Z Z<|Zqa Z Z<|At Z Z<|Zo<|Zc<|Zu<|?_;exact rR [] L (.tmp Z (.tmp Z (.tmp Z (.tmp Z (.t1 Z))))) Z (Lr D) fun _ hS2=>qp8
 refine Sr<|qax Z Z Z<|At Z Z<|?_;refine qaa Z ?_ ?_<;>intro c4;·refine Sr<|Zqa Z Z<|Zqa Z Z<|Zqa Z Z<|Zqa Z Z<|At Z Z<|Zo<|Zc<|Zu<|?_;exact rR [] L (.tmp Z (.tmp Z (.tmp Z (.tmp Z (.t1 Z))))) Z (Lr D) fun _ hS2=>qp8
 refine Sr<|qax Z Z Z<|At Z Z<|?_;refine qaa Z ?_ ?_<;>intro c5;·refine Sr<|Zqa Z Z<|Zqa Z Z<|Zqa Z Z<|Zqa Z Z<|At Z Z<|Zo<|Zc<|Zu<|?_;exact rR [] L (.tmp Z (.tmp Z (.tmp Z (.tmp Z (.t1 Z))))) Z (Lr D) fun _ hS2=>qp8
 refine Zs<|Sr<|qax Z Z Z<|At Z Z<|?_;refine qaa Z ?_ ?_<;>intro c6
 ·refine Zk<|Zt<|?_;refine qaa Z ?_ ?_<;>intro c7;·refine Sr<|Zqa Z Z<|Zqa Z Z<|Zqa Z Z<|Zqa Z Z<|At Z Z<|Zo<|Zc<|Zu<|?_;exact rR [] L (.tmp Z (.tmp Z (.tmp Z (.tmp Z (.t1 Z))))) Z (Lr D) fun _ hS2=>qp8
  refine Zk<|Zb<|Zt<|Sr<|Zqa Z Z<|Zqa Z Z<|Zqa Z Z<|Zqa Z Z<|At Z Z<|Zo ?_;exact rR [] L (.tmp Z (.tmp Z (.tmp Z (.tmp Z (.t1 Z))))) Z (Lr D) fun _ hS2=>qp8
 refine Zr<|qax Z Z Z<|At Z Z<|?_;refine qaa Z ?_ ?_<;>intro c8;·refine Sr<|Zqa Z Z<|Zqa Z Z<|Zqa Z Z<|Zqa Z Z<|At Z Z<|Zo<|Zc<|Zu<|?_;exact rR [] L (.tmp Z (.tmp Z (.tmp Z (.tmp Z (.t1 Z))))) Z (Lr D) fun _ hS2=>qp8
 refine Zk<|Zb<|Zt<|Sr<|Zqa Z Z<|Zqa Z Z<|Zqa Z Z<|Zqa Z Z<|At Z Z<|Zo ?_;exact rR [] L (.tmp Z (.tmp Z (.tmp Z (.tmp Z (.t1 Z))))) Z (Lr D) fun _ hS2=>qp8
def qtx{p:Prop} (h:p:=by
 refine ⟨?_,Z⟩;simp only [qbP];unfold qcJ qep;repeat' split
 all_goals (first|rfl|(exfalso;omega))):p:=h
def qn8(D:Nat)(L:Hl)(s:World)(k:Int):AC prog D 176 [.int .i64 k] L s fun v L' _=>v=.tuple #[.int .i64 (qcJ k:Int),.int .i64 (qep k:Int)]∧L=L':=by
 refine qae (fn:=f176) qav func176 V Z ntmps176 Z (rs:=[.tmp 2,.tmp 3]) Z [(0,_)] Z<|Sr<|Zqa Z Z<|At Z Z<|Zs<|Sr<|Zqm Z Z<|Nt<|Zp<|Zs<|Sr<|qax Z Z Z<|At Z Z<|?_;refine qaa Z ?_ ?_<;>intro c1
 ·refine Zk<|Zt<|?_;refine qaa Z ?_ ?_<;>intro c2;·refine Sr<|Zqa Z Z<|At Z Z<|Zo<|Zc<|Zu<|?_;exact rR [] L (.tmp Z (.t1 Z)) Z (Lr D) fun _ hS2=>qtx
  refine Sr<|qax Z Z Z<|At Z Z<|?_;refine qaa Z ?_ ?_<;>intro c3;·refine Sr<|Zqa Z Z<|At Z Z<|Zo<|Zc<|Zu<|?_;exact rR [] L (.tmp Z (.t1 Z)) Z (Lr D) fun _ hS2=>qtx
  refine Sr<|qax Z Z Z<|At Z Z<|?_;refine qaa Z ?_ ?_<;>intro c4;·refine Sr<|Zqa Z Z<|At Z Z<|Zo<|Zc<|Zu<|?_;exact rR [] L (.tmp Z (.t1 Z)) Z (Lr D) fun _ hS2=>qtx
  refine Zk<|Zb<|Zt<|Sr<|Zqa Z Z<|At Z Z<|Zo<|?_;exact rR [] L (.tmp Z (.t1 Z)) Z (Lr D) fun _ hS2=>qtx
 refine Zr<|qax Z Z Z<|At Z Z<|?_;refine qaa Z ?_ ?_<;>intro c5;·refine Sr<|Zqa Z Z<|At Z Z<|Zo<|Zc<|Zu<|?_;exact rR [] L (.tmp Z (.t1 Z)) Z (Lr D) fun _ hS2=>qtx
 refine Sr<|qax Z Z Z<|At Z Z<|?_;refine qaa Z ?_ ?_<;>intro c6;·refine Sr<|Zqa Z Z<|At Z Z<|Zo<|Zc<|Zu<|?_;exact rR [] L (.tmp Z (.t1 Z)) Z (Lr D) fun _ hS2=>qtx
 refine Sr<|qax Z Z Z<|At Z Z<|?_;refine qaa Z ?_ ?_<;>intro c7;·refine Sr<|Zqa Z Z<|At Z Z<|Zo<|Zc<|Zu<|?_;exact rR [] L (.tmp Z (.t1 Z)) Z (Lr D) fun _ hS2=>qtx
 refine Zk<|Zb<|Zt<|Sr<|Zqa Z Z<|At Z Z<|Zo<|?_;exact rR [] L (.tmp Z (.t1 Z)) Z (Lr D) fun _ hS2=>qtx
def qvS(D:Nat)(L:Hl)(s:World)(x:Ex)(A:Option Addr)(n c:Nat):AC prog D 175 [.agg #[.int .i64 x.kind,.int .i64 x.op,.int .u32 x.num,St x.name,.slice A n c]] L s fun v L' _=>v=.bool (decide (¬ ((x.kind=6∧(x.op < 1∨3 < x.op))∨(x.kind=7∧(x.op < 4∨21 < x.op)))))∧L=L':=by
 refine qae (fn:=f175) qav func175 V Z ntmps175 Z (rs:=[.tmp 2]) Z [(0,_)] Z<|Sr<|qay Z Z fun β1 s1 h1=>At Z Z<|Zs<|Sr<|W0 Y5<|Wl 0 Y6<|Nt<|Zp<|Sr<|qax Z Z Z<|At Z Z<|?_;refine qaa Z ?_ ?_<;>intro c2
 ·refine Sr<|Wb Y5<|Wl 0 Y6<|qhn Z Z Z<|Zqm Z Z<|?_;refine qai (t:=10) Z ?_ ?_<;>intro c3;·refine Zg Z Z<|Wb Y5<|Zg Z Z<|Wl 0 Y6<|Zg Z Z<|qp3 Z Z Z<|ZqT Z Z Z<|At Z Z<|Zo<|Zc<|Zu ?_;exact rR [_] L (.t1 Z) Z h1 fun _ hS2=>qAt
  refine Wf Y4<|Wf Y4<|Wf Y4<|ZqF Z Z Z<|At Z Z<|Zo<|Zc<|Zu<|?_;exact rR [_] L (.t1 Z) Z h1 fun _ hS2=>qAu
 refine Sr<|qax Z Z Z<|At Z Z<|?_;refine qaa Z ?_ ?_<;>intro c4
 ·refine Sr<|Wb Y5<|Wl 0 Y6<|qhn Z Z Z<|Zqm Z Z<|?_;refine qai (t:=20) Z ?_ ?_<;>intro c5;·refine Zg Z Z<|Wb Y5<|Zg Z Z<|Wl 0 Y6<|Zg Z Z<|qp3 Z Z Z<|ZqT Z Z Z<|At Z Z<|Zo<|Zc<|Zu ?_;exact rR [_] L (.t1 Z) Z h1 fun _ hS2=>qAt
  refine Wf Y4<|Wf Y4<|Wf Y4<|ZqF Z Z Z<|At Z Z<|Zo<|Zc<|Zu<|?_;exact rR [_] L (.t1 Z) Z h1 fun _ hS2=>qAu
 refine Zk<|Zb<|Zt<|Sr<|At Z Z<|Zo<|?_;refine rR [_] L (.t1 Z) Z h1 fun _ hS2=>?_;refine ⟨?_,Z⟩;simp only [qbP];exact congrArg Value.bool (decide_eq_true O).symm
def qzf{g:Glo}{n:Nat}(h:n=g.init.length):qfm g=if g.kind < 1∨3 < g.kind then 5 else if qaY g.name=false then 7 else if (g.kind≠3∧0 < n)∨(g.kind=2∧g.num≠0) then 6 else if g.kind=3∧(g.num < 1∨40000 < g.num) then 4 else if g.kind=3∧g.num < (n:Int) then 2 else 0:=by
 have hi:g.init≠[]↔0 < n:=by rw [h];exact List.length_pos_iff.symm
 simp only [qfm,hi,h]
def qcF{p:Prop} (h:p:=by
 refine ⟨?_,Z⟩;simp only [qbP];rw [qzf hn];repeat' split
 all_goals (first|rfl|(exfalso;omega)|(exfalso;simp_all;done)|(exfalso;simp_all;omega))):p:=h
def qnV(D:Nat)(L:Hl)(s:World)(hG:GP s)(g:Glo)(A:Option Addr)(n c:Nat)(hA:Wds s A n c g.init)(hu:U32 g.num):AC prog D 66 [.agg #[.int .i64 g.kind,St g.name,.int .u32 g.num,.slice A n c]] L s fun v L' _=>v=.int .i64 (qfm g)∧L=L':=by
 have hn:=hA.1;have hu1:=hu.1;have hu2:=hu.2;refine qae (fn:=f66) qav func66 V Z ntmps66 Z (rs:=[.tmp 2]) Z [(0,_)] Z<|Sr<|qay Z Z fun β1 s1 h1=>At Z Z<|Zs<|Zp<|Sr<|W0 Y5<|Wl 0 Y6<|qa8 Z Z Z<|Zqm Z Z<|?_;refine qai (t:=7) Z ?_ ?_<;>intro c2;·refine Wf Y4<|Wf Y4<|Wf Y4<|ZqT Z Z Z<|At Z Z<|Zy Z<|Sr<|At Z Z<|Zo<|Zc<|Zu<|?_;exact rR [_] L (.t1 Z) Z h1 fun _ hS2=>qcF
 refine Zg Z Z<|W0 Y5<|Zg Z Z<|Wl 0 Y6<|Zg Z Z<|qbl Z Z Z<|ZqF Z Z Z<|At Z Z<|?_;refine qaa Z ?_ ?_<;>intro c3;·refine Sr<|At Z Z<|Zo<|Zc<|Zu<|?_;exact rR [_] L (.t1 Z) Z h1 fun _ hS2=>qcF
 refine Sr<|Wb Y5<|Wl 0 Y6<|Je Z Z Z (qfn D _ _ (hG.le h1) g.name) fun s4 h4=>qbF Z Z<|At Z Z<|?_;have e4:=h1.t h4;refine qb8 Z ?_ ?_<;>intro c5;·refine Sr<|At Z Z<|Zo<|Zc<|Zu<|?_;exact rR [_] L (.t1 Z) Z e4 fun _ hS2=>qcF
 refine Zs<|Sr<|W0 Y5<|Wl 0 Y6<|qcb Z Z Z<|Zqm Z Z<|?_;refine qaI (t:=21) Z ?_ ?_<;>intro c6
 ·refine Zg Z Z<|Wb Y5<|Zg Z Z<|Wl 0 Y6<|Zg Z Z<|Ws Y4<|Zg Z Z<|qbl Z Z Z<|ZqT Z Z Z<|At Z Z<|?_;refine qaa Z ?_ ?_<;>intro c7
  ·refine Zk<|Zt<|?_;refine qaa Z ?_ ?_<;>intro c8;·refine Sr<|At Z Z<|Zo<|Zc<|Zu<|?_;exact rR [_] L (.t1 Z) Z e4 fun _ hS2=>qcF
   refine Sr<|W0 Y5<|Wl 0 Y6<|qax Z Z Z<|Zqm Z Z<|?_;refine qai (t:=39) Z ?_ ?_<;>intro c9
   ·refine Zg Z Z<|Wb Y5<|Zg Z Z<|Wl 0 Y6<|Zg Z Z<|qa8 Z Z Z<|Zg Z Z<|Zqm Z Z<|?_;refine qai (t:=43) Z ?_ ?_<;>intro c10;·refine Wf Y4<|Wf Y4<|Wf Y4<|Zg Z Z<|ZqT Z Z Z<|ZqT Z Z Z<|At Z Z<|Zy Z<|Sr<|At Z Z<|Zo<|Zc<|Zu<|?_;exact rR [_] L (.t1 Z) Z e4 fun _ hS2=>qcF
    refine Zg Z Z<|Wb Y5<|Zg Z Z<|Wl 0 Y6<|Zg Z Z<|qbl Z Z Z<|Zg Z Z<|ZqF Z Z Z<|ZqT Z Z Z<|At Z Z<|?_;refine qaa Z ?_ ?_<;>intro c11;·refine Sr<|At Z Z<|Zo<|Zc<|Zu<|?_;exact rR [_] L (.t1 Z) Z e4 fun _ hS2=>qcF
    refine Sr<|W0 Y5<|Wl 0 Y6<|qax Z Z Z<|Zqm Z Z<|?_;refine qai (t:=53) Z ?_ ?_<;>intro c12
    ·refine Zg Z Z<|Wb Y5<|Zg Z Z<|Wl 0 Y6<|Zg Z Z<|Ws Y4<|Zg Z Z<|Wb Y5<|Zg Z Z<|Wl 0 Y6<|Zg Z Z<|qad (qaR Z Z Z Z Z (w64 O O)) Z<|Zg Z Z<|qbl Z Z Z<|ZqT Z Z Z<|At Z Z<|?_;refine qaa Z ?_ ?_<;>intro c13;·refine Sr<|At Z Z<|Zo<|Zc<|Zu<|?_;exact rR [_] L (.t1 Z) Z e4 fun _ hS2=>qcF
     refine Zk<|Zb<|Zt<|Sr<|At Z Z<|Zo<|?_;exact rR [_] L (.t1 Z) Z e4 fun _ hS2=>qcF
    refine Wf Y4<|Wf Y4<|Wf Y4<|Wf Y4<|Wf Y4<|Wf Y4<|Wf Y4<|ZqF Z Z Z<|At Z Z<|Zz Z<|Zk<|Zb<|Zt<|Sr<|At Z Z<|Zo<|?_;exact rR [_] L (.t1 Z) Z e4 fun _ hS2=>qcF
   refine Wf Y4<|Wf Y4<|Wf Y4<|Wf Y4<|Zh Z Z Z<|Zh Z Z Z<|Zh Z Z Z<|Wf Y4<|ZqF Z Z Z<|At Z Z<|Zz Z<|Sr<|W0 Y5<|Wl 0 Y6<|qax Z Z Z<|Zqm Z Z<|?_;refine qai (t:=53) Z ?_ ?_<;>intro c14
   ·refine Zg Z Z<|Wb Y5<|Zg Z Z<|Wl 0 Y6<|Zg Z Z<|Ws Y4<|Zg Z Z<|Wb Y5<|Zg Z Z<|Wl 0 Y6<|Zg Z Z<|qad (qaR Z Z Z Z Z (w64 O O)) Z<|Zg Z Z<|qbl Z Z Z<|ZqT Z Z Z<|At Z Z<|?_;refine qaa Z ?_ ?_<;>intro c15;·refine Sr<|At Z Z<|Zo<|Zc<|Zu<|?_;exact rR [_] L (.t1 Z) Z e4 fun _ hS2=>qcF
    refine Zk<|Zb<|Zt<|Sr<|At Z Z<|Zo<|?_;exact rR [_] L (.t1 Z) Z e4 fun _ hS2=>qcF
   refine Wf Y4<|Wf Y4<|Wf Y4<|Wf Y4<|Wf Y4<|Wf Y4<|Wf Y4<|ZqF Z Z Z<|At Z Z<|Zz Z<|Zk<|Zb<|Zt<|Sr<|At Z Z<|Zo<|?_;exact rR [_] L (.t1 Z) Z e4 fun _ hS2=>qcF
  refine Zr<|W0 Y5<|Wl 0 Y6<|qax Z Z Z<|Zqm Z Z<|?_;refine qai (t:=30) Z ?_ ?_<;>intro c16
  ·refine Zg Z Z<|Wb Y5<|Zg Z Z<|Wl 0 Y6<|Zg Z Z<|qcb Z Z Z<|ZqT Z Z Z<|At Z Z<|?_;refine qaM Z ?_ ?_<;>intro c17;·refine Sr<|At Z Z<|Zo<|Zc<|Zu<|?_;exact rR [_] L (.t1 Z) Z e4 fun _ hS2=>qcF
   refine Sr<|W0 Y5<|Wl 0 Y6<|qax Z Z Z<|Zqm Z Z<|?_;refine qai (t:=39) Z ?_ ?_<;>intro c18
   ·refine Zg Z Z<|Wb Y5<|Zg Z Z<|Wl 0 Y6<|Zg Z Z<|qa8 Z Z Z<|Zg Z Z<|Zqm Z Z<|?_;refine qai (t:=43) Z ?_ ?_<;>intro c19;·refine Wf Y4<|Wf Y4<|Wf Y4<|Zg Z Z<|ZqT Z Z Z<|ZqT Z Z Z<|At Z Z<|Zy Z<|Sr<|At Z Z<|Zo<|Zc<|Zu<|?_;exact rR [_] L (.t1 Z) Z e4 fun _ hS2=>qcF
    refine Zg Z Z<|Wb Y5<|Zg Z Z<|Wl 0 Y6<|Zg Z Z<|qbl Z Z Z<|Zg Z Z<|ZqF Z Z Z<|ZqT Z Z Z<|At Z Z<|?_;refine qaa Z ?_ ?_<;>intro c20;·refine Sr<|At Z Z<|Zo<|Zc<|Zu<|?_;exact rR [_] L (.t1 Z) Z e4 fun _ hS2=>qcF
    refine Sr<|W0 Y5<|Wl 0 Y6<|qax Z Z Z<|Zqm Z Z<|?_;refine qai (t:=53) Z ?_ ?_<;>intro c21
    ·refine Zg Z Z<|Wb Y5<|Zg Z Z<|Wl 0 Y6<|Zg Z Z<|Ws Y4<|Zg Z Z<|Wb Y5<|Zg Z Z<|Wl 0 Y6<|Zg Z Z<|qad (qaR Z Z Z Z Z (w64 O O)) Z<|Zg Z Z<|qbl Z Z Z<|ZqT Z Z Z<|At Z Z<|?_;refine qaa Z ?_ ?_<;>intro c22;·refine Sr<|At Z Z<|Zo<|Zc<|Zu<|?_;exact rR [_] L (.t1 Z) Z e4 fun _ hS2=>qcF
     refine Zk<|Zb<|Zt<|Sr<|At Z Z<|Zo<|?_;exact rR [_] L (.t1 Z) Z e4 fun _ hS2=>qcF
    refine Wf Y4<|Wf Y4<|Wf Y4<|Wf Y4<|Wf Y4<|Wf Y4<|Wf Y4<|ZqF Z Z Z<|At Z Z<|Zz Z<|Zk<|Zb<|Zt<|Sr<|At Z Z<|Zo<|?_;exact rR [_] L (.t1 Z) Z e4 fun _ hS2=>qcF
   refine Wf Y4<|Wf Y4<|Wf Y4<|Wf Y4<|Zh Z Z Z<|Zh Z Z Z<|Zh Z Z Z<|Wf Y4<|ZqF Z Z Z<|At Z Z<|Zz Z<|Sr<|W0 Y5<|Wl 0 Y6<|qax Z Z Z<|Zqm Z Z<|?_;refine qai (t:=53) Z ?_ ?_<;>intro c23
   ·refine Zg Z Z<|Wb Y5<|Zg Z Z<|Wl 0 Y6<|Zg Z Z<|Ws Y4<|Zg Z Z<|Wb Y5<|Zg Z Z<|Wl 0 Y6<|Zg Z Z<|qad (qaR Z Z Z Z Z (w64 O O)) Z<|Zg Z Z<|qbl Z Z Z<|ZqT Z Z Z<|At Z Z<|?_;refine qaa Z ?_ ?_<;>intro c24;·refine Sr<|At Z Z<|Zo<|Zc<|Zu<|?_;exact rR [_] L (.t1 Z) Z e4 fun _ hS2=>qcF
    refine Zk<|Zb<|Zt<|Sr<|At Z Z<|Zo<|?_;exact rR [_] L (.t1 Z) Z e4 fun _ hS2=>qcF
   refine Wf Y4<|Wf Y4<|Wf Y4<|Wf Y4<|Wf Y4<|Wf Y4<|Wf Y4<|ZqF Z Z Z<|At Z Z<|Zz Z<|Zk<|Zb<|Zt<|Sr<|At Z Z<|Zo<|?_;exact rR [_] L (.t1 Z) Z e4 fun _ hS2=>qcF
  refine Wf Y4<|Wf Y4<|Wf Y4<|ZqF Z Z Z<|At Z Z<|Zz Z<|Sr<|W0 Y5<|Wl 0 Y6<|qax Z Z Z<|Zqm Z Z<|?_;refine qai (t:=39) Z ?_ ?_<;>intro c25
  ·refine Zg Z Z<|Wb Y5<|Zg Z Z<|Wl 0 Y6<|Zg Z Z<|qa8 Z Z Z<|Zg Z Z<|Zqm Z Z<|?_;refine qai (t:=43) Z ?_ ?_<;>intro c26;·refine Wf Y4<|Wf Y4<|Wf Y4<|Zg Z Z<|ZqT Z Z Z<|ZqT Z Z Z<|At Z Z<|Zy Z<|Sr<|At Z Z<|Zo<|Zc<|Zu<|?_;exact rR [_] L (.t1 Z) Z e4 fun _ hS2=>qcF
   refine Zg Z Z<|Wb Y5<|Zg Z Z<|Wl 0 Y6<|Zg Z Z<|qbl Z Z Z<|Zg Z Z<|ZqF Z Z Z<|ZqT Z Z Z<|At Z Z<|?_;refine qaa Z ?_ ?_<;>intro c27;·refine Sr<|At Z Z<|Zo<|Zc<|Zu<|?_;exact rR [_] L (.t1 Z) Z e4 fun _ hS2=>qcF
   refine Sr<|W0 Y5<|Wl 0 Y6<|qax Z Z Z<|Zqm Z Z<|?_;refine qai (t:=53) Z ?_ ?_<;>intro c28
   ·refine Zg Z Z<|Wb Y5<|Zg Z Z<|Wl 0 Y6<|Zg Z Z<|Ws Y4<|Zg Z Z<|Wb Y5<|Zg Z Z<|Wl 0 Y6<|Zg Z Z<|qad (qaR Z Z Z Z Z (w64 O O)) Z<|Zg Z Z<|qbl Z Z Z<|ZqT Z Z Z<|At Z Z<|?_;refine qaa Z ?_ ?_<;>intro c29;·refine Sr<|At Z Z<|Zo<|Zc<|Zu<|?_;exact rR [_] L (.t1 Z) Z e4 fun _ hS2=>qcF
    refine Zk<|Zb<|Zt<|Sr<|At Z Z<|Zo<|?_;exact rR [_] L (.t1 Z) Z e4 fun _ hS2=>qcF
   refine Wf Y4<|Wf Y4<|Wf Y4<|Wf Y4<|Wf Y4<|Wf Y4<|Wf Y4<|ZqF Z Z Z<|At Z Z<|Zz Z<|Zk<|Zb<|Zt<|Sr<|At Z Z<|Zo<|?_;exact rR [_] L (.t1 Z) Z e4 fun _ hS2=>qcF
  refine Wf Y4<|Wf Y4<|Wf Y4<|Wf Y4<|Zh Z Z Z<|Zh Z Z Z<|Zh Z Z Z<|Wf Y4<|ZqF Z Z Z<|At Z Z<|Zz Z<|Sr<|W0 Y5<|Wl 0 Y6<|qax Z Z Z<|Zqm Z Z<|?_;refine qai (t:=53) Z ?_ ?_<;>intro c30
  ·refine Zg Z Z<|Wb Y5<|Zg Z Z<|Wl 0 Y6<|Zg Z Z<|Ws Y4<|Zg Z Z<|Wb Y5<|Zg Z Z<|Wl 0 Y6<|Zg Z Z<|qad (qaR Z Z Z Z Z (w64 O O)) Z<|Zg Z Z<|qbl Z Z Z<|ZqT Z Z Z<|At Z Z<|?_;refine qaa Z ?_ ?_<;>intro c31;·refine Sr<|At Z Z<|Zo<|Zc<|Zu<|?_;exact rR [_] L (.t1 Z) Z e4 fun _ hS2=>qcF
   refine Zk<|Zb<|Zt<|Sr<|At Z Z<|Zo<|?_;exact rR [_] L (.t1 Z) Z e4 fun _ hS2=>qcF
  refine Wf Y4<|Wf Y4<|Wf Y4<|Wf Y4<|Wf Y4<|Wf Y4<|Wf Y4<|ZqF Z Z Z<|At Z Z<|Zz Z<|Zk<|Zb<|Zt<|Sr<|At Z Z<|Zo<|?_;exact rR [_] L (.t1 Z) Z e4 fun _ hS2=>qcF
 refine Wf Y4<|Wf Y4<|Wf Y4<|Wf Y4<|ZqF Z Z Z<|At Z Z<|Zz Z<|Zr<|W0 Y5<|Wl 0 Y6<|qax Z Z Z<|Zqm Z Z<|?_;refine qai (t:=30) Z ?_ ?_<;>intro c32
 ·refine Zg Z Z<|Wb Y5<|Zg Z Z<|Wl 0 Y6<|Zg Z Z<|qcb Z Z Z<|ZqT Z Z Z<|At Z Z<|?_;refine qaM Z ?_ ?_<;>intro c33;·refine Sr<|At Z Z<|Zo<|Zc<|Zu<|?_;exact rR [_] L (.t1 Z) Z e4 fun _ hS2=>qcF
  refine Sr<|W0 Y5<|Wl 0 Y6<|qax Z Z Z<|Zqm Z Z<|?_;refine qai (t:=39) Z ?_ ?_<;>intro c34
  ·refine Zg Z Z<|Wb Y5<|Zg Z Z<|Wl 0 Y6<|Zg Z Z<|qa8 Z Z Z<|Zg Z Z<|Zqm Z Z<|?_;refine qai (t:=43) Z ?_ ?_<;>intro c35;·refine Wf Y4<|Wf Y4<|Wf Y4<|Zg Z Z<|ZqT Z Z Z<|ZqT Z Z Z<|At Z Z<|Zy Z<|Sr<|At Z Z<|Zo<|Zc<|Zu<|?_;exact rR [_] L (.t1 Z) Z e4 fun _ hS2=>qcF
   refine Zg Z Z<|Wb Y5<|Zg Z Z<|Wl 0 Y6<|Zg Z Z<|qbl Z Z Z<|Zg Z Z<|ZqF Z Z Z<|ZqT Z Z Z<|At Z Z<|?_;refine qaa Z ?_ ?_<;>intro c36;·refine Sr<|At Z Z<|Zo<|Zc<|Zu<|?_;exact rR [_] L (.t1 Z) Z e4 fun _ hS2=>qcF
   refine Sr<|W0 Y5<|Wl 0 Y6<|qax Z Z Z<|Zqm Z Z<|?_;refine qai (t:=53) Z ?_ ?_<;>intro c37
   ·refine Zg Z Z<|Wb Y5<|Zg Z Z<|Wl 0 Y6<|Zg Z Z<|Ws Y4<|Zg Z Z<|Wb Y5<|Zg Z Z<|Wl 0 Y6<|Zg Z Z<|qad (qaR Z Z Z Z Z (w64 O O)) Z<|Zg Z Z<|qbl Z Z Z<|ZqT Z Z Z<|At Z Z<|?_;refine qaa Z ?_ ?_<;>intro c38;·refine Sr<|At Z Z<|Zo<|Zc<|Zu<|?_;exact rR [_] L (.t1 Z) Z e4 fun _ hS2=>qcF
    refine Zk<|Zb<|Zt<|Sr<|At Z Z<|Zo<|?_;exact rR [_] L (.t1 Z) Z e4 fun _ hS2=>qcF
   refine Wf Y4<|Wf Y4<|Wf Y4<|Wf Y4<|Wf Y4<|Wf Y4<|Wf Y4<|ZqF Z Z Z<|At Z Z<|Zz Z<|Zk<|Zb<|Zt<|Sr<|At Z Z<|Zo<|?_;exact rR [_] L (.t1 Z) Z e4 fun _ hS2=>qcF
  refine Wf Y4<|Wf Y4<|Wf Y4<|Wf Y4<|Zh Z Z Z<|Zh Z Z Z<|Zh Z Z Z<|Wf Y4<|ZqF Z Z Z<|At Z Z<|Zz Z<|Sr<|W0 Y5<|Wl 0 Y6<|qax Z Z Z<|Zqm Z Z<|?_;refine qai (t:=53) Z ?_ ?_<;>intro c39
  ·refine Zg Z Z<|Wb Y5<|Zg Z Z<|Wl 0 Y6<|Zg Z Z<|Ws Y4<|Zg Z Z<|Wb Y5<|Zg Z Z<|Wl 0 Y6<|Zg Z Z<|qad (qaR Z Z Z Z Z (w64 O O)) Z<|Zg Z Z<|qbl Z Z Z<|ZqT Z Z Z<|At Z Z<|?_;refine qaa Z ?_ ?_<;>intro c40;·refine Sr<|At Z Z<|Zo<|Zc<|Zu<|?_;exact rR [_] L (.t1 Z) Z e4 fun _ hS2=>qcF
   refine Zk<|Zb<|Zt<|Sr<|At Z Z<|Zo<|?_;exact rR [_] L (.t1 Z) Z e4 fun _ hS2=>qcF
  refine Wf Y4<|Wf Y4<|Wf Y4<|Wf Y4<|Wf Y4<|Wf Y4<|Wf Y4<|ZqF Z Z Z<|At Z Z<|Zz Z<|Zk<|Zb<|Zt<|Sr<|At Z Z<|Zo<|?_;exact rR [_] L (.t1 Z) Z e4 fun _ hS2=>qcF
 refine Wf Y4<|Wf Y4<|Wf Y4<|ZqF Z Z Z<|At Z Z<|Zz Z<|Sr<|W0 Y5<|Wl 0 Y6<|qax Z Z Z<|Zqm Z Z<|?_;refine qai (t:=39) Z ?_ ?_<;>intro c41
 ·refine Zg Z Z<|Wb Y5<|Zg Z Z<|Wl 0 Y6<|Zg Z Z<|qa8 Z Z Z<|Zg Z Z<|Zqm Z Z<|?_;refine qai (t:=43) Z ?_ ?_<;>intro c42;·refine Wf Y4<|Wf Y4<|Wf Y4<|Zg Z Z<|ZqT Z Z Z<|ZqT Z Z Z<|At Z Z<|Zy Z<|Sr<|At Z Z<|Zo<|Zc<|Zu<|?_;exact rR [_] L (.t1 Z) Z e4 fun _ hS2=>qcF
  refine Zg Z Z<|Wb Y5<|Zg Z Z<|Wl 0 Y6<|Zg Z Z<|qbl Z Z Z<|Zg Z Z<|ZqF Z Z Z<|ZqT Z Z Z<|At Z Z<|?_;refine qaa Z ?_ ?_<;>intro c43;·refine Sr<|At Z Z<|Zo<|Zc<|Zu<|?_;exact rR [_] L (.t1 Z) Z e4 fun _ hS2=>qcF
  refine Sr<|W0 Y5<|Wl 0 Y6<|qax Z Z Z<|Zqm Z Z<|?_;refine qai (t:=53) Z ?_ ?_<;>intro c44
  ·refine Zg Z Z<|Wb Y5<|Zg Z Z<|Wl 0 Y6<|Zg Z Z<|Ws Y4<|Zg Z Z<|Wb Y5<|Zg Z Z<|Wl 0 Y6<|Zg Z Z<|qad (qaR Z Z Z Z Z (w64 O O)) Z<|Zg Z Z<|qbl Z Z Z<|ZqT Z Z Z<|At Z Z<|?_;refine qaa Z ?_ ?_<;>intro c45;·refine Sr<|At Z Z<|Zo<|Zc<|Zu<|?_;exact rR [_] L (.t1 Z) Z e4 fun _ hS2=>qcF
   refine Zk<|Zb<|Zt<|Sr<|At Z Z<|Zo<|?_;exact rR [_] L (.t1 Z) Z e4 fun _ hS2=>qcF
  refine Wf Y4<|Wf Y4<|Wf Y4<|Wf Y4<|Wf Y4<|Wf Y4<|Wf Y4<|ZqF Z Z Z<|At Z Z<|Zz Z<|Zk<|Zb<|Zt<|Sr<|At Z Z<|Zo<|?_;exact rR [_] L (.t1 Z) Z e4 fun _ hS2=>qcF
 refine Wf Y4<|Wf Y4<|Wf Y4<|Wf Y4<|Zh Z Z Z<|Zh Z Z Z<|Zh Z Z Z<|Wf Y4<|ZqF Z Z Z<|At Z Z<|Zz Z<|Sr<|W0 Y5<|Wl 0 Y6<|qax Z Z Z<|Zqm Z Z<|?_;refine qai (t:=53) Z ?_ ?_<;>intro c46
 ·refine Zg Z Z<|Wb Y5<|Zg Z Z<|Wl 0 Y6<|Zg Z Z<|Ws Y4<|Zg Z Z<|Wb Y5<|Zg Z Z<|Wl 0 Y6<|Zg Z Z<|qad (qaR Z Z Z Z Z (w64 O O)) Z<|Zg Z Z<|qbl Z Z Z<|ZqT Z Z Z<|At Z Z<|?_;refine qaa Z ?_ ?_<;>intro c47;·refine Sr<|At Z Z<|Zo<|Zc<|Zu<|?_;exact rR [_] L (.t1 Z) Z e4 fun _ hS2=>qcF
  refine Zk<|Zb<|Zt<|Sr<|At Z Z<|Zo<|?_;exact rR [_] L (.t1 Z) Z e4 fun _ hS2=>qcF
 refine Wf Y4<|Wf Y4<|Wf Y4<|Wf Y4<|Wf Y4<|Wf Y4<|Wf Y4<|ZqF Z Z Z<|At Z Z<|Zz Z<|Zk<|Zb<|Zt<|Sr<|At Z Z<|Zo<|?_;exact rR [_] L (.t1 Z) Z e4 fun _ hS2=>qcF
def qgl(x:Ex)(lv c:Nat):wkX x lv c=if 16 < lv∨2000 < c+1 then (c+1,2) else if exC x.kind x.op x.num x.name x.args.length≠0 then (c+1,exC x.kind x.op x.num x.name x.args.length) else qcE x.args (lv+1) (c+1):=by
 cases x;rfl
def qhl{l:List Ex}{k:Nat}{x:Ex}(h:l[k]?=some x)(lv c:Nat):qcE (l.drop k) lv c=if (wkX x lv c).2≠0 then wkX x lv c else qcE (l.drop (k+1)) lv (wkX x lv c).1:=by
 obtain ⟨hk,rfl⟩:=List.getElem?_eq_some_iff.1 h;rw [List.drop_eq_getElem_cons hk,qcE]
def qlO{p:Prop} [Decidable p] {b:Bool} (h:p):(!b)=decide (p∧b=false):=by cases b<;>simp [h]
section
variable{x:Ex}{n:Nat}(hn:n=x.args.length)
include hn
def qyT(h:x.kind < 1∨7 < x.kind∨¬ ¬ ((x.kind=6∧(x.op < 1∨3 < x.op))∨(x.kind=7∧(x.op < 4∨21 < x.op)))):exC x.kind x.op x.num x.name x.args.length=5:=by
 have _:=hn;rw [exC,if_pos];omega
variable(h5:¬ (x.kind < 1∨7 < x.kind∨¬ ¬ ((x.kind=6∧(x.op < 1∨3 < x.op))∨(x.kind=7∧(x.op < 4∨21 < x.op)))))
include h5
def qyV(h:(2≤x.kind∧x.kind≤4)∧qaY x.name=false):exC x.kind x.op x.num x.name x.args.length=7:=by
 have _:=hn;rw [exC,if_neg O,if_pos ⟨decide_eq_true h.1,h.2⟩]
variable(h7:¬ ((2≤x.kind∧x.kind≤4)∧qaY x.name=false))
include h7
def qyU(h:(¬ (2≤x.kind∧x.kind≤4)∧x.name≠[])∨(x.kind≠1∧x.num≠0)∨(¬ (x.kind=6∨x.kind=7)∧x.op≠0)∨n < qcJ x.kind∨qep x.kind < n):exC x.kind x.op x.num x.name x.args.length=6:=by
 rw [exC,if_neg O,if_neg (fun k=>h7 ⟨of_decide_eq_true k.1,k.2⟩),if_pos];rcases h with h|h|h|h|h
 · exact .inl ⟨decide_eq_false h.1,h.2⟩
 · exact .inr (.inl h)
 · exact .inr (.inr (.inl ⟨by omega,h.2⟩))
 · exact .inr (.inr (.inr (.inl O)))
 · exact .inr (.inr (.inr (.inr O)))
def qyS(h:¬ ((¬ (2≤x.kind∧x.kind≤4)∧x.name≠[])∨(x.kind≠1∧x.num≠0)∨(¬ (x.kind=6∨x.kind=7)∧x.op≠0)∨n < qcJ x.kind∨qep x.kind < n)):exC x.kind x.op x.num x.name x.args.length=0:=by
 rw [exC,if_neg O,if_neg (fun k=>h7 ⟨of_decide_eq_true k.1,k.2⟩),if_neg];intro k;refine h ?_;rcases k with k|k|k|k|k
 · exact .inl ⟨of_decide_eq_false k.1,k.2⟩
 · exact .inr (.inl k)
 · exact .inr (.inr (.inl ⟨by omega,k.2⟩))
 · exact .inr (.inr (.inr (.inl O)))
 · exact .inr (.inr (.inr (.inr O)))
end
def qjr(D:Nat)(L:Hl)(s:World)(y:Nat×Obj)(bc c lv:Nat)(hc:c≤2000):AC prog D 142 [.pointer (some ⟨bc,0,none⟩),.int .i64 (lv:Int)] (y::(bc,cb [.int .i64 (c:Int)] 152)::L) s fun v L' _=>v=.bool (decide (¬ (16 < lv∨2000 < c+1)))∧L'=y::(bc,cb [.int .i64 ((c+1:Nat):Int)] 152)::L:=
 AC.perm (List.Perm.swap ..) (qqU D (y::L) s bc c lv hc) fun v L1 s1 ⟨h0,h1⟩=>⟨_,by rw [h1];exact List.Perm.swap ..,h0,rfl⟩
def CXC(D d:Nat):Prop:=∀ (L:Hl) (s:World),GP s→∀ (bc c lv:Nat) (A:Option Addr) (n cc:Nat) (l:List Ex),Exs d s A n cc l→c≤2000→lv≤17→AC prog D 144 [.pointer (some ⟨bc,0,none⟩),.slice A n cc,.int .i64 (lv:Int)] ((bc,cb [.int .i64 (c:Int)] 152)::L) s fun v L' _=>v=.int .i64 (qcE l lv c).2∧L'=(bc,cb [.int .i64 ((qcE l lv c).1:Int)] 152)::L
def CXC.swap{D d:Nat}(h:CXC D d)(L:Hl)(s:World)(hG:GP s)(y:Nat×Obj)(bc c lv:Nat)(A:Option Addr)(n cc:Nat)(l:List Ex)(hA:Exs d s A n cc l)(hc:c≤2000)(hlv:lv≤17):AC prog D 144 [.pointer (some ⟨bc,0,none⟩),.slice A n cc,.int .i64 (lv:Int)] (y::(bc,cb [.int .i64 (c:Int)] 152)::L) s fun v L' _=>v=.int .i64 (qcE l lv c).2∧L'=y::(bc,cb [.int .i64 ((qcE l lv c).1:Int)] 152)::L:=
 AC.perm (List.Perm.swap ..) (h (y::L) s hG bc c lv A n cc l hA hc hlv) fun v L1 s1 ⟨h0,h1⟩=>⟨_,by rw [h1];exact List.Perm.swap ..,h0,rfl⟩
def qAc{p:Prop} (h:p:=by
 rw [hS,qhl hx,hE,if_pos (by simp;done)];exact ⟨rfl,rfl⟩):p:=h
def qgU(D d:Nat)(ih:∀ e,d=e+1→CXC D e)(L:Hl)(s:World)(hG:GP s)(bc c lv:Nat)(A:Option Addr)(n cc:Nat)(l:List Ex)(hA:Exs d s A n cc l)(hc:c≤2000)(hlv:lv≤17):AC prog D 144 [.pointer (some ⟨bc,0,none⟩),.slice A n cc,.int .i64 (lv:Int)] ((bc,cb [.int .i64 (c:Int)] 152)::L) s fun v L' _=>v=.int .i64 (qcE l lv c).2∧L'=(bc,cb [.int .i64 ((qcE l lv c).1:Int)] 152)::L:=by
 have hn:=hA.1;have hc1:=hA.2.1;have hc2:=hA.2.2.1;refine qae (fn:=f144) qav func144 V Z ntmps144 Z (rs:=[.tmp 6]) Z [(0,_),(1,_),(2,_)] Z<|Sr<|At Z Z<|Zs<|Sr<|Zqm Z Z<|Ws Y4<|Zqm Z Z<|Nt<|Zp<|?_;refine qaA (γ:=Nat×Nat) (fun g=>[(0,_),(2,_),(6,_),(14,_),(15,_),(16,.int .i64 (g.1:Int))]) (fun g=>(bc,cb [.int .i64 (g.2:Int)] 152)::L) (fun g tw=>Le D s tw∧(g.1≤n∧g.2≤2000∧qcE l lv c=qcE (l.drop g.1) lv g.2)) (fun g=>n - g.1) (fun _ _ _ h hl=>⟨h.1.trans hl,h.2⟩) (0,c) (.c6 Z Z Z Z Z Z (.nil _)) Z ⟨Le.refl _,⟨Nat.zero_le _,hc,Z⟩⟩ ?_;intro g s1 I1;obtain ⟨k,ck⟩:=g;obtain ⟨hk0,hck,hS⟩:=I1.2;simp only at hk0 hck hS;dsimp only;refine Sr<|qa8 Z Z Z<|Nt<|Zs<|?_;refine qaa Z ?_ ?_<;>intro c2
 ·have hk:k < n:=by omega
  obtain ⟨e,b,off,x,A',n',c',hd,rfl,hx,hcx,hax,hux,hnl⟩:=Exs.at_ (hA.le I1.1) hk;have hn':=hax.1;refine Zk<|Zt<|Zs<|Zp<|Sr<|qad (qau Z Z Z Z Z Z hk) Z<|qad (qaw Z Z Z (hcx.le (Lr D)) Z) Z<|qag Z [_,_,_,_,_] Z Z fun β3 s3 h3=>Wt 0 [_,_,_,_,_] Y9<|Nt<|Zs<|Sr<|Zqm Z Z<|Zqm Z Z<|Jc Z Z Z (qjr D L _ _ bc ck lv hck) ?_;have e3:=I1.1.t h3;rintro _ _ s4 h4 ⟨rfl,rfl⟩;have e4:=e3.t h4;refine qbF Z Z<|Nt<|?_;refine qaM Z ?_ ?_<;>intro c5
  ·have g4:16 < lv∨2000 < ck+1:=by have:=c5;omega
   have hE:wkX x lv ck=(ck+1,2):=by rw [qgl,if_pos g4]
   refine Sr<|At Z Z<|Zo<|Zu<|Zc<|Zu<|Zu<|Zc<|Zu<|?_;exact rR [_] _ (.t1 Z) Z e4 fun _ hS2=>qAc
  have g4:¬ (16 < lv∨2000 < ck+1):=by have:=c5;omega
  refine Zk<|Zt<|Zs<|?_;refine qa9 36 (x.kind < 1∨7 < x.kind∨¬ ¬ ((x.kind=6∧(x.op < 1∨3 < x.op))∨(x.kind=7∧(x.op < 4∨21 < x.op)))) ?_ ?_
  ·refine Zr<|W0 Y5<|Wl 0 Y6<|qa8 Z Z Z<|Zqm Z Z<|?_;refine qai (t:=27) Z ?_ ?_<;>intro c7;·refine Wf Y4<|Wf Y4<|Wf Y4<|ZqT Z Z Z<|Zqm Z Z<|Wf Y4<|Wf Y4<|Wf Y4<|ZqT Z Z Z<|Zn<|?_;refine qab (MidB.mk (Lr D) Sb Z ((decide_eq_true O).symm))
   refine Zg Z Z<|W0 Y5<|Zg Z Z<|Wl 0 Y6<|Zg Z Z<|qbl Z Z Z<|ZqF Z Z Z<|Zqm Z Z<|?_;refine qai (t:=32) Z ?_ ?_<;>intro c8;·refine Wf Y4<|Wf Y4<|Wf Y4<|ZqT Z Z Z<|Zn<|?_;refine qab (MidB.mk (Lr D) Sb Z ((decide_eq_true O).symm))
   refine Zg Z Z<|qad (qao 0 [_,_,_,_,_] Z Z Z Z Z) Z<|Zg Z Z<|Je Z Z Z (qvS D _ _ x A' n' c') fun s9 h9=>Zg Z Z<|qbF Z Z<|ZqF Z Z Z<|Zn<|?_;refine qab (MidB.mk h9 Sb Z (qbp O))
  intro s6 h6;have e6:=e4.t h6;refine qaa Z ?_ ?_<;>intro c10
  ·have hx5:=qyT hn' c10;have hE:wkX x lv ck=(ck+1,5):=by rw [qgl,if_neg g4,if_pos (by rw [hx5];decide),hx5]
   refine Sr<|At Z Z<|Zo<|Zu<|Zc<|Zu<|Zu<|Zc<|Zu<|?_;exact rR [_] _ (.t1 Z) Z e6 fun _ hS2=>qAc
  have g5:=c10;refine Zk<|Zt<|?_;refine qa9 9 (2≤x.kind∧x.kind≤4) ?_ ?_
  ·refine Zr<|W0 Y5<|Wl 0 Y6<|qax Z Z Z<|Zqm Z Z<|?_;refine qai (t:=40) Z ?_ ?_<;>intro c12;·refine Wf Y4<|Wf Y4<|Wf Y4<|ZqT Z Z Z<|Zqm Z Z<|Wf Y4<|Wf Y4<|Wf Y4<|ZqT Z Z Z<|Zqa Z Z<|Zn<|?_;refine qab (MidB.mk (Lr D) Sb Z ((decide_eq_true O).symm))
   refine Zg Z Z<|W0 Y5<|Zg Z Z<|Wl 0 Y6<|Zg Z Z<|qax Z Z Z<|ZqF Z Z Z<|Zqm Z Z<|?_;refine qai (t:=45) Z ?_ ?_<;>intro c13;·refine Wf Y4<|Wf Y4<|Wf Y4<|ZqT Z Z Z<|Zqa Z Z<|Zn<|?_;refine qab (MidB.mk (Lr D) Sb Z ((decide_eq_true O).symm))
   refine Zg Z Z<|W0 Y5<|Zg Z Z<|Wl 0 Y6<|Zg Z Z<|qax Z Z Z<|ZqF Z Z Z<|Zqa Z Z<|Zn<|?_;refine qab (MidB.mk (Lr D) Sb Z (decide_eq_decide.2 O))
  intro s11 h11;have e11:=e6.t h11;refine qa9 10 (x.kind=6∨x.kind=7) ?_ ?_
  ·refine Zr<|W0 Y5<|Wl 0 Y6<|qax Z Z Z<|Zqm Z Z<|?_;refine qai (t:=53) Z ?_ ?_<;>intro c15;·refine Wf Y4<|Wf Y4<|Wf Y4<|ZqT Z Z Z<|Zqa Z Z<|Zn<|?_;refine qab (MidB.mk (Lr D) Sb Z ((decide_eq_true O).symm))
   refine Zg Z Z<|W0 Y5<|Zg Z Z<|Wl 0 Y6<|Zg Z Z<|qax Z Z Z<|ZqF Z Z Z<|Zqa Z Z<|Zn<|?_;refine qab (MidB.mk (Lr D) Sb Z (decide_eq_decide.2 O))
  intro s14 h14;have e14:=e11.t h14;refine Sr<|W0 Y5<|Wl 0 Y6<|Je Z Z Z (qn8 D _ _ x.kind) fun s16 h16=>Zqm Z Z<|Zqx Z Z Z<|Zqx Z Z Z<|Zqa Z Z<|At Z Z<|Zs<|Zp<|?_;have e16:=e14.t h16;refine qa9 64 ((2≤x.kind∧x.kind≤4)∧qaY x.name=false) ?_ ?_
  ·refine Zr<|Zqm Z Z<|Zqm Z Z<|?_;refine qai (t:=66) Z ?_ ?_<;>intro c18;·refine Zg Z Z<|Wb Y5<|Zg Z Z<|Wl 0 Y6<|Zg Z Z<|Je Z Z Z (qfn D _ _ (hG.le e16) x.name) fun s19 h19=>Zg Z Z<|qbF Z Z<|ZqT Z Z Z<|Zqa Z Z<|Zn<|?_;refine qab (MidB.mk h19 Sb Z ((qlO As)))
   refine Wf Y4<|Wf Y4<|Wf Y4<|Wf Y4<|ZqF Z Z Z<|Zqa Z Z<|Zn<|?_;refine qab (MidB.mk (Lr D) Sb Z ((decide_eq_false (fun h=>absurd h.1 As)).symm))
  intro s17 h17;refine qaa Z ?_ ?_<;>intro c20
  ·have hx7:=qyV hn' g5 c20;have hE:wkX x lv ck=(ck+1,7):=by rw [qgl,if_neg g4,if_pos (by rw [hx7];decide),hx7]
   refine Sr<|At Z Z<|Zo<|Zc<|Zu<|Zc<|Zu<|Zu<|Zc<|Zu ?_;exact rR [_] _ (.t1 Z) Z (e16.t h17) fun _ hS2=>qAc
  have g7:=c20;refine qcH (γ:=Unit) (fun _=>[(72,.bool (decide ((¬ (2≤x.kind∧x.kind≤4)∧x.name≠[])∨(x.kind≠1∧x.num≠0)∨(¬ (x.kind=6∨x.kind=7)∧x.op≠0)∨n' < qcJ x.kind∨qep x.kind < n')))]) [_,_] Z (fun g=>L) (fun g tw=>True) (fun _ _ _ h hl=>h) ?_ ?_
  ·refine Sr<|Zqm Z Z<|qbF Z Z<|Zqm Z Z<|?_;refine qaI (t:=75) Z ?_ ?_<;>intro c22
   ·refine Zg Z Z<|Wb Y5<|Zg Z Z<|Wl 0 Y6<|Zg Z Z<|quY Z Z Z<|ZqT Z Z Z<|At Z Z<|?_;refine qaM Z ?_ ?_<;>intro c23;·refine Zk ?_;refine qab (MidG.mk () [] (Lr D) (.cons Kb (.nil _)) So Pr Tt)
    refine Sr<|Zqm Z Z<|qbF Z Z<|Zqm Z Z<|?_;refine qaI (t:=82) Z ?_ ?_<;>intro c24
    ·refine Zg Z Z<|Wb Y5<|Zg Z Z<|Wl 0 Y6<|Zg Z Z<|qcb Z Z Z<|ZqT Z Z Z<|At Z Z<|?_;refine qaM Z ?_ ?_<;>intro c25;·refine Zk ?_;refine qab (MidG.mk () [] (Lr D) (.cons Kb (.nil _)) So Pr Tt)
     refine Sr<|W0 Y5<|Wl 0 Y6<|qcb Z Z Z<|Zqm Z Z<|?_;refine qaI (t:=90) Z ?_ ?_<;>intro c26
     ·refine Zg Z Z<|Wb Y5<|Zg Z Z<|Wl 0 Y6<|Zg Z Z<|qcb Z Z Z<|ZqT Z Z Z<|At Z Z<|?_;refine qaM Z ?_ ?_<;>intro c27;·refine Zk ?_;refine qab (MidG.mk () [] (Lr D) (.cons Kb (.nil _)) So Pr Tt)
      refine Sr<|Wb Y5<|Wl 0 Y6<|Ws Y4<|Zqm Z Z<|qa8 Z Z Z<|At Z Z<|?_;refine qaa Z ?_ ?_<;>intro c28;·refine Zk ?_;refine qab (MidG.mk () [] (Lr D) (.cons Kb (.nil _)) So Pr Tt)
      refine Zr<|Wb Y5<|Wl 0 Y6<|Ws Y4<|Zqm Z Z<|qbl Z Z Z<|Zqa Z Z<|Zn<|?_;refine qab (MidG.mk () [] (Lr D) (.cons Kb (.nil _)) So Pr Tt)
     refine Wf Y4<|Wf Y4<|Wf Y4<|ZqF Z Z Z<|At Z Z<|Zz Z<|Sr<|Wb Y5<|Wl 0 Y6<|Ws Y4<|Zqm Z Z<|qa8 Z Z Z<|At Z Z<|?_;refine qaa Z ?_ ?_<;>intro c29;·refine Zk ?_;refine qab (MidG.mk () [] (Lr D) (.cons Kb (.nil _)) So Pr Tt)
     refine Zr<|Wb Y5<|Wl 0 Y6<|Ws Y4<|Zqm Z Z<|qbl Z Z Z<|Zqa Z Z<|Zn<|?_;refine qab (MidG.mk () [] (Lr D) (.cons Kb (.nil _)) So Pr Tt)
    refine Wf Y4<|Wf Y4<|Wf Y4<|ZqF Z Z Z<|At Z Z<|Zz Z<|Sr<|W0 Y5<|Wl 0 Y6<|qcb Z Z Z<|Zqm Z Z<|?_;refine qaI (t:=90) Z ?_ ?_<;>intro c30
    ·refine Zg Z Z<|Wb Y5<|Zg Z Z<|Wl 0 Y6<|Zg Z Z<|qcb Z Z Z<|ZqT Z Z Z<|At Z Z<|?_;refine qaM Z ?_ ?_<;>intro c31;·refine Zk ?_;refine qab (MidG.mk () [] (Lr D) (.cons Kb (.nil _)) So Pr Tt)
     refine Sr<|Wb Y5<|Wl 0 Y6<|Ws Y4<|Zqm Z Z<|qa8 Z Z Z<|At Z Z<|?_;refine qaa Z ?_ ?_<;>intro c32;·refine Zk ?_;refine qab (MidG.mk () [] (Lr D) (.cons Kb (.nil _)) So Pr Tt)
     refine Zr<|Wb Y5<|Wl 0 Y6<|Ws Y4<|Zqm Z Z<|qbl Z Z Z<|Zqa Z Z<|Zn<|?_;refine qab (MidG.mk () [] (Lr D) (.cons Kb (.nil _)) So Pr Tt)
    refine Wf Y4<|Wf Y4<|Wf Y4<|ZqF Z Z Z<|At Z Z<|Zz Z<|Sr<|Wb Y5<|Wl 0 Y6<|Ws Y4<|Zqm Z Z<|qa8 Z Z Z<|At Z Z<|?_;refine qaa Z ?_ ?_<;>intro c33;·refine Zk ?_;refine qab (MidG.mk () [] (Lr D) (.cons Kb (.nil _)) So Pr Tt)
    refine Zr<|Wb Y5<|Wl 0 Y6<|Ws Y4<|Zqm Z Z<|qbl Z Z Z<|Zqa Z Z<|Zn<|?_;refine qab (MidG.mk () [] (Lr D) (.cons Kb (.nil _)) So Pr Tt)
   refine Wf Y4<|Wf Y4<|Wf Y4<|ZqF Z Z Z<|At Z Z<|Zz Z<|Sr<|Zqm Z Z<|qbF Z Z<|Zqm Z Z ?_;refine qaI (t:=82) Z ?_ ?_<;>intro c34
   ·refine Zg Z Z<|Wb Y5<|Zg Z Z<|Wl 0 Y6<|Zg Z Z<|qcb Z Z Z<|ZqT Z Z Z<|At Z Z<|?_;refine qaM Z ?_ ?_<;>intro c35;·refine Zk ?_;refine qab (MidG.mk () [] (Lr D) (.cons Kb (.nil _)) So Pr Tt)
    refine Sr<|W0 Y5<|Wl 0 Y6<|qcb Z Z Z<|Zqm Z Z<|?_;refine qaI (t:=90) Z ?_ ?_<;>intro c36
    ·refine Zg Z Z<|Wb Y5<|Zg Z Z<|Wl 0 Y6<|Zg Z Z<|qcb Z Z Z<|ZqT Z Z Z<|At Z Z<|?_;refine qaM Z ?_ ?_<;>intro c37;·refine Zk ?_;refine qab (MidG.mk () [] (Lr D) (.cons Kb (.nil _)) So Pr Tt)
     refine Sr<|Wb Y5<|Wl 0 Y6<|Ws Y4<|Zqm Z Z<|qa8 Z Z Z<|At Z Z<|?_;refine qaa Z ?_ ?_<;>intro c38;·refine Zk ?_;refine qab (MidG.mk () [] (Lr D) (.cons Kb (.nil _)) So Pr Tt)
     refine Zr<|Wb Y5<|Wl 0 Y6<|Ws Y4<|Zqm Z Z<|qbl Z Z Z<|Zqa Z Z<|Zn<|?_;refine qab (MidG.mk () [] (Lr D) (.cons Kb (.nil _)) So Pr Tt)
    refine Wf Y4<|Wf Y4<|Wf Y4<|ZqF Z Z Z<|At Z Z<|Zz Z<|Sr<|Wb Y5<|Wl 0 Y6<|Ws Y4<|Zqm Z Z<|qa8 Z Z Z<|At Z Z<|?_;refine qaa Z ?_ ?_<;>intro c39;·refine Zk ?_;refine qab (MidG.mk () [] (Lr D) (.cons Kb (.nil _)) So Pr Tt)
    refine Zr<|Wb Y5<|Wl 0 Y6<|Ws Y4<|Zqm Z Z<|qbl Z Z Z<|Zqa Z Z<|Zn<|?_;refine qab (MidG.mk () [] (Lr D) (.cons Kb (.nil _)) So Pr Tt)
   refine Wf Y4<|Wf Y4<|Wf Y4<|ZqF Z Z Z<|At Z Z<|Zz Z<|Sr<|W0 Y5<|Wl 0 Y6<|qcb Z Z Z<|Zqm Z Z<|?_;refine qaI (t:=90) Z ?_ ?_<;>intro c40
   ·refine Zg Z Z<|Wb Y5<|Zg Z Z<|Wl 0 Y6<|Zg Z Z<|qcb Z Z Z<|ZqT Z Z Z<|At Z Z<|?_;refine qaM Z ?_ ?_<;>intro c41;·refine Zk ?_;refine qab (MidG.mk () [] (Lr D) (.cons Kb (.nil _)) So Pr Tt)
    refine Sr<|Wb Y5<|Wl 0 Y6<|Ws Y4<|Zqm Z Z<|qa8 Z Z Z<|At Z Z<|?_;refine qaa Z ?_ ?_<;>intro c42;·refine Zk ?_;refine qab (MidG.mk () [] (Lr D) (.cons Kb (.nil _)) So Pr Tt)
    refine Zr<|Wb Y5<|Wl 0 Y6<|Ws Y4<|Zqm Z Z<|qbl Z Z Z<|Zqa Z Z<|Zn<|?_;refine qab (MidG.mk () [] (Lr D) (.cons Kb (.nil _)) So Pr Tt)
   refine Wf Y4<|Wf Y4<|Wf Y4<|ZqF Z Z Z<|At Z Z<|Zz Z<|Sr<|Wb Y5<|Wl 0 Y6<|Ws Y4<|Zqm Z Z<|qa8 Z Z Z<|At Z Z<|?_;refine qaa Z ?_ ?_<;>intro c43;·refine Zk ?_;refine qab (MidG.mk () [] (Lr D) (.cons Kb (.nil _)) So Pr Tt)
   refine Zr<|Wb Y5<|Wl 0 Y6<|Ws Y4<|Zqm Z Z<|qbl Z Z Z<|Zqa Z Z<|Zn<|?_;refine qab (MidG.mk () [] (Lr D) (.cons Kb (.nil _)) So Pr Tt)
  intro g s21 h21 I21;have e21:=e16.t h17|>.t h21;simp only [cQ9,nQ9]
         
  refine qaa Z ?_ ?_<;>intro c44
  ·have hx6:=qyU hn' g5 g7 c44;have hE:wkX x lv ck=(ck+1,6):=by rw [qgl,if_neg g4,if_pos (by rw [hx6];decide),hx6]
   refine Sr<|At Z Z<|Zo<|Zc<|Zu<|Zc<|Zu<|Zu<|Zc<|Zu ?_;exact rR [_] _ (.t1 Z) Z e21 fun _ hS2=>qAc
  have hE:wkX x lv ck=qcE x.args (lv+1) (ck+1):=by rw [qgl,if_neg g4,if_neg (by rw [qyS hn' g5 g7 c44];decide)]
  refine Zk<|Zb<|Zt<|Sr<|Zqm Z Z<|Wb Y5<|Wl 0 Y6<|Zqm Z Z<|qad (qaC Z Z (show IntKind.i64.wrap ((lv:Int)+1)=((lv+1:Nat):Int) by rw [w64 O O];simp)) Z<|Jc Z Z Z ((ih e hd).swap L _ (hG.le e21) _ bc (ck+1) (lv+1) A' n' c' x.args (hax.le (h3.t h4|>.t h6|>.t h11|>.t h14|>.t h16|>.t h17|>.t h21)) O O) ?_;rintro _ _ s45 h45 ⟨rfl,rfl⟩;refine At Z Z<|Sr<|Zqm Z Z<|qcb Z Z Z<|Nt<|?_;refine qaM Z ?_ ?_<;>intro c46;·have g0:=c46;refine Sr<|Zqm Z Z<|At Z Z<|Zo<|Zc<|Zu<|Zu<|Zc<|Zu<|?_;refine rR [_] _ (.t1 Z) Z (e21.t h45) fun _ hS2=>?_;rw [hS,qhl hx,hE,if_pos g0];exact ⟨rfl,rfl⟩
  have g0:=c46;refine Zk<|Zb<|Zt<|Zr<|qaD Z Z Z (w64 O O)<|Zqm Z Z<|Zn<|?_;refine qab ⟨(k+1,(qcE x.args (lv+1) (ck+1)).1),[_],kp,Z,⟨(e21.t h45),⟨by simp only;omega,by simp only;have hw:=qf8 x.args (lv+1) (ck+1) g0;rw [hw.2.1];rcases hw.2.2 with h|h<;>omega,by simp only;rw [hS,qhl hx,hE,if_neg (by rw [g0];decide)]⟩⟩,Oz⟩
 rw [List.drop_eq_nil_of_le O,qcE] at hS;refine Zl<|Zv<|Zv<|Zd<|Zt<|Sr<|At Z Z<|Zo<|?_;refine rR [] _ (.t1 Z) Z I1.1 fun _ hS2=>?_;rw [hS];exact ⟨rfl,rfl⟩
def cxc(D:Nat):∀ d,CXC D d
 | 0=>fun L s hG bc c lv A n cc l hA hc hlv=>qgU D 0 (fun e h=>by omega) L s hG bc c lv A n cc l hA hc hlv
 | d+1=>fun L s hG bc c lv A n cc l hA hc hlv=>qgU D (d+1) (fun e h=>(show d=e by omega)▸cxc D d) L s hG bc c lv A n cc l hA hc hlv
def qd7(x:Stm)(lv c:Nat):wkS x lv c=if 16 < lv∨2000 < c+1 then (c+1,2) else if stC x.kind x.name x.exprs.length x.body.length x.els.length≠0 then (c+1,stC x.kind x.name x.exprs.length x.body.length x.els.length)
  else if (qcE x.exprs 1 (c+1)).2≠0 then qcE x.exprs 1 (c+1) else if (qci x.body (lv+1) (qcE x.exprs 1 (c+1)).1).2≠0 then qci x.body (lv+1) (qcE x.exprs 1 (c+1)).1 else qci x.els (lv+1) (qci x.body (lv+1) (qcE x.exprs 1 (c+1)).1).1:=by
 cases x;rfl
def qfa{l:List Stm}{k:Nat}{x:Stm}(h:l[k]?=some x)(lv c:Nat):qci (l.drop k) lv c=if (wkS x lv c).2≠0 then wkS x lv c else qci (l.drop (k+1)) lv (wkS x lv c).1:=by
 obtain ⟨hk,rfl⟩:=List.getElem?_eq_some_iff.1 h;rw [List.drop_eq_getElem_cons hk,qci]
def wkP(x:Stm)(lv c:Nat)(j:Nat):Nat×Int:=if j=0 then (if (qci x.body (lv+1) c).2≠0 then qci x.body (lv+1) c else qci x.els (lv+1) (qci x.body (lv+1) c).1) else if j=1 then qci x.els (lv+1) c else (c,0)
section
variable{x:Stm}{n1 n2 n3:Nat}(hn1:n1=x.exprs.length)(hn2:n2=x.body.length)(hn3:n3=x.els.length)
def qzN{a b c:Nat}(h:x.kind < 1∨10 < x.kind):stC x.kind x.name a b c=5:=by rw [stC,if_pos h]
variable(g5:¬ (x.kind < 1∨10 < x.kind))
include g5
def qzP{a b c:Nat}(h:qda x.kind=true∧qaY x.name=false):stC x.kind x.name a b c=7:=by rw [stC,if_neg g5,if_pos h]
variable(g7:¬ (qda x.kind=true∧qaY x.name=false))
include g7 hn1 hn2 hn3
def qzO(h:(qda x.kind=false∧x.name≠[])∨(¬ (x.kind=3∨x.kind=4)∧0 < n2)∨(¬ x.kind=3∧0 < n3)∨n1 < qdu x.kind∨qd0 x.kind < n1):stC x.kind x.name x.exprs.length x.body.length x.els.length=6:=by
 rw [stC,if_neg g5,if_neg g7,if_pos];rcases h with h|h|h|h|h
 · exact .inl h
 · exact .inr (.inr (.inr (.inl ⟨by omega,by omega,by omega⟩)))
 · exact .inr (.inr (.inr (.inr ⟨by omega,by omega⟩)))
 · exact .inr (.inl O)
 · exact .inr (.inr (.inl O))
def qzM(h:¬ ((qda x.kind=false∧x.name≠[])∨(¬ (x.kind=3∨x.kind=4)∧0 < n2)∨(¬ x.kind=3∧0 < n3)∨n1 < qdu x.kind∨qd0 x.kind < n1)):stC x.kind x.name x.exprs.length x.body.length x.els.length=0:=by
 rw [stC,if_neg g5,if_neg g7,if_neg];intro k;refine h ?_;rcases k with k|k|k|k|k
 · exact .inl k
 · exact .inr (.inr (.inr (.inl O)))
 · exact .inr (.inr (.inr (.inr O)))
 · exact .inr (.inl ⟨by omega,by omega⟩)
 · exact .inr (.inr (.inl ⟨by omega,by omega⟩))
end
def CSC(D d:Nat):Prop:=∀ (L:Hl) (s:World),GP s→∀ (bc c lv:Nat) (A:Option Addr) (n cc:Nat) (l:List Stm),Stms d s A n cc l→c≤2000→lv≤17→AC prog D 101 [.pointer (some ⟨bc,0,none⟩),.slice A n cc,.int .i64 (lv:Int)] ((bc,cb [.int .i64 (c:Int)] 152)::L) s fun v L' _=>v=.int .i64 (qci l lv c).2∧L'=(bc,cb [.int .i64 ((qci l lv c).1:Int)] 152)::L
def CSC.swap{D d:Nat}(h:CSC D d)(L:Hl)(s:World)(hG:GP s)(y:Nat×Obj)(bc c lv:Nat)(A:Option Addr)(n cc:Nat)(l:List Stm)(hA:Stms d s A n cc l)(hc:c≤2000)(hlv:lv≤17):AC prog D 101 [.pointer (some ⟨bc,0,none⟩),.slice A n cc,.int .i64 (lv:Int)] (y::(bc,cb [.int .i64 (c:Int)] 152)::L) s fun v L' _=>v=.int .i64 (qci l lv c).2∧L'=y::(bc,cb [.int .i64 ((qci l lv c).1:Int)] 152)::L:=
 AC.perm (List.Perm.swap ..) (h (y::L) s hG bc c lv A n cc l hA hc hlv) fun v L1 s1 ⟨g0,h1⟩=>⟨_,by rw [h1];exact List.Perm.swap ..,g0,rfl⟩
def qxI(x:Stm)(lv c:Nat):wkP x lv c 0=if (qci x.body (lv+1) c).2≠0 then qci x.body (lv+1) c else wkP x lv (qci x.body (lv+1) c).1 1:=rfl
def qz6(x:Stm)(lv c:Nat):wkP x lv c 1=qci x.els (lv+1) c:=rfl
def qz7(x:Stm)(lv c:Nat):wkP x lv c 2=(c,0):=rfl
def quv(x:Stm)(lv c:Nat)(h:(qci x.els (lv+1) c).2=0):wkP x lv c 1=wkP x lv (qci x.els (lv+1) c).1 2:=by rw [qz6,qz7,← h]
def qAd{p:Prop} (h:p:=by
 rw [hS,qfa hx,hE,if_pos (by simp;done)];exact ⟨rfl,rfl⟩):p:=h
def qhG(D d:Nat)(ih:∀ e,d=e+1→CSC D e)(L:Hl)(s:World)(hG:GP s)(bc c lv:Nat)(A:Option Addr)(n cc:Nat)(l:List Stm)(hA:Stms d s A n cc l)(hc:c≤2000)(hlv:lv≤17):AC prog D 101 [.pointer (some ⟨bc,0,none⟩),.slice A n cc,.int .i64 (lv:Int)] ((bc,cb [.int .i64 (c:Int)] 152)::L) s fun v L' _=>v=.int .i64 (qci l lv c).2∧L'=(bc,cb [.int .i64 ((qci l lv c).1:Int)] 152)::L:=by
 have hn:=hA.1;have hc1:=hA.2.1;have hc2:=hA.2.2.1;refine qae (fn:=f101) qav func101 V Z ntmps101 Z (rs:=[.tmp 6]) Z [(0,_),(1,_),(2,_)] Z<|Sr<|At Z Z<|Zs<|Sr<|Zqm Z Z<|Ws Y4<|Zqm Z Z<|Nt<|Zp<|?_;refine qaA (γ:=Nat×Nat) (fun g=>[(0,_),(2,_),(6,_),(18,_),(19,_),(20,.int .i64 (g.1:Int))]) (fun g=>(bc,cb [.int .i64 (g.2:Int)] 152)::L) (fun g tw=>Le D s tw∧(g.1≤n∧g.2≤2000∧qci l lv c=qci (l.drop g.1) lv g.2)) (fun g=>n - g.1) (fun _ _ _ h hl=>⟨h.1.trans hl,h.2⟩) (0,c) (.c6 Z Z Z Z Z Z (.nil _)) Z ⟨Le.refl _,⟨Nat.zero_le _,hc,Z⟩⟩ ?_;intro g s1 I1;obtain ⟨k,ck⟩:=g;obtain ⟨hk0,hck,hS⟩:=I1.2;simp only at hk0 hck hS;dsimp only;refine Sr<|qa8 Z Z Z<|Nt<|Zs<|?_;refine qaa Z ?_ ?_<;>intro c2
 ·have hk:k < n:=by omega
  obtain ⟨e,b,off,x,A1,n1,c1,A2,n2,c2,A3,n3,c3,hd,rfl,hx,hcx,hax,hbx,hex,hnl⟩:=Stms.at_ (hA.le I1.1) hk;have hn1:=hax.1;have hn2:=hbx.1;have hn3:=hex.1;refine Zk<|Zt<|Zs<|Zp<|Sr<|qad (qau Z Z Z Z Z Z hk) Z<|qad (qaw Z Z Z (hcx.le (Lr D)) Z) Z<|qag Z [_,_,_,_,_] Z Z fun β3 s3 h3=>Wt 0 [_,_,_,_,_] Y9<|Nt<|Zs<|Sr<|Zqm Z Z<|Zqm Z Z<|Jc Z Z Z (qjr D L _ _ bc ck lv hck) ?_;have e3:=I1.1.t h3;rintro _ _ s4 h4 ⟨rfl,rfl⟩;have e4:=e3.t h4;refine qbF Z Z<|Nt<|?_;refine qaM Z ?_ ?_<;>intro c5
  ·have g4:16 < lv∨2000 < ck+1:=by have:=c5;omega
   have hE:wkS x lv ck=(ck+1,2):=by rw [qd7,if_pos g4]
   refine Sr<|At Z Z<|Zo<|Zu<|Zc<|Zu<|Zu<|Zc<|Zu<|?_;exact rR [_] _ (.t1 Z) Z e4 fun _ hS2=>qAd
  have g4:¬ (16 < lv∨2000 < ck+1):=by have:=c5;omega
  refine Zk<|Zt<|Zs<|?_;refine qa9 35 (x.kind < 1∨10 < x.kind) ?_ ?_
  ·refine Zr<|W0 Y5<|Wl 0 Y6<|qa8 Z Z Z<|Zqm Z Z<|?_;refine qai (t:=31) Z ?_ ?_<;>intro c7;·refine Wf Y4<|Wf Y4<|Wf Y4<|ZqT Z Z Z<|Zn<|?_;refine qab (MidB.mk (Lr D) Sb Z ((decide_eq_true O).symm))
   refine Zg Z Z<|W0 Y5<|Zg Z Z<|Wl 0 Y6<|Zg Z Z<|qbl Z Z Z<|ZqF Z Z Z<|Zn<|?_;refine qab (MidB.mk (Lr D) Sb Z (decide_eq_decide.2 O))
  intro s6 h6;have e6:=e4.t h6;refine qaa Z ?_ ?_<;>intro c8
  ·have hx5:=qzN (x:=x) (a:=x.exprs.length) (b:=x.body.length) (c:=x.els.length) c8;have hE:wkS x lv ck=(ck+1,5):=by rw [qd7,if_neg g4,if_pos (by rw [hx5];decide),hx5]
   refine Sr<|At Z Z<|Zo<|Zu<|Zc<|Zu<|Zu<|Zc<|Zu<|?_;exact rR [_] _ (.t1 Z) Z e6 fun _ hS2=>qAd
  have g5:=c8;refine Zk<|Zt<|Sr<|W0 Y5<|Wl 0 Y6<|Je Z Z Z (qpw D _ _ x.kind O O) fun s9 h9=>Zqm Z Z<|Zqx Z Z Z<|Zqx Z Z Z<|Zqx Z Z Z<|Zqx Z Z Z<|Zqx Z Z Z<|Zqa Z Z<|Zqa Z Z<|Zqa Z Z<|Zqa Z Z<|At Z Z<|Zs<|Zp<|?_;have e9:=e6.t h9;refine qa9 45 (qda x.kind=true∧qaY x.name=false) ?_ ?_
  ·refine Zr<|Zqm Z Z<|Zqm Z Z<|?_;refine qeV (t:=47) Z ?_ ?_<;>intro c11;·refine Zg Z Z<|Wb Y5<|Zg Z Z<|Wl 0 Y6<|Zg Z Z<|Je Z Z Z (qfn D _ _ (hG.le e9) x.name) fun s12 h12=>Zg Z Z<|qbF Z Z<|ZqT Z Z Z<|Zqa Z Z<|Zn<|?_;refine qab (MidB.mk h12 Sb Z ((qlO As)))
   refine Wf Y4<|Wf Y4<|Wf Y4<|Wf Y4<|ZqF Z Z Z<|Zqa Z Z<|Zn<|?_;refine qab (MidB.mk (Lr D) Sb Z ((decide_eq_false (fun h=>absurd h.1 (by simp [*]))).symm))
  intro s10 h10;have e10:=h3.t h4|>.t h6|>.t h9|>.t h10;refine qaa Z ?_ ?_<;>intro c13
  ·have hx7:=qzP (a:=x.exprs.length) (b:=x.body.length) (c:=x.els.length) g5 c13;have hE:wkS x lv ck=(ck+1,7):=by rw [qd7,if_neg g4,if_pos (by rw [hx7];decide),hx7]
   refine Sr<|At Z Z<|Zo<|Zc<|Zu<|Zc<|Zu<|Zu<|Zc<|Zu ?_;exact rR [_] _ (.t1 Z) Z (e9.t h10) fun _ hS2=>qAd
  have g7:=c13;refine qcH (γ:=Unit) (fun _=>[(53,.bool (decide ((qda x.kind=false∧x.name≠[])∨(¬ (x.kind=3∨x.kind=4)∧0 < n2)∨(¬ x.kind=3∧0 < n3)∨n1 < qdu x.kind∨qd0 x.kind < n1)))]) [_,_] Z (fun g=>L) (fun g tw=>True) (fun _ _ _ h hl=>h) ?_ ?_
  ·refine Sr<|Zqm Z Z<|qbF Z Z<|Zqm Z Z<|?_;refine qdQ (t:=56) Z ?_ ?_<;>intro c15
   ·refine Zg Z Z<|Wb Y5<|Zg Z Z<|Wl 0 Y6<|Zg Z Z<|quY Z Z Z<|ZqT Z Z Z<|At Z Z<|?_;refine qaM Z ?_ ?_<;>intro c16;·refine Zk ?_;refine qab (MidG.mk () [] (Lr D) (.cons Kb (.nil _)) So Pr Tt)
    refine Sr<|Zqm Z Z<|qbF Z Z<|Zqm Z Z<|?_;refine qaI (t:=63) Z ?_ ?_<;>intro c17
    ·refine Zg Z Z<|Wb Y5<|Zg Z Z<|Wl 0 Y6<|Zg Z Z<|Ws Y4<|Zg Z Z<|qbl Z Z Z<|ZqT Z Z Z<|At Z Z<|?_;refine qaa Z ?_ ?_<;>intro c18;·refine Zk ?_;refine qab (MidG.mk () [] (Lr D) (.cons Kb (.nil _)) So Pr Tt)
     refine Sr<|Zqm Z Z<|qbF Z Z<|Zqm Z Z<|?_;refine qaI (t:=71) Z ?_ ?_<;>intro c19
     ·refine Zg Z Z<|Wb Y5<|Zg Z Z<|Wl 0 Y6<|Zg Z Z<|Ws Y4<|Zg Z Z<|qbl Z Z Z<|ZqT Z Z Z<|At Z Z<|?_;refine qaa Z ?_ ?_<;>intro c20;·refine Zk ?_;refine qab (MidG.mk () [] (Lr D) (.cons Kb (.nil _)) So Pr Tt)
      refine Sr<|Wb Y5<|Wl 0 Y6<|Ws Y4<|Zqm Z Z<|qa8 Z Z Z<|At Z Z<|?_;refine qaa Z ?_ ?_<;>intro c21;·refine Zk ?_;refine qab (MidG.mk () [] (Lr D) (.cons Kb (.nil _)) So Pr Tt)
      refine Zr<|Wb Y5<|Wl 0 Y6<|Ws Y4<|Zqm Z Z<|qbl Z Z Z<|Zqa Z Z<|Zn<|?_;refine qab (MidG.mk () [] (Lr D) (.cons Kb (.nil _)) So Pr Tt)
     refine Wf Y4<|Wf Y4<|Wf Y4<|Wf Y4<|ZqF Z Z Z<|At Z Z<|Zz Z<|Sr<|Wb Y5<|Wl 0 Y6<|Ws Y4<|Zqm Z Z<|qa8 Z Z Z<|At Z Z<|?_;refine qaa Z ?_ ?_<;>intro c22;·refine Zk ?_;refine qab (MidG.mk () [] (Lr D) (.cons Kb (.nil _)) So Pr Tt)
     refine Zr<|Wb Y5<|Wl 0 Y6<|Ws Y4<|Zqm Z Z<|qbl Z Z Z<|Zqa Z Z<|Zn<|?_;refine qab (MidG.mk () [] (Lr D) (.cons Kb (.nil _)) So Pr Tt)
    refine Wf Y4<|Wf Y4<|Wf Y4<|Wf Y4<|ZqF Z Z Z<|At Z Z<|Zz Z<|Sr<|Zqm Z Z<|qbF Z Z<|Zqm Z Z<|?_;refine qaI (t:=71) Z ?_ ?_<;>intro c23
    ·refine Zg Z Z<|Wb Y5<|Zg Z Z<|Wl 0 Y6<|Zg Z Z<|Ws Y4<|Zg Z Z<|qbl Z Z Z<|ZqT Z Z Z<|At Z Z<|?_;refine qaa Z ?_ ?_<;>intro c24;·refine Zk ?_;refine qab (MidG.mk () [] (Lr D) (.cons Kb (.nil _)) So Pr Tt)
     refine Sr<|Wb Y5<|Wl 0 Y6<|Ws Y4<|Zqm Z Z<|qa8 Z Z Z<|At Z Z<|?_;refine qaa Z ?_ ?_<;>intro c25;·refine Zk ?_;refine qab (MidG.mk () [] (Lr D) (.cons Kb (.nil _)) So Pr Tt)
     refine Zr<|Wb Y5<|Wl 0 Y6<|Ws Y4<|Zqm Z Z<|qbl Z Z Z<|Zqa Z Z<|Zn<|?_;refine qab (MidG.mk () [] (Lr D) (.cons Kb (.nil _)) So Pr Tt)
    refine Wf Y4<|Wf Y4<|Wf Y4<|Wf Y4<|ZqF Z Z Z<|At Z Z<|Zz Z<|Sr<|Wb Y5<|Wl 0 Y6<|Ws Y4<|Zqm Z Z<|qa8 Z Z Z<|At Z Z<|?_;refine qaa Z ?_ ?_<;>intro c26;·refine Zk ?_;refine qab (MidG.mk () [] (Lr D) (.cons Kb (.nil _)) So Pr Tt)
    refine Zr<|Wb Y5<|Wl 0 Y6<|Ws Y4<|Zqm Z Z<|qbl Z Z Z<|Zqa Z Z<|Zn<|?_;refine qab (MidG.mk () [] (Lr D) (.cons Kb (.nil _)) So Pr Tt)
   refine Wf Y4<|Wf Y4<|Wf Y4<|ZqF Z Z Z<|At Z Z<|Zz Z<|Sr<|Zqm Z Z<|qbF Z Z<|Zqm Z Z ?_;refine qaI (t:=63) Z ?_ ?_<;>intro c27
   ·refine Zg Z Z<|Wb Y5<|Zg Z Z<|Wl 0 Y6<|Zg Z Z<|Ws Y4<|Zg Z Z<|qbl Z Z Z<|ZqT Z Z Z<|At Z Z<|?_;refine qaa Z ?_ ?_<;>intro c28;·refine Zk ?_;refine qab (MidG.mk () [] (Lr D) (.cons Kb (.nil _)) So Pr Tt)
    refine Sr<|Zqm Z Z<|qbF Z Z<|Zqm Z Z<|?_;refine qaI (t:=71) Z ?_ ?_<;>intro c29
    ·refine Zg Z Z<|Wb Y5<|Zg Z Z<|Wl 0 Y6<|Zg Z Z<|Ws Y4<|Zg Z Z<|qbl Z Z Z<|ZqT Z Z Z<|At Z Z<|?_;refine qaa Z ?_ ?_<;>intro c30;·refine Zk ?_;refine qab (MidG.mk () [] (Lr D) (.cons Kb (.nil _)) So Pr Tt)
     refine Sr<|Wb Y5<|Wl 0 Y6<|Ws Y4<|Zqm Z Z<|qa8 Z Z Z<|At Z Z<|?_;refine qaa Z ?_ ?_<;>intro c31;·refine Zk ?_;refine qab (MidG.mk () [] (Lr D) (.cons Kb (.nil _)) So Pr Tt)
     refine Zr<|Wb Y5<|Wl 0 Y6<|Ws Y4<|Zqm Z Z<|qbl Z Z Z<|Zqa Z Z<|Zn<|?_;refine qab (MidG.mk () [] (Lr D) (.cons Kb (.nil _)) So Pr Tt)
    refine Wf Y4<|Wf Y4<|Wf Y4<|Wf Y4<|ZqF Z Z Z<|At Z Z<|Zz Z<|Sr<|Wb Y5<|Wl 0 Y6<|Ws Y4<|Zqm Z Z<|qa8 Z Z Z<|At Z Z<|?_;refine qaa Z ?_ ?_<;>intro c32;·refine Zk ?_;refine qab (MidG.mk () [] (Lr D) (.cons Kb (.nil _)) So Pr Tt)
    refine Zr<|Wb Y5<|Wl 0 Y6<|Ws Y4<|Zqm Z Z<|qbl Z Z Z<|Zqa Z Z<|Zn<|?_;refine qab (MidG.mk () [] (Lr D) (.cons Kb (.nil _)) So Pr Tt)
   refine Wf Y4<|Wf Y4<|Wf Y4<|Wf Y4<|ZqF Z Z Z<|At Z Z<|Zz Z<|Sr<|Zqm Z Z<|qbF Z Z<|Zqm Z Z<|?_;refine qaI (t:=71) Z ?_ ?_<;>intro c33
   ·refine Zg Z Z<|Wb Y5<|Zg Z Z<|Wl 0 Y6<|Zg Z Z<|Ws Y4<|Zg Z Z<|qbl Z Z Z<|ZqT Z Z Z<|At Z Z<|?_;refine qaa Z ?_ ?_<;>intro c34;·refine Zk ?_;refine qab (MidG.mk () [] (Lr D) (.cons Kb (.nil _)) So Pr Tt)
    refine Sr<|Wb Y5<|Wl 0 Y6<|Ws Y4<|Zqm Z Z<|qa8 Z Z Z<|At Z Z<|?_;refine qaa Z ?_ ?_<;>intro c35;·refine Zk ?_;refine qab (MidG.mk () [] (Lr D) (.cons Kb (.nil _)) So Pr Tt)
    refine Zr<|Wb Y5<|Wl 0 Y6<|Ws Y4<|Zqm Z Z<|qbl Z Z Z<|Zqa Z Z<|Zn<|?_;refine qab (MidG.mk () [] (Lr D) (.cons Kb (.nil _)) So Pr Tt)
   refine Wf Y4<|Wf Y4<|Wf Y4<|Wf Y4<|ZqF Z Z Z<|At Z Z<|Zz Z<|Sr<|Wb Y5<|Wl 0 Y6<|Ws Y4<|Zqm Z Z<|qa8 Z Z Z<|At Z Z<|?_;refine qaa Z ?_ ?_<;>intro c36;·refine Zk ?_;refine qab (MidG.mk () [] (Lr D) (.cons Kb (.nil _)) So Pr Tt)
   refine Zr<|Wb Y5<|Wl 0 Y6<|Ws Y4<|Zqm Z Z<|qbl Z Z Z<|Zqa Z Z<|Zn<|?_;refine qab (MidG.mk () [] (Lr D) (.cons Kb (.nil _)) So Pr Tt)
  intro g s14 h14 I14;have e14:=e9.t h10|>.t h14;simp only [cQ9,nQ9]
       
  refine qaa Z ?_ ?_<;>intro c37
  ·have hx6:=qzO hn1 hn2 hn3 g5 g7 c37;have hE:wkS x lv ck=(ck+1,6):=by rw [qd7,if_neg g4,if_pos (by rw [hx6];decide),hx6]
   refine Sr<|At Z Z<|Zo<|Zc<|Zu<|Zc<|Zu<|Zu<|Zc<|Zu ?_;exact rR [_] _ (.t1 Z) Z e14 fun _ hS2=>qAd
  have hx0:=qzM hn1 hn2 hn3 g5 g7 c37;refine Zk<|Zb<|Zt<|Zs<|Sr<|Zqm Z Z<|Wb Y5<|Wl 0 Y6<|Jc Z Z Z ((cxc D e).swap L _ (hG.le e14) _ bc (ck+1) 1 A1 n1 c1 x.exprs (hax.le (e10.t h14)) O O) ?_;rintro _ _ s38 h38 ⟨rfl,rfl⟩;have e38:=e14.t h38;refine At Z Z<|Sr<|Zqm Z Z<|qcb Z Z Z<|Nt<|?_;refine qaM Z ?_ ?_<;>intro c39
  ·have g0:=c39;have hE:wkS x lv ck=qcE x.exprs 1 (ck+1):=by rw [qd7,if_neg g4,if_neg (by rw [hx0];decide),if_pos g0]
   refine Sr<|Zqm Z Z<|At Z Z<|Zo<|Zu<|Zc<|Zu<|Zu<|Zc<|Zu ?_;refine rR [_] _ (.t1 Z) Z e38 fun _ hS2=>?_;rw [hS,qfa hx,hE,if_pos g0];exact ⟨rfl,rfl⟩
  have g0:=c39;have hE:wkS x lv ck=wkP x lv (qcE x.exprs 1 (ck+1)).1 0:=by rw [qd7,if_neg g4,if_neg (by rw [hx0];decide),if_neg (by simpa using g0)];rfl
  have hw0:=qf8 x.exprs 1 (ck+1) g0;have hcx0:(qcE x.exprs 1 (ck+1)).1≤2000:=by rw [hw0.2.1];rcases hw0.2.2 with h|h<;>omega
  refine Zk<|Zt<|Sr<|Wb Y5<|Wl 0 Y6<|Wb Y5<|Wl 0 Y6<|qa4 [(_,_),(_,_)] [_,_] Z Z Z Z Z Z Z Z Z fun βp s40 h40 hcp=>Ws Y4<|Zqm Z Z<|Nt<|Zp<|?_;have e40:=e10.t h14|>.t h38|>.t h40;refine qbV [_] (γ:=Nat×Nat) (fun g=>[(0,_),(2,_),(6,_),(18,_),(19,_),(20,_),(98,_),(99,_),(100,.int .i64 (g.1:Int))]) (fun g=>(bc,cb [.int .i64 (g.2:Int)] 152)::L) (fun g tw=>Le D s40 tw∧(g.1≤2∧g.2≤2000∧wkP x lv (qcE x.exprs 1 (ck+1)).1 0=wkP x lv g.2 g.1)) (fun g=>2 - g.1) (fun _ _ _ h hl=>⟨h.1.trans hl,h.2⟩) (0,(qcE x.exprs 1 (ck+1)).1) (.c6 Z Z Z Z Z Z (.c3 Z Z Z (.nil _))) Z ⟨Le.refl _,⟨Nat.zero_le _,hcx0,Z⟩⟩ ?_;intro g s41 I41;have e41:=e38.t h40|>.t I41.1;simp only [cQ9,nQ9];obtain ⟨j,cj⟩:=g;obtain ⟨hj0,hcj,hP⟩:=I41.2;simp only at hj0 hcj hP;dsimp only;refine Sr<|qa8 Z Z Z<|Nt<|Zs<|?_;refine qaa Z ?_ ?_<;>intro c42
  ·have hj2:j < 2:=by omega
   refine Zk<|Zt<|Zs<|Zp<|Zs<|?_;rcases (show j=0∨j=1 by omega) with rfl|rfl
   ·refine Zr<|qad (qaU Z Z Z Z Z Z O) Z<|qad (qaq Z Z Z (hcp.le I41.1) Z) Z<|At Z Z<|Sr<|Zqm Z Z<|Zqm Z Z<|Zqm Z Z<|qad (qaC Z Z (show IntKind.i64.wrap ((lv:Int)+1)=((lv+1:Nat):Int) by rw [w64 O O];simp)) Z<|Jc Z Z Z ((ih e hd).swap L _ (hG.le e41) _ bc cj (lv+1) A2 n2 c2 x.body (hbx.le (e40.t I41.1)) hcj O) ?_;rintro _ _ s43 h43 ⟨rfl,rfl⟩;refine At Z Z<|Sr<|Zqm Z Z<|qcb Z Z Z<|Nt<|?_;refine qaM Z ?_ ?_<;>intro c44;·have hz:=c44;refine Sr<|Zqm Z Z<|At Z Z<|Zo<|Zc<|Zu<|Zu<|Zc<|Zc<|Zu<|Zu<|Zc<|Zu<|?_;refine rR [_] _ (.t1 Z) Z (e41.t h43) fun _ hS2=>?_;rw [hS,qfa hx,hE,hP,qxI,if_pos hz,if_pos hz];exact ⟨rfl,rfl⟩
    have hz:=c44;refine Zk<|Zb<|Zt<|Zr<|qaD Z Z Z (w64 O O)<|Zqm Z Z<|Zn<|?_;refine qab ⟨(1,(qci x.body (lv+1) cj).1),[],kp,Z,⟨(I41.1.t h43),by first|exact ⟨by simp only;omega,by simp only;have hw:=qd5 x.body (lv+1) cj hz;rw [hw.2.1];rcases hw.2.2 with h|h<;>omega,by simp only;rw [hP,qxI,if_neg (by rw [hz];decide)]⟩|exact ⟨by simp only;omega,by simp only;have hw:=qd5 x.els (lv+1) cj hz;rw [hw.2.1];rcases hw.2.2 with h|h<;>omega,by simp only;rw [hP,quv _ _ _ hz]⟩⟩,Oz⟩
   refine Zr<|qad (qaU Z Z Z Z Z Z O) Z<|qad (qaF 1 Z Z Z (hcp.le I41.1) Z) Z<|At Z Z<|Sr<|Zqm Z Z<|Zqm Z Z<|Zqm Z Z<|qad (qaC Z Z (show IntKind.i64.wrap ((lv:Int)+1)=((lv+1:Nat):Int) by rw [w64 O O];simp)) Z<|Jc Z Z Z ((ih e hd).swap L _ (hG.le e41) _ bc cj (lv+1) A3 n3 c3 x.els (hex.le (e40.t I41.1)) hcj O) ?_;rintro _ _ s45 h45 ⟨rfl,rfl⟩;refine At Z Z<|Sr<|Zqm Z Z<|qcb Z Z Z<|Nt<|?_;refine qaM Z ?_ ?_<;>intro c46;·have hz:=c46;refine Sr<|Zqm Z Z<|At Z Z<|Zo<|Zc<|Zu<|Zu<|Zc<|Zc<|Zu<|Zu<|Zc<|Zu<|?_;refine rR [_] _ (.t1 Z) Z (e41.t h45) fun _ hS2=>?_;rw [hS,qfa hx,hE,hP,qz6,if_pos hz];exact ⟨rfl,rfl⟩
   have hz:=c46;refine Zk<|Zb<|Zt<|Zr<|qaD Z Z Z (w64 O O)<|Zqm Z Z<|Zn<|?_;refine qab ⟨(2,(qci x.els (lv+1) cj).1),[],kp,Z,⟨(I41.1.t h45),by first|exact ⟨by simp only;omega,by simp only;have hw:=qd5 x.body (lv+1) cj hz;rw [hw.2.1];rcases hw.2.2 with h|h<;>omega,by simp only;rw [hP,qxI,if_neg (by rw [hz];decide)]⟩|exact ⟨by simp only;omega,by simp only;have hw:=qd5 x.els (lv+1) cj hz;rw [hw.2.1];rcases hw.2.2 with h|h<;>omega,by simp only;rw [hP,quv _ _ _ hz]⟩⟩,Oz⟩
  obtain rfl:j=2:=by omega
  rw [qz7] at hP;refine Zl<|Zv<|Zv<|Zd<|Zb<|Zt<|Zr<|qaD Z Z Z (w64 O O)<|Zqm Z Z<|Zn<|?_;refine qab ⟨(k+1,cj),[_],kp,Z,⟨e41,⟨by simp only;omega,hcj,by simp only;rw [hS,qfa hx,hE,hP,if_neg (by simp)]⟩⟩,Oz⟩
 rw [List.drop_eq_nil_of_le O,qci] at hS;refine Zl<|Zv<|Zv<|Zd<|Zt<|Sr<|At Z Z<|Zo<|?_;refine rR [] _ (.t1 Z) Z I1.1 fun _ hS2=>?_;rw [hS];exact ⟨rfl,rfl⟩
def csc(D:Nat):∀ d,CSC D d
 | 0=>fun L s hG bc c lv A n cc l hA hc hlv=>qhG D 0 (fun e h=>by omega) L s hG bc c lv A n cc l hA hc hlv
 | d+1=>fun L s hG bc c lv A n cc l hA hc hlv=>qhG D (d+1) (fun e h=>(show d=e by omega)▸csc D d) L s hG bc c lv A n cc l hA hc hlv
end Go.Proofs.YtflplmcjbppfcaaGreatDoor
namespace Go.FL
open Go Go.RowKit
section
variable{P:Program}{TT:qa5}{D:Nat}{fr:Fr}{ty:Nat}{K:Hl}{s0:World}{v:Value}
def qoS{xs ys:List Value}{k:Nat}{v:Value}(h:xs[k]?=some v):nth (xs++ys) (0+k)=some v:=by
 rw [qeq,Nat.zero_add,List.getElem?_append_left (List.getElem?_eq_some_iff.1 h).1,h]
def qg6{e:Nat}{A:Hl}{n:Nat}{xs:List Value}(h:FL.Own e 1 A v n xs)(h0:0 < n):∃ b cap ys,A=[(b,cb (xs++ys) e)]∧v=.slice (some ⟨b,0,none⟩) n cap∧xs.length=n∧xs.length+ys.length=cap∧cap≤9223372036854775807:=by
 cases h with
 | nil=>cases h0
 | blk b cap n xs ys hn hc hnc hm=>exact ⟨b,cap,ys,rfl,rfl,by simpa using hn,by simpa using hc,hm⟩
end
end Go.FL
namespace Go.Proofs.YtflplmcjbppfcaaGreatDoor
open Go Go.FL
def qil:∀ {l:List Ex},(∀ x∈l,exU x=true)→qiT l=true
 | [],_=>rfl
 | x::r,h=>by simp only [qiT,h x Mc,qil fun y hy=>h y (List.mem_cons_of_mem _ hy),Bool.and_self]
def qgH:∀ {l:List Stm},(∀ x∈l,stU x=true)→qgG l=true
 | [],_=>rfl
 | x::r,h=>by simp only [qgG,h x Mc,qgH fun y hy=>h y (List.mem_cons_of_mem _ hy),Bool.and_self]
def Sl.all{α:Type}{sz:Nat}{R:World→α→List Value→Prop}{s:World}{A:Option Addr}{n c:Nat}{l:List α}{p:α→Prop}(h:Sl sz R s A n c l)(hR:∀ x cs,R s x cs→p x):∀ x∈l,p x:=fun x hx=>by
 obtain ⟨i,hi⟩:=List.getElem?_of_mem hx;obtain ⟨_,_,_,_,_,_,h4⟩:=h.2.2.2 i x hi;exact hR _ _ h4
def ExR.u{s:World}:∀ {d:Nat} {x:Ex} {cs:List Value},ExR d s x cs→exU x=true
 | 0,_,_,h=>h.elim
 | d+1,.mk k o n nm az,_,⟨A,m,c,_,h2,h3,_⟩=>by
  have h:=qil (Sl.all (p:=fun x=>exU x=true) h2 fun x cs hx=>ExR.u hx);have h':qiT az=true:=h;simp only [exU,h',Bool.and_true,decide_eq_true_eq];exact h3
def Exs.u{s:World}{d:Nat}{A:Option Addr}{n c:Nat}{l:List Ex}(h:Exs d s A n c l):qiT l=true:=qil (Sl.all (p:=fun x=>exU x=true) h fun x cs hx=>ExR.u hx)
def StR.u{s:World}:∀ {d:Nat} {x:Stm} {cs:List Value},StR d s x cs→stU x=true
 | 0,_,_,h=>h.elim
 | d+1,.mk k nm es b e,_,⟨A1,n1,c1,A2,n2,c2,A3,n3,c3,_,h2,h3,h4,_⟩=>by
  have h:=qgH (Sl.all (p:=fun x=>stU x=true) h3 fun x cs hx=>StR.u hx);have h':qgG b=true:=h;have k:=qgH (Sl.all (p:=fun x=>stU x=true) h4 fun x cs hx=>StR.u hx);have k':qgG e=true:=k;have g:qiT es=true:=Exs.u h2;simp only [stU,g,h',k',Bool.and_self]
def Stms.u{s:World}{d:Nat}{A:Option Addr}{n c:Nat}{l:List Stm}(h:Stms d s A n c l):qgG l=true:=qgH (Sl.all (p:=fun x=>stU x=true) h fun x cs hx=>StR.u hx)
def qce:∀ {l:List Ex} {k:Nat} {y:Ex},qgy l=true→l[k]?=some y→exV y=true∧exN y≤qbD l
 | [],_,_,_,h=>by cases h
 | x::r,0,y,hv,h=>by
  simp at h;subst h;simp only [qgy,Bool.and_eq_true] at hv;exact ⟨hv.1,by rw [qbD];omega⟩
 | x::r,k+1,y,hv,h=>by
  simp only [qgy,Bool.and_eq_true] at hv;have:=qce hv.2 (show r[k]?=some y by simpa using h);exact ⟨this.1,by rw [qbD];omega⟩
def qb0{k o n:Int}{nm:Str}{na:Nat}(h:exC k o n nm na=0):1≤k∧k≤7∧qcJ k≤na∧na≤qep k∧(k=6→1≤o∧o≤3)∧(k=7→4≤o∧o≤21):=by
 unfold exC at h;split at h
 · cases h
 rename_i h1;split at h
 · cases h
 split at h
 · cases h
 rename_i h3;refine ⟨by omega,by omega,?_,?_,by omega,by omega⟩
 · exact Nat.le_of_not_lt fun hh=>h3 (.inr (.inr (.inr (.inl hh))))
 · exact Nat.le_of_not_lt fun hh=>h3 (.inr (.inr (.inr (.inr hh))))
def qdI{x:Ex}(h:exV x=true):exC x.kind x.op x.num x.name x.args.length=0∧qgy x.args=true:=by
 cases x with
 | mk k o n nm az=>simp only [exV,Bool.and_eq_true,decide_eq_true_eq] at h;exact h
def qt0(x:Ex):exN x=1+qbD x.args:=by cases x;rfl
def qlt{x:Ex}(h1:0≤x.num∧x.num < 4294967296)(h2:qiT x.args=true):exU x=true:=by
 cases x with
 | mk k o n nm az=>simp only [exU,Bool.and_eq_true,decide_eq_true_eq];exact ⟨h1,h2⟩
def qeT(x:Ex)(out:Int):exT x out=exW x.kind x.op x.num x.name (qdT x.args (qgg x.kind x.op)) out:=by cases x;rfl
def qbM(l:List Ex):qdT l []=l.map fun x=>exT x 0:=by
 induction l with
 | nil=>rfl
 | cons x r ih=>simp only [qdT,List.headD_nil,List.tail_nil,List.map_cons,ih]
def qiM(o:Int):1≤qfH o∧qfH o≤5:=by
 unfold qfH;repeat' split
 all_goals (constructor<;>decide)
section
variable{x y z:Ex}
def qyW(h:x.kind=1):exT x 0=qdq x.num:=by rw [qeT,exW,if_pos h]
def qyX(h:x.kind=2):exT x 0=x.name:=by rw [qeT,exW,h];rfl
def qmI{α:Type}{l:List α}{y:α}(hl:l.length=1)(h:l[0]?=some y):l=[y]:=by
 match l,hl,h with
 | [a],_,h=>simp at h;rw [h]
def qzn{α:Type}{l:List α}{y z:α}(hl:l.length=2)(h:l[0]?=some y)(h1:l[1]?=some z):l=[y,z]:=by
 match l,hl,h,h1 with
 | [a,b],_,h,h1=>simp at h h1;rw [h,h1]
def qyY(h:x.kind=3)(hl:x.args.length=1)(hy:x.args[0]?=some y):exT x 0=x.name++[91]++exT y 0++[93]:=by
 rw [qeT,qmI hl hy,h];rfl
def qyZ(h:x.kind=4):exT x 0=x.name++[40]++qa2 (qdT x.args [])++[41]:=by
 rw [qeT,h];rfl
def qy0(h:x.kind=5):exT x 0=[103,101,116]:=by rw [qeT,exW,h];rfl
def qy1(h:x.kind=6)(hl:x.args.length=1)(hy:x.args[0]?=some y):exT x 0=qmV x.op++exT y 9:=by
 rw [qeT,qmI hl hy,h];rfl
def qy2(h:x.kind=7)(hl:x.args.length=2)(hy:x.args[0]?=some y)(hz:x.args[1]?=some z):exT x 0=exT y (qfH x.op)++[32]++qmV x.op++[32]++exT z (qfH x.op+1):=by
 have:=qiM x.op;rw [qeT,qzn hl hy hz,h];show (if qfH x.op < 0 then _ else _)=_;rw [if_neg O];rfl
def qik(h1:1≤x.kind)(h7:x.kind≤7)(out:Int):exT x out=if x.kind=7∧qfH x.op < out then [40]++exT x 0++[41] else exT x 0:=by
  have hs:=qiM x.op;by_cases h:x.kind=7
  · have e:∀ q,exT x q=if qfH x.op < q then [40]++((qdT x.args (qgg x.kind x.op)).getD 0 []++[32]++qmV x.op++[32]++(qdT x.args (qgg x.kind x.op)).getD 1 [])++[41] else (qdT x.args (qgg x.kind x.op)).getD 0 []++[32]++qmV x.op++[32]++(qdT x.args (qgg x.kind x.op)).getD 1 []:=fun q=>by
      rw [qeT,exW,if_neg O,if_neg O,if_neg O,if_neg O,if_neg O,if_neg O]
    rw [e out,e 0,if_neg (show ¬ qfH x.op < 0 by omega)];by_cases ho:qfH x.op < out
    · rw [if_pos ho,if_pos ⟨h,ho⟩]
    · rw [if_neg ho,if_neg (fun k=>ho k.2)]
  · rw [if_neg (fun k=>h k.1),qeT,qeT]
    unfold exW;repeat' split
    all_goals (first|rfl|omega)
end
def qiD(n:Nat):Lib.repeatL [32,32] n=qaT n:=by
 induction n with
 | zero=>rfl
 | succ n ih=>
  have:∀ n,qaT n++[32,32]=[32,32]++qaT n:=fun n=>by
   induction n with
   | zero=>rfl
   | succ n ih=>rw [qaT,ih,List.append_assoc,ih]
  have:qaT (n+1)=[32,32]++qaT n:=this n;rw [this,← ih];rfl
end Go.Proofs.YtflplmcjbppfcaaGreatDoor
namespace Go.FL
open Go Go.RowKit
def qnk{P:Program}{TT:qa5}{D:Nat}{fr:Fr}{K:Hl}{s0:World}{ty:Nat}{x:Operand}{t:Nat}{A:Option Addr}{m c:Nat}{ti:TI}{e:Nat}(hx:lk fr x=some (.slice A m c))(ht:qaE TT t=some ti)(hk:ti.kind=.sl e):QE P TT D fr (.call { callee:=.builtin .cap,args:=#[x],argTypes:=#[t] }) ty K s0 (.int .i64 (c:Int)):=
 QE.pure fun hT dst pos af g ρ hρ w=>by
  obtain ⟨k1,k2,_⟩:=hT.at_ ht;rw [hk] at k2;simp only [TK.fits] at k2;rw [k2] at k1;simp [execOp,resolve,invoke,builtin,hρ x _ hx,Builtin.cap_,run_underlying k1,goInt]
end Go.FL
namespace Go.Proofs.YtflplmcjbppfcaaGreatDoor
open Go Go.FL Go.RowKit
def qwa{e cap:Nat}{M:Hl}{v:Value}{xs:List Value}(h:FL.Own e 1 M v cap xs):∃ A c,v=.slice A cap c∧FL.Own e 1 M (.slice A 0 c) 0 []:=by
 cases h with
 | nil=>exact ⟨none,0,rfl,.nil⟩
 | blk b c n xs ys hn hc hnc hm=>exact ⟨_,_,rfl,by
   have:=FL.Own.blk (e:=e) (sz:=1) b c 0 [] (xs++ys) rfl (by simpa using hc) (Nat.zero_le _) hm;simpa using this⟩
def qcK(a b:List (List UInt8)):sb (a++b)=sb a++sb b:=by simp [sb]
def Strs.row{s:World}{A:Option Addr}{n c:Nat}{l:List (List UInt8)}(h:Strs s A n c l):Row s A n 1 (sb l):=by
  refine ⟨by simp [sb,h.1],fun u hu=>?_,fun j u hj=>?_⟩
  · obtain ⟨x,_,rfl⟩:=List.mem_map.1 hu;rfl
  · obtain ⟨x,hx,rfl⟩:∃ x,l[j]?=some x∧u=St x:=by
      simp only [sb,List.getElem?_map] at hj;cases hl:l[j]? with
      | none=>rw [hl] at hj;cases hj
      | some x=>rw [hl] at hj;injection hj with hj;exact ⟨x,rfl,hj.symm⟩
    obtain ⟨b,off,cs,h1,h2,_,rfl,_⟩:=h.2.2.2 j x hx;exact ⟨b,off,h1,by have:=h2 0 (St x) rfl;simpa using this⟩
def Strs.len{s:World}{A:Option Addr}{n c:Nat}{l:List (List UInt8)}(h:Strs s A n c l):∀ x∈l,x.length≤9223372036854775807:=fun x hx=>by
 obtain ⟨j,hj⟩:=List.getElem?_of_mem hx;obtain ⟨_,_,_,_,_,_,_,h5⟩:=h.2.2.2 j x hj;exact h5
open Go.Proofs.Tryz
open Go.FL
attribute [local irreducible] JC JO JA JB qaZ qaL qb4 AC fill CellsAt QE Ev Mid
def Cz38{p:Prop} (h:p:=by
 first|exact ⟨M1,Ag,cg,rfl,rfl,o2⟩|exact ⟨[],none,0,rfl,rfl,Own.nil⟩):p:=h
def qrV(D:Nat)(L:Hl)(s:World)(m:Nat)(hm:m≤1000000000):AC prog D 107 [.slice none 0 0,.int .i64 (m:Int)] L s fun v L' _=>∃ M A c,L'=M++L∧v=.slice A 0 c∧FL.Own 9 1 M (.slice A 0 c) 0 []:=by
 refine qae (fn:=f107) qav func107 V Z ntmps107 Z (rs:=[.tmp 4]) Z [(0,_),(1,_)] Z<|Sr<|At Z Z<|Zs<|Sr<|Zqm Z Z<|qa8 Z Z Z<|Nt<|?_;refine qaa Z ?_ ?_<;>intro c1;·exfalso;omega
 refine Zk<|Zt<|Zs<|Sr<|Zqm Z Z<|Zqm Z Z<|qad (qnk Z Z Z) Z<|Zqm Z Z<|Ws Y4<|qad (qba (c:=(0:Int)) Z Z Z) Z<|qad (qba (c:=((m:Nat):Int)) Z Z (by rw [w64 O O];omega)) Z<|At Z Z<|Sr<|Zqm Z Z<|qbl Z Z Z<|Nt<|?_;refine qaa Z ?_ ?_<;>intro c2
 ·have hpos:0 < m:=by omega
  refine Zr<|Zqm Z Z<|Zqm Z Z<|qad (qnk Z Z Z) Z<|qad (qhC (j:=0) Z Z Z Z Z (Nat.le_refl _)) Z<|Zqm Z Z<|qni (sz:=1) (m:=m) (news:=List.replicate m (St [])) [] [] L Z Z Z Z Z Z Z Own.nil (by simp) (fun hT w i k1 i1 i2 i3 i4=>qi4 m k1 underlying3 i1 i2 i4 Z Z O (by rw [i3];simp [ti9];omega)) ⟨by simp [ti9];omega,by omega⟩ Z ?_;intro v1 M1 s3 h3 o1 n1;simp only [Nat.zero_add,List.nil_append] at o1;obtain ⟨Ag,cg,rfl,o2⟩:=qwa o1;refine Zqm Z Z<|Ws Y4<|qad (qhC (j:=0) Z Z Z Z Z (Nat.zero_le _)) Z<|At Z Z<|Sr<|Zqm Z Z<|At Z Z<|Zo<|?_;exact rR [] _ (.t1 Z) Z h3 fun _ hS2=>Cz38
 have hm0:m=0:=by omega
 refine Zk<|Zt<|Sr<|Zqm Z Z<|At Z Z<|Zo<|?_;exact rR [] _ (.t1 Z) Z (Lr D) fun _ hS2=>Cz38
def qmo(D:Nat)(L:Hl)(s:World)(b:Nat)(A1 A2:Option Addr)(n1 c1 n2 c2:Nat)(l1 l2:List Str)(hs1:Strs s A1 n1 c1 l1)(hs2:Strs s A2 n2 c2 l2)(hb:CellsAt s b 0 [.slice A1 n1 c1,.slice A2 n2 c2])(hn1:n1≤1000)(hn2:n2≤1000):AC prog D 71 [.slice (some ⟨b,0,none⟩) 2 2] L s fun v L' s'=>∃ M',L'=M'++L∧∀ s2,Le D s' s2→Pub M' s2→∃ A n c,v=.slice A n c∧Strs s2 A n c (l1++l2):=by
 have hl1:=hs1.1;have hl2:=hs2.1;refine qae (fn:=f71) qav func71 V Z ntmps71 Z (rs:=[.tmp 2]) Z [(0,_)] Z<|Sr<|At Z Z<|Sr<|At Z Z<|Zs<|Sr<|Zqm Z Z<|Ws Y4<|Zqm Z Z<|Nt<|Zp<|?_;refine qaA (γ:=Nat×Nat) (fun g=>[(0,_),(2,_),(3,.int .i64 (g.2:Int)),(9,_),(10,_),(11,.int .i64 (g.1:Int))]) (fun g=>L) (fun g tw=>Le D s tw∧(g.1≤2∧g.2≤g.1 * 1000)) (fun g=>2 - g.1) (fun _ _ _ h hl=>⟨h.1.trans hl,h.2⟩) (0,0) (.c6 Z Z Z Z Z Z (.nil _)) Z ⟨Le.refl _,⟨Nat.zero_le _,Nat.zero_le _⟩⟩ ?_;intro g s1 I1;obtain ⟨j,z⟩:=g;obtain ⟨hj0,hz⟩:=I1.2;simp only at hj0 hz;dsimp only;refine Sr<|qa8 Z Z Z<|Nt<|Zs<|?_;refine qaa Z ?_ ?_<;>intro c2
 ·have hjj:j < 2:=by omega
  refine Zk<|Zt<|Zs<|Zp<|Zs<|?_;rcases (show j=0∨j=1 by omega) with rfl|rfl
  ·refine Zr<|qad (qaU Z Z Z Z Z Z O) Z<|qad (qaq Z Z Z (hb.le I1.1) Z) Z<|At Z Z<|Sr<|Zqm Z Z<|Zqm Z Z<|Ws Y4<|qad (qaC (c:=((z+n1:Nat):Int)) Z Z (by rw [w64 O O];simp)) Z<|At Z Z<|Sr<|Zqm Z Z<|qa8 Z Z Z<|Nt<|?_;refine qaa Z ?_ ?_<;>intro c3;·exfalso;omega
   refine Zk<|Zb<|Zt<|Zr<|qaD Z Z Z (w64 O O)<|Zqm Z Z<|Zn<|?_;refine qab ⟨(1,z+n1),[],kp,Z,⟨I1.1,⟨by simp only;omega,by simp only;omega⟩⟩,Oz⟩
  refine Zr<|qad (qaU Z Z Z Z Z Z O) Z<|qad (qaF 1 Z Z Z (hb.le I1.1) Z) Z<|At Z Z<|Sr<|Zqm Z Z<|Zqm Z Z<|Ws Y4<|qad (qaC (c:=((z+n2:Nat):Int)) Z Z (by rw [w64 O O];simp)) Z<|At Z Z<|Sr<|Zqm Z Z<|qa8 Z Z Z<|Nt<|?_;refine qaa Z ?_ ?_<;>intro c4;·exfalso;omega
  refine Zk<|Zb<|Zt<|Zr<|qaD Z Z Z (w64 O O)<|Zqm Z Z<|Zn<|?_;refine qab ⟨(2,z+n2),[],kp,Z,⟨I1.1,⟨by simp only;omega,by simp only;omega⟩⟩,Oz⟩
 obtain rfl:j=2:=by omega
 refine Zl<|Zv<|Zv<|Zd<|Zt<|Sr<|Zqm Z Z<|Jc Z Z Z (qrV D _ _ z O) ?_;rintro _ _ s5 h5 ⟨Mg,Ag,cg,rfl,rfl,hOg⟩;have e5:=I1.1.t h5;refine At Z Z<|Zs<|Sr<|Zqm Z Z<|Ws Y4<|Zqm Z Z<|Nt<|Zp<|?_;refine qaA (γ:=Nat×Value×Hl×List Str) (fun g=>[(2,_),(6,g.2.1),(25,_),(26,_),(27,.int .i64 (g.1:Int))]) (fun g=>g.2.2.1++L) (fun g tw=>Le D s5 tw∧(g.1≤2∧FL.Own 9 1 g.2.2.1 g.2.1 g.2.2.2.length (sb g.2.2.2)∧g.2.2.2=(if g.1=0 then [] else if g.1=1 then l1 else l1++l2))) (fun g=>2 - g.1) (fun _ _ _ h hl=>⟨h.1.trans hl,h.2⟩) (0,.slice Ag 0 cg,Mg,[]) (.c5 Z Z Z Z Z (.nil _)) Z ⟨Le.refl _,⟨Nat.zero_le _,hOg,Z⟩⟩ ?_;intro g s6 I6;have e6:=e5.t I6.1;obtain ⟨j,vo,Mo,out⟩:=g;obtain ⟨hj0,hO,hout⟩:=I6.2;simp only at hj0 hO hout;dsimp only;refine Sr<|qa8 Z Z Z<|Nt<|Zs<|?_;refine qaa Z ?_ ?_<;>intro c7
 ·have hjj:j < 2:=by omega
  refine Zk<|Zt<|Zs<|Zp<|Zs<|?_;rcases (show j=0∨j=1 by omega) with rfl|rfl
  ·obtain rfl:out=[]:=hout;refine Zr<|qad (qaU Z Z Z Z Z Z O) Z<|qad (qaq Z Z Z (hb.le e6) Z) Z<|At Z Z<|Zr<|Zqm Z Z<|Zqm Z Z<|qbq (sz:=1) [] Mo L Z Z Z Z Z Z Z hO (hs1.row.le e6) ⟨by simp [ti9];omega,by (try simp only [List.length_nil]);omega⟩ Z ?_;intro vq Mq s8 h8 oq;obtain ⟨Avq,cvq,rfl,_,_⟩:=Own.slice oq;simp only [List.nil_append];refine Zqa Z Z<|Zn<|Zb<|Zt<|Zr<|qaD Z Z Z (w64 O O)<|Zqm Z Z<|Zn<|?_;refine qab ⟨(1,.slice Avq (0+n1) cvq,Mq,l1),[],kp,Z,⟨(I6.1.t h8),by first|exact ⟨by simp only;omega,by have h:=oq;simp only [List.length_nil,Nat.zero_add,sb,List.map_nil,List.nil_append] at h ⊢;rw [← hl1];exact h,Z⟩|exact ⟨by simp only;omega,by have h:=oq;rw [← qcK] at h;rw [List.length_append,← hl2];exact h,Z⟩⟩,Oz⟩
  obtain rfl:l1=out:=hout.symm;refine Zr<|qad (qaU Z Z Z Z Z Z O) Z<|qad (qaF 1 Z Z Z (hb.le e6) Z) Z<|At Z Z<|Zr<|Zqm Z Z<|Zqm Z Z<|qbq (sz:=1) [] Mo L Z Z Z Z Z Z Z hO (hs2.row.le e6) ⟨by simp [ti9];omega,by (try simp only [List.length_nil]);omega⟩ Z ?_;intro vq Mq s9 h9 oq;obtain ⟨Avq,cvq,rfl,_,_⟩:=Own.slice oq;simp only [List.nil_append];refine Zqa Z Z<|Zn<|Zb<|Zt<|Zr<|qaD Z Z Z (w64 O O)<|Zqm Z Z<|Zn<|?_;refine qab ⟨(2,.slice Avq (l1.length+n2) cvq,Mq,l1++l2),[],kp,Z,⟨(I6.1.t h9),by first|exact ⟨by simp only;omega,by have h:=oq;simp only [List.length_nil,Nat.zero_add,sb,List.map_nil,List.nil_append] at h ⊢;rw [← hl1];exact h,Z⟩|exact ⟨by simp only;omega,by have h:=oq;rw [← qcK] at h;rw [List.length_append,← hl2];exact h,Z⟩⟩,Oz⟩
 obtain rfl:j=2:=by omega
 obtain rfl:out=l1++l2:=hout;obtain ⟨Ao,co,rfl,_,_⟩:=Own.slice hO;refine Zl<|Zv<|Zv<|Zd<|Zt<|Sr<|Zqm Z Z<|At Z Z<|Zo<|?_;exact rR [] _ (.t1 Z) Z e6 fun _ hS2=>⟨Mo,rfl,fun s2 hs9 hp=>⟨_,_,_,rfl,Own.strs hO (fun x hx=>(List.mem_append.1 hx).elim (hs1.len x) (hs2.len x)) hp rfl⟩⟩
def qji(D:Nat)(L:Hl)(s:World)(b:Nat)(A1 A2:Option Addr)(n1 c1 n2 c2:Nat)(l1 l2:List Str)(hs1:Strs s A1 n1 c1 l1)(hs2:Strs s A2 n2 c2 l2)(hb:CellsAt s b 0 [.slice A1 n1 c1,.slice A2 n2 c2])(hn1:n1≤1000)(hn2:n2≤1000):AC prog D 71 [.slice (some ⟨b,0,none⟩) 2 2] L s fun v L' s'=>L=L'∧∃ A n c,v=.slice A n c∧Strs s' A n c (l1++l2):=AC.pubW (qmo D L s b A1 A2 n1 c1 n2 c2 l1 l2 hs1 hs2 hb hn1 hn2)
def qlx{x:Fnc}{c:Nat}(h:qaY x.name=false):fnC x c=(c,7):=by rw [fnC,if_pos h]
def qlw{x:Fnc}{c:Nat}(h:¬ qaY x.name=false)(hs2:6 < x.params.length∨12 < x.locals.length):fnC x c=(c,2):=by rw [fnC,if_neg h,if_pos hs2]
def qoi{x:Fnc}{c k:Nat}{w:Str}(h:¬ qaY x.name=false)(hs2:¬ (6 < x.params.length∨12 < x.locals.length))(hw:(x.params++x.locals)[k]?=some w)(hi:qaY w=false):fnC x c=(c,7):=by
 rw [fnC,if_neg h,if_neg hs2,if_pos];exact List.any_eq_true.2 ⟨w,List.mem_of_getElem? hw,by rw [hi];rfl⟩
def qt2{x:Fnc}{c:Nat}(h:¬ qaY x.name=false)(hs2:¬ (6 < x.params.length∨12 < x.locals.length))(h3:∀ i w,i < (x.params++x.locals).length→(x.params++x.locals)[i]?=some w→qaY w=true):fnC x c=qci x.body 1 c:=by
 rw [fnC,if_neg h,if_neg hs2,if_neg];rw [List.any_eq_true];rintro ⟨w,hw,hb⟩;obtain ⟨i,hi⟩:=List.getElem?_of_mem hw;rw [h3 i w (List.getElem?_eq_some_iff.1 hi).1 hi] at hb;cases hb
def qqK(D:Nat)(L:Hl)(s:World)(hG:GP s)(bc c d:Nat)(x:Fnc)(A1 A2 A3:Option Addr)(n1 q1 n2 q2 n3 q3:Nat)(hs1:Strs s A1 n1 q1 x.params)(hs2:Strs s A2 n2 q2 x.locals)(hs3:Stms d s A3 n3 q3 x.body)(hc:c≤2000):AC prog D 67 [.pointer (some ⟨bc,0,none⟩),.agg #[St x.name,.slice A1 n1 q1,.slice A2 n2 q2,.slice A3 n3 q3]] ((bc,cb [.int .i64 (c:Int)] 152)::L) s fun v L' _=>v=.int .i64 (fnC x c).2∧L'=(bc,cb [.int .i64 ((fnC x c).1:Int)] 152)::L:=by
 have hl1:=hs1.1;have hl2:=hs2.1;refine qae (fn:=f67) qav func67 V Z ntmps67 Z (rs:=[.tmp 4]) Z [(0,_),(1,_)] Z<|Sr<|qay Z Z fun β1 s1 h1=>At Z Z<|Zs<|Zp<|Sr<|W0 Y5<|Wl 0 Y6<|Je Z Z Z (qfn D _ _ (hG.le h1) x.name) fun s2 h2=>qbF Z Z<|At Z Z<|?_;have e2:=h1.t h2;refine qb8 Z ?_ ?_<;>intro c3;·have hnm:=c3;refine Sr<|At Z Z<|Zo<|Zc<|Zu<|?_;refine rR [_] _ (.t1 Z) Z e2 fun _ hS2=>?_;rw [qlx (by simpa using hnm)];exact ⟨rfl,rfl⟩
 have hnm:=c3;refine qa9 12 (6 < n1∨12 < n2) ?_ ?_
 ·refine Zr<|Wb Y5<|Wl 0 Y6<|Ws Y4<|qbl Z Z Z<|Zqm Z Z<|?_;refine qai (t:=17) Z ?_ ?_<;>intro c5;·refine Wf Y4<|Wf Y4<|Wf Y4<|Wf Y4<|ZqT Z Z Z<|Zqa Z Z<|Zn<|?_;refine qab (MidB.mk (Lr D) Sb Z ((decide_eq_true O).symm))
  refine Zg Z Z<|Wb Y5<|Zg Z Z<|Wl 0 Y6<|Zg Z Z<|Ws Y4<|Zg Z Z<|qbl Z Z Z<|ZqF Z Z Z<|Zqa Z Z<|Zn<|?_;refine qab (MidB.mk (Lr D) Sb Z (decide_eq_decide.2 O))
 intro s4 h4;have e4:=e2.t h4;refine qaa Z ?_ ?_<;>intro c6;·have hmany:=c6;refine Sr<|At Z Z<|Zo<|Zc<|Zu<|?_;refine rR [_] _ (.t1 Z) Z e4 fun _ hS2=>?_;rw [qlw (by simpa using hnm) O];exact ⟨rfl,rfl⟩
 have hmany:=c6;refine Zk<|Zb<|Zt<|Zs<|Sr<|Wb Y5<|Wl 0 Y6<|Wb Y5<|Wl 0 Y6<|qa4 [(_,_),(_,_)] [_,_] Z Z Z Z Z Z Z Z Z fun βp s7 h7 hcp=>Jc Z Z Z (qji D _ _ _ A1 A2 n1 q1 n2 q2 x.params x.locals (hs1.le (e4.t h7)) (hs2.le (e4.t h7)) (hcp.le (Lr D)) O O) ?_;have e7:=e4.t h7;rintro _ _ s8 h8 ⟨rfl,Aq,nq,cq,rfl,hQ⟩;have e8:=e7.t h8;have hnq:=hQ.1;have hnq2:=hQ.2.1;have hnq3:=hQ.2.2.1;refine Ws Y4<|Zqm Z Z<|Nt<|Zp<|qaA (γ:=Nat) (fun k=>[(0,_),(3,_),(4,_),(28,_),(29,_),(30,.int .i64 (k:Int))]) (fun k=>_::(bc,cb [.int .i64 (c:Int)] 152)::L) (fun k tw=>Le D s8 tw∧(k≤nq∧∀ i w,i < k→(x.params++x.locals)[i]?=some w→qaY w=true)) (fun k=>nq - k) (fun _ _ _ h hl=>⟨h.1.trans hl,h.2⟩) 0 (.c6 Z Z Z Z Z Z (.nil _)) Z ⟨Le.refl _,⟨Nat.zero_le _,fun i w hi=>by omega⟩⟩ ?_;intro k s9 I9;have e9:=e8.t I9.1;have hk0:=I9.2.1;have hI:=I9.2.2;refine Sr<|qa8 Z Z Z<|Nt<|Zs<|?_;refine qaa Z ?_ ?_<;>intro c10
 ·have hk:k < nq:=by omega
  obtain ⟨b,off,w,rfl,hw,hcw,_⟩:=Strs.at_ (hQ.le I9.1) hk;refine Zk<|Zt<|Zs<|Zp<|Sr<|qad (qaU Z Z Z Z Z Z hk) Z<|qad (qaq Z Z Z (hcw.le (Lr D)) Z) Z<|At Z Z<|Sr<|Zqm Z Z<|Je Z Z Z (qfn D _ _ (hG.le e9) w) fun s11 h11=>qbF Z Z<|Nt<|?_;refine qb8 Z ?_ ?_<;>intro c12;·have hid:=c12;refine Sr<|At Z Z<|Zo<|Zc<|Zu<|Zu<|Zc<|Zu<|?_;refine rR [_] _ (.t1 Z) Z (e9.t h11) fun _ hS2=>?_;rw [qoi (by simpa using hnm) O hw (by simpa using hid)];exact ⟨rfl,rfl⟩
  have hid:=c12;refine Zk<|Zb<|Zt<|Zr<|qaD Z Z Z (w64 O O)<|Zqm Z Z<|Zn<|?_;refine qab ⟨(k+1),[],kp,Z,⟨(I9.1.t h11),⟨by omega,qa1 hI hw (by simpa using hid)⟩⟩,O⟩
 refine Zl<|Zv<|Zv<|Zd<|Zt<|Sr<|Zqm Z Z<|Wb Y5<|Wl 0 Y6<|Jc Z Z Z ((csc D d).swap L _ (hG.le e9) _ bc c 1 A3 n3 q3 x.body (hs3.le e9) hc O) ?_;rintro _ _ s13 h13 ⟨rfl,rfl⟩;refine At Z Z<|Zo<|?_;refine rR [_] _ (.t1 Z) Z (e9.t h13) fun _ hS2=>?_;rw [qt2 (by simpa using hnm) O (fun i w hi h=>hI i w O h)];exact ⟨rfl,rfl⟩
def qgV:∀ (ws:List (List UInt8)),Lib.join ws [44,32]=qa2 ws
 | []=>rfl
 | [x]=>by simp [Lib.join,qa2,List.intercalate]
 | x::y::r=>by
  have:=qgV (y::r);simp only [Lib.join,List.intercalate,List.intersperse_cons_cons,List.flatten_cons] at this ⊢;rw [qa2,← this];simp
def qaS{α β:Type}(f:α→β){l:List α}{k:Nat}{x:α}(h:l[k]?=some x):(l.take (k+1)).map f=(l.take k).map f++[f x]:=by
 obtain ⟨hk,rfl⟩:=List.getElem?_eq_some_iff.1 h;rw [List.take_succ_eq_append_getElem hk,List.map_append];rfl
def qgB(D:Nat)(L:Hl)(s:World)(A:Option Addr)(n c:Nat)(ws:List (List UInt8))(hS:Strs s A n c ws)(hlen:qhq ws≤1000000000):AC prog D 47 [.slice A n c,St [44,32]] L s fun v L' _=>v=St (qa2 ws)∧L=L':=by
 have h1:=qbh ws;have h2:ws.length≤qhq ws:=by
  clear hS hlen h1;induction ws with
  | nil=>exact Nat.zero_le _
  | cons x r ih=>rw [qbJ,List.length_cons];omega
 have:=qlI D L s A n c ws hS [44,32] (by rw [qgV];omega) O
 rwa [qgV] at this
def qiO(l:List Int)(h:∀ x∈l,U32 x):qhq (l.map qdq)≤12 * l.length:=by
 induction l with
 | nil=>exact Nat.le_refl _
 | cons x r ih=>
  have h1:=qcd (h x Mc);have h2:=ih fun y hy=>h y (List.mem_cons_of_mem _ hy);rw [List.map_cons,qbJ,List.length_cons];omega
def qnZ{l:List Int}(h:∀ x∈l,U32 x):∀ x∈l.map qdq,x.length≤9223372036854775807:=fun x hx=>by
 obtain ⟨y,hy,rfl⟩:=List.mem_map.1 hx;have:=qcd (h y hy);omega
def qmN(D:Nat)(L:Hl)(s:World)(hG:GP s)(A:Option Addr)(n c:Nat)(l:List Int)(hW:Wds s A n c l)(hn:n≤1000):AC prog D 104 [.slice A n c] L s fun v L' _=>v=St (qa2 (l.map qdq))∧L=L':=by
 have hl:=hW.1;have hu:=hW.u32;have htw:=qiO l hu;refine qae (fn:=f104) qav func104 V Z ntmps104 Z (rs:=[.tmp 2]) Z [(0,_)] Z<|Sr<|At Z Z<|Sr<|At Z Z<|Zs<|Sr<|Zqm Z Z<|Ws Y4<|Zqm Z Z<|Nt<|Zp<|?_;refine qaA (γ:=Nat×Value×Hl) (fun g=>[(2,_),(3,g.2.1),(6,_),(7,_),(8,.int .i64 (g.1:Int))]) (fun g=>g.2.2++L) (fun g tw=>Le D s tw∧(g.1≤n∧FL.Own 9 1 g.2.2 g.2.1 g.1 (sb ((l.take g.1).map qdq)))) (fun g=>n - g.1) (fun _ _ _ h hl=>⟨h.1.trans hl,h.2⟩) (0,.slice none 0 0,[]) (.c5 Z Z Z Z Z (.nil _)) Z ⟨Le.refl _,⟨Nat.zero_le _,Own.nil⟩⟩ ?_;intro g s1 I1;obtain ⟨k,vo,Mo⟩:=g;obtain ⟨hk0,hO⟩:=I1.2;simp only at hk0 hO;dsimp only;refine Sr<|qa8 Z Z Z<|Nt<|Zs<|?_;refine qaa Z ?_ ?_<;>intro c2
 ·have hk:k < n:=by omega
  obtain ⟨b,off,x,rfl,hx,hcx,hux⟩:=Wds.at_ (hW.le I1.1) hk;refine Zk<|Zt<|Zs<|Zp<|Sr<|qad (qaU Z Z Z Z Z Z hk) Z<|qad (qaq Z Z Z (hcx.le (Lr D)) Z) Z<|At Z Z<|Zr<|Zqm Z Z<|Zqm Z Z<|Je Z Z Z (qer D _ _ (hG.le I1.1) x hux) fun s3 h3=>qa4 [(_,_)] [_] Z Z Z Z Z Z Z Z Z fun βn s4 h4 hcb=>qbq (sz:=1) [] Mo L Z Z Z Z Z Z Z hO (Row.of_cells (hcb.le (Lr D)) Z Z) ⟨by simp [ti9];omega,by omega⟩ Z ?_;intro vq Mq s5 h5 oq;obtain ⟨Avq,cvq,rfl,_,_⟩:=Own.slice oq;simp only [cQ9,nQ9];refine Zqa Z Z<|Zn<|Zb<|Zt<|Zr<|qaD Z Z Z (w64 O O)<|Zqm Z Z<|Zn<|?_;refine qab ⟨(k+1,.slice Avq (k+1) cvq,Mq),[],kp,Z,⟨(I1.1.t h3|>.t h4|>.t h5),⟨by simp only;omega,by rw [qaS qdq hx,qcK];exact oq⟩⟩,Oz⟩
 obtain rfl:k=n:=by omega
 rw [List.take_of_length_le O] at hO;obtain ⟨Ao,co,rfl,_,_⟩:=Own.slice hO;refine Zl<|Zv<|Zv<|Zd<|Zt<|Zs<|qdA [] Mo _ ?_;intro s6 h6 hpub6;simp only [cQ9,nQ9];have hSt:=Own.strs hO (qnZ hu) hpub6 (by rw [List.length_map];omega);refine Zr<|Zqm Z Z<|Je Z Z Z (qgB D _ _ Ao k co (l.map qdq) (hSt.le (Lr D)) O) fun s7 h7=>At Z Z<|Zo<|?_;exact rR [] L (.t1 Z) Z (I1.1.t h6|>.t h7) fun _ hS2=>⟨rfl,rfl⟩
def EXT(D d:Nat):Prop:=∀ (L:Hl) (s:World),GP s→∀ (x:Ex) (A:Option Addr) (n c:Nat),Exs d s A n c x.args→U32 x.num→exV x=true→exN x≤2000→AC prog D 179 [.agg #[.int .i64 x.kind,.int .i64 x.op,.int .u32 x.num,St x.name,.slice A n c]] L s fun v L' _=>v=St (exT x 0)∧L=L'
def qgx{l:List Ex}(hv:qgy l=true)(hu:qiT l=true)(hN:qbD l≤2000):∀ x∈l.map (fun x=>exT x 0),x.length≤9223372036854775807:=fun x hx=>by
 have h1:=qdU l [] hv hu;rw [qbM] at h1;have h2:∀ (l:List Str),x∈l→x.length≤qhq l:=fun l=>by
  induction l with
  | nil=>intro h;cases h
  | cons y r ih=>
   intro h;rw [qbJ];rcases List.mem_cons.1 h with rfl|h
   · omega
   · have:=ih h;omega
 have:=h2 _ hx;omega
def qhN(D d:Nat)(ih:∀ e,d=e+1→EXT D e)(L:Hl)(s:World)(hG:GP s)(A:Option Addr)(n c:Nat)(l:List Ex)(hA:Exs d s A n c l)(hv:qgy l=true)(hN:qbD l≤2000)(hn:n≤1000):AC prog D 181 [.slice A n c] L s fun v L' _=>v=St (qa2 (qdT l []))∧L=L':=by
 have hl:=hA.1;have hu:=hA.u;have htw:=qdU l [] hv hu;rw [qbM] at htw ⊢;refine qae (fn:=f181) qav func181 V Z ntmps181 Z (rs:=[.tmp 2]) Z [(0,_)] Z<|Sr<|At Z Z<|Sr<|At Z Z<|Zs<|Sr<|Zqm Z Z<|Ws Y4<|Zqm Z Z<|Nt<|Zp<|?_;refine qaA (γ:=Nat×Value×Hl) (fun g=>[(2,_),(3,g.2.1),(6,_),(7,_),(8,.int .i64 (g.1:Int))]) (fun g=>g.2.2++L) (fun g tw=>Le D s tw∧(g.1≤n∧FL.Own 9 1 g.2.2 g.2.1 g.1 (sb ((l.take g.1).map fun x=>exT x 0)))) (fun g=>n - g.1) (fun _ _ _ h hl=>⟨h.1.trans hl,h.2⟩) (0,.slice none 0 0,[]) (.c5 Z Z Z Z Z (.nil _)) Z ⟨Le.refl _,⟨Nat.zero_le _,Own.nil⟩⟩ ?_;intro g s1 I1;obtain ⟨k,vo,Mo⟩:=g;obtain ⟨hk0,hO⟩:=I1.2;simp only at hk0 hO;dsimp only;refine Sr<|qa8 Z Z Z<|Nt<|Zs<|?_;refine qaa Z ?_ ?_<;>intro c2
 ·have hk:k < n:=by omega
  obtain ⟨e,b,off,x,A',n',c',hd,rfl,hx,hcx,hax,hux,hnl⟩:=Exs.at_ (hA.le I1.1) hk;obtain ⟨hvx,hNx⟩:=qce hv hx;refine Zk<|Zt<|Zs<|Zp<|Sr<|qad (qau Z Z Z Z Z Z hk) Z<|qad (qaw Z Z Z (hcx.le (Lr D)) Z) Z<|qag Z [_,_,_,_,_] Z Z fun β3 s3 h3=>Wt 0 [_,_,_,_,_] Y9<|Nt<|Zr<|Zqm Z Z<|qad (qao 0 [_,_,_,_,_] Z Z Z Z Z) Z<|Jc Z Z Z (ih e hd _ _ (hG.le (I1.1.t h3)) x A' n' c' (hax.le h3) hux hvx O) ?_;rintro _ _ s4 h4 ⟨rfl,rfl⟩;refine qa4 [(_,_)] [_] Z Z Z Z Z Z Z Z Z fun βn s5 h5 hcb=>qbq (sz:=1) [_] Mo L Z Z Z Z Z Z Z hO (Row.of_cells (hcb.le (Lr D)) Z Z) ⟨by simp [ti9];omega,by omega⟩ Z ?_;intro vq Mq s6 h6 oq;obtain ⟨Avq,cvq,rfl,_,_⟩:=Own.slice oq;simp only [cQ9,nQ9];refine Zqa Z Z<|Zn<|Zb<|Zt<|Zr<|qaD Z Z Z (w64 O O)<|Zqm Z Z<|Zn<|?_;refine qab ⟨(k+1,.slice Avq (k+1) cvq,Mq),[_],kp,Z,⟨(I1.1.t h3|>.t h4|>.t h5|>.t h6),⟨by simp only;omega,by rw [qaS (fun x=>exT x 0) hx,qcK];exact oq⟩⟩,Oz⟩
 obtain rfl:k=n:=by omega
 rw [List.take_of_length_le O] at hO;obtain ⟨Ao,co,rfl,_,_⟩:=Own.slice hO;refine Zl<|Zv<|Zv<|Zd<|Zt<|Zs<|qdA [] Mo _ ?_;intro s7 h7 hpub7;simp only [cQ9,nQ9];have hSt:=Own.strs hO (qgx hv hu hN) hpub7 (by rw [List.length_map];omega);refine Zr<|Zqm Z Z<|Je Z Z Z (qgB D _ _ Ao k co (l.map fun x=>exT x 0) (hSt.le (Lr D)) O) fun s8 h8=>At Z Z<|Zo<|?_;exact rR [] L (.t1 Z) Z (I1.1.t h7|>.t h8) fun _ hS2=>⟨rfl,rfl⟩
def qkn(D d:Nat)(hE:EXT D d)(L:Hl)(s:World)(hG:GP s)(x:Ex)(A:Option Addr)(n c:Nat)(hA:Exs d s A n c x.args)(hu:U32 x.num)(hv:exV x=true)(hN:exN x≤2000)(b:Bool):AC prog D 204 [.agg #[.int .i64 x.kind,.int .i64 x.op,.int .u32 x.num,St x.name,.slice A n c],.bool b] L s fun v L' _=>v=St (if x.kind=7∧b=true then [40]++exT x 0++[41] else exT x 0)∧L=L':=by
 have hxl:=qg0 x 0 hv (qlt hu hA.u);refine qae (fn:=f204) qav func204 V Z ntmps204 Z (rs:=[.tmp 4]) Z [(0,_),(1,_)] Z<|Sr<|qay Z Z fun β1 s1 h1=>At Z Z<|Zs<|Sr<|W0 Y5<|Wl 0 Y6<|qax Z Z Z<|Zqm Z Z<|?_;refine qai (t:=8) Z ?_ ?_<;>intro c2
 ·refine Zg Z Z<|Zqm Z Z<|ZqT Z Z Z<|Nt<|?_;refine qeN Z ?_ ?_<;>intro c3;·refine Sr<|qad (qao 0 [_,_,_,_,_] Z Z Z Z Z) Z<|Jc Z Z Z (hE _ _ (hG.le h1) x A n c (hA.le h1) hu hv hN) ?_;rintro _ _ s4 h4 ⟨rfl,rfl⟩;refine qad (qah Z Z Uo) Z<|qad (qah Z Z Uo) Z<|At Z Z<|Zo<|Zu<|?_;refine rR [_] L (.t1 Z) Z (h1.t h4) fun _ hS2=>?_;rw [if_pos ⟨by assumption,by assumption⟩];exact ⟨rfl,rfl⟩
  refine Zk<|Zt<|Sr<|qad (qao 0 [_,_,_,_,_] Z Z Z Z Z) Z<|Jc Z Z Z (hE _ _ (hG.le h1) x A n c (hA.le h1) hu hv hN) ?_;rintro _ _ s5 h5 ⟨rfl,rfl⟩;refine At Z Z<|Zo<|?_;refine rR [_] L (.t1 Z) Z (h1.t h5) fun _ hS2=>?_;rw [if_neg (fun k=>by have h9:=k.2;simp_all)];exact ⟨rfl,rfl⟩
 refine Wf Y4<|ZqF Z Z Z<|Nt<|Zz Z<|Zk<|Zt<|Sr<|qad (qao 0 [_,_,_,_,_] Z Z Z Z Z) Z<|Jc Z Z Z (hE _ _ (hG.le h1) x A n c (hA.le h1) hu hv hN) ?_;rintro _ _ s6 h6 ⟨rfl,rfl⟩;refine At Z Z<|Zo<|?_;refine rR [_] L (.t1 Z) Z (h1.t h6) fun _ hS2=>?_;rw [if_neg (fun k=>absurd k.1 As)];exact ⟨rfl,rfl⟩
def qcz(D d:Nat)(hE:EXT D d)(L:Hl)(s:World)(hG:GP s)(x:Ex)(A:Option Addr)(n c:Nat)(hA:Exs d s A n c x.args)(hu:U32 x.num)(hv:exV x=true)(hN:exN x≤2000)(out:Int)(b:Bool)(hb:b=decide (qfH x.op < out)):AC prog D 204 [.agg #[.int .i64 x.kind,.int .i64 x.op,.int .u32 x.num,St x.name,.slice A n c],.bool b] L s fun v L' _=>v=St (exT x out)∧L=L':=by
 have h:=qkn D d hE L s hG x A n c hA hu hv hN b;have hk:=qb0 (qdI hv).1;have e:(if x.kind=7∧b=true then [40]++exT x 0++[41] else exT x 0)=exT x out:=by
  rw [qik hk.1 hk.2.1 out,hb];simp only [decide_eq_true_eq]
 rwa [e] at h
def qgN{x:Ex}(hv:exV x=true)(h:x.kind=3∨x.kind=6):x.args.length=1:=by
 have ha:=qb0 (qdI hv).1;have h1:=ha.2.2.1;have h2:=ha.2.2.2.1;rcases h with h|h<;>(rw [h] at h1 h2;simp [qcJ,qep] at h1 h2;omega)
def qtO{x:Ex}(hv:exV x=true)(h:x.kind=4):x.args.length≤6:=by
 have ha:=qb0 (qdI hv).1;have h2:=ha.2.2.2.1;rw [h] at h2;simp [qep] at h2;omega
def qtN{x:Ex}(hv:exV x=true)(h:x.kind=7):x.args.length=2:=by
 have ha:=qb0 (qdI hv).1;have h1:=ha.2.2.1;have h2:=ha.2.2.2.1;rw [h] at h1 h2;simp [qcJ,qep] at h1 h2;omega
def qfd{p:Prop} (h:p:=by
 exact ⟨by rw [hT];rfl,rfl⟩):p:=h
def qjv(D d:Nat)(ih:∀ e,d=e+1→EXT D e)(L:Hl)(s:World)(hG:GP s)(x:Ex)(A:Option Addr)(n c:Nat)(hA:Exs d s A n c x.args)(hu:U32 x.num)(hv:exV x=true)(hN:exN x≤2000):AC prog D 179 [.agg #[.int .i64 x.kind,.int .i64 x.op,.int .u32 x.num,St x.name,.slice A n c]] L s fun v L' _=>v=St (exT x 0)∧L=L':=by
 have hxl:=qg0 x 0 hv (qlt hu hA.u);have hC:=qdI hv;have hka:=qb0 hC.1;have hl:=hA.1;have hNx:=qt0 x;refine qae (fn:=f179) qav func179 V Z ntmps179 Z (rs:=[.tmp 2]) Z [(0,_)] Z<|Sr<|qay Z Z fun β1 s1 h1=>At Z Z<|Zs<|Sr<|W0 Y5<|Wl 0 Y6<|Nt<|Zp<|Sr<|qax Z Z Z<|At Z Z<|?_;refine qaa Z ?_ ?_<;>intro c2;·have hT:=qyW c2;refine Sr<|Wb Y5<|Wl 0 Y6<|Je Z Z Z (qer D _ _ (hG.le h1) _ hu) fun s3 h3=>At Z Z<|Zo<|Zc<|Zu<|?_;exact rR [_] L (.t1 Z) Z (h1.t h3) fun _ hS2=>qfd
 refine Sr<|qax Z Z Z<|At Z Z<|?_;refine qaa Z ?_ ?_<;>intro c4;·have hT:=qyX c4;refine Sr<|Wb Y5<|Wl 0 Y6<|At Z Z<|Zo<|Zc<|Zu<|?_;exact rR [_] L (.t1 Z) Z h1 fun _ hS2=>qfd
 refine Sr<|qax Z Z Z<|At Z Z<|?_;refine qaa Z ?_ ?_<;>intro c5;·have hl1:=qgN hv (.inl c5);obtain ⟨e,b,off,y,A1,n1,c1,rfl,rfl,hy,hcy,hay,huy,hnl⟩:=Exs.at_ (hA.le h1) (show 0 < n by omega);obtain ⟨hvy,hNy⟩:=qce hC.2 hy;have hT:=qyY c5 hl1 hy;rw [hT] at hxl;simp only [List.length_append,List.length_cons,List.length_nil] at hxl;refine Zs<|qaJ qac 11 Z _ (fun _ h=>h) fun s6 h6=>za 0 Z (We Y4) Z<|za 1 Z (Wd 0 Y5) Z<|za 2 Z (qah Z Z Uo) Z<|za 3 Z (We Y4) Z<|za 4 Z (Wd 0 Y5) Z<|za 5 Z (qau (j:=0) Z Z Z Z Z Z O) Z<|za 6 Z (qaw Z Z Z (hcy.le h6) Z) Z<|qar 7 V<|Jb Z Tt Z Z Z (ih e Z _ _ (hG.le (h1.t h6)) y A1 n1 c1 (hay.le h6) huy hvy O) ?_;rintro _ _ s7 h7 ⟨rfl,rfl⟩;refine ⟨fun _ _ h=>h,?_⟩;refine za 8 Z (qah Z Z Uo) Z<|za 9 Z (qah Z Z Uo) Z<|za 10 Z (qa6 Z) Z<|qaf V<|Zt<|Zo<|Zc<|Zu<|?_;exact rR [_] L (.t1 Z) Z (h1.t h6|>.t h7) fun _ hS2=>qfd
 refine Sr<|qax Z Z Z<|At Z Z<|?_;refine qaa Z ?_ ?_<;>intro c8;·have hl4:=qtO hv c8;have hT:=qyZ c8;rw [hT] at hxl;simp only [List.length_append,List.length_cons,List.length_nil] at hxl;refine Zs<|qaJ qac 9 Z _ (fun _ h=>h) fun s9 h9=>za 0 Z (We Y4) Z<|za 1 Z (Wd 0 Y5) Z<|za 2 Z (qah Z Z Uo) Z<|za 3 Z (We Y4) Z<|za 4 Z (Wd 0 Y5) Z<|qar 5 V<|Jf Z Tt Z Z Z (qhN D d ih _ _ (hG.le (h1.t h9)) A n c x.args (hA.le (h1.t h9)) hC.2 O O) fun s10 h10=>za 6 Z (qah Z Z Uo) Z<|za 7 Z (qah Z Z Uo) Z<|za 8 Z (qa6 Z) Z<|qaf V<|Zt<|Zo<|Zc<|Zu<|?_;exact rR [_] L (.t1 Z) Z (h1.t h9|>.t h10) fun _ hS2=>qfd
 refine Sr<|qax Z Z Z<|At Z Z<|?_;refine qaa Z ?_ ?_<;>intro c11;·refine Sr<|At Z Z<|Zo<|Zc<|Zu<|?_;exact rR [_] L (.t1 Z) Z h1 fun _ hS2=>⟨by rw [qy0 As];rfl,rfl⟩
 refine Sr<|qax Z Z Z<|At Z Z<|?_;refine qaa Z ?_ ?_<;>intro c12;·have hl1:=qgN hv (.inr c12);have hop:=hka.2.2.2.2.1 c12;obtain ⟨e,b,off,y,A1,n1,c1,rfl,rfl,hy,hcy,hay,huy,hnl⟩:=Exs.at_ (hA.le h1) (show 0 < n by omega);obtain ⟨hvy,hNy⟩:=qce hC.2 hy;have hT:=qy1 c12 hl1 hy;rw [hT] at hxl;simp only [List.length_append,List.length_cons,List.length_nil] at hxl;refine Zs<|qaJ qac 10 Z _ (fun _ h=>h) fun s13 h13=>za 0 Z (We Y4) Z<|za 1 Z (Wd 0 Y5) Z<|za 3 Z (We Y4) Z<|za 4 Z (Wd 0 Y5) Z<|za 5 Z (qau (j:=0) Z Z Z Z Z Z O) Z<|za 6 Z (qaw Z Z Z (hcy.le h13) Z) Z<|qar 2 V<|Jf Z Tt Z Z Z (qkP D _ _ (hG.le (h1.t h13)) x.op O) fun s14 h14=>qar 7 V<|Jf Z Tt Z Z Z (qcz D e (ih e Z) _ _ (hG.le (h1.t h13|>.t h14)) y _ _ _ (hay.le (h13.t h14)) huy hvy O 9 _ (by have:=qiM y.op;exact (decide_eq_true O).symm)) fun s15 h15=>za 8 Z (qah Z Z O) Z<|za 9 Z (qa6 Z) Z<|qaf V<|Zt<|Zo<|Zc<|Zu<|?_;exact rR [_] L (.t1 Z) Z (h1.t h13|>.t h14|>.t h15) fun _ hS2=>qfd
 have h7:x.kind=7:=by omega
 have hl2:=qtN hv h7;have hop:=hka.2.2.2.2.2 h7;obtain ⟨e,b,off,y,A1,n1,c1,rfl,rfl,hy,hcy,hay,huy,hnl⟩:=Exs.at_ (hA.le h1) (show 0 < n by omega);obtain ⟨hvy,hNy⟩:=qce hC.2 hy;obtain ⟨e',b',off',z,A2,n2,c2,hd2,hab,hz,hcz,haz,huz,hnz⟩:=Exs.at_ (hA.le h1) (show 1 < n by omega);cases hab;obtain rfl:e=e':=by omega
 obtain ⟨hvz,hNz⟩:=qce hC.2 hz;have hT:=qy2 h7 hl2 hy hz;rw [hT] at hxl;simp only [List.length_append,List.length_cons,List.length_nil] at hxl;refine Zk<|Zb<|Zt<|Sr<|Wb Y5<|Wl 0 Y6<|Je Z Z Z (qdh D _ _ x.op) fun s16 h16=>At Z Z<|Zs<|qaJ qac 12 Z _ (fun _ h=>h) fun s17 h17=>za 0 Z (We Y4) Z<|za 1 Z (Wd 0 Y5) Z<|za 2 Z (qau (j:=0) Z Z Z Z Z Z O) Z<|za 3 Z (qaw Z Z Z (hcy.le (h16.t h17)) Z) Z<|za 4 Z (We Y4) Z<|za 5 Z (Wd 0 Y5) Z<|za 6 Z (qau (j:=1) Z Z Z Z Z Z O) Z<|za 7 Z (qaw Z Z Z (hcz.le (h16.t h17)) Z) Z ?_;have e17:=h1.t h16|>.t h17;refine qeR 8 9 V ?_ ?_;·refine qcN Z Tt Z [_,_,_,_,_] Z Z fun β18 s18 h18=>qar 9 V<|qcN Z Tt Z [_,_,_,_,_] Z Z fun β19 s19 h19=>qar 10 V<|Wu Z Tt 1 [_,_,_,_,_] Y9 (sM (sbN (sbY (sbE _))))<|qar 11 V<|Wu Z Tt 0 [_,_,_,_,_] Y9 (sM (sbN (sbY (sbE _))))<|qaf V<|Zt<|Zs<|qaJ qac 22 Z _ (fun _ h=>h) fun s20 h20=>za 0 Z (qao 1 [_,_,_,_,_] Z Z Z Z Z) Z<|za 1 Z (We Y4) Z<|za 2 Z (Wd 1 Y5) Z<|za 4 Z (qan Z) Z<|za 8 Z (We Y4) Z<|za 9 Z (Wd 2 Y5) Z<|za 13 Z (qao 0 [_,_,_,_,_] Z Z Z Z Z) Z<|za 14 Z (We Y4) Z<|za 15 Z (Wd 0 Y5) Z<|za 17 Z (qan Z) Z<|qar 3 V<|Jf Z Tt Z Z Z (qdh D _ _ y.op) fun s21 h21=>za 5 Z (qnp Z Z) Z<|qar 6 V<|Jf Z Tt Z Z Z (qcz D e (ih e Z) _ _ (hG.le (e17.t h18|>.t h19|>.t h20|>.t h21)) y _ _ _ (hay.le (h16.t h17|>.t h18|>.t h19|>.t h20|>.t h21)) huy hvy O (qfH x.op) _ (Z)) fun s22 h22=>za 7 Z (qah Z Z Uo) Z<|qar 10 V<|Jf Z Tt Z Z Z (qkP D _ _ (hG.le (e17.t h18|>.t h19|>.t h20|>.t h21|>.t h22)) x.op O) fun s23 h23=>za 11 Z (qah Z Z Uo) Z<|za 12 Z (qah Z Z Uo) Z<|qar 16 V<|Jf Z Tt Z Z Z (qdh D _ _ z.op) fun s24 h24=>za 18 Z (qka Z Z) Z<|qar 19 V<|Jf Z Tt Z Z Z (qcz D e (ih e Z) _ _ (hG.le (e17.t h18|>.t h19|>.t h20|>.t h21|>.t h22|>.t h23|>.t h24)) z _ _ _ (haz.le (h16.t h17|>.t h18|>.t h19|>.t h20|>.t h21|>.t h22|>.t h23|>.t h24)) huz hvz O (qfH x.op+1) _ (by simp only [decide_eq_decide];omega)) fun s25 h25=>za 20 Z (qah Z Z Uo) Z<|za 21 Z (qa6 Z) Z<|qaf V<|Zt<|Zo<|?_;exact rR [_,_,_] L (.t1 Z) Z (e17.t h18|>.t h19|>.t h20|>.t h21|>.t h22|>.t h23|>.t h24|>.t h25) fun _ hS2=>qfd
 refine qcN Z Tt Z [_,_,_,_,_] Z Z fun β26 s26 h26=>qar 8 V<|qcN Z Tt Z [_,_,_,_,_] Z Z fun β27 s27 h27=>qar 10 V<|Wu Z Tt 0 [_,_,_,_,_] Y9 (sM (sbN (sbY (sbE _))))<|qar 11 V<|Wu Z Tt 1 [_,_,_,_,_] Y9 (sM (sbN (sbY (sbE _))))<|qaf V<|Zt<|Zs<|qaJ qac 22 Z _ (fun _ h=>h) fun s28 h28=>za 0 Z (qao 0 [_,_,_,_,_] Z Z Z Z Z) Z<|za 1 Z (We Y4) Z<|za 2 Z (Wd 0 Y5) Z<|za 4 Z (qan Z) Z<|za 8 Z (We Y4) Z<|za 9 Z (Wd 2 Y5) Z<|za 13 Z (qao 1 [_,_,_,_,_] Z Z Z Z Z) Z<|za 14 Z (We Y4) Z<|za 15 Z (Wd 1 Y5) Z<|za 17 Z (qan Z) Z<|qar 3 V<|Jf Z Tt Z Z Z (qdh D _ _ y.op) fun s29 h29=>za 5 Z (qnp Z Z) Z<|qar 6 V<|Jf Z Tt Z Z Z (qcz D e (ih e Z) _ _ (hG.le (e17.t h26|>.t h27|>.t h28|>.t h29)) y _ _ _ (hay.le (h16.t h17|>.t h26|>.t h27|>.t h28|>.t h29)) huy hvy O (qfH x.op) _ (Z)) fun s30 h30=>za 7 Z (qah Z Z Uo) Z<|qar 10 V<|Jf Z Tt Z Z Z (qkP D _ _ (hG.le (e17.t h26|>.t h27|>.t h28|>.t h29|>.t h30)) x.op O) fun s31 h31=>za 11 Z (qah Z Z Uo) Z<|za 12 Z (qah Z Z Uo) Z<|qar 16 V<|Jf Z Tt Z Z Z (qdh D _ _ z.op) fun s32 h32=>za 18 Z (qka Z Z) Z<|qar 19 V<|Jf Z Tt Z Z Z (qcz D e (ih e Z) _ _ (hG.le (e17.t h26|>.t h27|>.t h28|>.t h29|>.t h30|>.t h31|>.t h32)) z _ _ _ (haz.le (h16.t h17|>.t h26|>.t h27|>.t h28|>.t h29|>.t h30|>.t h31|>.t h32)) huz hvz O (qfH x.op+1) _ (by simp only [decide_eq_decide];omega)) fun s33 h33=>za 20 Z (qah Z Z Uo) Z<|za 21 Z (qa6 Z) Z<|qaf V<|Zt<|Zo<|?_;exact rR [_,_,_] L (.t1 Z) Z (e17.t h26|>.t h27|>.t h28|>.t h29|>.t h30|>.t h31|>.t h32|>.t h33) fun _ hS2=>qfd
def qcw(D:Nat):∀ d,EXT D d
 | 0=>fun L s hG x A n c hA hu hv hN=>qjv D 0 (fun e h=>by omega) L s hG x A n c hA hu hv hN
 | d+1=>fun L s hG x A n c hA hu hv hN=>qjv D (d+1) (fun e h=>(show d=e by omega)▸qcw D d) L s hG x A n c hA hu hv hN
def qqW(D d:Nat)(L:Hl)(s:World)(hG:GP s)(A:Option Addr)(n c:Nat)(l:List Ex)(hA:Exs d s A n c l)(hv:qgy l=true)(hN:qbD l≤2000)(hn:n≤1000):AC prog D 181 [.slice A n c] L s fun v L' _=>v=St (qa2 (qdT l []))∧L=L':=qhN D d (fun e _=>qcw D e) L s hG A n c l hA hv hN hn
end Go.Proofs.YtflplmcjbppfcaaGreatDoor
namespace Go.Proofs.YtflplmcjbppfcaaGreatDoor
open Go Go.FL Go.RowKit
def BV(M:Hl)(v:Value)(l:List UInt8):Prop:=FL.Own 5 1 M v l.length (bv l)∧(l=[]→M=[]∧v=.slice none 0 0)
def BV.nil:BV [] (.slice none 0 0) []:=⟨Own.nil,fun _=>⟨rfl,rfl⟩⟩
def qrA{e:Nat}{M:Hl}{n:Nat}{xs:List Value}(h:FL.Own e 1 M (.slice none 0 0) n xs):M=[]:=by cases h;rfl
def BV.app{M M1:Hl}{v v1:Value}{l l2:List UInt8}(h:BV M v l)(o:FL.Own 5 1 M1 v1 (l.length+l2.length) (bv l++bv l2))(hn:v=.slice none 0 0→l2.length=0→v1=.slice none 0 0):BV M1 v1 (l++l2):=by
 have hb:bv (l++l2)=bv l++bv l2:=by simp [bv]
 refine ⟨by rw [hb,List.length_append];exact o,fun h0=>?_⟩;obtain ⟨h1,h2⟩:=List.append_eq_nil_iff.1 h0;have hv:=hn (h.2 h1).2 (by rw [h2];rfl);subst hv;exact ⟨qrA o,rfl⟩
def BV.cap{M:Hl}{A:Option Addr}{n c:Nat}{l:List UInt8}(h:BV M (.slice A n c) l):A=none∨c≠0:=by
  by_cases h0:l=[]
  · have:=(h.2 h0).2;injection this with e;exact .inl e
  · right
    obtain ⟨_,c',e,h2,_⟩:=Own.slice h.1;injection e with e1 e2 e3
    have:l.length≠0:=by simpa using h0
    omega
end Go.Proofs.YtflplmcjbppfcaaGreatDoor
