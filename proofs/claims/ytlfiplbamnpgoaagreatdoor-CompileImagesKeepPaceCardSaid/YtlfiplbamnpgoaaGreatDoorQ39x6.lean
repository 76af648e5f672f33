/- Part 6. -/
import Derived.Test.YtlfiplbamnpgoaaGreatDoorQ39x5
import Derived.RangeFuncIn
import Derived.RangeFuncLeaves
import Derived.RangeFuncCalls
import Derived.RangeFuncRecord
import Derived.TacticsIn
import Derived.Sort.LoopGhostIn
import Derived.OrdersIn
import Derived.Lib.SliceRun
set_option linter.unusedSectionVars false
set_option linter.unusedVariables false
set_option linter.defProp false
set_option linter.unusedSimpArgs false
set_option linter.unnecessarySimpa false
set_option maxRecDepth 100000
set_option maxHeartbeats 8000000
namespace Go.Proofs.YtlfiplbamnpgoaaGreatDoor
open Go.Proofs.Tryz
open Go.FL
attribute [local irreducible] JC JO JA JB qaJ qax qbN AC fill CellsAt QE Ev Mid
variable(D:Nat)(L:Hl)(s:World){p:Prg}{k:Nat}
def qpq:qfd prog 121 .string (.agg #[.int .i64 0,.int .i64 0]):=⟨_,_,underlying121,underlying9,fun w=>by rw [qcK qmB];rfl⟩
def MV(m:Int×Int):Value:=.agg #[.int .i64 m.1,.int .i64 m.2]
def ents(p:Prg):List (Str×(Int×Int)):=(p.globals.mapIdx fun i g=>(g.name,((3:Int),(i:Int))))++(p.funcs.mapIdx fun i x=>(x.name,((4:Int),(i:Int))))
def qbn(p:Prg)(x:Fnc)(nm:Str):(Int×Int)×Bool:=if 0≤qaN (fun y=>decide (nm=y)) x.params 0 then ((1,qaN (fun y=>decide (nm=y)) x.params 0),true) else if 0≤qaN (fun y=>decide (nm=y)) x.locals 0 then ((2,qaN (fun y=>decide (nm=y)) x.locals 0),true)
 else match (ents p).find? fun e=>decide (e.1=nm) with
  | some e=>(e.2,true)
  | none=>((0,0),false)
def NmOK(s:World)(b:Nat)(p:Prg):Prop:=∃ es:List (Str×Value×Nat),MapS s (fun l=>St l) b es∧∀ nm,qaW es nm=((ents p).find? fun e=>decide (e.1=nm)).map fun e=>MV e.2
def NmOK.le{D:Nat}{s s':World}{b:Nat}(h:NmOK s b p)(hl:Le D s s'):NmOK s' b p:=by
 obtain ⟨es,h1,h2⟩:=h;exact ⟨es,h1.le hl,h2⟩
def qpt(p:Prg)(Ag Af:Option Addr)(ng cg nf cf bm:Nat)(hM:NmOK s bm p)(x:Fnc)(A1 A2 A3:Option Addr)(n1 q1 n2 q2 n3 q3:Nat)(hs1:Strs s A1 n1 q1 x.params)(hs2:Strs s A2 n2 q2 x.locals)(nm:List UInt8):AC prog D 77 [.agg #[.slice Ag ng cg,.slice Af nf cf,.map (some bm)],.agg #[St x.name,.slice A1 n1 q1,.slice A2 n2 q2,.slice A3 n3 q3],St nm] L s fun v L' _=>v=.tuple #[.agg #[.int .i64 (qbn p x nm).1.1,.int .i64 (qbn p x nm).1.2],.bool (qbn p x nm).2]∧L=L':=by
 obtain ⟨es,hMs,hes⟩:=hM;refine qad (fn:=f77) qao func77 V Z ntmps77 Z (rs:=[.cell 6 176,.tmp 7]) Z [(0,_),(1,_),(2,_)] Z<|Sr<|qar Z Z fun β1 s1 h1=>qar Z Z fun β2 s2 h2=>qac Z [_,_] Z Z fun β3 s3 h3=>G9 ?_;refine Je Z Z Z (qhl D _ _ A1 n1 q1 x.params (hs1.le (h1.t h2|>.t h3)) nm) fun s4 h4=>G6 ?_;refine qi6 Z Z Z<|G2 ?_;have e4:=h1.t h2|>.t h3|>.t h4;refine qaa Z ?_ ?_<;>intro c5;·have hE:qbn p x nm=_:=if_pos c5;refine Sr<|Zqm Z Z<|qae (qai [(_,_),(_,_)] [_,_] Z Z Z Z Z Z) Z<|Wt 0 [_,_] Y9<|G5 ?_;exact rR [_,_,_] L (.agg (us:=[_,_]) 0 Z Z Z Z Z (.t1 Z)) Z e4 fun _ hS2=>qi5
 have g17:=c5;refine G8 ?_;refine Je Z Z Z (qhl D _ _ A2 n2 q2 x.locals (hs2.le e4) nm) fun s6 h6=>G6 ?_;refine qi6 Z Z Z<|J2 ?_ ?_<;>intro c7;·have hE:qbn p x nm=_:=(if_neg g17).trans (if_pos c7);refine Sr<|Zqm Z Z<|qae (qai [(_,_),(_,_)] [_,_] Z Z Z Z Z Z) Z<|Wt 0 [_,_] Y9<|G5 ?_;exact rR [_,_,_] L (.agg (us:=[_,_]) 0 Z Z Z Z Z (.t1 Z)) Z (e4.t h6) fun _ hS2=>qi5
 have g25:=c7;obtain ⟨mm,bb,hmm,hE⟩:∃ (mm:Int×Int) (bb:Bool),(qaW es nm).getD (.agg #[.int .i64 0,.int .i64 0])=MV mm∧(qaW es nm).isSome=bb∧qbn p x nm=(mm,bb):=by
   rw [hes nm,qbn,if_neg g17,if_neg g25];cases (ents p).find? fun e=>decide (e.1=nm) with
   | none=>exact ⟨(0,0),false,rfl,rfl,rfl⟩
   | some e=>exact ⟨e.2,true,rfl,rfl,rfl⟩
 obtain ⟨hbb,hE⟩:=hE;refine G7 ?_;refine qae (qaC (qdE KeyK.str qpq Z Z (hMs.le (e4.t h6))) (show Value.tuple #[(qaW es nm).getD (.agg #[.int .i64 0,.int .i64 0]),.bool (qaW es nm).isSome]=.tuple #[.agg #[.int .i64 mm.1,.int .i64 mm.2],.bool bb] by rw [hmm,hbb];rfl)) Z<|G3 ?_;refine qac Z [_,_] Z Z fun β8 s8 h8=>Wt 0 [_,_] Y9<|At Z Z<|Sr<|qae (qaj 0 [_,_] Z Z Z Z Z) Z<|Zqm Z Z<|Wt 1 [_,_] Y9<|G4 ?_;exact rR [_,_,_,_] L (.agg (us:=[_,_]) 1 Z Z Z Z Z (.t1 Z)) Z (e4.t h6|>.t h8) fun _ hS2=>qi5
def qdG{f:Int×Int→Value}{l:List (Str×(Int×Int))}{ck:Nat}{e:Str×(Int×Int)}{es:List (Str×Value×Nat)}(hk:l[k]?=some e)(hnd:(l.map (·.1)).Nodup)(h:∀ nm,qaW es nm=((l.take k).find? fun e=>decide (e.1=nm)).map fun e=>f e.2)(nm:Str):qaW (qi9 es e.1 (f e.2) ck) nm=((l.take (k+1)).find? fun e=>decide (e.1=nm)).map fun e=>f e.2:=by
  obtain ⟨hl,rfl⟩:=List.getElem?_eq_some_iff.1 hk;rw [qeu,List.take_succ_eq_append_getElem hl,List.find?_append,h nm];by_cases hn:nm=l[k].1
  · subst hn
    rw [if_pos rfl];have h0:(l.take k).find? (fun e=>decide (e.1=l[k].1))=none:=by
      rw [List.find?_eq_none];intro y hy hd;have h2:((l.take k++l.drop k).map (·.1)).Nodup:=by rw [List.take_append_drop];exact hnd
      rw [List.map_append,List.nodup_append] at h2;exact h2.2.2 _ (List.mem_map.2 ⟨y,hy,rfl⟩) _ (List.mem_map.2 ⟨l[k],by rw [List.drop_eq_getElem_cons hl];exact List.mem_cons_self ..,rfl⟩) (by simpa using hd)
    rw [h0];simp
  · rw [if_neg hn]
    have h1:[l[k]].find? (fun e=>decide (e.1=nm))=none:=by simp [List.find?,Ne.symm hn,show ¬ l[k].1=nm from fun h=>hn h.symm]
    rw [h1,Option.or_none]
def qoP{x:Glo}(h:p.globals[k]?=some x):(ents p)[k]?=some (x.name,((3:Int),(k:Int))):=by
 obtain ⟨hl,rfl⟩:=List.getElem?_eq_some_iff.1 h;rw [ents,List.getElem?_append_left (by simpa using hl)];simp [hl]
def qhU{x:Fnc}(h:p.funcs[k]?=some x):(ents p)[p.globals.length+k]?=some (x.name,((4:Int),(k:Int))):=by
 obtain ⟨hl,rfl⟩:=List.getElem?_eq_some_iff.1 h;rw [ents,List.getElem?_append_right (by simp)];simp [hl]
def qsw(d:Nat)(p:Prg)(Ag Af:Option Addr)(ng cg nf cf:Nat)(hGl:Glos s Ag ng cg p.globals)(hFn:Fncs d s Af nf cf p.funcs)(hD:((ents p).map (·.1)).Nodup):AC prog D 42 [.agg #[.slice Ag ng cg,.slice Af nf cf]] L s fun v L' _=>∃ M',L'=M'++L∧∃ bm es ck,M'=[(bm,mp (fun l=>St l) es ck)]∧v=.agg #[.slice Ag ng cg,.slice Af nf cf,.map (some bm)]∧∀ nm,qaW es nm=((ents p).find? fun e=>decide (e.1=nm)).map fun e=>MV e.2:=by
 have hn1:=hGl.1;have hn2:=hFn.1;have hq1:=hGl.2.1;have hq2:=hGl.2.2.1;have hq3:=hFn.2.1;have hq4:=hFn.2.2.1;refine qad (fn:=f42) qao func42 V Z ntmps42 Z (rs:=[.cell 2 123]) Z [(0,_)] Z<|Sr<|qar Z Z fun β1 s1 h1=>qac Z [_,_,_] Z Z fun β2 s2 h2=>Nt<|Sr<|qae (qaj 1 [_,_] Z Z Z Z Z) Z<|qer (fun l=>St l) Z fun βm s3 h3=>qae (qai [(_,_),(_,_)] [_,_,_] Z Z Z Z Z Z) Z<|qac Z [_,_,_] Z Z fun β4 s4 h4=>Wt 0 [_,_,_] Y9<|G6 ?_;refine Wl 3 Y6<|G5 ?_;have e4:=h1.t h2|>.t h3|>.t h4;refine qaH (γ:=Nat×List (Str×Value×Nat)×Nat) (fun g=>[(1,_),(2,_),(3,_),(12,_),(13,_),(14,.int .i64 (g.1:Int))]) (fun g=>_::(βm,mp (fun l=>St l) g.2.1 g.2.2)::_::_::L) (fun g tw=>Le D s4 tw∧(g.1≤ng∧∀ nm,qaW g.2.1 nm=(((ents p).take g.1).find? fun e=>decide (e.1=nm)).map fun e=>MV e.2)) (fun g=>ng - g.1) (fun _ _ _ h hl=>⟨h.1.trans hl,h.2⟩) (0,[],0) (.c6 Z Z Z Z Z Z (.nil _)) Z ⟨Le.refl _,⟨Nat.zero_le _,fun nm=>rfl⟩⟩ ?_;intro g s5 I5;obtain ⟨k,es,ck⟩:=g;obtain ⟨hk0,hS⟩:=I5.2;simp only at hk0 hS;dsimp only;refine J6 ?_ ?_<;>intro c6
 ·have hk:k < ng:=by omega
  obtain ⟨b,off,x,Ai,ni,ci,rfl,hx,hcx,hix,hux,hnl⟩:=Glos.at_ (hGl.le (e4.t I5.1)) hk;refine G7 ?_;refine qae (qaw Z Z Z Z Z Z hk) Z<|qae (qat Z Z Z (hcx.le (Lr D)) Z) Z<|qac Z [_,_,_,_] Z Z fun β7 s7 h7=>Zqa Z Z<|Wt 0 [_,_,_,_] Y9<|G8 ?_;refine qae (qai [(_,_),(_,_)] [_,_] Z Z Z Z Z Z) Z<|qkK KeyK.str 2 qpq Z Z Z Z ?_;intro ck1;simp only [qch];refine G4 ?_;refine qaV Z Z Z (w64 O O)<|G2 ?_;refine qaf ⟨(k+1,_,ck1),[_],kp,Z,⟨(I5.1.t h7),⟨by simp only;omega,qdG (f:=MV) (qoP hx) hD hS⟩⟩,Oz⟩
 obtain rfl:p.globals.length=k:=by omega
 refine G9 ?_;refine Wl 3 Y6<|G5 ?_;refine qaH (γ:=Nat×List (Str×Value×Nat)×Nat) (fun g=>[(2,_),(3,_),(27,_),(28,_),(29,.int .i64 (g.1:Int))]) (fun g=>_::(βm,mp (fun l=>St l) g.2.1 g.2.2)::_::_::L) (fun g tw=>Le D s5 tw∧(g.1≤nf∧∀ nm,qaW g.2.1 nm=(((ents p).take (p.globals.length+g.1)).find? fun e=>decide (e.1=nm)).map fun e=>MV e.2)) (fun g=>nf - g.1) (fun _ _ _ h hl=>⟨h.1.trans hl,h.2⟩) (0,es,ck) (.c5 Z Z Z Z Z (.nil _)) Z ⟨Le.refl _,⟨Nat.zero_le _,hS⟩⟩ ?_;intro g s7 I7;obtain ⟨k,es,ck⟩:=g;obtain ⟨hk0,hSq⟩:=I7.2;simp only at hk0 hSq;dsimp only;refine J6 ?_ ?_<;>intro c8
 ·have hk:k < nf:=by omega
  obtain ⟨b,off,x,B1,m1,d1,B2,m2,d2,B3,m3,d3,rfl,hx,hcx,hpx,hlx,hbx,hnl⟩:=Fncs.at_ (hFn.le (e4.t I5.1|>.t I7.1)) hk;refine G7 ?_;refine qae (qaw Z Z Z Z Z Z hk) Z<|qae (qat Z Z Z (hcx.le (Lr D)) Z) Z<|qac Z [_,_,_,_] Z Z fun β9 s9 h9=>Zqa Z Z<|Wt 0 [_,_,_,_] Y9<|G8 ?_;refine qae (qai [(_,_),(_,_)] [_,_] Z Z Z Z Z Z) Z<|qkK KeyK.str 2 qpq Z Z Z Z ?_;intro ck1;simp only [qch];refine G4 ?_;refine qaV Z Z Z (w64 O O)<|G2 ?_;refine qaf ⟨(k+1,_,ck1),[_],kp,Z,⟨(I7.1.t h9),⟨by simp only;omega,qdG (f:=MV) (qhU hx) hD hSq⟩⟩,Oz⟩
 rw [List.take_of_length_le (show (ents p).length≤p.globals.length+k by rw [ents,List.length_append,List.length_mapIdx,List.length_mapIdx];omega)] at hSq;refine G6 ?_;refine qbm 2<|qbm 3<|Zr<|qae (qaj 2 [_,_,_] Z Z Z Z Z) Z<|Wt 1 [_,_,_] Y9<|G3 ?_;exact rR [_,_,_] _ (.agg (us:=[_,_,_]) 1 Z Z Z Z Z (.nil)) Z (e4.t I5.1|>.t I7.1) fun _ hS2=>⟨[_],rfl,_,es,ck,rfl,rfl,hSq⟩
def qsx(d:Nat)(p:Prg)(Ag Af:Option Addr)(ng cg nf cf:Nat)(hGl:Glos s Ag ng cg p.globals)(hFn:Fncs d s Af nf cf p.funcs)(hD:((ents p).map (·.1)).Nodup):AC prog D 42 [.agg #[.slice Ag ng cg,.slice Af nf cf]] L s fun v L' s'=>L=L'∧∃ bm,v=.agg #[.slice Ag ng cg,.slice Af nf cf,.map (some bm)]∧NmOK s' bm p:=by
 refine (AC.pubO (qsw D L s d p Ag Af ng cg nf cf hGl hFn hD)).mono ?_;rintro v L1 s1 _ ⟨h1,M1,s2,⟨bm,es,ck,rfl,h3,h4⟩,_,h5⟩;exact ⟨h1,bm,h3,es,⟨ck,h5 _ _ Mc⟩,h4⟩
def qqO(p:Prg)(i:Int):Int:=match p.globals[i.toNat]? with
 | some g=>g.kind
 | none=>0
def qe3{x:Glo}(h:p.globals[k]?=some x):qqO p (k:Int)=x.kind:=by rw [qqO,Int.toNat_natCast,h]
abbrev qfZ(gk uk mk:Int):Prop:=((mk=1∨mk=2)∧(uk=1∨uk=2))∨(mk=4∧uk=4)∨((¬ (mk=1∨mk=2)∧mk≠4)∧((gk=1∧uk=2)∨(gk=2∧(uk=1∨uk=2))∨(gk≠1∧gk≠2∧uk=3)))
def Cz46{p:Prop} (h:p:=by
 refine ⟨?_,Z⟩;simp only [qbP,qfZ];clear hm;try rw [hgk]
 exact congrArg Value.bool (decide_eq_true O).symm):p:=h
def qDZ{p:Prop} (h:p:=by
 refine ⟨?_,Z⟩;simp only [qbP,qfZ];clear hm;try rw [hgk]
 exact congrArg Value.bool (decide_eq_decide.2 O)):p:=h
def Ez87{p:Prop} (h:p:=by
 refine G11 ?_;exact rX [_,_,_] L Z (h1.t h2|>.t h3) fun _ hS2=>qDZ):p:=h
def Ez22{p:Prop} (h:p:=by
  refine G6 ?_;refine qap (t:=15) Z ?_ ?_<;>intro c6;·refine G10 ?_;exact rX [_,_,_] L Z (h1.t h2|>.t h3) fun _ hS2=>Cz46
  refine G12 ?_;refine Zu ?_;exact rX [_,_,_] L Z (h1.t h2|>.t h3) fun _ hS2=>qDZ):p:=h
def qpU(p:Prg)(Ag Af:Option Addr)(ng cg nf cf bm:Nat)(hGl:Glos s Ag ng cg p.globals)(u:Use)(mk mi:Int)(hm:¬ (mk=1∨mk=2)→mk≠4→∃ k:Nat,mi=(k:Int)∧k < ng):AC Tryz.prog D 78 [.agg #[.slice Ag ng cg,.slice Af nf cf,.map (some bm)],.agg #[St (u).1,.int .i64 (u).2.1,.int .i64 (u).2.2],.agg #[.int .i64 mk,.int .i64 mi]] L s fun v L' _=>v=.bool (decide (qfZ (qqO p mi) u.2.1 mk))∧L=L':=by
 refine qad (fn:=Tryz.f78) qao Tryz.func78 V Z Tryz.ntmps78 Z (rs:=[.tmp 6]) Z [(0,_),(1,_),(2,_)] Z<|Sr<|qar Z Z fun β1 s1 h1=>qar Z Z fun β2 s2 h2=>qar Z Z fun β3 s3 h3=>G18 ?_;have e3:=h1.t h2|>.t h3;refine qaa Z ?_ ?_<;>intro c4
 ·refine J2 ?_ ?_<;>intro c5;·exact Ez22
  exfalso;omega
 refine J5 ?_ ?_<;>intro c5;·exact Ez22
 refine J6 ?_ ?_<;>intro c6;·exact Ez87
 obtain ⟨k,rfl,hk⟩:=hm O O;obtain ⟨b,off,x,Ai,ni,ci,rfl,hx,hcx,hix,hux,hnl⟩:=Glos.at_ (hGl.le e3) hk;have hgk:=qe3 hx;refine G11 ?_;refine qae (qaw Z Z Z Z Z Z hk) Z<|W0 Y5<|qae (qak Z Z Z (hcx.le (Lr D)) Z) Z<|J9 ?_ ?_<;>intro c7;·exact Ez87
 refine J6 ?_ ?_<;>intro c8
 ·refine G6 ?_;refine qap (t:=43) Z ?_ ?_<;>intro c9;·refine G10 ?_;exact rX [_,_,_] L Z e3 fun _ hS2=>Cz46
  refine G12 ?_;refine Zu ?_;exact rX [_,_,_] L Z e3 fun _ hS2=>qDZ
 refine G12 ?_;exact rX [_,_,_] L Z e3 fun _ hS2=>qDZ
def qha{x:Fnc}{nm:Str}(h:(qbn p x nm).2=true):((qbn p x nm).1.1=1∨(qbn p x nm).1.1=2)∨((qbn p x nm).1.1=3∧∃ k:Nat,(qbn p x nm).1.2=(k:Int)∧k < p.globals.length)∨((qbn p x nm).1.1=4∧∃ k:Nat,(qbn p x nm).1.2=(k:Int)∧k < p.funcs.length):=by
  unfold qbn at h ⊢;split
  · exact .inl (.inl rfl)
  split
  · exact .inl (.inr rfl)
  rename_i h1 h2;rw [if_neg h1,if_neg h2] at h;cases hf:(ents p).find? fun e=>decide (e.1=nm) with
  | none=>rw [hf] at h;cases h
  | some e=>
    have hm:=List.mem_of_find?_eq_some hf;rw [ents,List.mem_append] at hm;rcases hm with hm|hm
    · obtain ⟨i,hi⟩:=List.getElem?_of_mem hm
      rw [List.getElem?_mapIdx] at hi;cases hg:p.globals[i]? with
      | none=>rw [hg] at hi;cases hi
      | some g=>rw [hg] at hi;simp at hi;subst hi;exact .inr (.inl ⟨rfl,i,rfl,(List.getElem?_eq_some_iff.1 hg).1⟩)
    · obtain ⟨i,hi⟩:=List.getElem?_of_mem hm
      rw [List.getElem?_mapIdx] at hi;cases hg:p.funcs[i]? with
      | none=>rw [hg] at hi;cases hi
      | some g=>rw [hg] at hi;simp at hi;subst hi;exact .inr (.inr ⟨rfl,i,rfl,(List.getElem?_eq_some_iff.1 hg).1⟩)
def qEa(p:Prg)(i:Int):Nat:=match p.funcs[i.toNat]? with
 | some x=>x.params.length
 | none=>0
def qiO{x:Fnc}{i:Int}(hi:i=(k:Int))(h:p.funcs[k]?=some x):qEa p i=x.params.length:=by rw [hi,qEa,Int.toNat_natCast,h]
def qeT(p:Prg)(x:Fnc)(u:Use):Int:=if u.2.1=0 then 0 else if (qbn p x u.1).2=false then 12 else if ¬ qfZ (qqO p (qbn p x u.1).1.2) u.2.1 (qbn p x u.1).1.1 then 13 else if u.2.1=4∧u.2.2≠(qEa p (qbn p x u.1).1.2:Int) then 9 else 0
def ndC(p:Prg)(x:Fnc):Nd→Int
 | .st y lp=>if (y.kind=9∨y.kind=10)∧lp=0 then 24 else qeT p x (qeo y)
 | .ex y _=>qeT p x (qen y)
def qAD{p:Prop} (h:p:=by
 exact ⟨by rw [ndC,if_neg g33,hE];rfl,rfl⟩):p:=h
def Ez62{p:Prop} (h:p:=by
 refine G9 ?_;exact rX [_,_,_,_,_] L Z (h1.t h2|>.t h3|>.t h4|>.t h8|>.t h9|>.t h11|>.t h12|>.t h14|>.t h16) fun _ hS2=>qAD):p:=h
def qxC(d:Nat)(p:Prg)(Ag Af:Option Addr)(ng cg nf cf:Nat)(hGl:Glos s Ag ng cg p.globals)(hFn:Fncs d s Af nf cf p.funcs)(bm:Nat)(hM:NmOK s bm p)(x:Fnc)(A1 A2 A3:Option Addr)(n1 q1 n2 q2 n3 q3:Nat)(hs1:Strs s A1 n1 q1 x.params)(hs2:Strs s A2 n2 q2 x.locals)(y:Stm)(b o:Nat)(C1 C2 C3:Option Addr)(r1 e1 r2 e2 r3 e3:Nat)(hy:CellsAt s b o [.int .i64 y.kind,St y.name,.slice C1 r1 e1,.slice C2 r2 e2,.slice C3 r3 e3])(hr:r1=y.exprs.length)(lp:Nat):AC prog D 44 [.agg #[.slice Ag ng cg,.slice Af nf cf,.map (some bm)],.agg #[St x.name,.slice A1 n1 q1,.slice A2 n2 q2,.slice A3 n3 q3],.agg #[.pointer (some ⟨b,o,none⟩),.pointer none,.int .i64 (lp:Int)]] L s fun v L' _=>v=.int .i64 (ndC p x (.st y lp))∧L=L':=by
 have hn1:=hGl.1;have hn2:=hFn.1;refine qad (fn:=f44) qao func44 V Z ntmps44 Z (rs:=[.tmp 6]) Z [(0,_),(1,_),(2,_)] Z<|Sr<|qar Z Z fun β1 s1 h1=>qar Z Z fun β2 s2 h2=>qar Z Z fun β3 s3 h3=>G11 ?_;have e3q:=h1.t h2|>.t h3;refine qbA 33 ((y.kind=9∨y.kind=10)∧lp=0) ?_ ?_
 ·refine Zr<|Zqm Z Z<|qae (qaC (v':=.bool true) (qlx underlying127 Z) Z) Z<|G8 ?_;refine qae (qak Z Z Z (hy.le e3q) Z) Z<|G4 ?_;refine qap (t:=21) Z ?_ ?_<;>intro c5;·refine G17 ?_;refine qaf (MidB.mk (Lr D) Sb Z (decide_eq_decide.2 O))
  refine G7 ?_;refine qae (qak Z Z Z (hy.le e3q) Z) Z<|G6 ?_;refine qap (t:=29) Z ?_ ?_<;>intro c6;·refine G8 ?_;refine qaf (MidB.mk (Lr D) Sb Z (decide_eq_decide.2 O))
  refine G5 ?_;exact qwj
 intro s4 h4;have e4:=e3q.t h4;refine qaa Z ?_ ?_<;>intro c7;·have g33:=c7;refine G7 ?_;exact rX [_,_,_] L Z e4 fun _ hS2=>⟨by rw [ndC,if_pos g33];rfl,rfl⟩
 have g33:=c7;refine Zk<|Zt<|Sr<|qae (qaj 0 [_,_,_] Z Z Z Z Z) Z<|Je Z Z Z (qF2 D _ _ y b o C1 C2 C3 r1 e1 r2 e2 r3 e3 (hy.le e4) hr _) fun s8 h8=>qac Z [_,_,_] Z Z fun β9 s9 h9=>Wt 0 [_,_,_] Y9<|G10 ?_;have e9:=e4.t h8|>.t h9;refine qaa Z ?_ ?_<;>intro c10;·have hE:qeT p x (qeo y)=0:=if_pos c10;refine G7 ?_;exact rX [_,_,_,_] L Z e9 fun _ hS2=>qAD
 have g38:¬ (qeo y).2.1=0:=c10;refine Zk<|Zt<|Sr<|qae (qaj 3 [_,_,_] Z Z Z Z Z) Z<|qae (qaj 2 [_,_,_,_] Z Z Z Z Z) Z<|G2 ?_;refine Je Z Z Z (qpt D _ _ p Ag Af ng cg nf cf bm (hM.le e9) x A1 A2 A3 n1 q1 n2 q2 n3 q3 (hs1.le e9) (hs2.le e9) _) fun s11 h11=>G3 ?_;refine qac Z [_,_] Z Z fun β12 s12 h12=>Wt 0 [_,_] Y9<|G12 ?_;have e12:=e9.t h11|>.t h12;refine qc8 Z ?_ ?_<;>intro c13;·have hE:qeT p x (qeo y)=12:=(if_neg g38).trans (if_pos c13);refine G8 ?_;exact rX [_,_,_,_,_] L Z e12 fun _ hS2=>qAD
 have g47:¬ (qbn p x (qeo y).1).2=false:=by rw [c13];decide
 have hmk:=qha c13;refine Sr<|qae (qaj 4 [_,_,_] Z Z Z Z Z) Z<|qae (qaj 1 [_,_,_] Z Z Z Z Z) Z<|qae (qaj 0 [_,_] Z Z Z Z Z) Z<|Je Z Z Z (qpU D _ _ p Ag Af ng cg nf cf bm (hGl.le e12) (qeo y) (qbn p x (qeo y).1).1.1 (qbn p x (qeo y).1).1.2 (fun h1 h2=>hmk.elim (fun h=>absurd h h1) (fun h=>h.elim (fun h=>by obtain ⟨k,e1,e2⟩:=h.2;exact ⟨k,e1,by omega⟩) (fun h=>absurd h.1 h2)))) fun s14 h14=>G4 ?_;refine qaR Z ?_ ?_<;>intro c15;·have hE:qeT p x (qeo y)=13:=(if_neg g38).trans ((if_neg g47).trans (if_pos c15));refine G8 ?_;exact rX [_,_,_,_,_] L Z (e12.t h14) fun _ hS2=>qAD
 have g50:¬ ¬ qfZ (qqO p (qbn p x (qeo y).1).1.2) (qeo y).2.1 (qbn p x (qeo y).1).1.1:=fun h=>h c15;have g51:=c15;refine Zs ?_;rcases Classical.em ((qeo y).2.1=4) with g4|g4
 ·obtain ⟨hk4,j,hj,hjn⟩:=hmk.elim (fun h=>absurd g51 (fun k=>by omega)) (fun h=>h.elim (fun h=>absurd g51 (fun k=>by omega)) id);obtain ⟨b,off,z,B1,m1,d1,B2,m2,d2,B3,m3,d3,rfl,hz,hcz,hpz,hlz,hbz,hzl⟩:=Fncs.at_ (hFn.le (e12.t h14)) (show j < nf by omega);have hm9:=hpz.1;have hpar:=qiO hj hz;refine qaL qab 18 Z _ (fun _ h=>h) fun s16 h16=>H2 ?_;refine X24 ?_;refine zg 11 Z ⟨_,Z,Z⟩ (qaw (j:=j) Z (show lk _ _=some (.int .i64 (j:Int)) from by rw [← hj];rfl) Z Z Z Z (show j < nf by omega)) Z ?_;refine H1 ?_;refine zg 13 Z ⟨_,Z,Z⟩ (qa8 1 Z Z Z (hcz.le h16) Z) Z<|H1 ?_;refine zg 15 Z ⟨_,Z,Z⟩ (qmN Z Z) Z<|H2 ?_;refine qah V<|Zt ?_;refine qaR Z ?_ ?_<;>intro c17;·have hE:qeT p x (qeo y)=9:=(if_neg g38).trans ((if_neg g47).trans ((if_neg g50).trans (if_pos ⟨g4,by rw [hpar];have:=c17;omega⟩)));refine G8 ?_;exact rX [_,_,_,_,_] L Z (e12.t h14|>.t h16) fun _ hS2=>qAD
  have hE:qeT p x (qeo y)=0:=(if_neg g38).trans ((if_neg g47).trans ((if_neg g50).trans (if_neg (fun h=>h.2 (by rw [hpar];have:=c17;omega)))));exact Ez62
 refine qaL qab 18 Z _ (fun _ h=>h) fun s16 h16=>H2 ?_;refine za 2 Z (qaC (v':=.bool false) (qdD Z Z) (bZ g4)) Z<|H15 ?_;refine qah V<|G2 ?_;have hE:qeT p x (qeo y)=0:=(if_neg g38).trans ((if_neg g47).trans ((if_neg g50).trans (if_neg (fun h=>g4 h.1))));exact Ez62
def qAE{p:Prop} (h:p:=by
 exact ⟨by rw [ndC,hE];rfl,rfl⟩):p:=h
def Ez70{p:Prop} (h:p:=by
 refine G9 ?_;exact rX [_,_,_,_,_] L Z (h1.t h2|>.t h3|>.t h4|>.t h5|>.t h7|>.t h8|>.t h10|>.t h12) fun _ hS2=>qAE):p:=h
def qxB(d:Nat)(p:Prg)(Ag Af:Option Addr)(ng cg nf cf:Nat)(hGl:Glos s Ag ng cg p.globals)(hFn:Fncs d s Af nf cf p.funcs)(bm:Nat)(hM:NmOK s bm p)(x:Fnc)(A1 A2 A3:Option Addr)(n1 q1 n2 q2 n3 q3:Nat)(hs1:Strs s A1 n1 q1 x.params)(hs2:Strs s A2 n2 q2 x.locals)(y:Ex)(b o:Nat)(A:Option Addr)(n c:Nat)(hy:CellsAt s b o [.int .i64 y.kind,.int .i64 y.op,.int .u32 y.num,St y.name,.slice A n c])(hr:n=y.args.length)(lp:Nat):AC prog D 44 [.agg #[.slice Ag ng cg,.slice Af nf cf,.map (some bm)],.agg #[St x.name,.slice A1 n1 q1,.slice A2 n2 q2,.slice A3 n3 q3],.agg #[.pointer none,.pointer (some ⟨b,o,none⟩),.int .i64 (lp:Int)]] L s fun v L' _=>v=.int .i64 (ndC p x (.ex y lp))∧L=L':=by
 have hn1:=hGl.1;have hn2:=hFn.1;refine qad (fn:=f44) qao func44 V Z ntmps44 Z (rs:=[.tmp 6]) Z [(0,_),(1,_),(2,_)] Z<|Sr<|qar Z Z fun β1 s1 h1=>qar Z Z fun β2 s2 h2=>qar Z Z fun β3 s3 h3=>G14 ?_;refine qae (qaC (v':=.bool false) (qlx underlying127 Z) Z) Z<|G26 ?_;refine qae (qaj 0 [_,_,_] Z Z Z Z Z) Z ?_;have e3:=h1.t h2|>.t h3;refine Je Z Z Z (qF1 D _ _ y b o A n c (hy.le e3) hr _) fun s4 h4=>qac Z [_,_,_] Z Z fun β5 s5 h5=>Wt 0 [_,_,_] Y9<|G10 ?_;have e5:=e3.t h4|>.t h5;refine qaa Z ?_ ?_<;>intro c6;·have hE:qeT p x (qen y)=0:=if_pos c6;refine G7 ?_;exact rX [_,_,_,_] L Z e5 fun _ hS2=>qAE
 have g38:¬ (qen y).2.1=0:=c6;refine Zk<|Zt<|Sr<|qae (qaj 3 [_,_,_] Z Z Z Z Z) Z<|qae (qaj 2 [_,_,_,_] Z Z Z Z Z) Z<|G2 ?_;refine Je Z Z Z (qpt D _ _ p Ag Af ng cg nf cf bm (hM.le e5) x A1 A2 A3 n1 q1 n2 q2 n3 q3 (hs1.le e5) (hs2.le e5) _) fun s7 h7=>G3 ?_;refine qac Z [_,_] Z Z fun β8 s8 h8=>Wt 0 [_,_] Y9<|G12 ?_;have e8:=e5.t h7|>.t h8;refine qc8 Z ?_ ?_<;>intro c9;·have hE:qeT p x (qen y)=12:=(if_neg g38).trans (if_pos c9);refine G8 ?_;exact rX [_,_,_,_,_] L Z e8 fun _ hS2=>qAE
 have g47:¬ (qbn p x (qen y).1).2=false:=by rw [c9];decide
 have hmk:=qha c9;refine Sr<|qae (qaj 4 [_,_,_] Z Z Z Z Z) Z<|qae (qaj 1 [_,_,_] Z Z Z Z Z) Z<|qae (qaj 0 [_,_] Z Z Z Z Z) Z<|Je Z Z Z (qpU D _ _ p Ag Af ng cg nf cf bm (hGl.le e8) (qen y) (qbn p x (qen y).1).1.1 (qbn p x (qen y).1).1.2 (fun h1 h2=>hmk.elim (fun h=>absurd h h1) (fun h=>h.elim (fun h=>by obtain ⟨k,e1,e2⟩:=h.2;exact ⟨k,e1,by omega⟩) (fun h=>absurd h.1 h2)))) fun s10 h10=>G4 ?_;refine qaR Z ?_ ?_<;>intro c11;·have hE:qeT p x (qen y)=13:=(if_neg g38).trans ((if_neg g47).trans (if_pos c11));refine G8 ?_;exact rX [_,_,_,_,_] L Z (e8.t h10) fun _ hS2=>qAE
 have g50:¬ ¬ qfZ (qqO p (qbn p x (qen y).1).1.2) (qen y).2.1 (qbn p x (qen y).1).1.1:=fun h=>h c11;have g51:=c11;refine Zs ?_;rcases Classical.em ((qen y).2.1=4) with g4|g4
 ·obtain ⟨hk4,j,hj,hjn⟩:=hmk.elim (fun h=>absurd g51 (fun k=>by omega)) (fun h=>h.elim (fun h=>absurd g51 (fun k=>by omega)) id);obtain ⟨b,off,z,B1,m1,d1,B2,m2,d2,B3,m3,d3,rfl,hz,hcz,hpz,hlz,hbz,hzl⟩:=Fncs.at_ (hFn.le (e8.t h10)) (show j < nf by omega);have hm9:=hpz.1;have hpar:=qiO hj hz;refine qaL qab 18 Z _ (fun _ h=>h) fun s12 h12=>H2 ?_;refine X24 ?_;refine zg 11 Z ⟨_,Z,Z⟩ (qaw (j:=j) Z (show lk _ _=some (.int .i64 (j:Int)) from by rw [← hj];rfl) Z Z Z Z (show j < nf by omega)) Z ?_;refine H1 ?_;refine zg 13 Z ⟨_,Z,Z⟩ (qa8 1 Z Z Z (hcz.le h12) Z) Z<|H1 ?_;refine zg 15 Z ⟨_,Z,Z⟩ (qmN Z Z) Z<|H2 ?_;refine qah V<|Zt ?_;refine qaR Z ?_ ?_<;>intro c13;·have hE:qeT p x (qen y)=9:=(if_neg g38).trans ((if_neg g47).trans ((if_neg g50).trans (if_pos ⟨g4,by rw [hpar];have:=c13;omega⟩)));refine G8 ?_;exact rX [_,_,_,_,_] L Z (e8.t h10|>.t h12) fun _ hS2=>qAE
  have hE:qeT p x (qen y)=0:=(if_neg g38).trans ((if_neg g47).trans ((if_neg g50).trans (if_neg (fun h=>h.2 (by rw [hpar];have:=c13;omega)))));exact Ez70
 refine qaL qab 18 Z _ (fun _ h=>h) fun s12 h12=>H2 ?_;refine za 2 Z (qaC (v':=.bool false) (qdD Z Z) (bZ g4)) Z<|H15 ?_;refine qah V<|G2 ?_;have hE:qeT p x (qen y)=0:=(if_neg g38).trans ((if_neg g47).trans ((if_neg g50).trans (if_neg (fun h=>g4 h.1))));exact Ez70
end Go.Proofs.YtlfiplbamnpgoaaGreatDoor
namespace Go.FL
open Go Go.RowKit
variable{ds:List Deferred}{n t t' off:Nat}{a:Int}{x c y:Operand}{b:Bool}{ik:IntKind}{ti:TI}
def fro(ro:Option Nat):Fence:={ Fence.wide with round:=ro }
def qgR{P:Program}{f:FuncId}{args:Array Value}{w:World}{R:Ending→World→Prop}(ro:Option Nat)(n:Nat)(h:Calls P f args w R):CallsIn (fro ro) n P f args w R:=by
 cases ro with
 | none=>exact callsIn_wide.2 h
 | some l=>exact CallsIn.inRound l (callsIn_wide.2 h)
def qfn(ro:Option Nat)(n:Nat):(fro ro).depth.isSome=true→1≤n:=fun h=>by cases h
def qf9(ro:Option Nat)(f:FuncId):(fro ro).fn f:=trivial
structure FrD(ds:List Deferred)(n:Nat)(a:Act)(fr:Fr):Prop where
 rel:FrRel n { a with defers:=[] } fr
 defers:a.defers=ds
def FrD.ev{a:Act}{fr:Fr}(h:FrD ds n a fr){v:Value}(hx:lk fr x=some v):a.eval x=v:=h.rel.ev hx
def FrD.put{a:Act}{fr:Fr}(h:FrD ds n a fr){d:Nat}(hd:Nat.blt d n=true)(v:Value):FrD ds n (a.put (some d) v) ((d,v)::fr):=
 ⟨h.rel.put hd v,h.defers⟩
def FrD.sub{a:Act}{fr l:Fr}(h:FrD ds n a fr)(hs:Keeps fr l):FrD ds n a l:=⟨h.rel.sub hs,h.defers⟩
abbrev qdM:=Exit→List Deferred→Fr→Hl→World→Prop
def qCl(D n:Nat)(Q:qdM):Exit→Act→World→Prop:=fun e a w=>∃ ds fr L s,FrD ds n a fr∧OKL D L s∧w=fill L s∧Q e ds fr L s
def RC(P:Program)(TT:qaM)(D n:Nat)(ro:Option Nat)(Q:qdM)(c:Code)(ds:List Deferred)(fr:Fr)(L:Hl)(s:World):Prop:=
 TabOK P TT→∀ a,FrD ds n a fr→OKL D L s→c.wpIn (fro ro) 0 P (qCl D n Q) a (fill L s)
def RO(P:Program)(TT:qaM)(D n:Nat)(ro:Option Nat)(ops:Array Oper)(Q:qdM)(l:List Oper)(ds:List Deferred)(fr:Fr)(L:Hl)(s:World):Prop:=
 TabOK P TT→∀ a,FrD ds n a fr→OKL D L s→wpListIn (fro ro) 0 P ops (qCl D n Q) l a (fill L s)
section control
variable{P:Program}{TT:qaM}{D n:Nat}{ro:Option Nat}{Q:qdM}{ds:List Deferred}{fr:Fr}{L:Hl}{s:World}
def qlo(J:List Deferred→Fr→Hl→World→Prop)(Q:qdM):qdM
 | .normal,ds,fr,L,s=>J ds fr L s
 | e,ds,fr,L,s=>Q e ds fr L s
def qgP(id:Nat)(Q:qdM):qdM
 | .exit i,ds,fr,L,s=>if i=id then Q .normal ds fr L s else Q (.exit i) ds fr L s
 | e,ds,fr,L,s=>Q e ds fr L s
def qwK(h:Q .normal ds fr L s):RC P TT D n ro Q .skip ds fr L s:=fun _ _ hr ho=>wpIn_skip ⟨ds,fr,L,s,hr,ho,rfl,h⟩
def qwI{id:Nat}(h:Q (.exit id) ds fr L s):RC P TT D n ro Q (.exit id) ds fr L s:=fun _ _ hr ho=>wpIn_exit ⟨ds,fr,L,s,hr,ho,rfl,h⟩
def qBx(h:Q .ret ds fr L s):RC P TT D n ro Q .ret ds fr L s:=fun _ _ hr ho=>wpIn_ret ⟨ds,fr,L,s,hr,ho,rfl,h⟩
def qBy{x y:Code}(h:RC P TT D n ro (qlo (RC P TT D n ro Q y) Q) x ds fr L s):RC P TT D n ro Q (.seq x y) ds fr L s:=fun ht a hr ho=>
 wpIn_seq (wpIn_mono (h ht a hr ho) fun e a w ⟨ds',fr',L',s',h1,h2,h3,h4⟩=>by
  cases e with
  | normal=>subst h3;exact h4 ht a h1 h2
  | _=>exact ⟨ds',fr',L',s',h1,h2,h3,h4⟩)
def qq3{id:Nat}{c:Code}(h:RC P TT D n ro (qgP id Q) c ds fr L s):RC P TT D n ro Q (.block id c) ds fr L s:=fun ht a hr ho=>
 wpIn_block (wpIn_mono (h ht a hr ho) fun e a w ⟨ds',fr',L',s',h1,h2,h3,h4⟩=>by
  cases e with
  | exit i=>
   simp only [qgP] at h4;simp only [Exit.inBlock];by_cases hi:i=id
   · simp only [hi,if_true] at h4 ⊢;exact ⟨ds',fr',L',s',h1,h2,h3,h4⟩
   · simp only [hi,if_false] at h4 ⊢;exact ⟨ds',fr',L',s',h1,h2,h3,h4⟩
  | _=>exact ⟨ds',fr',L',s',h1,h2,h3,h4⟩)
def qq4{x y:Code}(hc:lk fr c=some (.bool b))(h1:b=true→RC P TT D n ro Q x ds fr L s)(h2:b=false→RC P TT D n ro Q y ds fr L s):RC P TT D n ro Q (.cond c x y) ds fr L s:=
 fun ht a hr ho=>wpIn_cond_split (hr.ev hc) (fun hb=>h1 hb ht a hr ho) (fun hb=>h2 hb ht a hr ho)
def qlz{x y:Code}{p:Prop}[Decidable p](hc:lk fr c=some (.bool (decide p)))(h1:p→RC P TT D n ro Q x ds fr L s)(h2:¬ p→RC P TT D n ro Q y ds fr L s):RC P TT D n ro Q (.cond c x y) ds fr L s:=
 qq4 hc (fun hb=>h1 (of_decide_eq_true hb)) (fun hb=>h2 (of_decide_eq_false hb))
def qnX{x y:Code}{p:Prop}[Decidable p](hc:lk fr c=some (.bool (!decide p)))(h1:¬ p→RC P TT D n ro Q x ds fr L s)(h2:p→RC P TT D n ro Q y ds fr L s):RC P TT D n ro Q (.cond c x y) ds fr L s:=
 qq4 hc (fun hb=>h1 Q11) (fun hb=>h2 Q11)
def qnW{x y:Code}(hc:lk fr c=some (.bool (!b)))(h1:b=false→RC P TT D n ro Q x ds fr L s)(h2:b=true→RC P TT D n ro Q y ds fr L s):RC P TT D n ro Q (.cond c x y) ds fr L s:=
 qq4 hc (fun hb=>h1 Q11) (fun hb=>h2 Q11)
def qBw{c:Operand}{x y:Code}(hc:lk fr c=some (.bool true))(h1:RC P TT D n ro Q x ds fr L s):RC P TT D n ro Q (.cond c x y) ds fr L s:=
 qq4 hc (fun _=>h1) (fun hb=>by cases hb)
def qn0{id:Nat}{l:List Oper}(h:RO P TT D n ro l.toArray Q l ds fr L s):RC P TT D n ro Q (.region id l.toArray false) ds fr L s:=
 fun ht a hr ho=>wpIn_region_lit (h ht a hr ho)
def qBB{ops:Array Oper}(h:Q .normal ds fr L s):RO P TT D n ro ops Q [] ds fr L s:=fun _ _ hr ho=>⟨ds,fr,L,s,hr,ho,rfl,h⟩
def qnY{γ:Type}{c:Code}(S:γ→Fr)(H:γ→Hl)(I:γ→World→Prop)(μ:γ→Nat)(mono:∀ g s s',I g s→Le D s s'→I g s')(g0:γ)
  (hS:Keeps fr (S g0)) (hL:L=H g0) (hI:I g0 s)
  (round:∀ g s,I g s→RC P TT D n ro (qlo (fun ds' fr' L' s'=>ds'=ds∧∃ g' A,Keeps fr' (S g')∧L'=A++H g'∧I g' s'∧μ g' < μ g) Q) c ds (S g) (H g) s) :
  RC P TT D n ro Q (.loop c) ds fr L s:=fun ht a hr ho=>by
 refine wpIn_loop_ghost (fun m a w=>∃ g s,μ g=m∧FrD ds n a (S g)∧OKL D (H g) s∧w=fill (H g) s∧I g s) (μ g0) ⟨g0,s,Z,hr.sub hS,hL▸ho,hL▸Z,hI⟩ ?_;rintro m a w ⟨g,s,rfl,h1,h2,rfl,h4⟩;refine wpIn_mono (round g s h4 ht a h1 h2) ?_;rintro e a' w' ⟨ds',fr',L',s',k1,k2,rfl,k4⟩;cases e with
 | normal=>
  obtain ⟨rfl,g',A,j1,rfl,j3,j4⟩:=k4;exact qwd
 | _=>exact ⟨ds',fr',L',s',k1,k2,rfl,k4⟩
def qq5{γ:Type}{c:Code}(S:γ→Fr)(H:γ→Hl)(E:γ→List Deferred)(I:γ→World→Prop)(μ:γ→Nat)(mono:∀ g s s',I g s→Le D s s'→I g s')(g0:γ)
  (hS:Keeps fr (S g0)) (hL:L=H g0) (hE:ds=E g0) (hI:I g0 s)
  (round:∀ g s,I g s→RC P TT D n ro (qlo (fun ds' fr' L' s'=>∃ g' A,ds'=E g'∧Keeps fr' (S g')∧L'=A++H g'∧I g' s'∧μ g' < μ g) Q) c (E g) (S g) (H g) s) :
  RC P TT D n ro Q (.loop c) ds fr L s:=fun ht a hr ho=>by
 subst hE;refine wpIn_loop_ghost (fun m a w=>∃ g s,μ g=m∧FrD (E g) n a (S g)∧OKL D (H g) s∧w=fill (H g) s∧I g s) (μ g0) ⟨g0,s,Z,hr.sub hS,hL▸ho,hL▸Z,hI⟩ ?_;rintro m a w ⟨g,s,rfl,h1,h2,rfl,h4⟩;refine wpIn_mono (round g s h4 ht a h1 h2) ?_;rintro e a' w' ⟨ds',fr',L',s',k1,k2,rfl,k4⟩;cases e with
 | normal=>
  obtain ⟨g',A,rfl,j1,rfl,j3,j4⟩:=k4;exact qwd
 | _=>exact ⟨ds',fr',L',s',k1,k2,rfl,k4⟩
def qi0{J:List Deferred→Fr→Hl→World→Prop}(h:J ds fr L s):qlo J Q .normal ds fr L s:=h
def qzb{J:List Deferred→Fr→Hl→World→Prop}(h:Q .ret ds fr L s):qlo J Q .ret ds fr L s:=h
def qzc{J:List Deferred→Fr→Hl→World→Prop}{i:Nat}(h:Q (.exit i) ds fr L s):qlo J Q (.exit i) ds fr L s:=h
def qrp{id:Nat}(h:Q .normal ds fr L s):qgP id Q .normal ds fr L s:=h
def qrq{id:Nat}(h:Q .ret ds fr L s):qgP id Q .ret ds fr L s:=h
def qrr{id:Nat}(h:Q .normal ds fr L s):qgP id Q (.exit id) ds fr L s:=by simpa [qgP] using h
end control
section ops
variable{P:Program}{TT:qaM}{D n:Nat}{ro:Option Nat}{Q:qdM}{ds:List Deferred}{fr:Fr}{L L':Hl}{s s':World}{ops:Array Oper}{rest:List Oper}{d ty:Nat}{op:Op}{pos:String}{af:Array Edge}{v:Value}
def qwO(hnd:∀ c,op≠.defer c)(hd:Nat.blt d n=true)(h:Ev P TT D fr op ty L s (.value v) L' s')(k:RO P TT D n ro ops Q rest ds ((d,v)::fr) L' s'):
  RO P TT D n ro ops Q (⟨some d,op,ty,pos,af,none⟩::rest) ds fr L s:=fun ht a hr ho=>by
 obtain ⟨h1,h2⟩:=h ht ho (some d) pos af none a.eval (fun x v hx=>hr.ev hx);simp only [wpListIn,Region.wanted,if_true];refine ⟨fun f _=>qf9 ro f,?_⟩;rw [Oper.semAt_eq _ _ _ hnd,h1,Oper.uponIn_value];exact k ht _ (hr.put hd v) h2
def qEF(hnd:∀ c,op≠.defer c)(h:Ev P TT D fr op ty L s .skip L' s')(k:RO P TT D n ro ops Q rest ds fr L' s'):
  RO P TT D n ro ops Q (⟨none,op,ty,pos,af,none⟩::rest) ds fr L s:=fun ht a hr ho=>by
 obtain ⟨h1,h2⟩:=h ht ho none pos af none a.eval (fun x v hx=>hr.ev hx);simp only [wpListIn,Region.wanted,if_true];refine ⟨fun f _=>qf9 ro f,?_⟩;rw [Oper.semAt_eq _ _ _ hnd,h1,Oper.uponIn_skip];exact k ht _ hr h2
def qcB(h:QE P TT D fr op ty L s v)(hd:Nat.blt d n=true)(k:RO P TT D n ro ops Q rest ds ((d,v)::fr) L s)(hnd:∀ c,op≠.defer c:=by nofun):RO P TT D n ro ops Q (⟨some d,op,ty,pos,af,none⟩::rest) ds fr L s:=
 qwO hnd hd (fun ht ho dst pos af g ρ hρ=>⟨h ht dst pos af g ρ hρ L s ho (Le.refl _) (fun _ hx=>hx),ho⟩) k
def qwM{f:FuncId}{x:Operand}{xs:List Operand}{first captured vs:List Value}{ts:Array TypeId}{R:Value→Hl→World→Prop}(hx:lk fr x=some (.func (.func f) first.toArray captured.toArray))(hv:lks fr xs=some vs)
  (hd:Nat.blt d n=true) (h:AC P D f (first++vs++captured) L s R) (k:∀ v L' s',Le D s s'→R v L' s'→RO P TT D n ro ops Q rest ds ((d,v)::fr) L' s') :
  RO P TT D n ro ops Q (⟨some d,.call { callee:=.value x,args:=xs.toArray,argTypes:=ts },ty,pos,af,none⟩::rest) ds fr L s:=fun hT a hr ho=>by
 obtain ⟨⟨fn,h1,h2,h3⟩,hc⟩:=h;have hρ:∀ x v,lk fr x=some v→a.eval x=v:=fun x v hx=>hr.ev hx;simp only [wpListIn,Region.wanted,if_true];refine ⟨fun f _=>qf9 ro f,?_⟩;have hrun:(execOp a.eval ⟨some d,.call { callee:=.value x,args:=xs.toArray,argTypes:=ts },ty,pos,af,none⟩).run P (fill L s)=.ok (.enter f (first++vs++captured).toArray) (fill L s):=by
  exact qwl
 rw [Oper.semAt_eq _ _ _ (by nofun),hrun,Oper.uponIn_enter];refine ⟨qfn ro 0,(qgR ro _ (hc ho)).mono ?_⟩;exact qwe
def Rc9{f:FuncId}{x:Operand}{xs:List Operand}{vs:List Value}{ts:Array TypeId}{R:Value→Hl→World→Prop}(hx:lk fr x=some (.func (.func f) ([]:List Value).toArray ([]:List Value).toArray))(hv:lks fr xs=some vs)
  (hd:Nat.blt d n=true) (h:AC P D f (([]:List Value)++vs++[]) L s R) (k:∀ v L' s',Le D s s'→R v L' s'→RO P TT D n ro ops Q rest ds ((d,v)::fr) L' s') :
  RO P TT D n ro ops Q (⟨some d,.call { callee:=.value x,args:=xs.toArray,argTypes:=ts },ty,pos,af,none⟩::rest) ds fr L s:=qwM (first:=[]) (captured:=[]) hx hv hd h k
def YC(P:Program)(D:Nat)(l:Nat)(args:List Value)(L:Hl)(s:World)(R:Value→Hl→World→Prop):Prop:=
 OKL D L s→∃ fn tmps assign body,(Instr.yield l args.toArray).run P (fill L s)=.ok (.round l fn tmps assign body) (fill L s) ∧
  RoundIn Fence.wide 0 P l fn tmps assign body (fill L s) fun e w'=>∃ v L' s',e=.returned v∧w'=fill L' s'∧OKL D L' s'∧Le D s s'∧R v L' s'
def qlB{l:Nat}{x:Operand}{xs:List Operand}{vs:List Value}{ts:Array TypeId}{R:Value→Hl→World→Prop}(hx:lk fr x=some (.func (.yield l) #[] #[]))(hv:lks fr xs=some vs)
  (hd:Nat.blt d n=true) (h:YC P D l vs L s R) (k:∀ v L' s',Le D s s'→R v L' s'→RO P TT D n none ops Q rest ds ((d,v)::fr) L' s') :
  RO P TT D n none ops Q (⟨some d,.call { callee:=.value x,args:=xs.toArray,argTypes:=ts },ty,pos,af,none⟩::rest) ds fr L s:=fun hT a hr ho=>by
 obtain ⟨fn,tmps,assign,body,hy,hR⟩:=h ho;have hρ:∀ x v,lk fr x=some v→a.eval x=v:=fun x v hx=>hr.ev hx;simp only [wpListIn,Region.wanted,if_true];refine ⟨fun f _=>qf9 none f,?_⟩;have hrun:(execOp a.eval ⟨some d,.call { callee:=.value x,args:=xs.toArray,argTypes:=ts },ty,pos,af,none⟩).run P (fill L s)=.ok (.round l fn tmps assign body) (fill L s):=by
  simp [execOp,resolve,Deferred.ofValue,invoke,hρ x _ hx,qle hρ hv,hy]
 rw [Oper.semAt_eq _ _ _ (by nofun),hrun,Oper.uponIn_round];refine ⟨qfn none 0,RoundIn.mono hR ?_⟩;exact qwe
def qq6{t:Nat}{ti:TI}(ht:qay TT t=some ti)(hd:Nat.blt d n=true)
  (k:∀ β s',Le D s s'→RO P TT D n ro ops Q rest ds ((d,.pointer (some ⟨β,0,none⟩))::fr) ((β,cb ti.zeros t)::L) s'):RO P TT D n ro ops Q (⟨some d,.alloc t,ty,pos,af,none⟩::rest) ds fr L s:=fun hT a hr ho=>
 qwO (by nofun) hd (qgq ht ho) (k _ _ (qaD ho (cb ti.zeros t)).2.2) hT a hr ho
def qda{t:Nat}{ti:TI}(ht:qay TT t=some ti)(zs:List Value)(hz:ti.zeros=zs)(hd:Nat.blt d n=true)
  (k:∀ β s',Le D s s'→RO P TT D n ro ops Q rest ds ((d,.pointer (some ⟨β,0,none⟩))::fr) ((β,cb zs t)::L) s'):RO P TT D n ro ops Q (⟨some d,.alloc t,ty,pos,af,none⟩::rest) ds fr L s:=by subst hz;exact qq6 ht hd k
def qhC{t b off:Nat}{x y:Operand}{ti:TI}{t':Nat}{zs:List Value}(i:Nat)(zs':List Value){L':Hl}(hx:lk fr x=some (.pointer (some ⟨b,off,none⟩)))(hy:lk fr y=some v)(hi:L[i]?=some (b,cb zs t'))(ht:qay TT t=some ti)
  (hl:(qa2 v).length=ti.size) (hle:Nat.ble (off+ti.size) zs.length=true) (h1:(qa2 v).all (·.oneCell')=true) (hs:qbx zs off (qa2 v)=zs') (hL:qch L i (cb zs' t')=L')
  (k:RO P TT D n ro ops Q rest ds fr L' s):RO P TT D n ro ops Q (⟨none,.store t x y,ty,pos,af,none⟩::rest) ds fr L s:=by
 subst hL;exact qEF (by nofun) (qqR i zs' hx hy hi ht hl hle h1 hs) k
def qEE{dst:Option Nat}{j t:Nat}{w:Bool}(hj:qeJ ops j=some t)(hv:qaS fr t=some (.bool w))
  (k:RO P TT D n ro ops Q (⟨dst,op,ty,pos,af,none⟩::rest) ds fr L s):RO P TT D n ro ops Q (⟨dst,op,ty,pos,af,some (j,w)⟩::rest) ds fr L s:=fun ht a hr ho=>by
 have k1:=k ht a hr ho;have hy:yielded ops a.tmps j=some w:=by
  have h1:=hr.rel.slot t (hr.rel.top _ _ hv) _ hv;unfold qeJ at hj;simp [yielded,hj,h1]
 simp only [wpListIn,Region.wanted,if_true] at k1;simp only [wpListIn,Region.wanted,hy,beq_self_eq_true,if_true];exact k1
def qED{d:Nat}{j t:Nat}{w b:Bool}(hd:Nat.blt d n=true)(hj:qeJ ops j=some t)(hv:qaS fr t=some (.bool b))(hb:(b != w)=true)
  (k:RO P TT D n ro ops Q rest ds ((d,undef)::fr) L s):RO P TT D n ro ops Q (⟨some d,op,ty,pos,af,some (j,w)⟩::rest) ds fr L s:=fun ht a hr ho=>by
 have hy:yielded ops a.tmps j=some b:=by
  have h1:=hr.rel.slot t (hr.rel.top _ _ hv) _ hv;unfold qeJ at hj;simp [yielded,hj,h1]
 have hne:(some b == some w)=false:=by cases b<;>cases w<;>simp_all
 simp only [wpListIn,Region.wanted,hy,hne,Bool.false_eq_true,if_false];exact ⟨fun f _=>qf9 ro f,k ht _ (hr.put hd undef) ho⟩
def qwN{l:List Oper}(hv:qaS fr t=some (.bool b))(h1:b=true→RO P TT D n ro ops Q l ds ((t,.bool true)::fr) L s)(h2:b=false→RO P TT D n ro ops Q l ds ((t,.bool false)::fr) L s):
  RO P TT D n ro ops Q l ds fr L s:=fun ht a hr ho=>by
 exact Ez44
def qgs{l:List Oper}(hv:qaS fr t=some (.bool (!b)))(h1:b=false→RO P TT D n ro ops Q l ds ((t,.bool true)::fr) L s)(h2:b=true→RO P TT D n ro ops Q l ds ((t,.bool false)::fr) L s):
  RO P TT D n ro ops Q l ds fr L s:=qwN hv (fun h=>h1 Q4) (fun h=>h2 Q4)
end ops
section anyorder
variable{P:Program}{TT:qaM}{D n:Nat}{ro:Option Nat}{Q:qdM}{ds:List Deferred}{fr:Fr}{L L':Hl}{s s':World}{ops:Array Oper}{d ty fuel:Nat}{op:Op}{pos:String}{af:Array Edge}{v:Value}{listed:Array Bool}
end anyorder
section calls
variable{P:Program}{TT:qaM}{D n:Nat}{Q:qdM}{ds:List Deferred}{fr:Fr}{L:Hl}{s:World}
def qg9(b:Nat):Deferred:={ target:=.collected b,args:=#[] }
abbrev qlf(b:Nat):Nat×Obj:=(b,Obj.deferred (some []))
def retG(TT:qaM)(D:Nat)(rs:List ResultVar)(s0:World)(R:Value→Hl→World→Prop):qdM:=fun e ds fr L s=>
 (e=.normal∨e=.ret)∧∃ vs A L',Res TT fr L rs vs∧L=A++L'∧Le D s0 s∧(∀ s',Le D s s'→R (qbP vs) L' s')∧(∃ bs:List Nat,ds=bs.map qg9∧(bs.map qlf).Sublist A)
def Res.set{fr:Fr}{L L':Hl}(hL:∀ (i:Nat) b zs t,L[i]?=some (b,cb zs t)→L'[i]?=some (b,cb zs t)){rs:List ResultVar}{vs:List Value}(h:Res TT fr L rs vs):Res TT fr L' rs vs:=by
 induction h with
 | nil=>exact .nil
 | tmp h _ ih=>exact .tmp h ih
 | one i h hi ht hk hv _ ih=>exact .one i h (hL _ _ _ _ hi) ht hk hv ih
 | agg i h hi ht hk hv _ ih=>exact .agg i h (hL _ _ _ _ hi) ht hk hv ih
def qmq(L:Hl)(i j:Nat)(o:Obj)(h:i≠j):(qch L i o)[j]?=L[j]?:=by
 induction L generalizing i j with
 | nil=>cases i<;>rfl
 | cons x L ih=>
  cases i with
  | zero=>cases j with
   | zero=>exact absurd rfl h
   | succ j=>rfl
  | succ i=>cases j with
   | zero=>rfl
   | succ j=>simp only [qch,List.getElem?_cons_succ];exact ih i j O
def qiS{A L':Hl}{i:Nat}(o:Obj)(h:i < A.length):qch (A++L') i o=qch A i o++L':=by
 induction A generalizing i with
 | nil=>cases h
 | cons x A ih=>
  cases i with
  | zero=>rfl
  | succ i=>simp only [List.cons_append,qch];rw [ih Q4]
def qdT(w:World)(b:Nat)(o:Obj):w.putObj b o=qbq w b o:=rfl
def qAZ{p:Prop} (h:p:=by
 rw [Array.mapM_eq_mapM_toList];simp only [map_eq_pure_bind,Sem.run_bind,h1,Result.andThen_ok,Sem.run_pure]):p:=h
def Ez85{p:Prop} (h:p:=by
 rw [qf0];simp only [Sem.run_bind,h2,Result.andThen_ok,Sem.run_pure];congr 1;match vs with
 | []=>rfl
 | [v]=>rfl
 | v::u::r=>simp [qbP]):p:=h
def Ez29{p:Prop} (h:p:=by
  refine ⟨⟨by simp [hnt];omega,Z,fun t ht v hv=>?_,fun t v hv=>?_⟩,Z⟩
  · rw [qdQ] at hv
    simp at hv;obtain ⟨hlt,_⟩:=List.getElem?_eq_some_iff.1 hv;simp [Array.getElem?_append,hlt];exact (List.getElem?_eq_some_iff.1 hv).2
  · rw [qdQ] at hv
    simp at hv;obtain ⟨hlt,_⟩:=List.getElem?_eq_some_iff.1 hv;omega):p:=h
def qfc{f:FuncId}{fn:Func}{c:Code}{args:List Value}{R:Value→Hl→World→Prop}(hT:TabOK P TT)(hf:P.funcs[f]?=some fn)(hn:(fn.name == "runtime.NumGoroutine")=false)(hb:fn.body=some c)(hnt:fn.ntmps=n)(hle:Nat.ble args.length n=true){rs:List ResultVar}(hrs:fn.results.toList=rs)(fr0:Fr)(hfr:slots 0 args=fr0)
    (h:RC P TT D n none (retG TT D rs s R) c [] fr0 L s):AC P D f args L s R:=by
  subst hfr;subst hrs;refine ⟨⟨fn,hf,hn,by simp [hb]⟩,fun ho=>(callsIn_wide (n:=0)).1 (callsIn_of_wp_marks hf hb Tt ?_)⟩;have hle':args.length≤n:=Nat.le_of_ble_eq_true hle;have hr:FrD [] n { tmps:=args.toArray++Array.replicate (fn.ntmps - args.toArray.size) undef,defers:=[] } (slots 0 args):=by
    exact Ez29
  refine wpIn_mono (h hT _ hr ho) ?_;rintro e a w ⟨ds,fr',L1,s1,k1,k2,rfl,he,vs,A,L',hres,rfl,hle1,hR,hds⟩;have fin:∀ (A2:Hl),OKL D (A2++L') s1→Res TT fr' (A2++L') fn.results.toList vs→LeavesIn Fence.wide 0 P fn a.tmps (fun e w'=>∃ v L' s',e=.returned v∧w'=fill L' s'∧OKL D L' s'∧Le D s s'∧R v L' s') [] .returning (fill (A2++L') s1):=fun A2 ho2 hres2=>by
    obtain ⟨d1,d2,d3⟩:=qbp ho2;have hrun:(results fn a.tmps).run P (fill (A2++L') s1)=.ok (qbP vs) (fill (A2++L') s1):=by
      have h1:=Res.run hT k1.rel ho2 hres2;have h2:(fn.results.mapM (qvT a.tmps)).run P (fill (A2++L') s1)=.ok vs.toArray (fill (A2++L') s1):=by
        exact qAZ
      exact Ez85
    exact ⟨_,hrun,_,L',fill A2 s1,rfl,d1,d2,hle1.trans d3,hR _ d3⟩
  have key:∀ (bs:List Nat),bs.Nodup→∀ (A2:Hl),(∀ b∈bs,(b,Obj.deferred (some []))∈A2)→OKL D (A2++L') s1→Res TT fr' (A2++L') fn.results.toList vs→LeavesInM Fence.wide 0 P fn a.tmps (fun e w'=>∃ v L' s',e=.returned v∧w'=fill L' s'∧OKL D L' s'∧Le D s s'∧R v L' s') (bs.map qg9) .returning (fill (A2++L') s1):=by
    intro bs;induction bs with
    | nil=>intro _ A2 _ k2 hres;exact fin A2 k2 hres
    | cons b bs ih=>
      intro hnd A2 hin k2 hres;obtain ⟨i,hi,hie⟩:=List.getElem_of_mem (hin b Mc);have hig:(A2++L')[i]?=some (b,Obj.deferred (some [])):=by rw [List.getElem?_append_left hi,List.getElem?_eq_getElem hi,hie]
      have hw:(fill (A2++L') s1).heap[b]?=some (.deferred (some [])):=qa3 k2 (List.mem_of_getElem? hig);refine ⟨(fun h=>by cases h),.inl ⟨b,_,Z,run_takeDeferred hw,?_⟩⟩;rw [qdT,← qcG k2 hig,qiS _ hi];have ho2:=qel k2 i (Obj.deferred none);rw [qiS _ hi] at ho2;refine ih (List.nodup_cons.1 hnd).2 (qch A2 i (.deferred none)) (fun c hc=>?_) ho2 (Res.set (fun j c zs t hj=>?_) hres)
      · have hne:b≠c:=fun e=>(List.nodup_cons.1 hnd).1 (e▸hc)
        obtain ⟨j,hj,hje⟩:=List.getElem_of_mem (hin c (List.mem_cons_of_mem _ hc));have hij:i≠j:=fun e=>by subst e;rw [hie] at hje;injection hje with h1 _;exact hne h1
        exact List.mem_of_getElem? (i:=j) (by rw [qmq _ _ _ _ hij,List.getElem?_eq_getElem hj,hje])
      · rw [← qiS _ hi,qmq _ _ _ _ (fun e=>by subst e;rw [hig] at hj;cases hj)]
        exact hj
  obtain ⟨bs,rfl,hsub⟩:=hds;have hin:∀ b∈bs,(b,Obj.deferred (some []))∈A:=fun b hb=>hsub.subset (List.mem_map_of_mem hb);have hnd:bs.Nodup:=by
    have h1:(A.map (·.1)).Nodup:=by have:=k2.nd;rw [List.map_append] at this;exact (List.nodup_append.1 this).1
    have h2:=(hsub.map (·.1)).nodup h1
    rwa [List.map_map,show ((fun x:Nat×Obj=>x.1) ∘ qlf)=id from rfl,List.map_id] at h2
  have key:=key bs hnd A hin k2 hres;rw [← k1.defers] at key;rcases he with rfl|rfl
  · exact key
  · exact key
def qcR{rs:List ResultVar}{s0:World}{R:Value→Hl→World→Prop}{e:Exit}{vs:List Value}(A L':Hl)(he:e=.normal∨e=.ret)(h:Res TT fr L rs vs)(hL:L=A++L')(hl:Le D s0 s)(hds:∃ bs:List Nat,ds=bs.map qg9∧(bs.map qlf).Sublist A)(hR:∀ s',Le D s s'→R (qbP vs) L' s'):retG TT D rs s0 R e ds fr L s:=
 ⟨he,vs,A,L',h,hL,hl,hR,hds⟩
def jmp:Exit→Option (Option Code)
 | .normal=>some none
 | .ret=>some (some .ret)
 | .exit id=>some (some (.exit id))
 | _=>none
def qCt:Option Code→Exit
 | none=>.normal
 | some .ret=>.ret
 | some (.exit id)=>.exit id
 | _=>.normal
def qvR(fr:Fr)(ps:List Nat)(vs:List Value):Fr:=(ps.zip vs).foldl (fun fr x=>(x.1,x.2)::fr) fr
def qnk(n:Nat):∀ (l:List (Nat×Value)) (fr:Fr) (a:Act),FrRel n { a with defers:=[] } fr→l.all (fun x=>Nat.blt x.1 n)=true →
  FrRel n { tmps:=l.foldl (fun tmps x=>tmps.setIfInBounds x.1 x.2) a.tmps,defers:=[] } (l.foldl (fun fr x=>(x.1,x.2)::fr) fr):=by
 intro l;induction l with
 | nil=>intro fr a h _;exact h
 | cons x l ih=>
  intro fr a h hl;simp only [List.all_cons,Bool.and_eq_true] at hl;exact ih _ { a with tmps:=a.tmps.setIfInBounds x.1 x.2 } (h.put hl.1 x.2) hl.2
section range
variable{σ α:Type}(H:σ→Hl)(I:σ→World→Prop)(pend:σ→Option Code)(St:σ→α→σ→Prop)(enc:α→List Value)(Pre:σ→α→World→Prop)(Fin:σ→Prop)
end range
end calls
section
variable{P:Program}{TT:qaM}{D n:Nat}{ro:Option Nat}{Q:qdM}{ds:List Deferred}{fr:Fr}{L:Hl}{s:World}{ops:Array Oper}{rest:List Oper}{d ty:Nat}{pos:String}{af:Array Edge}{v:Value}
def Yqm(hx:lk fr x=some v)(hd:Nat.blt d n=true)(k:RO P TT D n ro ops Q rest ds ((d,v)::fr) L s):RO P TT D n ro ops Q (⟨some d,.move x,ty,pos,af,none⟩::rest) ds fr L s:=qcB (qam hx) hd k
def Yqa(hx:lk fr x=some v)(hd:Nat.blt d n=true)(k:RO P TT D n ro ops Q rest ds ((d,v)::fr) L s):RO P TT D n ro ops Q (⟨some d,.assign x,ty,pos,af,none⟩::rest) ds fr L s:=qcB (qa7 hx) hd k
def YqT(hc:lk fr c=some (.bool true))(hx:lk fr x=some v)(hd:Nat.blt d n=true)(k:RO P TT D n ro ops Q rest ds ((d,v)::fr) L s):RO P TT D n ro ops Q (⟨some d,.pick c x y,ty,pos,af,none⟩::rest) ds fr L s:=qcB (qdr hc hx) hd k
def YqF(hc:lk fr c=some (.bool false))(hx:lk fr y=some v)(hd:Nat.blt d n=true)(k:RO P TT D n ro ops Q rest ds ((d,v)::fr) L s):RO P TT D n ro ops Q (⟨some d,.pick c x y,ty,pos,af,none⟩::rest) ds fr L s:=qcB (qdq hc hx) hd k
def Yqeq{b:Int}(hx:lk fr x=some (.int ik a))(hy:lk fr y=some (.int ik b))(hd:Nat.blt d n=true)(k:RO P TT D n ro ops Q rest ds ((d,.bool (decide (a=b)))::fr) L s):RO P TT D n ro ops Q (⟨some d,.binOp .eql t x y t',ty,pos,af,none⟩::rest) ds fr L s:=qcB (qdD hx hy) hd k
def Yqne{b:Int}(hx:lk fr x=some (.int ik a))(hy:lk fr y=some (.int ik b))(hd:Nat.blt d n=true)(k:RO P TT D n ro ops Q rest ds ((d,.bool (!decide (a=b)))::fr) L s):RO P TT D n ro ops Q (⟨some d,.binOp .neq t x y t',ty,pos,af,none⟩::rest) ds fr L s:=qcB (qmN hx hy) hd k
def qEG{b:Int}(hx:lk fr x=some (.int ik a))(hy:lk fr y=some (.int ik b))(hd:Nat.blt d n=true)(k:RO P TT D n ro ops Q rest ds ((d,.bool (decide (a < b)))::fr) L s):RO P TT D n ro ops Q (⟨some d,.binOp .lss t x y t',ty,pos,af,none⟩::rest) ds fr L s:=qcB (qwD hx hy) hd k
def qwP(hx:lk fr x=some (.bool b))(hd:Nat.blt d n=true)(k:RO P TT D n ro ops Q rest ds ((d,.bool (!b))::fr) L s):RO P TT D n ro ops Q (⟨some d,.unOp .not t x,ty,pos,af,none⟩::rest) ds fr L s:=qcB (qlw hx) hd k
def qD5{A:Option Addr}{m c:Nat}{e:Nat}(hx:lk fr x=some (.slice A m c))(ht:qay TT t=some ti)(hk:ti.kind=.sl e)(hd:Nat.blt d n=true)(k:RO P TT D n ro ops Q rest ds ((d,.int .i64 (m:Int))::fr) L s):RO P TT D n ro ops Q (⟨some d,.call { callee:=.builtin .len,args:=#[x],argTypes:=#[t] },ty,pos,af,none⟩::rest) ds fr L s:=qcB (qbc hx ht hk) hd k
def qAw{a:Addr}(hx:lk fr x=some (.pointer (some a)))(hd:Nat.blt d n=true)(k:RO P TT D n ro ops Q rest ds ((d,.pointer (some a))::fr) L s):RO P TT D n ro ops Q (⟨some d,.nilCheck x,ty,pos,af,none⟩::rest) ds fr L s:=qcB (qan hx) hd k
def Yqf0{f b:Nat}{os:List Nat}(hx:lk fr x=some (.pointer (some ⟨b,off,none⟩)))(ht:qay TT t=some ti)(hk:ti.kind=.st os)(hf:qmg os f=some 0)(hd:Nat.blt d n=true)(k:RO P TT D n ro ops Q rest ds ((d,.pointer (some ⟨b,off,none⟩))::fr) L s):RO P TT D n ro ops Q (⟨some d,.fieldAddr t x f,ty,pos,af,none⟩::rest) ds fr L s:=qcB (qaz hx ht hk hf) hd k
def YqfB{f fo b:Nat}{os:List Nat}(hx:lk fr x=some (.pointer (some ⟨b,0,none⟩)))(ht:qay TT t=some ti)(hk:ti.kind=.st os)(hf:qmg os f=some fo)(hd:Nat.blt d n=true)(k:RO P TT D n ro ops Q rest ds ((d,.pointer (some ⟨b,fo,none⟩))::fr) L s):RO P TT D n ro ops Q (⟨some d,.fieldAddr t x f,ty,pos,af,none⟩::rest) ds fr L s:=qcB (qnP hx ht hk hf) hd k
def Yql{b:Nat}{zs:List Value}(i:Nat)(hx:lk fr x=some (.pointer (some ⟨b,off,none⟩)))(hi:L[i]?=some (b,cb zs t'))(ht:qay TT t=some ti)(hk:qeg ti.kind=true)(hv:nth zs off=some v)(hd:Nat.blt d n=true)(k:RO P TT D n ro ops Q rest ds ((d,v)::fr) L s):RO P TT D n ro ops Q (⟨some d,.load t x,ty,pos,af,none⟩::rest) ds fr L s:=qcB (qb5 i hx hi ht hk hv) hd k
def qq8{b c:Int}(hx:lk fr x=some (.int ik a))(hy:lk fr y=some (.int ik b))(hd:Nat.blt d n=true)(hc:ik.wrap (a+b)=c)(k:RO P TT D n ro ops Q rest ds ((d,.int ik c)::fr) L s):RO P TT D n ro ops Q (⟨some d,.binOp .add t x y t',ty,pos,af,none⟩::rest) ds fr L s:=qcB (qaI hx hy hc) hd k
end
abbrev Ys:=@qBy
abbrev Yr:=@qn0
abbrev Yn:=@qBB
abbrev Yt:=@qi0
abbrev Yu:=@qzb
abbrev Yv:=@qzc
abbrev Yb:=@qrp
abbrev Yc:=@qrq
abbrev Yd:=@qrr
abbrev Yk:=@qwK
abbrev Yl:=@qwI
abbrev Yo:=@qBx
abbrev Yp:=@qq3
abbrev Yy:=@qBw
abbrev Yg:=@qEE
abbrev Yf:=@qED
end Go.FL
namespace Go.Proofs.YtlfiplbamnpgoaaGreatDoor
open Go.Proofs.Tryz
open Go.FL
attribute [local irreducible] JC JO JA JB qaJ qax qbN AC fill CellsAt QE Ev Mid
variable(D:Nat)(L:Hl)(s:World){lp:Nat}
def NdV(s:World):Nd→Value→Prop
 | .st x lp,v=>∃ b o A1 n1 c1 A2 n2 c2 A3 n3 c3,v=.agg #[.pointer (some ⟨b,o,none⟩),.pointer none,.int .i64 (lp:Int)]∧CellsAt s b o [.int .i64 x.kind,St x.name,.slice A1 n1 c1,.slice A2 n2 c2,.slice A3 n3 c3]∧n1=x.exprs.length
 | .ex x lp,v=>∃ b o A n c,v=.agg #[.pointer none,.pointer (some ⟨b,o,none⟩),.int .i64 (lp:Int)]∧CellsAt s b o [.int .i64 x.kind,.int .i64 x.op,.int .u32 x.num,St x.name,.slice A n c]∧n=x.args.length
def NdV.mkE{s:World}{x:Ex}{b o n c:Nat}{A:Option Addr}(h:CellsAt s b o [.int .i64 x.kind,.int .i64 x.op,.int .u32 x.num,St x.name,.slice A n c])(hn:n=x.args.length):NdV s (.ex x lp) (.agg #[.pointer none,.pointer (some ⟨b,o,none⟩),.int .i64 (lp:Int)]):=⟨b,o,A,n,c,rfl,h,hn⟩
def NdV.mkS{s:World}{x:Stm}{b o n1 c1 n2 c2 n3 c3:Nat}{A1 A2 A3:Option Addr}(h:CellsAt s b o [.int .i64 x.kind,St x.name,.slice A1 n1 c1,.slice A2 n2 c2,.slice A3 n3 c3])(hn:n1=x.exprs.length):NdV s (.st x lp) (.agg #[.pointer (some ⟨b,o,none⟩),.pointer none,.int .i64 (lp:Int)]):=⟨b,o,A1,n1,c1,A2,n2,c2,A3,n3,c3,rfl,h,hn⟩
def qid{σ:Type}(pend:σ→Option Code)(St:σ→Nd→σ→Prop):σ→List Nd→σ→Prop
 | g,[],g'=>g'=g
 | g,p::r,g'=>∃ g1,St g p g1∧if (pend g1).isNone=true then qid pend St g1 r g' else g'=g1
def qfA{σ:Type}{pend:σ→Option Code}{St:σ→Nd→σ→Prop}{b:List Nd}:∀ {a:List Nd} {g g1 g':σ},pend g=none→qid pend St g a g1→((pend g1).isNone=true→qid pend St g1 b g')→((pend g1).isNone=false→g'=g1)→qid pend St g (a++b) g'
  | [],g,g1,g',hp,h,h1,_=>by
    have h:g1=g:=h;subst h;exact h1 (by rw [hp];rfl)
  | p::r,g,g1,g',_,⟨g2,k1,k2⟩,h1,h2=>by
    refine ⟨g2,k1,?_⟩;by_cases h3:(pend g2).isNone=true
    · rw [if_pos h3] at k2 ⊢
      exact qfA (Option.isNone_iff_eq_none.1 h3) k2 h1 h2
    · rw [if_neg h3] at k2 ⊢
      subst k2;exact h2 (Bool.eq_false_iff.2 h3)
def qdh{σ:Type}{pend:σ→Option Code}{St:σ→Nd→σ→Prop}{cnt:σ→Nat}(hcn:∀ g nd g1,St g nd g1→cnt g1≤cnt g+1):∀ {l:List Nd} {g g':σ},qid pend St g l g'→cnt g'≤cnt g+l.length
  | [],g,g',h=>by
    have h:g'=g:=h;subst h;simp
  | p::r,g,g',⟨g1,h1,h2⟩=>by
    have e1:=hcn _ _ _ h1;by_cases h3:(pend g1).isNone=true
    · rw [if_pos h3] at h2
      have e2:=qdh hcn h2;rw [List.length_cons];omega
    · rw [if_neg h3] at h2
      subst h2;rw [List.length_cons];omega
def qiJ{l:List Ex}{k:Nat}{x:Ex}(h:l[k]?=some x):qfI (l.drop k) lp=.ex x lp::(qfI x.args lp++qfI (l.drop (k+1)) lp):=by
 obtain ⟨hk,rfl⟩:=List.getElem?_eq_some_iff.1 h;rw [List.drop_eq_getElem_cons hk,qfI];cases l[k] with
 | mk a b c d e=>rfl
def IXC(D d:Nat):Prop:=∀ (s:World) (σ:Type) (H:σ→Hl) (I:σ→World→Prop) (pend:σ→Option Code) (St:σ→Nd→σ→Prop) (l:Nat) (g0:σ) (cnt:σ→Nat) (B:Nat),(∀ g nd g1,St g nd g1→cnt g1≤cnt g+1)→(∀ g s s',I g s→Le D s s'→I g s')→(∀ g nd nv s',Le D s s'→I g s'→pend g=none→cnt g < B→NdV s' nd nv→YC prog D l [nv] (H g) s' fun v L' s3=>∃ g1,St g nd g1∧v=.bool (pend g1).isNone∧L'=H g1∧I g1 s3)→I g0 s→pend g0=none→∀ (A:Option Addr) (n c:Nat) (xs:List Ex) (lp:Nat),Exs d s A n c xs→cnt g0+(qfI xs lp).length≤B→AC prog D 117 [.slice A n c,.int .i64 (lp:Int),.func (.yield l) #[] #[]] (H g0) s fun v L' s3=>∃ g',qid pend St g0 (qfI xs lp) g'∧v=.bool (pend g').isNone∧L'=H g'∧I g' s3
def Cz50{p:Prop} (h:p:=by
 exact ⟨g,hrun g rfl,by rw [hpg];rfl,rfl,mono _ _ _ hIg ((Lr D).t hS2)⟩):p:=h
def Ez65{p:Prop} (h:p:=by
 refine Yl<|Yv<|Yv<|Yd<|Yt<|Ys<|Yr<|Yqa Z Z<|Yn<|Yt<|Yo<|?_;refine qcR [] _ (.inr Z) (.t1 Z) Z I1.1 ⟨[],Z,List.nil_sublist _⟩ fun _ hS2=>?_;exact Cz50):p:=h
def qpb(D d:Nat)(ih:∀ e,d=e+1→IXC D e)(s:World)(σ:Type)(H:σ→Hl)(I:σ→World→Prop)(pend:σ→Option Code)(St:σ→Nd→σ→Prop)(l:Nat)(g0:σ)(cnt:σ→Nat)(B:Nat)(hcn:∀ g nd g1,St g nd g1→cnt g1≤cnt g+1)(mono:∀ g s s',I g s→Le D s s'→I g s')(hY:∀ g nd nv s',Le D s s'→I g s'→pend g=none→cnt g < B→NdV s' nd nv→YC prog D l [nv] (H g) s' fun v L' s3=>∃ g1,St g nd g1∧v=.bool (pend g1).isNone∧L'=H g1∧I g1 s3)(hI:I g0 s)(hp:pend g0=none)(A:Option Addr)(n c:Nat)(xs:List Ex)(lp:Nat)(hA:Exs d s A n c xs)(hBn:cnt g0+(qfI xs lp).length≤B):AC prog D 117 [.slice A n c,.int .i64 (lp:Int),.func (.yield l) #[] #[]] (H g0) s fun v L' s3=>∃ g',qid pend St g0 (qfI xs lp) g'∧v=.bool (pend g').isNone∧L'=H g'∧I g' s3:=by
 have hn:=hA.1;have hc1:=hA.2.1;have hc2:=hA.2.2.1;refine qfc (fn:=f117) qao func117 V Z ntmps117 Z (rs:=[.tmp 6]) Z [(0,_),(1,_),(2,_)] Z<|Ys<|Yr<|Yqa Z Z<|Yn<|Yt<|Ys<|Ys<|Yr<|Yqm Z Z<|qD5 Z Z Z Z<|Yqm Z Z<|Yn<|Yt<|Yp<|?_;refine qnY (γ:=σ×Nat) (fun g=>[(0,_),(1,_),(2,_),(6,_),(9,_),(10,.int .i64 (g.2:Int))]) (fun g=>H g.1) (fun g tw=>Le D s tw∧(g.2≤n∧I g.1 tw∧pend g.1=none∧cnt g.1+(qfI (xs.drop g.2) lp).length≤B∧(∀ g',qid pend St g.1 (qfI (xs.drop g.2) lp) g'→qid pend St g0 (qfI xs lp) g'))) (fun g=>n - g.2) (fun _ _ _ h hl=>⟨h.1.trans hl,⟨h.2.1,mono _ _ _ h.2.2.1 hl,h.2.2.2⟩⟩) (g0,0) (.c6 Z Z Z Z Z Z (.nil _)) Z ⟨Le.refl _,⟨Nat.zero_le _,mono _ _ _ hI (Lr D),hp,hBn,fun g' h=>h⟩⟩ ?_;intro g s1 I1;obtain ⟨g,k⟩:=g;obtain ⟨hk0,hIg,hpg,hbn,hrun⟩:=I1.2;simp only at hk0 hIg hpg hbn hrun;dsimp only;refine Ys<|Yr<|qEG Z Z Z<|Yn<|Yt<|Ys<|?_;refine qlz Z ?_ ?_<;>intro c2
 ·have hk:k < n:=by omega
  obtain ⟨e,b,off,x,A',n',c',hd,rfl,hx,hcx,hax,hux,hnl⟩:=Exs.at_ (hA.le I1.1) hk;have hn':=hax.1;rw [qiJ hx,List.length_cons,List.length_append] at hbn;refine Yk<|Yt<|Ys<|Yp<|Ys<|Yr<|Yqm Z Z<|Yqa Z Z<|Yn<|Yt<|Ys<|Yr<|Yqm Z Z<|Yqm Z Z<|Yqm Z Z<|qcB (qaw Z Z Z Z Z Z hk) Z<|Yqm Z Z<|qcB (qai [(_,_),(_,_)] [_,_,_] Z Z Z Z Z Z) Z<|qlB Z Z Z (hY g (.ex x lp) _ _ I1.1 (mono _ _ _ hIg (Lr D)) hpg O (NdV.mkE (hcx.le (Lr D)) hn')) ?_;rintro _ _ s3 h3 ⟨g1,hst,rfl,rfl,hIn⟩;have e3:=I1.1.t h3;refine qwP Z Z<|Yqm Z Z<|?_;refine qgs (t:=21) Z ?_ ?_<;>intro c4;·refine Yf Z Z Z Z<|Yf Z Z Z Z<|Yf Z Z Z Z<|Yf Z Z Z Z<|Yf Z Z Z Z<|Yf Z Z Z Z<|Yf Z Z Z Z<|Yf Z Z Z Z<|Yf Z Z Z Z<|YqT Z Z Z<|Yn<|Yt<|Yy Z ?_;have hp2:=trivial;refine X9 ?_;refine qcR [] _ (.inr Z) (.t1 Z) Z e3 ⟨[],Z,List.nil_sublist _⟩ fun _ hS2=>?_;exact ⟨g1,hrun g1 (by rw [qiJ hx];exact ⟨g1,hst,by rw [if_neg (by simp only [*];decide)]⟩),by simp only [*];rfl,rfl,mono _ _ _ hIn ((Lr D).t hS2)⟩
  refine Yg Z Z<|Yqm Z Z<|Yg Z Z<|Yqm Z Z<|Yg Z Z<|qcB (qaw Z Z Z Z Z Z hk) Z<|Yg Z Z<|qcB (qbD Z Z Z Z) Z<|Yg Z Z<|qcB (qa8 4 Z Z Z (hcx.le h3) Z) Z<|Yg Z Z<|Yqm Z Z<|Yg Z Z<|Yqm Z Z<|Yg Z Z<|Rc9 Z Z Z (ih e hd _ σ H I pend St l g1 cnt B hcn mono (fun g nd nv s9 hl=>hY g nd nv s9 (e3|>.t hl)) (mono _ _ _ hIn (Lr D)) (Option.isNone_iff_eq_none.1 As) A' n' c' x.args lp (hax.le h3) (by have e1:=hcn _ _ _ hst;omega)) ?_;rintro _ _ s5 h5 ⟨g2,hrn,rfl,rfl,hIn2⟩;refine Yg Z Z<|qwP Z Z<|YqF Z Z Z<|Yn<|Yt<|?_;refine qnW Z ?_ ?_<;>intro c6;·have hp2:=c6;refine X9 ?_;refine qcR [] _ (.inr Z) (.t1 Z) Z (e3.t h5) ⟨[],Z,List.nil_sublist _⟩ fun _ hS2=>?_;exact ⟨g2,hrun g2 (by rw [qiJ hx];exact ⟨g1,hst,by rw [if_pos As];exact qfA (Option.isNone_iff_eq_none.1 As) hrn (fun h9=>by rw [hp2] at h9;cases h9) (fun _=>rfl)⟩),by rw [hp2];rfl,rfl,mono _ _ _ hIn2 ((Lr D).t hS2)⟩
  have hp2:=c6;refine Yk<|Yb<|Yt<|Yr<|qq8 Z Z Z (w64 O O)<|Yqm Z Z<|Yn<|?_;refine qi0 ⟨Z,(g2,k+1),[],(.c6 Z Z Z Z Z Z (.nil _)),Z,⟨(e3.t h5),⟨by simp only;omega,mono _ _ _ hIn2 (Lr D),Option.isNone_iff_eq_none.1 hp2,by have e1:=hcn _ _ _ hst;have e2:=qdh hcn hrn;simp only;omega,fun g' h=>hrun g' (by rw [qiJ hx];exact ⟨g1,hst,by rw [if_pos As];exact qfA (Option.isNone_iff_eq_none.1 As) hrn (fun _=>h) (fun h9=>by rw [hp2] at h9;cases h9)⟩)⟩⟩,Oz⟩
 rw [List.drop_eq_nil_of_le O,qfI] at hrun;exact Ez65
def ixc(D:Nat):∀ d,IXC D d
 | 0=>fun s σ H I pend St l g0 cnt B hcn mono hY hI hp A n c xs lp hA hBn=>qpb D 0 (fun e h=>by omega) s σ H I pend St l g0 cnt B hcn mono hY hI hp A n c xs lp hA hBn
 | d+1=>fun s σ H I pend St l g0 cnt B hcn mono hY hI hp A n c xs lp hA hBn=>qpb D (d+1) (fun e h=>(show d=e by omega)▸ixc D d) s σ H I pend St l g0 cnt B hcn mono hY hI hp A n c xs lp hA hBn
section
variable{σ:Type}{pend:σ→Option Code}{St:σ→Nd→σ→Prop}{a b:List Nd}{g g1 g':σ}
def qek(hp:(pend g).isNone=true)(h:qid pend St g a g1)(h1:(pend g1).isNone=false):qid pend St g (a++b) g1:=qfA (Option.isNone_iff_eq_none.1 hp) h (fun h9=>by rw [h1] at h9;cases h9) fun _=>rfl
def qf1(hp:(pend g).isNone=true)(h:qid pend St g a g1)(h1:(pend g1).isNone=true)(k:qid pend St g1 b g'):qid pend St g (a++b) g':=qfA (Option.isNone_iff_eq_none.1 hp) h (fun _=>k) fun h9=>by rw [h1] at h9;cases h9
end
def lpI(x:Stm)(lp:Nat):Nat:=if x.kind=4 then lp+1 else lp
def qfW{l:List Stm}{k:Nat}{x:Stm}(h:l[k]?=some x):qdf (l.drop k) lp=.st x lp::((qfI x.exprs lp++(qdf x.body (lpI x lp)++qdf x.els (lpI x lp)))++qdf (l.drop (k+1)) lp):=by
 obtain ⟨hk,rfl⟩:=List.getElem?_eq_some_iff.1 h;rw [List.drop_eq_getElem_cons hk,qdf];cases l[k] with
 | mk a b c d e=>rfl
def ISC(D d:Nat):Prop:=∀ (s:World) (σ:Type) (H:σ→Hl) (I:σ→World→Prop) (pend:σ→Option Code) (St:σ→Nd→σ→Prop) (l:Nat) (g0:σ) (cnt:σ→Nat) (B:Nat),(∀ g nd g1,St g nd g1→cnt g1≤cnt g+1)→(∀ g s s',I g s→Le D s s'→I g s')→(∀ g nd nv s',Le D s s'→I g s'→pend g=none→cnt g < B→NdV s' nd nv→YC prog D l [nv] (H g) s' fun v L' s3=>∃ g1,St g nd g1∧v=.bool (pend g1).isNone∧L'=H g1∧I g1 s3)→I g0 s→pend g0=none→∀ (A:Option Addr) (n c:Nat) (xs:List Stm) (lp lv:Nat),Stms d s A n c xs→qdU xs lv=true→lp≤lv→cnt g0+(qdf xs lp).length≤B→AC prog D 75 [.slice A n c,.int .i64 (lp:Int),.func (.yield l) #[] #[]] (H g0) s fun v L' s3=>∃ g',qid pend St g0 (qdf xs lp) g'∧v=.bool (pend g').isNone∧L'=H g'∧I g' s3
def Cz51{p:Prop} (h:p:=by
 exact ⟨g3,hrun g3 (by rw [qfW hx];exact ⟨g1,hst,by rw [if_pos As];exact qek As (qf1 As hr2 As (qek As hr3 As)) As⟩),(show qbP [Value.bool false]=.bool (pend g3).isNone by rw [show (pend g3).isNone=false by assumption];rfl),rfl,mono _ _ _ hI3 ((Lr D).t hS2)⟩):p:=h
def Cz52{p:Prop} (h:p:=by
 exact ⟨g4,hrun g4 (by rw [qfW hx];exact ⟨g1,hst,by rw [if_pos As];exact qek As (qf1 As hr2 As (qf1 As hr3 As hr4)) As⟩),(show qbP [Value.bool false]=.bool (pend g4).isNone by rw [show (pend g4).isNone=false by assumption];rfl),rfl,mono _ _ _ hI4 ((Lr D).t hS2)⟩):p:=h
def Ez28{p:Prop} (h:p:=by
 refine X12 ?_;have q59:=trivial;refine X9 ?_;refine qcR [] _ (.inr Z) (.t1 Z) Z (I1.1.t h3|>.t h5|>.t h8) ⟨[],Z,List.nil_sublist _⟩ fun _ hS2=>?_;exact Cz51):p:=h
def Ez9{p:Prop} (h:p:=by
  refine Yg Z Z<|qwP Z Z<|YqF Z Z Z<|Yn<|Yt<|?_;refine qnW Z ?_ ?_<;>intro c11;·have q59:=c11;refine X9 ?_;refine qcR [] _ (.inr Z) (.t1 Z) Z (I1.1.t h3|>.t h5|>.t h8|>.t h10) ⟨[],Z,List.nil_sublist _⟩ fun _ hS2=>?_;exact Cz52
  have q59:=c11;refine Yk<|Yb<|Yt<|Yr<|qq8 Z Z Z (w64 O O)<|Yqm Z Z<|Yn<|?_;refine qi0 ⟨Z,(g4,k+1),[],(.c6 Z Z Z Z Z Z (.nil _)),Z,⟨(I1.1.t h3|>.t h5|>.t h8|>.t h10),⟨by simp only;omega,mono _ _ _ hI4 (Lr D),(Option.isNone_iff_eq_none.1 As),by have e1:=hcn _ _ _ hst;have e2:=qdh hcn hr2;have e3:=qdh hcn hr3;have e4:=qdh hcn hr4;simp only;omega,fun g' h=>hrun g' (by rw [qfW hx];exact ⟨g1,hst,by rw [if_pos As];exact qf1 As (qf1 As hr2 As (qf1 As hr3 As hr4)) As h⟩)⟩⟩,Oz⟩):p:=h
def qpa(D d:Nat)(ih:∀ e,d=e+1→ISC D e)(s:World)(σ:Type)(H:σ→Hl)(I:σ→World→Prop)(pend:σ→Option Code)(St:σ→Nd→σ→Prop)(l:Nat)(g0:σ)(cnt:σ→Nat)(B:Nat)(hcn:∀ g nd g1,St g nd g1→cnt g1≤cnt g+1)(mono:∀ g s s',I g s→Le D s s'→I g s')(hY:∀ g nd nv s',Le D s s'→I g s'→pend g=none→cnt g < B→NdV s' nd nv→YC prog D l [nv] (H g) s' fun v L' s3=>∃ g1,St g nd g1∧v=.bool (pend g1).isNone∧L'=H g1∧I g1 s3)(hI:I g0 s)(hp:pend g0=none)(A:Option Addr)(n c:Nat)(xs:List Stm)(lp lv:Nat)(hA:Stms d s A n c xs)(hv:qdU xs lv=true)(hlp:lp≤lv)(hBn:cnt g0+(qdf xs lp).length≤B):AC prog D 75 [.slice A n c,.int .i64 (lp:Int),.func (.yield l) #[] #[]] (H g0) s fun v L' s3=>∃ g',qid pend St g0 (qdf xs lp) g'∧v=.bool (pend g').isNone∧L'=H g'∧I g' s3:=by
 have hn:=hA.1;have hc1:=hA.2.1;have hc2:=hA.2.2.1;refine qfc (fn:=f75) qao func75 V Z ntmps75 Z (rs:=[.tmp 6]) Z [(0,_),(1,_),(2,_)] Z<|Ys<|Yr<|Yqa Z Z<|Yn<|Yt<|Ys<|Ys<|Yr<|Yqm Z Z<|qD5 Z Z Z Z<|Yqm Z Z<|Yn<|Yt<|Yp<|?_;refine qnY (γ:=σ×Nat) (fun g=>[(0,_),(1,_),(2,_),(6,_),(11,_),(12,.int .i64 (g.2:Int))]) (fun g=>H g.1) (fun g tw=>Le D s tw∧(g.2≤n∧I g.1 tw∧pend g.1=none∧cnt g.1+(qdf (xs.drop g.2) lp).length≤B∧(∀ g',qid pend St g.1 (qdf (xs.drop g.2) lp) g'→qid pend St g0 (qdf xs lp) g'))) (fun g=>n - g.2) (fun _ _ _ h hl=>⟨h.1.trans hl,⟨h.2.1,mono _ _ _ h.2.2.1 hl,h.2.2.2⟩⟩) (g0,0) (.c6 Z Z Z Z Z Z (.nil _)) Z ⟨Le.refl _,⟨Nat.zero_le _,mono _ _ _ hI (Lr D),hp,hBn,fun g' h=>h⟩⟩ ?_;intro g s1 I1;obtain ⟨g,k⟩:=g;obtain ⟨hk0,hIg,hpg,hbn,hrun⟩:=I1.2;simp only at hk0 hIg hpg hbn hrun;dsimp only;refine Ys<|Yr<|qEG Z Z Z<|Yn<|Yt<|Ys<|?_;refine qlz Z ?_ ?_<;>intro c2
 ·have hk:k < n:=by omega
  obtain ⟨e,b,off,x,A1,n1,p1,A2,n2,p2,A3,n3,p3,hd,rfl,hx,hcx,hax,hbx,hex,hnl⟩:=Stms.at_ (hA.le I1.1) hk;have hn':=hax.1;obtain ⟨hvx,_⟩:=qhp hv hx;obtain ⟨hlv,_,_,hvB,hvL⟩:=qdm hvx;rw [qfW hx,List.length_cons,List.length_append,List.length_append,List.length_append] at hbn;refine Yk<|Yt<|Ys<|Yp<|Ys<|Yr<|Yqm Z Z<|Yqa Z Z<|Yn<|Yt<|Ys<|Yr<|Yqm Z Z<|Yqm Z Z<|qcB (qaw Z Z Z Z Z Z hk) Z<|Yqa Z Z<|Yn<|Yt<|Ys<|Ys<|Yr<|Yqm Z Z<|Yqm Z Z<|Yqm Z Z<|qcB (qai [(_,_),(_,_)] [_,_,_] Z Z Z Z Z Z) Z<|qlB Z Z Z (hY g (.st x lp) _ _ I1.1 (mono _ _ _ hIg (Lr D)) hpg O (NdV.mkS (hcx.le (Lr D)) hn')) ?_;rintro _ _ s3 h3 ⟨g1,hst,rfl,rfl,hI1⟩;have e3q:=I1.1.t h3;refine qwP Z Z<|Yqm Z Z<|?_;refine qgs (t:=24) Z ?_ ?_<;>intro c4;·refine X12 ?_;have q33:=trivial;refine Ys<|Yr<|Yqa Z Z<|Yn<|Yt<|Yo<|Yu<|Yc<|Yu<|Yu<|Yc<|Yu<|?_;refine qcR [] _ (.inr Z) (.t1 Z) Z e3q ⟨[],Z,List.nil_sublist _⟩ fun _ hS2=>?_;exact ⟨g1,hrun g1 (by rw [qfW hx];exact ⟨g1,hst,by rw [if_neg (by rw [show (pend g1).isNone=false by assumption];decide)]⟩),(show qbP [Value.bool false]=.bool (pend g1).isNone by rw [show (pend g1).isNone=false by assumption];rfl),rfl,mono _ _ _ hI1 ((Lr D).t hS2)⟩
  refine Yg Z Z<|Yqm Z Z<|Yg Z Z<|qAw Z Z<|Yg Z Z<|qcB (qbD Z Z Z Z) Z<|Yg Z Z<|qcB (qa8 2 Z Z Z (hcx.le h3) Z) Z<|Yg Z Z<|Yqm Z Z<|Yg Z Z<|Yqm Z Z<|Yg Z Z<|Rc9 Z Z Z (ixc D e _ σ H I pend St l g1 cnt B hcn mono (fun g nd nv s9 hl=>hY g nd nv s9 (e3q|>.t hl)) (mono _ _ _ hI1 (Lr D)) (Option.isNone_iff_eq_none.1 As) A1 n1 p1 x.exprs lp (hax.le h3) (by have e1:=hcn _ _ _ hst;omega)) ?_;rintro _ _ s5 h5 ⟨g2,hr2,rfl,rfl,hI2⟩;have e5:=h3.t h5;refine Yg Z Z<|qwP Z Z<|YqF Z Z Z<|Yn<|Yt<|?_;refine qnW Z ?_ ?_<;>intro c6;·have q33:=c6;refine Ys<|Yr<|Yqa Z Z<|Yn<|Yt<|Yo<|Yu<|Yc<|Yu<|Yu<|Yc<|Yu<|?_;refine qcR [] _ (.inr Z) (.t1 Z) Z (e3q.t h5) ⟨[],Z,List.nil_sublist _⟩ fun _ hS2=>?_;exact ⟨g2,hrun g2 (by rw [qfW hx];exact ⟨g1,hst,by rw [if_pos As];exact qek As (qek As hr2 As) As⟩),(show qbP [Value.bool false]=.bool (pend g2).isNone by rw [show (pend g2).isNone=false by assumption];rfl),rfl,mono _ _ _ hI2 ((Lr D).t hS2)⟩
  have q33:=c6;refine Yk<|Yt<|Ys<|Yr<|Yqm Z Z<|Yqa Z Z<|Yn<|Yt<|Ys<|Ys<|Yr<|Yqm Z Z<|qAw Z Z<|Yqf0 Z Z Z Z Z<|qcB (qak Z Z Z (hcx.le e5) Z) Z<|Yqeq Z Z Z<|Yn<|Yt<|?_;refine qlz Z ?_ ?_<;>intro c7
  ·have hlI:lpI x lp=lp+1:=if_pos c7;have hlI2:lpI x lp≤lv+1:=by omega
   refine Yr<|Yqm Z Z<|qcB (qaI Z Z (show IntKind.i64.wrap ((lp:Int)+1)=((lpI x lp:Nat):Int) by rw [w64 O O];omega)) Z<|Yqa Z Z<|Yn<|Yt<|Ys<|Yr<|Yqm Z Z<|qAw Z Z<|qcB (qbD Z Z Z Z) Z<|qcB (qa8 3 Z Z Z (hcx.le e5) Z) Z<|Yqm Z Z<|Yqm Z Z<|?_;refine Rc9 Z Z Z (ih e hd _ σ H I pend St l g2 cnt B hcn mono (fun g nd nv s9 hl=>hY g nd nv s9 (e3q.t h5|>.t hl)) (mono _ _ _ hI2 (Lr D)) (Option.isNone_iff_eq_none.1 As) A2 n2 p2 x.body (lpI x lp) (lv+1) (hbx.le e5) hvB hlI2 (by have e1:=hcn _ _ _ hst;have e2:=qdh hcn hr2;omega)) ?_;rintro _ _ s8 h8 ⟨g3,hr3,rfl,rfl,hI3⟩
     
   refine qwP Z Z<|Yqm Z Z<|?_;refine qgs (t:=50) Z ?_ ?_<;>intro c9;·exact Ez28
   refine Yg Z Z<|Yqm Z Z<|Yg Z Z<|qAw Z Z<|Yg Z Z<|qcB (qbD Z Z Z Z) Z<|Yg Z Z<|qcB (qa8 4 Z Z Z (hcx.le (e5.t h8)) Z) Z<|Yg Z Z<|Yqm Z Z<|Yg Z Z<|Yqm Z Z<|Yg Z Z<|Rc9 Z Z Z (ih e hd _ σ H I pend St l g3 cnt B hcn mono (fun g nd nv s9 hl=>hY g nd nv s9 (e3q.t h5|>.t h8|>.t hl)) (mono _ _ _ hI3 (Lr D)) (Option.isNone_iff_eq_none.1 As) A3 n3 p3 x.els (lpI x lp) (lv+1) (hex.le (e5.t h8)) hvL hlI2 Q28) ?_;rintro _ _ s10 h10 ⟨g4,hr4,rfl,rfl,hI4⟩
      
   exact Ez9
  have hlI:lpI x lp=lp:=if_neg c7;have hlI2:lpI x lp≤lv+1:=by omega
  refine Yk<|Yt<|Ys<|Yr<|Yqm Z Z<|qAw Z Z<|qcB (qbD Z Z Z Z) Z<|qcB (qa8 3 Z Z Z (hcx.le e5) Z) Z<|Yqm Z Z<|Yqm Z Z<|Rc9 Z Z Z ((by have h9:=ih e hd _ σ H I pend St l g2 cnt B hcn mono (fun g nd nv s9 hl=>hY g nd nv s9 (e3q.t h5|>.t hl)) (mono _ _ _ hI2 (Lr D)) (Option.isNone_iff_eq_none.1 As) A2 n2 p2 x.body (lpI x lp) (lv+1) (hbx.le e5) hvB hlI2 (by have e1:=hcn _ _ _ hst;have e2:=qdh hcn hr2;omega);rw [hlI] at h9;exact h9)) ?_;rintro _ _ s8 h8 ⟨g3,hr3,rfl,rfl,hI3⟩;rw [← hlI] at hr3;refine qwP Z Z<|Yqm Z Z<|?_;refine qgs (t:=50) Z ?_ ?_<;>intro c9;·exact Ez28
  refine Yg Z Z<|Yqm Z Z<|Yg Z Z<|qAw Z Z<|Yg Z Z<|qcB (qbD Z Z Z Z) Z<|Yg Z Z<|qcB (qa8 4 Z Z Z (hcx.le (e5.t h8)) Z) Z<|Yg Z Z<|Yqm Z Z<|Yg Z Z<|Yqm Z Z<|Yg Z Z<|?_;refine Rc9 Z Z Z ((by have h9:=ih e hd _ σ H I pend St l g3 cnt B hcn mono (fun g nd nv s9 hl=>hY g nd nv s9 (e3q.t h5|>.t h8|>.t hl)) (mono _ _ _ hI3 (Lr D)) (Option.isNone_iff_eq_none.1 As) A3 n3 p3 x.els (lpI x lp) (lv+1) (hex.le (e5.t h8)) hvL hlI2 Q28;rw [hlI] at h9;exact h9)) ?_;rintro _ _ s10 h10 ⟨g4,hr4,rfl,rfl,hI4⟩;rw [← hlI] at hr4;exact Ez9
 rw [List.drop_eq_nil_of_le O,qdf] at hrun;exact Ez65
def isc(D:Nat):∀ d,ISC D d
 | 0=>fun s σ H I pend St l g0 cnt B hcn mono hY hI hp A n c xs lp lv hA hv hlp hBn=>qpa D 0 (fun e h=>by omega) s σ H I pend St l g0 cnt B hcn mono hY hI hp A n c xs lp lv hA hv hlp hBn
 | d+1=>fun s σ H I pend St l g0 cnt B hcn mono hY hI hp A n c xs lp lv hA hv hlp hBn=>qpa D (d+1) (fun e h=>(show d=e by omega)▸isc D d) s σ H I pend St l g0 cnt B hcn mono hY hI hp A n c xs lp lv hA hv hlp hBn
def qxc(D:Nat)(s:World)(σ:Type)(H:σ→Hl)(I:σ→World→Prop)(pend:σ→Option Code)(Srq9:σ→Nd→σ→Prop)(l:Nat)(g0:σ)(cnt:σ→Nat)(B:Nat)(hcn:∀ g nd g1,Srq9 g nd g1→cnt g1≤cnt g+1)(mono:∀ g s s',I g s→Le D s s'→I g s')(hY:∀ g nd nv s',Le D s s'→I g s'→pend g=none→cnt g < B→NdV s' nd nv→YC prog D l [nv] (H g) s' fun v L' s3=>∃ g1,Srq9 g nd g1∧v=.bool (pend g1).isNone∧L'=H g1∧I g1 s3)(hI:I g0 s)(hp:pend g0=none)(b d:Nat)(x:Fnc)(A1 A2 A3:Option Addr)(n1 q1 n2 q2 n3 q3:Nat)(hcb:CellsAt s b 0 [St x.name,.slice A1 n1 q1,.slice A2 n2 q2,.slice A3 n3 q3])(hB:Stms d s A3 n3 q3 x.body)(hv:qdU x.body 1=true)(hBn:cnt g0+(qdf x.body 0).length≤B):AC prog D 74 [.func (.yield l) #[] #[],.pointer (some ⟨b,0,none⟩)] (H g0) s fun _ L' s3=>∃ g',qid pend Srq9 g0 (qdf x.body 0) g'∧L'=H g'∧I g' s3:=by
 refine qfc (fn:=f74) qao func74 V Z ntmps74 Z (rs:=[]) Z [(0,_),(1,_)] Z<|Yr<|qcB (qbD Z Z Z Z) Z<|qcB (qa8 3 Z Z Z (hcb.le (Lr D)) Z) Z<|Yqm Z Z<|Rc9 Z Z Z (isc D d _ σ H I pend Srq9 l g0 cnt B hcn mono (fun g nd nv s9 hl=>hY g nd nv s9 ((Lr D).t hl)) (mono _ _ _ hI (Lr D)) hp A3 n3 q3 x.body 0 1 (hB.le (Lr D)) hv O hBn) ?_;rintro _ _ s1 h1 ⟨g2,hr2,rfl,rfl,hI2⟩;refine Yn ?_;refine qcR [] _ (.inl Z) (.nil) Z h1 ⟨[],Z,List.nil_sublist _⟩ fun _ hS2=>?_;exact ⟨g2,hr2,rfl,mono _ _ _ hI2 ((Lr D).t hS2)⟩
def qxd(x:Fnc)(A1 A2 A3:Option Addr)(n1 q1 n2 q2 n3 q3:Nat):AC prog D 43 [.agg #[St x.name,.slice A1 n1 q1,.slice A2 n2 q2,.slice A3 n3 q3]] L s fun v L' _=>∃ M',L'=M'++L∧∃ b,M'=[(b,cb [St x.name,.slice A1 n1 q1,.slice A2 n2 q2,.slice A3 n3 q3] 64)]∧v=.func (.func 74) #[] #[.pointer (some ⟨b,0,none⟩)]:=by
 refine qad (fn:=f43) qao func43 V Z ntmps43 Z (rs:=[.tmp 2]) Z [(0,_)] Z<|Sr<|qar Z Z fun β1 s1 h1=>At Z Z<|Sr<|qae (qbj Z) Z<|G4 ?_;exact rX [] _ Z h1 fun _ hS2=>⟨[_],rfl,_,rfl,rfl⟩
def qrD(d:Nat)(p:Prg)(Ag Af:Option Addr)(ng cg nf cf:Nat)(hGl:Glos s Ag ng cg p.globals)(hFn:Fncs d s Af nf cf p.funcs)(bm:Nat)(hM:NmOK s bm p)(x:Fnc)(A1 A2 A3:Option Addr)(n1 q1 n2 q2 n3 q3:Nat)(hs1:Strs s A1 n1 q1 x.params)(hs2:Strs s A2 n2 q2 x.locals)(nd:Nd)(nv:Value)(hN:NdV s nd nv):AC prog D 44 [.agg #[.slice Ag ng cg,.slice Af nf cf,.map (some bm)],.agg #[St x.name,.slice A1 n1 q1,.slice A2 n2 q2,.slice A3 n3 q3],nv] L s fun v L' _=>v=.int .i64 (ndC p x nd)∧L=L':=by
 cases nd with
 | st y lp=>
  obtain ⟨b,o,C1,r1,e1,C2,r2,e2,C3,r3,e3,rfl,hy,hr⟩:=hN;exact qxC D L s d p Ag Af ng cg nf cf hGl hFn bm hM x A1 A2 A3 n1 q1 n2 q2 n3 q3 hs1 hs2 y b o C1 C2 C3 r1 e1 r2 e2 r3 e3 hy hr lp
 | ex y lp=>
  obtain ⟨b,o,C1,r1,e1,rfl,hy,hr⟩:=hN;exact qxB D L s d p Ag Af ng cg nf cf hGl hFn bm hM x A1 A2 A3 n1 q1 n2 q2 n3 q3 hs1 hs2 y b o C1 r1 e1 hy hr lp
def qpy:∀ {l:List Glo} {seen:List Str} {i:Nat},seen.Nodup→qh8 l seen i=(0,0)→(seen++l.map Glo.name).Nodup
  | [],seen,_,h,_=>by simpa using h
  | g::r,seen,i,h,h0=>by
    rw [qh8] at h0;split at h0
    · cases h0
    · rename_i h1
      have:=qpy (l:=r) (seen:=seen++[g.name]) (by
        rw [List.nodup_append];refine ⟨h,by simp,fun a ha b hb=>?_⟩;rw [List.mem_singleton] at hb;subst hb;intro e;subst e;exact h1 ha) h0
      simpa using this
def qpw:∀ {l:List Fnc} {seen:List Str} {i:Nat},seen.Nodup→qhG l seen i=(0,0)→(seen++l.map Fnc.name).Nodup∧∀ x∈l,(x.params++x.locals).Nodup
  | [],seen,_,h,_=>⟨by simpa using h,fun x hx=>by cases hx⟩
  | g::r,seen,i,h,h0=>by
    rw [qhG] at h0;split at h0
    · cases h0
    · rename_i h1
      have:=qpw (l:=r) (seen:=seen++[g.name]) (by
        rw [List.nodup_append];refine ⟨h,by simp,fun a ha b hb=>?_⟩;rw [List.mem_singleton] at hb;subst hb;intro e;subst e;exact h1 (.inl ha)) h0
      refine ⟨by simpa using this.1,fun x hx=>?_⟩;rcases List.mem_cons.1 hx with rfl|hx
      · exact Decidable.not_not.1 fun h2=>h1 (.inr h2)
      · exact this.2 x hx
def qhb{p:Prg}(h:(qcf p).1=0):((ents p).map (·.1)).Nodup∧∀ x∈p.funcs,(x.params++x.locals).Nodup:=by
 unfold qcf at h;split at h
 · rename_i h1;exact absurd h h1
 rename_i h1;split at h
 · rename_i h2;exact absurd h h2
 rename_i h2;have e1:=qpy (l:=p.globals) (seen:=[]) (i:=0) (by simp) (qpB.1 Q6);have e2:=qpw (l:=p.funcs) (seen:=p.globals.map Glo.name) (i:=p.globals.length) (by simpa using e1) (qpB.2 Q12);refine ⟨?_,e2.2⟩;have:(ents p).map (·.1)=p.globals.map Glo.name++p.funcs.map Fnc.name:=by
  rw [ents,List.map_append];congr 1<;>(apply List.ext_getElem<;>simp)
 rw [this];exact e2.1
end Go.Proofs.YtlfiplbamnpgoaaGreatDoor
namespace Go.FL
open Go Go.RowKit
def qs1(A R:Hl)(l:Nat)(o o':Obj):qch (A++(l,o)::R) A.length o'=A++(l,o')::R:=by
 induction A with
 | nil=>rfl
 | cons x A ih=>show x::qch (A++(l,o)::R) A.length o'=_;rw [ih];rfl
section calls
variable{P:Program}{TT:qaM}{D n:Nat}{Q:qdM}{ds:List Deferred}{fr:Fr}{L:Hl}{s:World}
section range
variable{σ α:Type}(H:σ→Hl)(I:σ→World→Prop)(pend:σ→Option Code)(St:σ→α→σ→Prop)(enc:α→List Value)(Pre:σ→α→World→Prop)(Fin:σ→Prop)
def qnZ{AR:α→Fr→Hl→Prop}{g:Operand}{ps:List Nat}{assign body:Code}{fi:FuncId}{cap:List Value}(hg:lk fr g=some (.func (.func fi) #[] cap.toArray))(g0:σ)(hL:L=H g0)(hI0:I g0 s)(hp0:pend g0=none)
    (mono:∀ g s s',I g s→Le D s s'→I g s') (hpd:∀ g,pend g=none∨pend g=some .ret∨∃ id,pend g=some (.exit id))
    (hps:∀ p,(enc p).length=ps.length) (hpn:ps.all (fun t=>Nat.blt t n)=true)
    (hassign:∀ (l:Nat) (p:α) (L':Hl) (s':World),RC P TT D n (some l) (fun e ds' fr' L1 s1=>e=.normal∧ds'=[]∧(∃ A,AR p fr' A∧L1=A++L')∧Le D s' s1) assign [] (qvR fr ps (enc p)) L' s')
    (hbody:∀ (l dk:Nat) (o1 o2:Obj) (g:σ) (p:α) (s' s0:World) (fr1:Fr) (A1:Hl),Le D s s'→Le D s' s0→I g s'→pend g=none→Pre g p s'→AR p fr1 A1 →
      RC P TT D n (some l) (fun e _ _ L1 s1=>∃ g1,St g p g1∧jmp e=some (pend g1)∧∃ A,L1=A++((l,o1)::(dk,o2)::H g1)∧Le D s0 s1∧I g1 s1) body [] fr1 (A1++((l,o1)::(dk,o2)::H g)) s0)
    (hit:∀ (l:Nat) (HH:σ→Hl) (s':World),Le D s s'→(∀ g p s'',Le D s s''→I g s''→pend g=none→Pre g p s''→YC P D l (enc p) (HH g) s'' fun v L' s3=>∃ g1,St g p g1∧v=.bool (pend g1).isNone∧L'=HH g1∧I g1 s3) →
      AC P D fi (.func (.yield l) #[] #[]::cap) (HH g0) s' fun _ L' s3=>∃ g',Fin g'∧L'=HH g'∧I g' s3)
    (hpost:∀ (dk:Nat) (g':σ) (s3:World),Le D s s3→Fin g'→I g' s3→Q (qCt (pend g')) (qg9 dk::ds) fr ((dk,Obj.deferred (some []))::H g') s3) :
    RC P TT D n none Q (.rangeFunc g ps.toArray assign body) ds fr L s:=fun hT a hr ho=>by
  subst hL;refine wpIn_rangeFunc ?_;intro fn _;have hro:(fro none).round=none:=rfl;rw [hro]

  obtain ⟨a1,a2,a3⟩:=qaD ho (Obj.deferred (some []));obtain ⟨rec,hrec⟩:∃ rec:LoopState→Option Code→Loop,rec=fun st pe=>{ state:=st,pending:=pe,fn,tmps:=a.tmps,params:=ps.toArray,assign,body,defers:=(fill (H g0) s).heap.size }:=⟨_,rfl⟩;obtain ⟨b1,b2,b3⟩:=qaD a2 (Obj.loop (rec .ready none));obtain ⟨dk,hdk⟩:∃ dk,dk=s.heap.size:=⟨_,rfl⟩;obtain ⟨l,hl⟩:∃ l,l=(s.alloc (dum D)).heap.size:=⟨_,rfl⟩;rw [← hdk,← hl] at b1 b2;rw [← hdk] at a1;have hfs:(fill (H g0) s).heap.size=dk:=by rw [qaF,hdk]
  obtain ⟨HH,hHH⟩:∃ HH:σ→Hl,HH=fun g=>(l,Obj.loop (rec (if (pend g).isNone then .ready else .done) (pend g)))::(dk,Obj.deferred (some []))::H g:=⟨_,rfl⟩;have hst0:HH g0=(l,Obj.loop (rec .ready none))::(dk,Obj.deferred (some []))::H g0:=by rw [hHH];simp only [hp0,Option.isNone_none,if_true]
  obtain ⟨s2,hs2⟩:∃ s2,s2=(s.alloc (dum D)).alloc (dum D):=⟨_,rfl⟩;rw [← hs2] at b1 b2 b3;have hle2:Le D s s2:=a3.trans b3

  have hY:∀ g p s'',Le D s s''→I g s''→pend g=none→Pre g p s''→YC P D l (enc p) (HH g) s'' fun v L' s3=>∃ g1,St g p g1∧v=.bool (pend g1).isNone∧L'=HH g1∧I g1 s3:=by
    intro g p s'' hls hI hpn0 hPre hoY;have eH:HH g=(l,Obj.loop (rec .ready none))::(dk,Obj.deferred (some []))::H g:=by rw [hHH];simp only [hpn0,Option.isNone_none,if_true]
    rw [eH] at hoY ⊢;have hrl:(fill ((l,Obj.loop (rec .ready none))::(dk,Obj.deferred (some []))::H g) s'').heap[l]?=some (.loop (rec .ready none)):=qa3 hoY Mc;have hsz:((enc p).toArray).size=(rec .ready none).params.size:=by rw [hrec];simp [hps p]
    refine ⟨_,_,_,_,run_yield hrl hsz,?_⟩;have hro2:RoundIn (fro none) 0 P l (rec .ready none).fn (((rec .ready none).params.zip (enc p).toArray).foldl (fun tmps x=>tmps.setIfInBounds x.1 x.2) (rec .ready none).tmps) (rec .ready none).assign (rec .ready none).body (fill ((l,Obj.loop (rec .ready none))::(dk,Obj.deferred (some []))::H g) s'') fun e w'=>∃ v L' s',e=.returned v∧w'=fill L' s'∧OKL D L' s'∧Le D s'' s'∧(∃ g1,St g p g1∧v=.bool (pend g1).isNone∧L'=HH g1∧I g1 s'):=by
      refine roundIn_of_wpIn Tt ?_;have e1:(rec .ready none).assign=assign:=by rw [hrec]
      have e2:(rec .ready none).body=body:=by rw [hrec]
      have e3:((rec .ready none).params.zip (enc p).toArray).foldl (fun tmps x=>tmps.setIfInBounds x.1 x.2) (rec .ready none).tmps=(ps.zip (enc p)).foldl (fun tmps x=>tmps.setIfInBounds x.1 x.2) a.tmps:=by
        rw [hrec];simp
      rw [e1,e2,e3];have hfr:FrD [] n { tmps:=(ps.zip (enc p)).foldl (fun tmps x=>tmps.setIfInBounds x.1 x.2) a.tmps,defers:=[] } (qvR fr ps (enc p)):=by
        refine ⟨qnk n (ps.zip (enc p)) fr a hr.rel ?_,Z⟩;rw [List.all_eq_true] at hpn ⊢;intro x hx;exact hpn x.1 (List.of_mem_zip hx).1
      refine wpIn_mono (hassign l p _ s'' hT _ hfr hoY) ?_;rintro e a1 w1 ⟨ds1,fr1,L1,s1,k1,k2,rfl,rfl,rfl,⟨A1,k3,rfl⟩,k4⟩

      have hrl1:(fill (A1++((l,Obj.loop (rec .ready none))::(dk,Obj.deferred (some []))::H g)) s1).heap[l]?=some (.loop (rec .ready none)):=qa3 k2 (List.mem_append_right _ Mc);have hst:(rec .ready none).state=.ready:=by rw [hrec]
      refine ⟨_,run_beginRound hrl1 hst,?_⟩;obtain ⟨ob,hob⟩:∃ ob,ob=Obj.loop { rec .ready none with state:=.busy }:=⟨_,rfl⟩;rw [qdT,← hob,← qcG k2 (i:=A1.length) (p:=Obj.loop (rec .ready none)) (by simp) ob];have ho3:=qel k2 A1.length ob;rw [qs1] at ho3 ⊢;refine wpIn_mono (hbody l dk ob (Obj.deferred (some [])) g p s'' s1 fr1 A1 hls k4 hI hpn0 hPre k3 hT _ k1 ho3) ?_;rintro e2 a2 w2 ⟨ds2,fr2,L2,s2',j1,j2,rfl,g1,jst,jj,A,rfl,jle,jI⟩;obtain ⟨d1,d2,d3⟩:=qbp j2;have hend:∀ j:Option Code,pend g1=j→∃ v w',(Instr.endRound l j).run P (fill (A++((l,ob)::(dk,Obj.deferred (some []))::H g1)) s2')=.ok v w'∧(∃ v' L' s',Ending.returned v=.returned v'∧w'=fill L' s'∧OKL D L' s'∧Le D s'' s'∧(∃ g1,St g p g1∧v'=.bool (pend g1).isNone∧L'=HH g1∧I g1 s')):=by
        intro j hj;have hrl2:(fill ((l,ob)::(dk,Obj.deferred (some []))::H g1) (fill A s2')).heap[l]?=some (.loop { rec .ready none with state:=.busy }):=by rw [qa3 d2 Mc,hob]
        rw [d1];refine ⟨_,_,run_endRound j hrl2,_,HH g1,fill A s2',Z,?_,?_,k4.trans (jle.trans d3),g1,jst,by rw [hj],Z,mono _ _ _ jI d3⟩
        · rw [qdT,← qcG d2 (i:=0) rfl]
          simp only [qch,hHH,hj];congr 3;rw [hrec]
        · have:=qel d2 0 (Obj.loop (rec (if (pend g1).isNone then .ready else .done) (pend g1)))
          simp only [qch] at this;rw [hHH];exact this
      cases e2 with
      | normal=>exact hend none (by simpa [jmp] using jj.symm)
      | ret=>exact hend (some .ret) (by simpa [jmp] using jj.symm)
      | exit id=>exact hend (some (.exit id)) (by simpa [jmp] using jj.symm)
      | goto t=>cases jj
      | panic c=>cases jj
      | outgrown=>cases jj
    exact hro2
  have hAC:=hit l HH s2 hle2 hY;obtain ⟨⟨fn0,h1,h2,h3⟩,hc⟩:=hAC;have h2':¬ fn0.name = "runtime.NumGoroutine" := by simpa using h2
  have h3':¬ fn0.body=none:=by intro e;simp [e] at h3
  have hev:=hr.ev hg;have hworld:((fill (H g0) s).alloc (.deferred (some []))).alloc (.loop (rec .ready none))=fill (HH g0) s2:=by rw [hst0,← b1,← a1]
  have hen:(Instr.enterLoop fn a.tmps ps.toArray assign body none).run P (fill (H g0) s)=.ok (l,[qg9 dk]) (fill (HH g0) s2):=by
    rw [run_enterLoop_outer,← hworld];have e1:(fill (H g0) s).heap.size+1=l:=by rw [hfs,hl,World.size_alloc,hdk]
    rw [e1,qg9,← hfs,hrec]
  refine ⟨l,[qg9 dk],fill (HH g0) s2,{ target:=.fn (.func fi) cap.toArray,args:=#[.func (.yield l) #[] #[]] },fill (HH g0) s2,fi,(.func (.yield l) #[] #[]::cap).toArray,fill (HH g0) s2,hen,?_,fun f _=>qf9 none f,?_,qfn none 0,?_⟩
  · simp only [resolve,hev]
    simp [go_sem]
  · simp [invoke,callFunc,h1,h2',h3']
  · have hoH:OKL D (HH g0) s2:=by rw [hst0];exact b2
    refine (qgR none _ (hc hoH)).mono ?_;rintro e w' ⟨v,L',s3,rfl,rfl,q1,q2,g',q3,rfl,q4⟩;have eH:HH g'=(l,Obj.loop (rec (if (pend g').isNone then .ready else .done) (pend g')))::(dk,Obj.deferred (some []))::H g':=by rw [hHH]
    rw [eH] at q1 ⊢;have hrl:(fill ((l,Obj.loop (rec (if (pend g').isNone then .ready else .done) (pend g')))::(dk,Obj.deferred (some []))::H g') s3).heap[l]?=some (.loop (rec (if (pend g').isNone then .ready else .done) (pend g'))):=qa3 q1 Mc;have hnb:(rec (if (pend g').isNone then .ready else .done) (pend g')).state≠.busy:=by
      rw [hrec];simp only;split<;>(intro h;cases h)
    have hpe:(rec (if (pend g').isNone then .ready else .done) (pend g')).pending=pend g':=by rw [hrec]
    have hrun:=run_endLoop (P:=P) hrl hnb;rw [hpe] at hrun;obtain ⟨oe,hoe⟩:∃ oe,(Instr.endLoop l).run P (fill ((l,Obj.loop (rec (if (pend g').isNone then .ready else .done) (pend g')))::(dk,Obj.deferred (some []))::H g') s3)=.ok (pend g') (qbq (fill ((l,Obj.loop (rec (if (pend g').isNone then .ready else .done) (pend g')))::(dk,Obj.deferred (some []))::H g') s3) l oe):=⟨_,hrun⟩;refine ⟨pend g',_,hoe,?_⟩;rw [← qcG q1 (i:=0) rfl oe];have ho4:=qel q1 0 oe;simp only [qch] at ho4 ⊢;obtain ⟨d1,d2,d3⟩:=qbp (A:=[(l,oe)]) (B:=(dk,Obj.deferred (some []))::H g') ho4;simp only [cQ9,nQ9] at d1;rw [d1];have hQ:=hpost dk g' (fill [(l,oe)] s3) (hle2.trans (q2.trans d3)) q3 (mono _ _ _ q4 d3);have hfr2:FrD (qg9 dk::ds) n { a with defers:=[qg9 dk]++a.defers } fr:=⟨hr.rel,by show [qg9 dk]++a.defers=_;rw [hr.defers];rfl⟩;rcases hpd g' with hp|hp|⟨id,hp⟩
    · rw [hp] at hQ ⊢
      exact ⟨_,_,_,_,hfr2,d2,rfl,hQ⟩
    · rw [hp] at hQ ⊢
      exact wpIn_ret ⟨_,_,_,_,hfr2,d2,rfl,hQ⟩
    · rw [hp] at hQ ⊢
      exact wpIn_exit ⟨_,_,_,_,hfr2,d2,rfl,hQ⟩
end range
end calls
def qBz{P:Program}{TT:qaM}{D n:Nat}{ro:Option Nat}{Q:qdM}{c:Code}{ds:List Deferred}{fr fr':Fr}{L:Hl}{s:World}(h:Keeps fr fr')(k:RC P TT D n ro Q c ds fr' L s):RC P TT D n ro Q c ds fr L s:=fun ht a hr ho=>k ht a (hr.sub h) ho
def qwJ{P:Program}{TT:qaM}{D n:Nat}{ro:Option Nat}{Q:qdM}{ds:List Deferred}{fr:Fr}{L L':Hl}{s:World}{c:Code}(hp:L.Perm L')(h:RC P TT D n ro Q c ds fr L' s):RC P TT D n ro Q c ds fr L s:=fun ht a hr ho=>by
 rw [qa5 hp _ ho];exact h ht a hr (ho.perm hp)
section
variable{P:Program}{TT:qaM}{D n:Nat}{ro:Option Nat}{Q:qdM}{ds:List Deferred}{fr:Fr}{L:Hl}{s:World}{ops:Array Oper}{rest:List Oper}{d ty:Nat}{pos:String}{af:Array Edge}{v:Value}
def qBA{t:Nat}{x:Operand}{zs:List Value}(hx:lk fr x=some v)(hz:qa2 v=zs)(hd:Nat.blt d n=true)
  (k:∀ β s',Le D s s'→RO P TT D n ro ops Q rest ds ((d,.pointer (some ⟨β,0,none⟩))::fr) ((β,cb zs t)::L) s'):RO P TT D n ro ops Q (⟨some d,.box t x,ty,pos,af,none⟩::rest) ds fr L s:=fun hT a hr ho=>
 qwO (by nofun) hd (qnB hx hz ho) (k _ _ (qaD ho (cb zs t)).2.2) hT a hr ho
def qwL{t:Nat}{x:Operand}{zs:List Value}(hx:lk fr x=some (.agg zs.toArray))(hd:Nat.blt d n=true)
  (k:∀ β s',Le D s s'→RO P TT D n ro ops Q rest ds ((d,.pointer (some ⟨β,0,none⟩))::fr) ((β,cb zs t)::L) s'):RO P TT D n ro ops Q (⟨some d,.box t x,ty,pos,af,none⟩::rest) ds fr L s:=
 qBA hx (by simp [qa2]) hd k
end
end Go.FL
namespace Go.Proofs.YtlfiplbamnpgoaaGreatDoor
open Go.FL
attribute [local irreducible] JC JO JA JB qaJ qax qbN AC fill CellsAt QE Ev Mid
variable(D:Nat)(L:Hl)(s:World){l:List Tm}
def NdV.agg{s:World}{nd:Nd}{nv:Value}(h:NdV s nd nv):∃ (pa pb:Option Addr) (lp:Nat),nv=.agg #[.pointer pa,.pointer pb,.int .i64 (lp:Int)]:=by
 cases nd with
 | st y lp=>obtain ⟨b,o,C1,r1,e1,C2,r2,e2,C3,r3,e3,rfl,hy,hr⟩:=h;exact ⟨_,_,_,rfl⟩
 | ex y lp=>obtain ⟨b,o,C1,r1,e1,rfl,hy,hr⟩:=h;exact ⟨_,_,_,rfl⟩
def NdV.le{D:Nat}{s s':World}{nd:Nd}{nv:Value}(h:NdV s nd nv)(hl:Le D s s'):NdV s' nd nv:=by
 cases nd with
 | st y lp=>obtain ⟨b,o,C1,r1,e1,C2,r2,e2,C3,r3,e3,rfl,hy,hr⟩:=h;exact ⟨b,o,C1,r1,e1,C2,r2,e2,C3,r3,e3,rfl,hy.le hl,hr⟩
 | ex y lp=>obtain ⟨b,o,C1,r1,e1,rfl,hy,hr⟩:=h;exact ⟨b,o,C1,r1,e1,rfl,hy.le hl,hr⟩
def qit(p:Prg)(x:Fnc):List Nd→Int
 | []=>0
 | n::r=>if ndC p x n=0 then qit p x r else ndC p x n
def qoh(p:Prg):List Fnc→Nat→Int×Int
 | [],_=>(0,0)
 | x::r,i=>if qit p x (qdf x.body 0)=0 then qoh p r (i+1) else (qit p x (qdf x.body 0),(i:Int))
def qdC(p:Prg):Int×Int:=if (qhI p).1≠0 then qhI p else if (qcf p).1≠0 then qcf p else qoh p p.funcs p.globals.length
def qoi{p:Prg}{l:List Fnc}{k i:Nat}{x:Fnc}(h:l[k]?=some x):qoh p (l.drop k) i=if qit p x (qdf x.body 0)=0 then qoh p (l.drop (k+1)) (i+1) else (qit p x (qdf x.body 0),(i:Int)):=by
 obtain ⟨hk,rfl⟩:=List.getElem?_eq_some_iff.1 h;rw [List.drop_eq_getElem_cons hk,qoh]
def qjs{p:Prg}{x:Fnc}:∀ {l:List Nd},qit p x l=0→∀ nd∈l,ndC p x nd=0
  | [],_=>fun nd h=>by cases h
  | n::r,h=>fun nd hm=>by
    rw [qit] at h;split at h
    · rename_i h1
      rcases List.mem_cons.1 hm with rfl|hm
      · exact h1
      · exact qjs h nd hm
    · rename_i h1;exact absurd h h1
def qjr{p:Prg}:∀ {l:List Fnc} {i:Nat},(qoh p l i).1=0→qoh p l i=(0,0)∧∀ x∈l,∀ nd∈qdf x.body 0,ndC p x nd=0
  | [],_,_=>⟨rfl,fun x h=>by cases h⟩
  | y::r,i,h=>by
    rw [qoh] at h ⊢;split at h
    · rename_i h1
      obtain ⟨a,b⟩:=qjr h;rw [if_pos h1];refine ⟨a,fun x hm=>?_⟩;rcases List.mem_cons.1 hm with rfl|hm
      · exact qjs h1
      · exact b x hm
    · rename_i h1;exact absurd h h1
def qmd{p:Prg}(h:(qcf p).1=0):qcf p=(0,0):=by
  unfold qcf at h ⊢;split at h
  · rename_i h1;exact absurd h h1
  rename_i h1;rw [if_neg h1];split at h
  · rename_i h2;exact absurd h h2
  rename_i h2;rw [if_neg h2];split at h
  · cases h
  rename_i h3;rw [if_neg h3];split at h
  · split at h
    · rename_i h4;rw [if_pos h4]
    · cases h
  · rfl
def OKP(p:Prg):Prop:=PV p∧qcf p=(0,0)∧∀ x∈p.funcs,∀ nd∈qdf x.body 0,ndC p x nd=0
def OKP.of{p:Prg}(hu:prU p)(h:(qdC p).1=0):OKP p∧qdC p=(0,0):=by
 unfold qdC at h ⊢;split at h
 · rename_i h1;exact absurd h h1
 rename_i h1;split at h
 · rename_i h2;exact absurd h h2
 rename_i h2;rw [if_neg h1,if_neg h2];obtain ⟨a,b⟩:=qjr h;exact ⟨⟨PV.of hu (qfy Q6),qmd Q12,b⟩,a⟩
abbrev qsI(g:Option Int):Option Code:=g.map fun _=>.ret
abbrev stO(p:Prg)(x:Fnc)(nd:Nd)(g1:Option Int):Prop:=g1=if ndC p x nd=0 then none else some (ndC p x nd)
def qp6{p:Prg}{x:Fnc}:∀ {l:List Nd} {g':Option Int},qid qsI (fun _ nd g1=>stO p x nd g1) none l g'→g'=if qit p x l=0 then none else some (qit p x l)
  | [],g',h=>by
    have h:g'=none:=h;rw [h,qit,if_pos rfl]
  | n::r,g',⟨g1,h1,h2⟩=>by
    have h1:g1=if ndC p x n=0 then none else some (ndC p x n):=h1
    by_cases h3:ndC p x n=0
    · rw [if_pos h3] at h1;subst h1
      rw [show (qsI none).isNone=true from rfl,if_pos rfl] at h2;rw [qit,if_pos h3];exact qp6 h2
    · rw [if_neg h3] at h1;subst h1
      rw [if_neg (by simp)] at h2;subst h2;rw [qit,if_neg h3,if_neg h3]
def qBP(x:Fnc)(A1 A2 A3:Option Addr)(n1 q1 n2 q2 n3 q3:Nat):AC Tryz.prog D 43 [.agg #[St x.name,.slice A1 n1 q1,.slice A2 n2 q2,.slice A3 n3 q3]] L s fun v L' s'=>L=L'∧∃ b,v=.func (.func 74) #[] #[.pointer (some ⟨b,0,none⟩)]∧CellsAt s' b 0 [St x.name,.slice A1 n1 q1,.slice A2 n2 q2,.slice A3 n3 q3]:=by
 refine (AC.pub (qxd D L s x A1 A2 A3 n1 q1 n2 q2 n3 q3)).mono ?_;rintro v L1 s1 _ ⟨h1,M1,s2,⟨b,rfl,h3⟩,_,h5⟩;exact ⟨h1,b,h3,h5 _ _ _ Mc⟩
def qia(hG:GP s)(d:Nat)(p:Prg)(Ag Af:Option Addr)(ng cg nf cf:Nat)(hGl:Glos s Ag ng cg p.globals)(hFn:Fncs d s Af nf cf p.funcs):AC Tryz.prog D 17 [.agg #[.slice Ag ng cg,.slice Af nf cf]] L s fun v L' _=>v=.agg #[.int .i64 (qdC p).1,.int .i64 (qdC p).2]∧L=L':=by
 have hn1:=hGl.1;have hn2:=hFn.1;have hU:prU p:=⟨hGl.u,hFn.u⟩;refine qfc (fn:=Tryz.f17) qao Tryz.func17 V Z Tryz.ntmps17 Z (rs:=[.cell 2 30]) Z [(0,_)] Z<|Ys<|Yr<|qwL Z Z fun β1 s1 h1=>qda Z [_,_] Z Z fun β2 s2 h2=>Yn<|Yt<|Ys<|Ys<|Yr<|qcB (qaj 1 [_,_] Z Z Z Z Z) Z<|Rc9 Z Z Z (qkD D _ _ (hG.le (h1.t h2)) d p Ag _ ng cg nf cf (hGl.le (h1.t h2)) (hFn.le (h1.t h2))) ?_;have e2:=h1.t h2;rintro _ _ s3 h3 ⟨rfl,rfl⟩;have e3:=e2.t h3;refine qda Z [_,_] Z Z fun β4 s4 h4=>qhC 0 [_,_] Z Z Z Z Z Z Z Z Z<|Yn<|Yt<|Ys<|Yr<|qcB (qaj 0 [_,_] Z Z Z Z Z) Z<|qcB (qai [] [_,_] Z Z Z Z Z Z) Z<|qcB (qcU Z Z (qb3 _ _ _ _)) Z<|Yn<|Yt<|?_;have e4:=e3.t h4;refine qnX Z ?_ ?_<;>intro c5;·have hE:qdC p=qhI p:=if_pos (fun h=>c5 (by rw [qyF h];exact ⟨rfl,rfl⟩));refine Ys<|Yr<|qcB (qaj 0 [_,_] Z Z Z Z Z) Z<|qhC 1 [_,_] Z Z Z Z Z Z Z Z Z<|Yn<|Yt<|Yo<|Yu<|?_;refine qcR (_::_::_::[]) L (.inr Z) (.agg (us:=[_,_]) 1 Z Z Z Z Z (.nil)) Z e4 ⟨[],Z,List.nil_sublist _⟩ fun _ hS2=>?_;exact qi5
 have g4:=c5;have g14:¬ (qhI p).1≠0:=fun h=>h g4.1;have hV:=PV.of hU (qfy g4.1);have hV1:=hV.1;have hV2:=hV.2.1;have hVf:=hV.2.2.2.1;refine Yk<|Yt<|Ys<|Ys<|Yr<|qcB (qaj 2 [_,_] Z Z Z Z Z) Z<|Rc9 Z Z Z (qxA D _ _ d p Ag _ ng cg nf cf (hGl.le e4) (hFn.le e4) hV) ?_;rintro _ _ s6 h6 ⟨rfl,rfl⟩;have e6:=e4.t h6;refine qda Z [_,_] Z Z fun β7 s7 h7=>qhC 0 [_,_] Z Z Z Z Z Z Z Z Z<|Yn<|Yt<|Ys<|Yr<|qcB (qaj 0 [_,_] Z Z Z Z Z) Z<|qcB (qai [] [_,_] Z Z Z Z Z Z) Z<|qcB (qcU Z Z (qb3 _ _ _ _)) Z<|Yn<|Yt<|?_;have e7:=e6.t h7;refine qnX Z ?_ ?_<;>intro c8;·have hE:qdC p=qcf p:=(if_neg g14).trans (if_pos (fun h=>c8 (by rw [qmd h];exact ⟨rfl,rfl⟩)));refine Ys<|Yr<|qcB (qaj 0 [_,_] Z Z Z Z Z) Z<|qhC 2 [_,_] Z Z Z Z Z Z Z Z Z<|Yn<|Yt<|Yo<|Yu<|?_;refine qcR (_::_::_::_::[]) L (.inr Z) (.agg (us:=[_,_]) 2 Z Z Z Z Z (.nil)) Z e7 ⟨[],Z,List.nil_sublist _⟩ fun _ hS2=>?_;exact qi5
 have g5:=c8;have g20:¬ (qcf p).1≠0:=fun h=>h g5.1;refine Yk<|Yt<|Ys<|Yr<|qcB (qaj 3 [_,_] Z Z Z Z Z) Z<|Rc9 Z Z Z (qsx D _ _ d p Ag _ ng cg nf cf (hGl.le e7) (hFn.le e7) (qhb g5.1).1) ?_;rintro _ _ s9 h9 ⟨rfl,bm,rfl,hM⟩;have e9:=e7.t h9;refine qda Z [_,_,_] Z Z fun β10 s10 h10=>qhC 0 [_,_,_] Z Z Z Z Z Z Z Z Z<|Yn<|Yt<|Ys<|Ys<|Yr<|YqfB Z Z Z Z Z<|Yql 4 Z Z Z Z Z Z<|qD5 Z Z Z Z<|Yqm Z Z<|Yn<|Yt<|Yp<|?_;have e10:=e9.t h10;refine qq5 (γ:=Nat×List Nat) (fun g=>[(1,_),(2,_),(5,_),(25,_),(26,_),(27,.int .i64 (g.1:Int))]) (fun g=>_::_::_::_::_::(g.2.map qlf++L)) (fun g=>g.2.map qg9) (fun g tw=>Le D s10 tw∧(g.1≤nf∧qoh p p.funcs p.globals.length=qoh p (p.funcs.drop g.1) (p.globals.length+g.1))) (fun g=>nf - g.1) (fun _ _ _ h hl=>⟨h.1.trans hl,h.2⟩) (0,[]) (.c6 Z Z Z Z Z Z (.nil _)) Z Z ⟨Le.refl _,⟨Nat.zero_le _,Z⟩⟩ ?_;intro g s11 I11;have e11:=e10.t I11.1;obtain ⟨k,bs⟩:=g;obtain ⟨hk0,hS⟩:=I11.2;simp only at hk0 hS;dsimp only;refine Ys<|Yr<|qEG Z Z Z<|Yn<|Yt<|Ys<|?_;refine qlz Z ?_ ?_<;>intro c12
 ·have hk:k < nf:=by omega
  obtain ⟨b,off,x,B1,m1,d1,B2,m2,d2,B3,m3,d3,rfl,hx,hcx,hpx,hlx,hbx,hnl⟩:=Fncs.at_ (hFn.le e11) hk;have hfx:=hVf x (List.mem_of_getElem? hx);refine Yk<|Yt<|Ys<|Yp<|Ys<|Yr<|Yqm Z Z<|qcB (qaw Z Z Z Z Z Z hk) Z<|qcB (qat Z Z Z (hcx.le (Lr D)) Z) Z<|qda Z [_] Z Z fun β13 s13 h13=>qda Z [_,_,_,_] Z Z fun β14 s14 h14=>qhC 1 [_] Z Z Z Z Z Z Z Z Z<|qhC 0 [_,_,_,_] Z Z Z Z Z Z Z Z Z<|Yn<|Yt<|Ys<|Yr<|qcB (qaj 0 [_,_,_,_] Z Z Z Z Z) Z<|Rc9 Z Z Z (qBP D _ _ x B1 B2 B3 m1 d1 m2 d2 m3 d3) ?_;have e14:=e11.t h13|>.t h14;rintro _ _ s15 h15 ⟨rfl,ba,rfl,hba⟩;have e15:=h13.t h14|>.t h15;refine Yn<|Yt<|Yp<|?_;refine qnZ (σ:=Option Int) (α:=Nd×Option Addr×Option Addr×Nat) (fun g=>(β14,cb [St x.name,.slice B1 m1 d1,.slice B2 m2 d2,.slice B3 m3 d3] 64)::(β13,cb [.int .i64 (k:Int)] 3)::_::_::_::(β2,cb [.int .i64 (g.getD 0),.int .i64 (match g with|none=>0|some _=>(ng:Int)+(k:Int))] 30)::_::(bs.map qlf++L)) (fun g tw=>True) (fun g=>qsI g) (fun g xn g1=>stO p x xn.1 g1) (fun xn=>[.agg #[.pointer xn.2.1,.pointer xn.2.2.1,.int .i64 (xn.2.2.2:Int)]]) (fun g xn tw=>NdV tw xn.1 (.agg #[.pointer xn.2.1,.pointer xn.2.2.1,.int .i64 (xn.2.2.2:Int)])) (fun g1=>g1=if qit p x (qdf x.body 0)=0 then none else some (qit p x (qdf x.body 0))) (AR:=(fun xn fr A=>∃ βy,Keeps fr [(8,.pointer (some ⟨βy,0,none⟩)),(1,.pointer (some ⟨β1,0,none⟩)),(2,.pointer (some ⟨β2,0,none⟩)),(5,.pointer (some ⟨β10,0,none⟩)),(6,.pointer (some ⟨β13,0,none⟩)),(7,.pointer (some ⟨β14,0,none⟩))]∧A=[(βy,cb [.pointer xn.2.1,.pointer xn.2.2.1,.int .i64 (xn.2.2.2:Int)] 130)])) (cap:=[_]) Z none Z (Tt) Z (fun _ _ _ h _=>h) (fun g=>by cases g with
    | none=>exact .inl rfl
    | some f=>exact .inr (.inl rfl)) (fun _=>rfl) rfl ?_ ?_ ?_ ?_
  ·intro l16 x16 L16 s16;refine Yr<|qda Z [_,_,_] Z Z fun β17 s17 h17=>qhC 0 [_,_,_] Z Z Z Z Z Z Z Z Z<|Yn ?_;exact ⟨rfl,rfl,⟨[_],⟨_,(.cons rfl (.cons rfl (.cons rfl (.cons rfl (.cons rfl (.cons rfl (.nil _))))))),rfl⟩,rfl⟩,h17⟩
  ·rintro l18 d18 o18 p18 g xn s18 s19 fr18 A18 h18 h19 I18 hp18 P18 ⟨βy,hK18,rfl⟩;refine qBz hK18 ?_;simp only [cQ9,nQ9];obtain ⟨nd,pa,pb,lp⟩:=xn;have hN:=P18;simp only at hN;obtain rfl:g=none:=by cases g with
     | none=>rfl
     | some f=>cases hp18
   dsimp only;refine Yp<|Ys<|Yr<|qcB (qaj 5 [_,_,_] Z Z Z Z Z) Z<|qcB (qaj 3 [_,_,_,_] Z Z Z Z Z) Z<|qcB (qaj 0 [_,_,_] Z Z Z Z Z) Z ?_;refine Rc9 Z Z Z (qrD D _ _ d p Ag _ ng cg nf cf (hGl.le (e14.t h15|>.t h18|>.t h19)) (hFn.le (e14.t h15|>.t h18|>.t h19)) bm (hM.le (h10.t I11.1|>.t h13|>.t h14|>.t h15|>.t h18|>.t h19)) x B1 B2 B3 m1 d1 m2 d2 m3 d3 (hpx.le (e15.t h18|>.t h19)) (hlx.le (e15.t h18|>.t h19)) nd _ (hN.le h19)) ?_;rintro _ _ s20 h20 ⟨rfl,rfl⟩;refine Yqa Z Z<|Yn<|Yt<|Ys<|Yr<|Yqm Z Z<|Yqne Z Z Z<|Yn<|Yt<|?_;refine qnX Z ?_ ?_<;>intro c21;·have hz:¬ ndC p x nd=0:=c21;refine Ys<|Yr<|Yqm Z Z<|Yqf0 Z Z Z Z Z<|qcB (Wd 9 Y5) Z<|qD5 Z Z Z Z<|Yql 4 Z Z Z Z Z Z<|qq8 Z Z Z (w64 O O)<|Rc9 Z Z Z (qde D _ _ _ _) ?_;rintro _ _ s22 h22 ⟨rfl,rfl⟩;refine qhC 8 [_,_] Z Z Z Z Z Z Z Z Z<|Yn<|Yt<|Yo<|Yc<|?_;refine ⟨some (ndC p x nd),(by simp only [stO];rw [if_neg hz]),Z,[_],Z,(h20.t h22),Tt⟩
   have hz:ndC p x nd=0:=c21;refine Yk<|Yb<|?_;refine ⟨none,(by simp only [stO];rw [if_pos hz]),Z,[_],Z,h20,Tt⟩
  ·intro l22 HH s22 h22 hY;refine (qxc D _ _ HH (fun g tw=>True) (qsI) (fun g nd g1=>stO p x nd g1) l22 none ((fun _=>0)) (qdf x.body 0).length (fun _ _ _ _=>Nat.zero_le _) (fun g s s' h hl=>h) ?_ (Tt) Z ba d x B1 B2 B3 m1 d1 m2 d2 m3 d3 (hba.le h22) (hbx.le (e15.t h22)) hfx.2.2.2.2.1 (Nat.le_of_eq (Nat.zero_add _))).mono ?_
   · intro g nd nv s2 hl2 hI2 hp2 hc2 hN2
     obtain ⟨pa,pb,lp,rfl⟩:=hN2.agg;exact hY g (nd,pa,pb,lp) s2 (h22.trans hl2) hI2 hp2 hN2
   · rintro v L' s3 _ ⟨g',h1,h2,h3⟩
     exact ⟨g',qp6 h1,h2,h3⟩
  intro d23 g s23 h23 F23 I23;have hF:g=if qit p x (qdf x.body 0)=0 then none else some (qit p x (qdf x.body 0)):=F23
  cases g with
  | some f=>
   have hbn:¬ qit p x (qdf x.body 0)=0:=fun h=>by rw [if_pos h] at hF;cases hF
   rw [if_neg hbn] at hF;injection hF with hF
   have hE:qdC p=(f,(ng:Int)+(k:Int)):=by
     rw [qdC,if_neg g14,if_neg g20,hS,qoi hx,if_neg hbn,← hF,hn1];simp
   refine Yc<|Yc<|Yu<|Yu<|Yc<|Yu<|?_;refine qcR (_::_::_::_::_::_::_::_::bs.map qlf) L (.inr Z) (.agg (us:=[_,_]) 6 Z Z Z Z Z (.nil)) Z (e14.t h15|>.t h23) ⟨_::bs,Z,List.Sublist.cons_cons _ (List.Sublist.cons _ (List.Sublist.cons _ (List.Sublist.cons _ (List.Sublist.cons _ (List.Sublist.cons _ (List.Sublist.cons _ (List.Sublist.cons _ (List.Sublist.refl _))))))))⟩ fun _ hS2=>?_;exact qi5
  | none=>
   have hbn:qit p x (qdf x.body 0)=0:=by
     by_cases h:qit p x (qdf x.body 0)=0
     · exact h
     · rw [if_neg h] at hF;cases hF
   refine Yb<|Yb<|Yt<|qwJ (List.perm_append_comm_assoc [_] [_,_,_,_,_,_,_] _) ?_;simp only [cQ9,nQ9];refine Yr<|qq8 Z Z Z (w64 O O)<|Yqm Z Z<|Yn<|?_;refine qi0 ⟨(k+1,d23::bs),[_,_],Z,(.c6 Z Z Z Z Z Z (.nil _)),Z,⟨(I11.1.t h13|>.t h14|>.t h15|>.t h23),⟨by simp only;omega,by simp only;rw [hS,qoi hx,if_pos hbn];rfl⟩⟩,Oz⟩
 rw [List.drop_eq_nil_of_le O,qoh] at hS;have hE:qdC p=(0,0):=by rw [qdC,if_neg g14,if_neg g20,hS]
 refine Yl<|Yv<|Yv<|Yd<|Yt<|Ys<|Yr<|qcB (qai [] [_,_] Z Z Z Z Z Z) Z<|qhC 3 [_,_] Z Z Z Z Z Z Z Z Z<|Yn<|Yt<|Yo<|?_;refine qcR (_::_::_::_::_::bs.map qlf) L (.inr Z) (.agg (us:=[_,_]) 3 Z Z Z Z Z (.nil)) Z e11 ⟨bs,Z,List.Sublist.cons _ (List.Sublist.cons _ (List.Sublist.cons _ (List.Sublist.cons _ (List.Sublist.cons _ (List.Sublist.refl _)))))⟩ fun _ hS2=>?_;exact qi5
def qtd{j:Nat}{l:List Ins}{y:Ins}(h:l[j]?=some y):l.take (j+1)=l.take j++[y]:=by
 obtain ⟨hj,rfl⟩:=List.getElem?_eq_some_iff.1 h;rw [List.take_succ_eq_append_getElem hj]
open Go.Proofs.Tryz
def Ez43{p:Prop} (h:p:=by
 intro β1 s1 h1;refine G5 ?_;refine qae (qai [(_,_),(_,_)] [_,_] Z Z Z Z Z Z) Z<|Wt 0 [_,_] Y9<|G3 ?_;exact rR [_] L (.agg (us:=[_,_]) 0 Z Z Z Z Z (.nil)) Z h1 fun _ hS2=>Cz0):p:=h
def qkb(r:Int):AC prog D 24 [.int .u32 r] L s fun v L' _=>v=.agg #[.int .i64 1,.int .u32 r]∧L=L':=by
 refine qad (fn:=f24) qao func24 V Z ntmps24 Z (rs:=[.cell 2 80]) Z [(0,_)] Z<|Sr<|qac Z [_,_] Z Z ?_;exact Ez43
def qCY(r:Int):AC prog D 27 [.int .u32 r] L s fun v L' _=>v=.agg #[.int .i64 0,.int .u32 r]∧L=L':=by
 refine qad (fn:=f27) qao func27 V Z ntmps27 Z (rs:=[.cell 2 80]) Z [(0,_)] Z<|Sr<|qac Z [_,_] Z Z ?_;exact Ez43
theorem qoJ{n j:Nat}{y e:Tm}(hj:j < n)(hz:(j:Int)=0)(he:l[j]?=some e)(hy:y=if 1 < j then l.getD 1 ⟨0,0⟩ else ⟨0,0⟩):j+1≤n∧e=(if 0 < j+1 then l.getD 0 ⟨0,0⟩ else ⟨0,0⟩)∧y=(if 1 < j+1 then l.getD 1 ⟨0,0⟩ else ⟨0,0⟩):=by grind
theorem qoK{n j:Nat}{x e:Tm}(hj:j < n)(hz:¬ (j:Int)=0)(hn:n≤2)(he:l[j]?=some e)(hx:x=if 0 < j then l.getD 0 ⟨0,0⟩ else ⟨0,0⟩):j+1≤n∧x=(if 0 < j+1 then l.getD 0 ⟨0,0⟩ else ⟨0,0⟩)∧e=(if 1 < j+1 then l.getD 1 ⟨0,0⟩ else ⟨0,0⟩):=by grind
theorem qDI{i:Nat}(h:l.length≤i):l.getD i ⟨0,0⟩=⟨0,0⟩:=by grind
def qCo(kd tgt:Int)(A:Option Addr)(n c:Nat)(l:List Tm)(hA:Tms s A n c l)(hl:l.length≤2):AC prog D 26 [.int .i64 kd,.int .i64 tgt,.slice A n c] L s fun v L' _=>v=.agg #[.int .i64 kd,.int .i64 tgt,.int .i64 (l.getD 0 ⟨0,0⟩).kind,.int .u32 (l.getD 0 ⟨0,0⟩).val,.int .i64 (l.getD 1 ⟨0,0⟩).kind,.int .u32 (l.getD 1 ⟨0,0⟩).val]∧L=L':=by
 have hn:=hA.1;refine qad (fn:=f26) qao func26 V Z ntmps26 Z (rs:=[.cell 6 88]) Z [(0,_),(1,_),(2,_)] Z<|Sr<|qac Z [_,_,_,_,_,_] Z Z fun β1 s1 h1=>G6 ?_;refine qae (qai [(_,_),(_,_)] [_,_,_,_,_,_] Z Z Z Z Z Z) Z<|qac Z [_,_,_,_,_,_] Z Z fun β2 s2 h2=>Wt 0 [_,_,_,_,_,_] Y9<|G11 ?_;refine qaH (γ:=Nat×Tm×Tm) (fun g=>[(6,_),(7,_),(13,_),(14,_),(15,.int .i64 (g.1:Int))]) (fun g=>(β2,cb [.int .i64 kd,.int .i64 tgt,.int .i64 g.2.1.kind,.int .u32 g.2.1.val,.int .i64 g.2.2.kind,.int .u32 g.2.2.val] 88)::(β1,cb [.int .i64 0,.int .i64 0,.int .i64 0,.int .u32 0,.int .i64 0,.int .u32 0] 88)::L) (fun g tw=>Le D s2 tw∧(g.1≤n∧g.2.1=(if 0 < g.1 then l.getD 0 ⟨0,0⟩ else ⟨0,0⟩)∧g.2.2=(if 1 < g.1 then l.getD 1 ⟨0,0⟩ else ⟨0,0⟩))) (fun g=>n - g.1) (fun _ _ _ h hl=>⟨h.1.trans hl,h.2⟩) (0,⟨0,0⟩,⟨0,0⟩) (.c5 Z Z Z Z Z (.nil _)) Z ⟨Le.refl _,⟨Nat.zero_le _,Z,Z⟩⟩ ?_;intro g s3 I3;obtain ⟨j,x,y⟩:=g;obtain ⟨hj0,hx,hy⟩:=I3.2;simp only at hj0 hx hy;refine J6 ?_ ?_<;>intro c4
 ·have hk:j < n:=by omega
  obtain ⟨b,off,e,rfl,he,hce,hue⟩:=Tms.at_ (hA.le (h1.t h2|>.t I3.1)) hk;refine G7 ?_;refine qae (qaw Z Z Z Z Z Z hk) Z<|qae (qat Z Z Z (hce.le (Lr D)) Z) Z<|qac Z [_,_] Z Z fun β5 s5 h5=>Zqa Z Z<|Wt 0 [_,_] Y9<|J8 ?_ ?_<;>intro c6;·have hz0:=c6;refine Zr<|qae (qaj 0 [_,_] Z Z Z Z Z) Z<|Wb Y5<|Wt 1 [_,_,_,_,_,_] Y9<|G4 ?_;refine qaV Z Z Z (w64 O O)<|G2 ?_;refine qaf ⟨(j+1,e,y),[_],kp,Z,⟨(I3.1.t h5),by first|exact qoJ hk hz0 he hy|exact qoK hk hz0 O he hx⟩,Oz⟩
  have hz0:=c6;refine Zr<|qae (qaj 0 [_,_] Z Z Z Z Z) Z<|Wb Y5<|Wt 1 [_,_,_,_,_,_] Y9<|G4 ?_;refine qaV Z Z Z (w64 O O)<|G2 ?_;refine qaf ⟨(j+1,x,e),[_],kp,Z,⟨(I3.1.t h5),by first|exact qoJ hk hz0 he hy|exact qoK hk hz0 O he hx⟩,Oz⟩
 refine G7 ?_;refine qae (qaj 0 [_,_,_,_,_,_] Z Z Z Z Z) Z<|Wt 1 [_,_,_,_,_,_] Y9<|G3 ?_;refine rR [_,_] L (.agg (us:=[_,_,_,_,_,_]) 1 Z Z Z Z Z (.nil)) Z (h1.t h2|>.t I3.1) fun _ hS2=>?_;refine ⟨?_,Z⟩;have e1:x=l.getD 0 ⟨0,0⟩:=by
   rw [hx];split
   · rfl
   · rw [qDI O]
 have e2:y=l.getD 1 ⟨0,0⟩:=by
   rw [hy];split
   · rfl
   · rw [qDI O]
 rw [← e1,← e2];rfl
def qBK(name:List UInt8)(op:Bool)(A:Option Addr)(n c:Nat)(β:Nat)(v:Value)(M:Hl)(i:Nat)(xs:List Value)(hO:FL.Own 84 4 M v i xs)(hi:i≤1000):AC prog D 25 [St name,.bool op,.slice A n c,.pointer (some ⟨β,0,none⟩)] (((β,cb [.int .i64 65536,v] 42)::M)++L) s fun w L' s'=>∃ M',L'=M'++L∧w=.tuple #[]∧∃ v2 M2,M'=(β,cb [.int .i64 65536,v2] 42)::M2∧FL.Own 84 4 M2 v2 (i+1) (xs++[St name,.int .u32 ((i:Int)+1),.bool op,.slice A n c]):=by
 obtain ⟨Av,cv,rfl,kv1,kv2⟩:=Own.slice hO;refine qad (fn:=f25) qao func25 V Z ntmps25 Z (rs:=[]) Z [(0,_),(1,_),(2,_),(3,_)] Z<|G7 ?_;refine qaV Z Z Z (w64 O O)<|qae (qbe Z Z Z Z Z (qii O O)) Z<|G2 ?_;refine qae (qai [(_,_),(_,_),(_,_),(_,_)] [_,_,_,_] Z Z Z Z Z Z) Z<|qbd [(_,_)] [_,_,_,_] Z Z Z Z Z Z Z Z Z fun βn s1 h1 hcb=>qcT (sz:=4) [_] M L Z Z Z Z Z Z Z hO (Row.of_cells (hcb.le (Lr D)) Z Z) ⟨by simp [ti83];omega,by omega⟩ Z ?_;intro v2 M2 s2 h2 o2;obtain ⟨Av2,cv2,rfl,_,_⟩:=Own.slice o2;refine Wb Y5<|Wt 0 [_,_] Y9<|Zn ?_;refine qas [] _ (.inl Z) (.nil) Z (h1.t h2) fun _ hS2=>?_;exact ⟨_::M2,rfl,rfl,_,M2,rfl,o2⟩
def qni(A:Option Addr)(n c:Nat)(l:List Ac)(hA:Acs s A n c l)(β:Nat)(Ap:Option Addr)(np cp:Nat)(lp:List Ac)(hP:Acs s Ap np cp lp)(hn:n+np≤1000):AC prog D 28 [.slice A n c,.pointer (some ⟨β,0,none⟩)] ((β,cb [.slice Ap np cp] 82)::L) s fun v L' s'=>∃ M',L'=M'++((β,cb [.slice Ap np cp] 82)::L)∧∀ s2,Le D s' s2→Pub M' s2→∃ A2 n2 c2,v=.slice A2 n2 c2∧Acs s2 A2 n2 c2 (lp++l):=by
 refine qad (fn:=f28) qao func28 V Z ntmps28 Z (rs:=[.tmp 3]) Z [(0,_),(1,_)] Z<|G7 ?_;refine qnL (sz:=6) Z Z Z Z fun βo s1 h1 oo=>Wl 1 Y6<|qcT [] [_] _ Z Z Z Z Z Z Z oo (hP.row.le h1) ⟨by simp [ti87];omega,by omega⟩ Z fun v1 A1 s2 h2 o1=>Zqm Z Z<|qcT [] A1 _ Z Z Z Z Z Z Z o1 (hA.row.le (h1.t h2)) ⟨by simp [ti87];omega,by omega⟩ Z fun v2 A2x s3 h3 o2=>G4 ?_;refine rR [] _ (.t1 Z) Z (h1.t h2|>.t h3) fun _ hS2=>?_;simp only [List.nil_append,Nat.zero_add,← qw3] at o2;obtain ⟨Av2,cv2,rfl,_,_⟩:=Own.slice o2;exact ⟨A2x,rfl,fun s2 hs2 hp=>⟨_,_,_,rfl,Own.acs o2 (fun a ha=>(List.mem_append.1 ha).elim (hP.u a) (hA.u a)) hp (by have:=hA.1;have:=hP.1;simp;omega)⟩⟩
def qpV(A:Option Addr)(n c:Nat)(l:List Ac)(hA:Acs s A n c l)(β:Nat)(Ap:Option Addr)(np cp:Nat)(lp:List Ac)(hP:Acs s Ap np cp lp)(hn:n+np≤1000):AC prog D 28 [.slice A n c,.pointer (some ⟨β,0,none⟩)] ((β,cb [.slice Ap np cp] 82)::L) s fun v L' s'=>(β,cb [.slice Ap np cp] 82)::L=L'∧∃ A2 n2 c2,v=.slice A2 n2 c2∧Acs s' A2 n2 c2 (lp++l):=AC.pubW (qni D L s A n c l hA β Ap np cp lp hP hn)
def qnj(A:Option Addr)(n c:Nat)(l:List Ac)(hA:Acs s A n c l)(β:Nat)(Ap:Option Addr)(np cp:Nat)(lp:List Ac)(hP:Acs s Ap np cp lp)(hn:n+np≤1000):AC prog D 28 [.slice A n c,.pointer (some ⟨β,0,none⟩)] ([(β,cb [.slice Ap np cp] 82)]++L) s fun v L' s'=>∃ M',L'=M'++L∧M'=[(β,cb [.slice Ap np cp] 82)]∧∃ A2 n2 c2,v=.slice A2 n2 c2∧Acs s' A2 n2 c2 (lp++l):=
 (qpV D L s A n c l hA β Ap np cp lp hP hn).mono fun v L' s' _ h=>⟨_,h.1.symm,rfl,h.2⟩
def qlc{D:Nat}{s s':World}{l:List Ins}{m:List (List Value)}(h:All2 (fun x cs=>cs.length=4∧InsR s x cs) l m)(hl:Le D s s'):All2 (fun x cs=>cs.length=4∧InsR s' x cs) l m:=h.mono fun a b h=>⟨h.1,h.2.le hl⟩
def qDb:List Ac:=[⟨2,2,⟨1,2⟩,⟨0,1⟩⟩,⟨13,1,⟨1,2⟩,⟨0,0⟩⟩]
def defT:Tab:=⟨65536,[
 ⟨[115,116,111,112],1,false,[⟨17,0,⟨1,0⟩,⟨0,0⟩⟩]⟩,
 ⟨[110,117,109],2,true,[⟨0,0,⟨2,0⟩,⟨0,0⟩⟩]⟩,
 ⟨[108,111,97,100],3,true,[⟨13,0,⟨2,0⟩,⟨0,0⟩⟩]⟩,
 ⟨[115,116,111,114,101],4,true,[⟨14,0,⟨2,0⟩,⟨1,0⟩⟩]⟩,
 ⟨[108,111,99,97,108],5,true,[⟨2,1,⟨1,2⟩,⟨2,0⟩⟩,⟨13,0,⟨1,1⟩,⟨0,0⟩⟩]⟩,
 ⟨[97,115,115,105,103,110],6,true,[⟨2,1,⟨1,2⟩,⟨2,0⟩⟩,⟨14,0,⟨1,1⟩,⟨1,0⟩⟩]⟩,
 ⟨[102,101,116,99,104],7,true,[⟨1,1,⟨1,0⟩,⟨2,0⟩⟩,⟨13,0,⟨1,1⟩,⟨0,0⟩⟩]⟩,
 ⟨[112,117,116,97,116],8,true,[⟨2,2,⟨1,2⟩,⟨0,1⟩⟩,⟨13,1,⟨1,2⟩,⟨0,0⟩⟩,⟨1,1,⟨1,1⟩,⟨2,0⟩⟩,⟨14,0,⟨1,1⟩,⟨1,0⟩⟩]⟩,
 ⟨[112,117,115,104],9,false,[⟨14,0,⟨1,2⟩,⟨1,0⟩⟩,⟨1,2,⟨1,2⟩,⟨0,1⟩⟩]⟩,
 ⟨[100,114,111,112],10,true,[⟨2,2,⟨1,2⟩,⟨2,0⟩⟩]⟩,
 ⟨[97,100,100],11,false,[⟨2,2,⟨1,2⟩,⟨0,1⟩⟩,⟨13,1,⟨1,2⟩,⟨0,0⟩⟩,⟨1,0,⟨1,1⟩,⟨1,0⟩⟩]⟩,
 ⟨[115,117,98],12,false,[⟨2,2,⟨1,2⟩,⟨0,1⟩⟩,⟨13,1,⟨1,2⟩,⟨0,0⟩⟩,⟨2,0,⟨1,1⟩,⟨1,0⟩⟩]⟩,
 ⟨[109,117,108],13,false,[⟨2,2,⟨1,2⟩,⟨0,1⟩⟩,⟨13,1,⟨1,2⟩,⟨0,0⟩⟩,⟨3,0,⟨1,1⟩,⟨1,0⟩⟩]⟩,
 ⟨[100,105,118],14,false,[⟨2,2,⟨1,2⟩,⟨0,1⟩⟩,⟨13,1,⟨1,2⟩,⟨0,0⟩⟩,⟨18,0,⟨0,2⟩,⟨1,0⟩⟩,⟨4,0,⟨1,1⟩,⟨1,0⟩⟩]⟩,
 ⟨[109,111,100],15,false,[⟨2,2,⟨1,2⟩,⟨0,1⟩⟩,⟨13,1,⟨1,2⟩,⟨0,0⟩⟩,⟨18,0,⟨0,2⟩,⟨1,0⟩⟩,⟨5,0,⟨1,1⟩,⟨1,0⟩⟩]⟩,
 ⟨[97,110,100],16,false,[⟨2,2,⟨1,2⟩,⟨0,1⟩⟩,⟨13,1,⟨1,2⟩,⟨0,0⟩⟩,⟨6,0,⟨1,1⟩,⟨1,0⟩⟩]⟩,
 ⟨[111,114],17,false,[⟨2,2,⟨1,2⟩,⟨0,1⟩⟩,⟨13,1,⟨1,2⟩,⟨0,0⟩⟩,⟨7,0,⟨1,1⟩,⟨1,0⟩⟩]⟩,
 ⟨[120,111,114],18,false,[⟨2,2,⟨1,2⟩,⟨0,1⟩⟩,⟨13,1,⟨1,2⟩,⟨0,0⟩⟩,⟨8,0,⟨1,1⟩,⟨1,0⟩⟩]⟩,
 ⟨[108,101,102,116],19,false,[⟨2,2,⟨1,2⟩,⟨0,1⟩⟩,⟨13,1,⟨1,2⟩,⟨0,0⟩⟩,⟨9,0,⟨1,1⟩,⟨1,0⟩⟩]⟩,
 ⟨[114,105,103,104,116],20,false,[⟨2,2,⟨1,2⟩,⟨0,1⟩⟩,⟨13,1,⟨1,2⟩,⟨0,0⟩⟩,⟨10,0,⟨1,1⟩,⟨1,0⟩⟩]⟩,
 ⟨[101,113],21,false,[⟨2,2,⟨1,2⟩,⟨0,1⟩⟩,⟨13,1,⟨1,2⟩,⟨0,0⟩⟩,⟨11,0,⟨1,1⟩,⟨1,0⟩⟩]⟩,
 ⟨[108,101,115,115],22,false,[⟨2,2,⟨1,2⟩,⟨0,1⟩⟩,⟨13,1,⟨1,2⟩,⟨0,0⟩⟩,⟨12,0,⟨1,1⟩,⟨1,0⟩⟩]⟩,
 ⟨[109,111,114,101],23,false,[⟨2,2,⟨1,2⟩,⟨0,1⟩⟩,⟨13,1,⟨1,2⟩,⟨0,0⟩⟩,⟨12,0,⟨1,0⟩,⟨1,1⟩⟩]⟩,
 ⟨[122,101,114,111],24,false,[⟨11,0,⟨1,0⟩,⟨0,0⟩⟩]⟩,
 ⟨[98,111,117,110,100],25,true,[⟨12,1,⟨1,0⟩,⟨2,0⟩⟩,⟨18,0,⟨0,1⟩,⟨1,1⟩⟩]⟩,
 ⟨[106,117,109,112],26,true,[⟨0,4,⟨2,0⟩,⟨0,0⟩⟩]⟩,
 ⟨[106,122,101,114,111],27,true,[⟨19,4,⟨2,0⟩,⟨1,0⟩⟩]⟩,
 ⟨[99,97,108,108],28,true,[⟨1,3,⟨1,3⟩,⟨0,1⟩⟩,⟨12,1,⟨1,3⟩,⟨0,101⟩⟩,⟨18,0,⟨0,3⟩,⟨1,1⟩⟩,⟨14,0,⟨1,2⟩,⟨1,4⟩⟩,⟨1,2,⟨1,2⟩,⟨0,1⟩⟩,⟨0,4,⟨2,0⟩,⟨0,0⟩⟩]⟩,
 ⟨[114,101,116],29,true,[⟨2,2,⟨1,2⟩,⟨2,0⟩⟩,⟨13,4,⟨1,2⟩,⟨0,0⟩⟩,⟨2,3,⟨1,3⟩,⟨0,1⟩⟩]⟩,
 ⟨[103,101,116],30,false,[⟨15,0,⟨0,0⟩,⟨0,0⟩⟩]⟩,
 ⟨[112,117,116],31,false,[⟨16,0,⟨1,0⟩,⟨0,0⟩⟩]⟩,
 ⟨[115,116,97,99,107],32,true,[⟨0,2,⟨2,0⟩,⟨0,0⟩⟩]⟩]⟩
end Go.Proofs.YtlfiplbamnpgoaaGreatDoor
namespace Go.Proofs.YtlfiplbamnpgoaaGreatDoor
open Go Go.FL
variable{c:UInt8}{l:List UInt8}{i j lp:Nat}{n a nm:Str}{w:List Int}{x:Fnc}{p:Prg}{ls:List Str}
abbrev qeE:Str:=[110,117,109]
abbrev qcq:Str:=[112,117,115,104]
abbrev qgi:Str:=[98,111,117,110,100]
abbrev qmG:Str:=[102,101,116,99,104]
abbrev qEd:Str:=[103,101,116]
abbrev qcv:Str:=[122,101,114,111]
abbrev qAj:Str:=[115,117,98]
abbrev qb9:Str:=[106,122,101,114,111]
abbrev qep:Str:=[106,117,109,112]
abbrev qqF:Str:=[115,116,111,114,101]
abbrev qi3:Str:=[97,115,115,105,103,110]
abbrev qmI:Str:=[112,117,116,97,116]
abbrev qv1:Str:=[114,101,116]
abbrev qEe:Str:=[112,117,116]
abbrev qhu:Str:=[115,116,111,112]
abbrev qAh:Str:=[100,114,111,112]
abbrev qgp:Str:=[99,97,108,108]
abbrev qht:Str:=[115,116,97,99,107]
abbrev qmH:Str:=[108,111,99,97,108]
abbrev qAi:Str:=[108,111,97,100]
abbrev qca:Str:=[119,111,114,100]
abbrev qbU:Str:=[115,112,97,99,101]
abbrev qkE:Str:=[101,110,100]
abbrev wMul:Str:=[109,117,108]
abbrev wDiv:Str:=[100,105,118]
abbrev wMod:Str:=[109,111,100]
abbrev qDR:Str:=[108,101,102,116]
abbrev qv2:Str:=[114,105,103,104,116]
abbrev wAnd:Str:=[97,110,100]
abbrev wAdd:Str:=[97,100,100]
abbrev wOr:Str:=[111,114]
abbrev wXor:Str:=[120,111,114]
abbrev wEq:Str:=[101,113]
abbrev quU:Str:=[108,101,115,115]
abbrev quV:Str:=[109,111,114,101]
inductive Li where
 | op (n:Str)
 | ref (n a:Str)
 | num (n:Str) (v:Int)
 | lab (a:Str)
def liI:Li→Str
 | .op n=>32::n
 | .ref n a=>32::(n++32::a)
 | .num n v=>32::(n++32::qd9 v)
 | .lab a=>a++[58]
def liT(y:Li):Str:=liI y++[10]
def cT(l:List Li):Str:=(l.map liT).flatten
def qaE(a b:List Li):cT (a++b)=cT a++cT b:=by simp [cT]
def qag(y:Li)(l:List Li):cT (y::l)=liT y++cT l:=rfl
def qal:cT []=[]:=rfl
def lT(k:Nat):Str:=108::qd9 k
def gT(i:Int):Str:=103::qd9 i
def fT(i:Int):Str:=102::qd9 i
def gE(p:Prg):List (Str×(Int×Int)):=p.globals.mapIdx fun i g=>(g.name,((3:Int),(i:Int)))
def fE(p:Prg):List (Str×(Int×Int)):=p.funcs.mapIdx fun i x=>(x.name,((4:Int),(i:Int)))
def sE(x:Fnc):List (Str×(Int×Int)):=(x.locals.mapIdx fun i w=>(w,((2:Int),((x.params.length+1+i:Nat):Int))))++(x.params.mapIdx fun i w=>(w,((1:Int),(i:Int))))
def fdI(T:List (Str×(Int×Int)))(nm:Str):Option Int:=(T.find? fun e=>decide (e.1=nm)).map fun e=>e.2.2
def gi(p:Prg)(nm:Str):Int:=(fdI (gE p) nm).getD 0
def fi(p:Prg)(nm:Str):Int:=(fdI (fE p) nm).getD 0
def gnI(p:Prg)(i:Int):Int:=match p.globals[i.toNat]? with
 | some g=>g.num
 | none=>0
def szF(x:Fnc):Nat:=x.params.length+1+x.locals.length
def cN(p:Prg)(x:Fnc)(nm:Str)(w:Nat):Li:=match fdI (sE x) nm with
 | some a=>.num qmH ((szF x:Int)+(w:Int) - a)
 | none=>if qqO p (gi p nm)=1 then .num qeE (gnI p (gi p nm)) else .ref qAi (gT (gi p nm))
def asL(p:Prg)(x:Fnc)(nm:Str):Li:=match fdI (sE x) nm with
 | some a=>.num qi3 ((szF x:Int) - a)
 | none=>.ref qqF (gT (gi p nm))
def cL(p:Prg)(nm:Str)(n:Nat):List Li:=.ref qgp (fT (fi p nm))::(if 0 < n then [.num qAh n] else [])
def opL:List (List Str):=[[],[],[],[],[wMul],[wDiv],[wMod],[qDR],[qv2],[wAnd],[wAdd],[qAj],[wOr],[wXor],[wEq],[wEq,qcv],[quU],[quV,qcv],[quV],[quU,qcv]]
def opN(o:Int):List Str:=opL.getD o.toNat []
mutual
def cE(p:Prg)(x:Fnc):Ex→Nat→Nat→List Li×Nat
 | .mk kd o n nm az,w,k=>if kd=1 then ([.num qeE n],k) else if kd=2 then ([cN p x nm w],k)
  else if kd=3 then ((cH p x az w k).1++[.num qgi (gnI p (gi p nm)),.ref qmG (gT (gi p nm))],(cH p x az w k).2)
  else if kd=4 then ((cC p x az w k).1++cL p nm az.length,(cC p x az w k).2)
  else if kd=5 then ([.op qEd],k)
  else if kd=6 then (if o=1 then ((cH p x az w k).1++[.op qcv],(cH p x az w k).2)
   else (.num qeE (if o=3 then 4294967295 else 0)::.op qcq::(cH p x az (w+1) k).1++[.op qAj],(cH p x az (w+1) k).2))
  else if o=20 then ((cH p x az w k).1++.ref qb9 (lT ((cH p x az w k).2+1))::(cI p x az w ((cH p x az w k).2+1)).1++[.op qcv,.op qcv,.lab (lT ((cH p x az w k).2+1))],(cI p x az w ((cH p x az w k).2+1)).2)
  else if o=21 then ((cH p x az w k).1++.op qcv::.ref qb9 (lT ((cH p x az w k).2+1))::(cI p x az w ((cH p x az w k).2+1)).1++[.op qcv,.lab (lT ((cH p x az w k).2+1)),.op qcv],(cI p x az w ((cH p x az w k).2+1)).2)
  else ((cH p x az w k).1++.op qcq::(cI p x az (w+1) (cH p x az w k).2).1++(opN o).map .op,(cI p x az (w+1) (cH p x az w k).2).2)
def cH(p:Prg)(x:Fnc):List Ex→Nat→Nat→List Li×Nat
 | [],_,k=>([],k)
 | y::_,w,k=>cE p x y w k
def cI(p:Prg)(x:Fnc):List Ex→Nat→Nat→List Li×Nat
 | [],_,k=>([],k)
 | _::r,w,k=>cH p x r w k
def cC(p:Prg)(x:Fnc):List Ex→Nat→Nat→List Li×Nat
 | [],_,k=>([],k)
 | y::r,w,k=>((cE p x y w k).1++.op qcq::(cC p x r (w+1) (cE p x y w k).2).1,(cC p x r (w+1) (cE p x y w k).2).2)
end
mutual
def cS(p:Prg)(x:Fnc):Stm→Nat→List Str→List Li×Nat
 | .mk kd nm es b e,k,ls=>if kd=1 then ((cH p x es 0 k).1++[asL p x nm],(cH p x es 0 k).2)
  else if kd=2 then ((cH p x es 0 k).1++.num qgi (gnI p (gi p nm))::.op qcq::(cI p x es 1 (cH p x es 0 k).2).1++[.ref qmI (gT (gi p nm))],(cI p x es 1 (cH p x es 0 k).2).2)
  else if kd=3 then (if e.length=0 then ((cH p x es 0 (k+1)).1++.ref qb9 (lT (k+1))::(cB p x b (cH p x es 0 (k+1)).2 ls).1++[.lab (lT (k+1))],(cB p x b (cH p x es 0 (k+1)).2 ls).2)
   else ((cH p x es 0 (k+1)).1++.ref qb9 (lT (k+1))::(cB p x b (cH p x es 0 (k+1)).2 ls).1++.ref qep (lT ((cB p x b (cH p x es 0 (k+1)).2 ls).2+1))::.lab (lT (k+1))::(cB p x e ((cB p x b (cH p x es 0 (k+1)).2 ls).2+1) ls).1++[.lab (lT ((cB p x b (cH p x es 0 (k+1)).2 ls).2+1))],(cB p x e ((cB p x b (cH p x es 0 (k+1)).2 ls).2+1) ls).2))
  else if kd=4 then (.lab (lT (k+1))::(cH p x es 0 (k+2)).1++.ref qb9 (lT (k+2))::(cB p x b (cH p x es 0 (k+2)).2 (ls++[lT (k+1),lT (k+2)])).1++[.ref qep (lT (k+1)),.lab (lT (k+2))],(cB p x b (cH p x es 0 (k+2)).2 (ls++[lT (k+1),lT (k+2)])).2)
  else if kd=5 then ((cC p x es 0 k).1++cL p nm es.length,(cC p x es 0 k).2)
  else if kd=6 then ((cH p x es 0 k).1++[.num qv1 (x.locals.length+1:Nat)],(cH p x es 0 k).2)
  else if kd=7 then ((cH p x es 0 k).1++[.op qEe],(cH p x es 0 k).2)
  else if kd=8 then ((cH p x es 0 k).1++[.op qhu],(cH p x es 0 k).2)
  else if kd=9 then ([.ref qep (ls.getD (ls.length - 1) [])],k) else ([.ref qep (ls.getD (ls.length - 2) [])],k)
def cB(p:Prg)(x:Fnc):List Stm→Nat→List Str→List Li×Nat
 | [],k,_=>([],k)
 | y::r,k,ls=>((cS p x y k ls).1++(cB p x r (cS p x y k ls).2 ls).1,(cB p x r (cS p x y k ls).2 ls).2)
end
def cF(p:Prg)(x:Fnc)(i k:Nat):List Li×Nat:=(.lab (fT i)::(if 0 < x.locals.length then [.num qeE 0] else [])++List.replicate x.locals.length (.op qcq)++(cB p x x.body k []).1++[.num qeE 0,.num qv1 (x.locals.length+1:Nat)],(cB p x x.body k []).2)
def cFs(p:Prg):List Fnc→Nat→Nat→List Li×Nat
 | [],_,k=>([],k)
 | x::r,i,k=>((cF p x i k).1++(cFs p r (i+1) (cF p x i k).2).1,(cFs p r (i+1) (cF p x i k).2).2)
def cG(g:Glo)(i:Nat):List Li:=if g.kind=1 then [] else .lab (gT i)::g.init.map (.num qca ·)++[.num qbU (max g.num 1 - (g.init.length:Int))]
def cGs:List Glo→Nat→List Li
 | [],_=>[]
 | g::r,i=>cG g i++cGs r (i+1)
def cP(p:Prg):List Li:=[.ref qht qkE,.ref qgp (fT (fi p qbI)),.num qeE 0,.op qhu]++(cFs p p.funcs 0 0).1++cGs p.globals 0++[.lab qkE]
def glN(g:Glo):Int:=if g.kind=2 then 1 else if g.kind=3 then g.num else 0
def qfX:List Glo→Int
 | []=>0
 | g::r=>glN g+qfX r
def qei(p:Prg):Int:=100+qfX p.globals+60 * p.funcs.length+30 * qiC p.funcs
open Go Go.FL Go.RowKit
def qxZ(h:c ∉ l):fnd c l=none:=by
 induction l with
 | nil=>rfl
 | cons x l ih=>
  simp only [List.mem_cons,not_or] at h;have hx:¬ x=c:=fun e=>h.1 e.symm;simp [fnd,hx,ih h.2]
def qgX(h:c ∉ l):qew c l=(l,[],false):=by unfold qew;rw [qxZ h]
def qhn{m:List UInt8}(h:c ∉ m)(cur r:List UInt8):qcn (c.toNat:Int) cur (m++c::r)=(cur++m)::splitB (c.toNat:Int) r:=by
 induction m generalizing cur with
 | nil=>simp [qcn,splitB]
 | cons x m ih=>
  simp only [List.mem_cons,not_or] at h;have hx:¬ (x.toNat:Int)=(c.toNat:Int):=fun e=>h.1 (u8_eq.2 e).symm;rw [List.cons_append,qcn,if_neg hx,ih h.2,List.append_assoc];rfl
def okL(c:UInt8):Bool:=qiH c || qhF c
def qyt:∀ k:Fin 256,okL (UInt8.ofNat k.val)=true→UInt8.ofNat k.val≠10∧UInt8.ofNat k.val≠32∧UInt8.ofNat k.val≠43∧UInt8.ofNat k.val≠58∧UInt8.ofNat k.val≠59:=by decide +kernel
def qhc(h:okL c=true):c≠10∧c≠32∧c≠43∧c≠58∧c≠59:=by
 have h1:=qyt ⟨c.toNat,c.toNat_lt⟩;simp only [UInt8.ofNat_toNat] at h1;exact h1 h
abbrev qqP(w:Str):Prop:=w≠[]∧∀ c∈w,okL c=true
def qCh(h:qa1 i l=true):∀ c∈l,okL c=true:=by
  induction l generalizing i with
  | nil=>intro c hc;cases hc
  | cons x l ih=>
    simp only [qa1,Bool.and_eq_true] at h;intro c hc;rcases List.mem_cons.1 hc with rfl|hc
    · have h1:=h.1
      simp only [qhT,Bool.or_eq_true,Bool.and_eq_true] at h1;simp only [okL,Bool.or_eq_true];exact h1.imp id (·.1)
    · exact ih h.2 c hc
def qdw{l:Str}(h:qa6 l=true):qqP l:=by
 simp only [qa6,Bool.and_eq_true,decide_eq_true_eq] at h;exact ⟨h.1.1,qCh h.2⟩
def decW(v:Int):qqP (qd9 v):=⟨qlR _,fun c hc=>by simp [okL,List.all_eq_true.1 (qgY v.toNat) c hc]⟩
def qcr{w:Str}(h:qqP w):(10:UInt8) ∉ w∧(43:UInt8) ∉ w∧(58:UInt8) ∉ w∧(59:UInt8) ∉ w:=
 ⟨fun m=>(qhc (h.2 _ m)).1 rfl,fun m=>(qhc (h.2 _ m)).2.2.1 rfl,fun m=>(qhc (h.2 _ m)).2.2.2.1 rfl,fun m=>(qhc (h.2 _ m)).2.2.2.2 rfl⟩
def qoX{m:Str}(h:qqP m):qgl [] m=[m]:=by
 have h1:=qgw [] m [] fun x hx=>(qhc (h.2 x hx)).2.1;rw [List.append_nil,List.nil_append] at h1;rw [h1,qgl,if_neg h.1]
def qCx(h:qqP n):qi8 (32::n)=[n]:=by
 unfold qi8 splitB;rw [qex,qgl,if_pos rfl,if_pos rfl,qoX h]
def qxX(h:qqP n)(ha:qqP a):qi8 (32::(n++32::a))=[n,a]:=by
 unfold qi8 splitB;rw [qex,qgl,if_pos rfl,if_pos rfl,qgw [] n _ fun x hx=>(qhc (h.2 x hx)).2.1,List.nil_append,qgl,if_pos rfl,if_neg h.1,qoX ha]
def qxV(h:qqP a):qi8 (a++[58])=[a++[58]]:=by
 unfold qi8 splitB;rw [qex];have h1:=qgw [] (a++[58]) [] fun x hx=>by
  rcases List.mem_append.1 hx with h2|h2
  · exact (qhc (h.2 x h2)).2.1
  · rw [List.mem_singleton.1 h2];decide
 rw [List.append_nil,List.nil_append] at h1;rw [h1,qgl,if_neg (by simp)]
def qlT(h:qqP n):qjJ 58 n=false:=by
 rw [qjJ,decide_eq_false_iff_not];exact fun e=>(qcr h).2.2.1 (List.mem_of_getLast? e)
def qCn(v:Int):qa6 (qd9 v)=false:=by
 cases hd:qd9 v with
 | nil=>rfl
 | cons x l=>
  have h1:=List.all_eq_true.1 (qgY v.toNat) x (by show x∈qd9 v;rw [hd];exact List.mem_cons_self ..);simp only [qhF,Bool.and_eq_true,decide_eq_true_eq] at h1;have h2:qiH x=false:=by rw [Bool.eq_false_iff];simp only [qiH,ne_eq,Bool.and_eq_true,decide_eq_true_eq];omega
  simp [qa6,qa1,qhT,h2]
def ok0(n:Str):Bool:=qa6 n && (qcH defT.ins n).isSome && !qAx defT n && !qft n
def ok1(n:Str):Bool:=qa6 n && (qcH defT.ins n).isSome && qAx defT n && !qft n
def qh6:Li→Prop
 | .op n=>ok0 n=true
 | .ref n a=>ok1 n=true∧qa6 a=true
 | .num n v=>(ok1 n=true∨n=qca∨n=qbU)∧U32 v
 | .lab a=>qa6 a=true
def qd3:Li→Ln
 | .op n=>⟨[],n,false,[],0⟩
 | .ref n a=>⟨[],n,true,a,0⟩
 | .num n v=>⟨[],n,true,[],v⟩
 | .lab a=>⟨a,[],false,[],0⟩
def liW:Li→Nat
 | .op _=>1
 | .ref _ _=>2
 | .num n v=>if n=qca then 1 else if n=qbU then v.toNat else 2
 | .lab _=>0
def cW(l:List Li):Nat:=(l.map liW).sum
def qaY(l:List Li):List Str:=l.filterMap fun|.lab a=>some a|_=>none
def qbL(l:List Li):List Str:=l.filterMap fun|.ref _ a=>some a|_=>none
def qfu(h:ok1 n=true∨n=qca∨n=qbU):qa6 n=true:=by
 rcases h with h|rfl|rfl
 · simp only [ok1,Bool.and_eq_true] at h;exact h.1.1.1
 · decide
 · decide
def qma{x:Str×Int}(h:qa6 n=true)(ha:qqP a)(hx:qlj a=some x):qcz (32::(n++32::a))=some ⟨[],n,true,x.1,x.2⟩∧(10:UInt8) ∉ 32::(n++32::a):=by
 have hn:=qdw h;have hc:qew 59 (32::(n++32::a))=(32::(n++32::a),[],false):=qgX (by simp [qcr hn,qcr ha]);refine ⟨?_,by simp [qcr hn,qcr ha]⟩;rw [qez (W:=[n,a]) (lab:=[]) (R:=[n,a]) (by rw [hc];exact qxX hn ha) (by rw [qsf,if_neg (by rw [qlT hn];decide)]),qjy h,hx];rfl
def qpm{y:Li}(h:qh6 y):qcz (liI y)=some (qd3 y)∧(10:UInt8) ∉ liI y:=by
 cases y with
 | op n=>
  have h1:qa6 n=true:=by simp only [qh6,ok0,Bool.and_eq_true] at h;exact h.1.1.1
  have hn:=qdw h1;have hc:qew 59 (32::n)=(32::n,[],false):=qgX (by simp [qcr hn]);refine ⟨?_,by simp [liI,qcr hn]⟩;rw [liI,qez (W:=[n]) (lab:=[]) (R:=[n]) (by rw [hc];exact qCx hn) (by rw [qsf,if_neg (by rw [qlT hn];decide)]),qjx h1];rfl
 | ref n a=>exact qma (x:=(a,0)) (qfu (.inl h.1)) (qdw h.2) (by rw [qlj,qgX (qcr (qdw h.2)).2.1,if_pos h.2];rfl)
 | num n v=>
  obtain ⟨h1,hv⟩:=h;obtain ⟨u,rfl⟩:=Int.eq_ofNat_of_zero_le hv.1;have:=hv.2;exact qma (x:=([],(u:Int))) (qfu h1) (decW _) (by rw [qlj,qgX (qcr (decW _)).2.1,if_neg (by rw [qCn];decide)];show (qj6 (Lib.decDigits u)).map _=_;rw [qmi O];rfl)
 | lab a=>
  have hn:=qdw h;have hc:qew 59 (a++[58])=(a++[58],[],false):=qgX (by simp [qcr hn]);refine ⟨?_,by simp [liI,qcr hn]⟩;rw [liI,qez (W:=[a++[58]]) (lab:=a) (R:=[]) (by rw [hc];exact qxV hn) (by rw [qsf,if_pos (by simp [qjJ]),List.dropLast_concat];exact if_pos h)];rfl
def Ez64{p:Prop} (h:p:=by
 simp only [ok1,Bool.and_eq_true,Bool.not_eq_true'] at h;exact ⟨(qdw h.1.1.1).1,fun e=>by rw [e] at h;exact absurd h.2 Dc,fun e=>by rw [e] at h;exact absurd h.2 Dc,h.2⟩):p:=h
def qip{y:Li}(h:qh6 y):(qeM defT w (qd3 y)).length=w.length+liW y:=by
  have hs:∀ n,ok1 n=true→n≠[]∧n≠qca∧n≠qbU∧qft n=false:=fun n h=>by
    exact Ez64
  cases y with
  | op n=>
    simp only [qh6,ok0,Bool.and_eq_true,Bool.not_eq_true'] at h;have h1:=(qdw h.1.1.1).1;have h2:n≠qbO:=fun e=>by rw [e] at h;exact absurd h.2 Dc
    simp [qeM,qd3,qb7,h1,h2,h.2,liW]
  | ref n a => 
    obtain ⟨h1,h2,h3,h4⟩:=hs n h.1;simp [qeM,qd3,qb7,h1,show n≠qbO from h3,h4,liW]
  | num n v=>
    obtain ⟨h0|rfl|rfl,hv⟩:=h
    · obtain ⟨h1,h2,h3,h4⟩:=hs n h0
      simp [qeM,qd3,qb7,h1,show n≠qbO from h3,h4,liW,h2,h3]
    · simp [qeM,qd3,qb7,liW,show ¬ qca=qbO by decide,show qft qca=true by decide]
    · simp [qeM,qd3,qb7,liW,show qbU=qbO from rfl,show ¬ qbO=qca by decide,show ¬ qbO=[] by decide]
  | lab a=>simp [qeM,qd3,liW]
def Ez60{p:Prop} (h:p:=by
 have h1:=(qdw h.1.1.1).1;have h2:n≠[115,112,97,99,101]:=fun e=>by rw [e] at h;exact absurd h.2 Dc
 simp only [qd3] at h14 ⊢;simp [qd7,h1,h2,h.1.1.2,h.1.2,h.2,h14]):p:=h
def qji{l:List (Str×Int)}{y:Li}(h:qh6 y)(hf:∀ a,y=.lab a→qbo l a=none)(hw:w.length+liW y≤65536):qd7 defT w l (some (qd3 y))=0:=by
  have hl:=qip (w:=w) h;have h14:¬ defT.cells < ((qeM defT w (qd3 y)).length:Int):=by rw [hl];show ¬ (65536:Int) < _;omega
  cases y with
  | op n=>
    simp only [qh6,ok0,Bool.and_eq_true,Bool.not_eq_true'] at h;exact Ez60
  | ref n a=>
    have h:=h.1;simp only [ok1,Bool.and_eq_true,Bool.not_eq_true'] at h;exact Ez60
  | num n v=>
    obtain ⟨h0|rfl|rfl,hv⟩:=h
    · simp only [ok1,Bool.and_eq_true,Bool.not_eq_true'] at h0
      have h1:=(qdw h0.1.1.1).1;simp only [qd3] at h14 ⊢;simp [qd7,h1,h0.1.1.2,h0.1.2,h0.2,h14]
    all_goals
      simp only [qd3] at h14 ⊢;simp [qd7,show qft qca=true by decide,show qft qbU=true by decide,h14]
  | lab a=>
    have h1:=(qdw h).1;simp [qd7,qd3,h1,hf a rfl]
def qh3{l:List (Str×Int)}{y:Li}(h:qh6 y)(hf:∀ a,y=.lab a→qbo l a=none)(a:Str):(qbo (qkL w l (qd3 y)) a).isSome=((qbo l a).isSome || (qaY [y]).contains a):=by
 cases y with
 | lab b=>
  have h1:=(qdw h).1;simp only [qkL,qd3,h1,if_false];rw [qh4 _ _ _ _ (hf b rfl)];by_cases e:a=b<;>simp [qaY,e]
 | _=>simp [qkL,qd3,qaY]
def qoc(t:Tab)(i:Nat)(w:List Int)(l:List (Str×Int))(r:List (Int×Nat×Str×Int)):qi7 t i w l r (splitB 10 [])=.inr (w,l,r):=by
 show qi7 t i w l r [[]]=_;rw [qff (show qcz []=some ⟨[],[],false,[],0⟩ by decide) (by simp [qd7])];simp [qi7,qeM,qkL,qhM]
def qvi:∀ (L:List Li) (i:Nat) (w:List Int) (l:List (Str×Int)) (r:List (Int×Nat×Str×Int)),(∀ y∈L,qh6 y)→(qaY L).Nodup→(∀ a∈qaY L,qbo l a=none)→w.length+cW L≤65536 →
    ∃ w' l' r',qi7 defT i w l r (splitB 10 (cT L))=.inr (w',l',r')∧(∀ a,(qbo l a).isSome=true∨a∈qaY L→(qbo l' a).isSome=true)∧∀ x∈r',x∈r∨x.2.2.1∈qbL L
  | [],i,w,l,r,_,_,_,_=>⟨w,l,r,qoc ..,fun a h=>h.elim id fun h=>by (cases h),fun x h=>.inl h⟩
  | y::L,i,w,l,r,hk,hn,hf,hw=>by
    have hy:=hk y Mc;obtain ⟨h1,h2⟩:=qpm hy;have e1:qaY (y::L)=qaY [y]++qaY L:=by rw [qaY,qaY,qaY,← List.filterMap_append];rfl
    have e2:qbL (y::L)=qbL [y]++qbL L:=by rw [qbL,qbL,qbL,← List.filterMap_append];rfl
    rw [e1] at hn hf;rw [cW,List.map_cons,List.sum_cons] at hw;rw [List.nodup_append] at hn;have hf1:∀ a,y=.lab a→qbo l a=none:=fun a e=>hf a (by subst e;simp [qaY]);have hs:splitB 10 (cT (y::L))=liI y::splitB 10 (cT L):=by
      have:=qhn (c:=10) h2 [] (cT L);rw [qag,liT,List.append_assoc];exact this
    have hg:=qh3 (w:=w) hy hf1;obtain ⟨w',l',r',h3,h4,h5⟩:=qvi L (i+1) (qeM defT w (qd3 y)) (qkL w l (qd3 y)) (qhM defT w r i (qd3 y)) (fun z hz=>hk z (List.mem_cons_of_mem _ hz)) hn.2.1 (fun a ha=>by
      have:=hg a;rw [hf a (List.mem_append_right _ ha),show (qaY [y]).contains a=false by rw [← Bool.not_eq_true,List.contains_iff_mem];exact fun h=>hn.2.2 a h a ha rfl] at this;simpa using this) (by rw [qip hy,cW];omega)
    refine ⟨w',l',r',by rw [hs,qff h1 (qji hy hf1 O),h3],fun a ha=>h4 a ?_,fun x hx=>?_⟩
    · rw [hg a,e1,List.mem_append] at *
      rcases ha with ha|ha|ha
      · exact .inl (by rw [ha];rfl)
      · exact .inl (by rw [Bool.or_eq_true,List.contains_iff_mem];exact .inr ha)
      · exact .inr ha
    · rw [e2,List.mem_append]
      rcases h5 x hx with h6|h6
      · unfold qhM qdc at h6
        split at h6
        · exact .inl h6
        split at h6
        · exact .inl h6
        split at h6
        · rename_i h7
          rcases List.mem_append.1 h6 with h8|h8
          · exact .inl h8
          · right;left
            rw [List.mem_singleton.1 h8];cases y<;>simp_all [qd3,qbL]
        · exact .inl h6
      · exact .inr (.inr h6)
def qvS{l:List (Str×Int)}:∀ (r:List (Int×Nat×Str×Int)) (w:List Int),(∀ x∈r,(qbo l x.2.2.1).isSome=true)→∃ w',qj9 l r w=.inr w'
 | [],w,_=>⟨w,rfl⟩
 | x::r,w,h=>by
  obtain ⟨a,ha⟩:=Option.isSome_iff_exists.1 (h x Mc);rw [qj9,ha];exact qvS r _ fun y hy=>h y (List.mem_cons_of_mem _ hy)
def qoI:(qaG defT).1=0:=by decide +kernel
def qod{L:List Li}(hk:∀ y∈L,qh6 y)(hn:(qaY L).Nodup)(hr:∀ a∈qbL L,a∈qaY L)(hw:cW L≤65536)(hl:(cT L).length≤400000):∃ x,qgN defT (cT L)=.inr x:=by
 obtain ⟨w,l,r,h1,h2,h3⟩:=qvi L 0 [] [] [] hk hn (fun _ _=>rfl) (by simpa using hw);obtain ⟨w',h4⟩:=qvS r w fun x hx=>h2 _ (.inr (hr _ ((h3 x hx).resolve_left (by simp))));exact ⟨_,by rw [qgN,if_neg (by simpa using qoI),if_neg O,h1];simp only [h4];rfl⟩
def qoB{l:Str}(h:l.all qhF=true)(i:Nat):qa1 (i+1) l=true:=by
 induction l generalizing i with
 | nil=>rfl
 | cons c l ih=>
  simp only [List.all_cons,Bool.and_eq_true] at h;simp [qa1,qhT,h.1,ih h.2]
def qcm{k:Nat}(hc:qiH c=true)(h:k≤99999):qa6 (c::qd9 k)=true:=by
 have h1:(qd9 (k:Int)).length≤5:=by
  show (Lib.decDigits k).length≤5;rw [Lib.decDigits_length];exact qpu 4 k O
 have h2:=qoB (qgY k) 0;simp only [qa6,qa1,qhT,hc,Bool.true_or,Bool.true_and,Bool.and_eq_true,decide_eq_true_eq,List.length_cons];exact ⟨⟨by simp,by omega⟩,h2⟩
def qkW(h:qd9 (i:Int)=qd9 (j:Int)):i=j:=by
 have h:Lib.decDigits i=Lib.decDigits j:=h;rw [← qfP i,h,qfP]
def qvI(h:lT i=lT j):i=j:=qkW (List.cons.inj h).2
def qiy(p:Prg)(ls:List Str)(a:Str):Prop:=(∃ i:Nat,i < p.funcs.length∧a=fT i)∨(∃ (i:Nat) (g:Glo),p.globals[i]?=some g∧g.kind≠1∧a=gT i)∨a∈ls
def lS(S:Nat→Prop)(a:Str):Prop:=∃ i,S i∧a=lT i
structure CG(Vq9:Li→Prop)(E D:Str→Prop)(L:List Li):Prop where
 ok:∀ y∈L,qh6 y∧Vq9 y
 nd:(qaY L).Nodup
 mem:∀ a,a∈qaY L↔D a
 refs:∀ a∈qbL L,D a∨E a
def qhP(A B:List Li):cW (A++B)=cW A+cW B:=by simp [cW]
def ql9(A B:List Li):qaY (A++B)=qaY A++qaY B:=List.filterMap_append ..
def qsR(A B:List Li):qbL (A++B)=qbL A++qbL B:=List.filterMap_append ..
section
variable{Vq9:Li→Prop}{E D D1 D2 E' D':Str→Prop}{A B L:List Li}{S S1 S2:Nat→Prop}
def CG.app(h1:CG Vq9 E D1 A)(h2:CG Vq9 E D2 B)(hd:∀ a,D1 a→D2 a→False)(hD:∀ a,D a↔D1 a∨D2 a):CG Vq9 E D (A++B) where
 ok y hy:=(List.mem_append.1 hy).elim (h1.ok y) (h2.ok y)
 nd:=by
  rw [ql9,List.nodup_append];exact ⟨h1.nd,h2.nd,fun a ha b hb e=>hd a ((h1.mem a).1 ha) ((h2.mem a).1 (e▸hb))⟩
 mem a:=by rw [ql9,List.mem_append,h1.mem,h2.mem,hD]
 refs a ha:=by
  rw [qsR,List.mem_append] at ha;rw [hD];rcases ha with ha|ha
  · exact (h1.refs a ha).imp .inl id
  · exact (h2.refs a ha).imp .inr id
def CG.tgt(h:CG Vq9 E D L)(hD:∀ a,D' a↔D a)(hE:∀ a,E a→E' a∨D' a):CG Vq9 E' D' L:=
 ⟨h.ok,h.nd,fun a=>(h.mem a).trans (hD a).symm,fun a ha=>(h.refs a ha).elim (fun k=>.inl ((hD a).2 k)) fun k=>(hE a k).symm⟩
def CG.nil:CG Vq9 E (lS fun _=>False) []:=⟨fun _ h=>(by cases h),List.nodup_nil,fun a=>⟨fun h=>(by cases h),fun ⟨_,h,_⟩=>h.elim⟩,fun _ h=>by cases h⟩
def CG.appS(h1:CG Vq9 E (lS S1) A)(h2:CG Vq9 E (lS S2) B)(hd:∀ i,S1 i→S2 i→False)(hS:∀ i,S i↔S1 i∨S2 i):CG Vq9 E (lS S) (A++B):=
 h1.app h2 (fun a ⟨i,h3,h4⟩ ⟨j,h5,h6⟩=>hd i h3 (qvI (h4.symm.trans h6)▸h5)) fun a=>⟨fun ⟨i,h3,h4⟩=>((hS i).1 h3).imp (fun k=>⟨i,k,h4⟩) fun k=>⟨i,k,h4⟩,fun h=>h.elim (fun ⟨i,h3,h4⟩=>⟨i,(hS i).2 (.inl h3),h4⟩) fun ⟨i,h3,h4⟩=>⟨i,(hS i).2 (.inr h3),h4⟩⟩
def CG.c0{y:Li}(h:CG Vq9 E D L)(hy:qh6 y∧Vq9 y)(hl:qaY [y]=[])(hr:∀ a∈qbL [y],E a):CG Vq9 E D (y::L):=
 CG.app (A:=[y]) (D1:=fun _=>False) ⟨fun z hz=>by rw [List.mem_singleton.1 hz];exact hy,by rw [hl];exact List.nodup_nil,fun a=>by rw [hl];simp,fun a ha=>.inr (hr a ha)⟩ h (fun _ h _=>h) fun a=>by simp
abbrev V2(y:Li):Prop:=liW y≤2
def CG.cop(h:CG V2 E D L)(hn:ok0 n=true):CG V2 E D (.op n::L):=h.c0 ⟨hn,(by decide:1≤2)⟩ rfl fun _ h=>by cases h
def CG.cref(h:CG V2 E D L)(hn:ok1 n=true)(ha:qa6 a=true)(hE:E a):CG V2 E D (.ref n a::L):=h.c0 ⟨⟨hn,ha⟩,Nat.le_refl 2⟩ rfl fun b hb=>by rw [show b=a from List.mem_singleton.1 hb];exact hE
def CG.cnum{v:Int}(h:CG V2 E D L)(hn:ok1 n=true)(hv:U32 v):CG V2 E D (.num n v::L):=h.c0 ⟨⟨.inl hn,hv⟩,by
  show liW _≤2;rw [liW];split
  · omega
  · split
    · rename_i e;subst e;exact absurd hn Dc
    · omega⟩ rfl fun _ h=>by cases h
def CG.one(ha:qa6 a=true)(hV:Vq9 (.lab a)):CG Vq9 E (fun b=>b=a) [.lab a]:=⟨fun z hz=>by rw [List.mem_singleton.1 hz];exact ⟨ha,hV⟩,by simp [qaY],fun b=>by simp [qaY],fun _ h=>by cases h⟩
def CG.clab(h:CG V2 E (lS S) L)(hj:j≤99999)(hS:¬ S j):CG V2 E (lS fun i=>i=j∨S i) (.lab (lT j)::L):=
 CG.appS (A:=[.lab (lT j)]) (S1:=fun i=>i=j) ((CG.one (qcm Dc hj) (Nat.zero_le _)).tgt (fun a=>by simp [lS,lT]) fun _ h=>.inl h) h (fun i h1 h2=>hS (h1▸h2)) fun _=>Iff.rfl
def CG.ops:∀ {l:List Str},(∀ n∈l,ok0 n=true)→CG V2 E (lS fun _=>False) (l.map .op)
 | [],_=>CG.nil
 | n::l,h=>(CG.ops fun m hm=>h m (List.mem_cons_of_mem _ hm)).cop (h n Mc)
end
structure CK(p:Prg)(ls:List Str)(N M k:Nat)(r:List Li×Nat):Prop where
 lo:k≤r.2
 hi:r.2≤k+2 * N
 len:r.1.length≤M
 cg:CG V2 (qiy p ls) (lS fun i=>k < i∧i≤r.2) r.1
section
variable{p:Prg}{ls:List Str}{N M k:Nat}
def CK.leaf{L:List Li}(h:CG V2 (qiy p ls) (lS fun _=>False) L)(hL:L.length≤M):CK p ls N M k (L,k):=⟨Nat.le_refl _,Nat.le_add_right ..,hL,h.tgt (fun a=>⟨fun ⟨i,h,_⟩=>by omega,fun ⟨_,h,_⟩=>h.elim⟩) fun a h=>.inl h⟩
def CK.nil:CK p ls N M k ([],k):=CK.leaf CG.nil (Nat.zero_le _)
def CK.tail{r:List Li×Nat}{N' M':Nat}{L:List Li}(h:CK p ls N M k r)(h2:CG V2 (qiy p ls) (lS fun _=>False) L)(hN:N≤N')(hM:M+L.length≤M'):CK p ls N' M' k (r.1++L,r.2):=
 ⟨h.lo,by have:=h.hi;simp only;omega,by have:=h.len;simp only [List.length_append];omega,h.cg.appS h2 (fun _ _ k=>k) fun i=>by simp⟩
end
-- names
theorem qvw{T:List (Str×(Int×Int))}{a:Int}(h:fdI T nm=some a):∃ e∈T,e.1=nm∧a=e.2.2:=by grind [fdI,Option.map_eq_some_iff]
def fd_none{T:List (Str×(Int×Int))}:fdI T nm=none↔∀ e∈T,e.1≠nm:=by simp [fdI,Option.map_eq_none_iff]
def qiV{a:Int}(h:fdI (sE x) nm=some a):0≤a∧a < (szF x:Int):=by
 obtain ⟨e,h1,_,rfl⟩:=qvw h;unfold szF;rcases List.mem_append.1 h1 with h1|h1
 all_goals
  obtain ⟨i,hi,rfl⟩:=List.mem_mapIdx.1 h1;simp only;omega
def qy1(h:nm∈x.params∨nm∈x.locals):∃ a,fdI (sE x) nm=some a:=by
 cases hf:fdI (sE x) nm with
 | some a=>exact ⟨a,rfl⟩
 | none=>
  have h0:=fd_none.1 hf;rcases h with h|h
  all_goals
   obtain ⟨i,hi,rfl⟩:=List.mem_iff_getElem.1 h
  · exact absurd rfl (h0 _ (List.mem_append_right _ (List.mem_mapIdx.2 ⟨i,hi,rfl⟩)))
  · exact absurd rfl (h0 _ (List.mem_append_left _ (List.mem_mapIdx.2 ⟨i,hi,rfl⟩)))
def qrR(h:0 < p.funcs.length):∃ i:Nat,fi p nm=(i:Int)∧i < p.funcs.length:=by
 unfold fi;cases hf:fdI (fE p) nm with
 | none=>exact ⟨0,rfl,h⟩
 | some a=>
  obtain ⟨e,h1,_,rfl⟩:=qvw hf;obtain ⟨i,hi,rfl⟩:=List.mem_mapIdx.1 h1;exact ⟨i,rfl,hi⟩
def Ez89{p:Prop} (h:p:=by
 rw [hm] at h2;have hk:qqO p (i:Int)=p.globals[i].kind:=qe3 (List.getElem?_eq_getElem hi);simp only [Option.some_or,qfZ,hk] at h2;omega):p:=h
def qih{uk na:Int}(h:qeT p x (nm,uk,na)=0)(h0:uk≠0)(h4:uk≠4):((uk=1∨uk=2)∧∃ a,fdI (sE x) nm=some a)∨(fdI (sE x) nm=none∨uk=3)∧∃ (i:Nat) (g:Glo),gi p nm=(i:Int)∧p.globals[i]?=some g∧(uk=2∨g.kind≠1):=by
  unfold qeT at h;rw [if_neg h0] at h;split at h
  · cases h
  rename_i h1;split at h
  · cases h
  rename_i h2;have h2:=Classical.not_not.1 h2;simp only at h1 h2;by_cases hp:nm∈x.params∨nm∈x.locals
  · refine .inl ⟨?_,qy1 hp⟩
    have h3:(qbn p x nm).1.1=1∨(qbn p x nm).1.1=2:=by
      unfold qbn;split
      · exact .inl rfl
      · rename_i h5
        split
        · exact .inr rfl
        · rename_i h6
          rcases hp with hp|hp
          · exact absurd (idxOf_mem.2 hp) h5
          · exact absurd (idxOf_mem.2 hp) h6
    rcases h2 with h2|h2|h2
    · exact h2.2
    · omega
    · exact absurd h3 h2.1.1
  · have hs:fdI (sE x) nm=none:=fd_none.2 fun e he hn=>hp (by
      rcases List.mem_append.1 he with he|he;all_goals
        obtain ⟨i,hi,rfl⟩:=List.mem_mapIdx.1 he;subst hn
      · exact .inr (List.getElem_mem hi)
      · exact .inl (List.getElem_mem hi))
    refine .inr ⟨.inl hs,?_⟩;have hm:qbn p x nm=match (ents p).find? fun e=>decide (e.1=nm) with
      | some e=>(e.2,true)
      | none=>((0,0),false):=by
      rw [qbn,if_neg (fun k=>hp (.inl (idxOf_mem.1 k))),if_neg (fun k=>hp (.inr (idxOf_mem.1 k)))]<;>rfl
    rw [show ents p=gE p++fE p from rfl,List.find?_append] at hm;cases hg:(gE p).find? fun e=>decide (e.1=nm) with
    | some e=>
      rw [hg] at hm;obtain ⟨i,hi,rfl⟩:=List.mem_mapIdx.1 (List.mem_of_find?_eq_some hg);refine ⟨i,p.globals[i],by rw [gi,fdI,hg];rfl,List.getElem?_eq_getElem hi,?_⟩;exact Ez89
    | none=>
      rw [hg,Option.none_or] at hm;cases hf:(fE p).find? fun e=>decide (e.1=nm) with
      | none=>rw [hf] at hm;rw [hm] at h1;exact absurd rfl h1
      | some e=>
        rw [hf] at hm;obtain ⟨i,hi,rfl⟩:=List.mem_mapIdx.1 (List.mem_of_find?_eq_some hf);rw [hm] at h2;simp only [qfZ] at h2;omega
structure PQ(p:Prg)(x:Fnc):Prop where
 f0:0 < p.funcs.length
 f64:p.funcs.length≤64
 g64:p.globals.length≤64
 gu:∀ g∈p.globals,U32 g.num
 p6:x.params.length≤6
 l12:x.locals.length≤12
def PQ.g(h:PQ p x){g:Glo}(hg:p.globals[i]?=some g):qa6 (gT (i:Int))=true∧U32 (gnI p (i:Int)):=by
 obtain ⟨hi,rfl⟩:=List.getElem?_eq_some_iff.1 hg;have:=h.g64;exact ⟨qcm Dc O,by rw [gnI,Int.toNat_natCast,hg];exact h.gu _ (List.getElem_mem hi)⟩
def PQ.call(h:PQ p x)(nm:Str){n:Nat}(hn:n≤6):CG V2 (qiy p ls) (lS fun _=>False) (cL p nm n)∧(cL p nm n).length≤2:=by
  obtain ⟨i,h1,h2⟩:=qrR (nm:=nm) h.f0;have h3:=h.f64;rw [cL,h1];refine ⟨CG.cref ?_ Dc (qcm Dc O) (.inl ⟨i,h2,Z⟩),?_⟩
  · split
    · exact CG.nil.cnum Dc ⟨by omega,by omega⟩
    · exact CG.nil
  · split<;>simp
def hN:List Ex→Nat
 | []=>0
 | y::_=>exN y
def iN:List Ex→Nat
 | []=>0
 | _::r=>hN r
def qr8:∀ l:List Ex,hN l≤qcs l
 | []=>Nat.le_refl _
 | y::r=>by rw [hN,qcs];omega
def qk1:∀ y:Ex,0 < exN y
 | .mk ..=>by rw [exN];omega
def qr9:∀ l:List Ex,hN l+iN l≤qcs l
 | []=>Nat.le_refl _
 | y::r=>by have:=qr8 r;rw [hN,iN,qcs];omega
def qmj(o:Int):(opN o).length≤2∧∀ n∈opN o,ok0 n=true:=by
 unfold opN;have h:∀ l∈opL,l.length≤2∧∀ n∈l,ok0 n=true:=by decide +kernel
 by_cases hk:o.toNat < opL.length
 · rw [List.getD,List.getElem?_eq_getElem hk];exact h _ (List.getElem_mem hk)
 · rw [List.getD,List.getElem?_eq_none O];exact ⟨Nat.zero_le _,fun n h=>by cases h⟩
section
variable{p:Prg}{x:Fnc}(hq:PQ p x)
include hq
theorem qET{w:Nat}(hw:w≤9999)(h:qeT p x (nm,2,0)=0):CG V2 (qiy p ls) (lS fun _=>False) [cN p x nm w]:=by
  have h6:=hq.p6;have h12:=hq.l12;unfold cN;rcases qih h Dc Dc with ⟨_,a,ha⟩|⟨h0,i,g,hi,hg,_⟩
  · have h2:=qiV ha
    rw [ha];unfold szF at h2 ⊢;exact CG.nil.cnum Dc ⟨by omega,by omega⟩
  · rw [h0.resolve_right Dc,hi]
    obtain ⟨g1,g2⟩:=hq.g hg;dsimp only;split
    · exact CG.nil.cnum Dc g2
    · rename_i h3
      exact CG.nil.cref Dc g1 (.inr (.inl ⟨i,g,hg,fun e=>h3 (by rw [qe3 hg,e]),rfl⟩))
mutual
theorem qCe{ls:List Str}{lp:Nat}:∀ (e:Ex) (w k:Nat),exV e=true→exU e=true→(∀ nd∈ndX e lp,ndC p x nd=0)→k+2 * exN e≤99999→w+exN e≤9999→CK p ls (exN e) (8 * exN e) k (cE p x e w k)
  | .mk kd o n nm az,w,k,hv,hu,hd,hk,hw=>by
    obtain ⟨hc,hvs⟩:=qdW hv;obtain ⟨k1,k7,a1,a2,a3,a4⟩:=qcC hc;simp only [exU,Bool.and_eq_true,decide_eq_true_eq] at hu;have hd0:=hd _ Mc;have hds:∀ nd∈qfI az lp,ndC p x nd=0:=fun nd h=>hd nd (List.mem_cons_of_mem _ h);have hl:=qr9 az;have hl1:=qr8 az;simp only [Ex.kind,Ex.op,Ex.args,Ex.name] at *;rw [exN] at hk hw ⊢;have H:=fun w k=>qxr (ls:=ls) az w k hvs hu.2 hds;have I:=fun w k=>qB6 (ls:=ls) az w k hvs hu.2 hds;unfold cE;split
    · exact CK.leaf (CG.nil.cnum Dc hu.1) Q9
    split
    · rename_i h2
      exact CK.leaf (qET hq O (by have e:qen (.mk kd o n nm az)=(nm,2,0):=if_pos h2;rwa [ndC,e] at hd0)) Q9
    split
    · rename_i h2 h3
      obtain ⟨_,i,g,hi,hg,h4⟩:=(qih (nm:=nm) (uk:=3) (na:=0) (by have e:qen (.mk kd o n nm az)=(nm,3,0):=(if_neg h2).trans (if_pos h3);rwa [ndC,e] at hd0) Dc Dc).resolve_left (fun h=>by omega);obtain ⟨g1,g2⟩:=hq.g hg;rw [hi];exact (H w k O O).tail ((CG.nil.cref Dc g1 (.inr (.inl ⟨i,g,hg,h4.resolve_left Dc,rfl⟩))).cnum Dc g2) O Q9
    split
    · rename_i h4
      have ha:az.length≤6:=by have:=a2;simp only [qfU,h4] at this;simpa using this
      obtain ⟨c1,c2⟩:=hq.call (ls:=ls) nm ha;exact (qxq (ls:=ls) az w k hvs hu.2 hds O O).tail c1 O O
    split
    · exact CK.leaf (CG.nil.cop Dc) Q9
    split
    · split
      · exact (H w k O O).tail (CG.nil.cop Dc) O Q9
      · have h:=H (w+1) k O O
        refine ⟨h.lo,by have:=h.hi;simp only;omega,by have:=h.len;simp only [List.length_append,List.length_cons,List.length_nil];omega,((h.cg.cop Dc).cnum Dc ?_).appS (CG.nil.cop Dc) (fun _ _ k=>k) fun i=>by simp⟩;split<;>exact ⟨by decide,by decide⟩
    have h1:=fun w'=>H w' k;split
    · have A:=H w k O O
      have B:=I w ((cH p x az w k).2+1) Q14 O;have:=A.lo;have:=A.hi;have:=A.len;have:=B.lo;have:=B.hi;have:=B.len;refine ⟨by simp only;omega,by simp only;omega,by simp only [List.length_append,List.length_cons,List.length_nil];omega,?_⟩;refine CG.tgt (E:=fun a=>qiy p ls a∨a=lT ((cH p x az w k).2+1)) ?_ (fun _=>Iff.rfl) fun a h=>h.imp id fun e=>⟨_,⟨?_,?_⟩,e⟩
      · exact ((A.cg.tgt (fun _=>Iff.rfl) fun a h=>.inl (.inl h)).appS ((B.cg.tgt (fun _=>Iff.rfl) fun a h=>.inl (.inl h)).cref Dc (qcm Dc O) (.inr rfl)) (S:=fun i=>(k < i∧i≤(cH p x az w k).2)∨((cH p x az w k).2+1 < i∧i≤(cI p x az w ((cH p x az w k).2+1)).2)) (fun i h1 h2=>by omega) fun i=>Iff.rfl).appS (((CG.nil.clab O id).cop Dc).cop Dc) (fun i h1 h2=>by simp only [or_false] at h2;omega) fun i=>by simp only [or_false];omega
      · omega
      · simp only;omega
    split
    · have A:=H w k O O
      have B:=I w ((cH p x az w k).2+1) Q14 O;have:=A.lo;have:=A.hi;have:=A.len;have:=B.lo;have:=B.hi;have:=B.len;refine ⟨by simp only;omega,by simp only;omega,by simp only [List.length_append,List.length_cons,List.length_nil];omega,?_⟩;refine CG.tgt (E:=fun a=>qiy p ls a∨a=lT ((cH p x az w k).2+1)) ?_ (fun _=>Iff.rfl) fun a h=>h.imp id fun e=>⟨_,⟨?_,?_⟩,e⟩
      · exact ((A.cg.tgt (fun _=>Iff.rfl) fun a h=>.inl (.inl h)).appS (((B.cg.tgt (fun _=>Iff.rfl) fun a h=>.inl (.inl h)).cref Dc (qcm Dc O) (.inr rfl)).cop Dc) (S:=fun i=>(k < i∧i≤(cH p x az w k).2)∨((cH p x az w k).2+1 < i∧i≤(cI p x az w ((cH p x az w k).2+1)).2)) (fun i h1 h2=>by omega) fun i=>Iff.rfl).appS (((CG.nil.cop Dc).clab O id).cop Dc) (fun i h1 h2=>by simp only [or_false] at h2;omega) fun i=>by simp only [or_false];omega
      · omega
      · simp only;omega
    · have A:=H w k O O
      have B:=I (w+1) (cH p x az w k).2 Q14 O;have:=A.lo;have:=A.hi;have:=A.len;have:=B.lo;have:=B.hi;have:=B.len;obtain ⟨o1,o2⟩:=qmj o;exact ⟨by simp only;omega,by simp only;omega,by simp only [List.length_append,List.length_cons,List.length_nil,List.length_map];omega,(A.cg.appS (B.cg.cop Dc) (S:=fun i=>k < i∧i≤(cI p x az (w+1) (cH p x az w k).2).2) (fun i h1 h2=>by omega) fun i=>by omega).appS (CG.ops o2) (fun _ _ k=>k) fun i=>by simp⟩
theorem qxr{ls:List Str}{lp:Nat}:∀ (l:List Ex) (w k:Nat),qeG l=true→qfQ l=true→(∀ nd∈qfI l lp,ndC p x nd=0)→k+2 * hN l≤99999→w+hN l≤9999→CK p ls (hN l) (8 * hN l) k (cH p x l w k)
 | [],w,k,_,_,_,_,_=>by unfold cH;exact CK.nil
 | y::r,w,k,hv,hu,hd,hk,hw=>by
  simp only [qeG,qfQ,Bool.and_eq_true] at hv hu;rw [hN] at *;unfold cH;exact qCe y w k hv.1 hu.1 (fun nd h=>hd nd (List.mem_append_left _ h)) hk hw
theorem qB6{ls:List Str}{lp:Nat}:∀ (l:List Ex) (w k:Nat),qeG l=true→qfQ l=true→(∀ nd∈qfI l lp,ndC p x nd=0)→k+2 * iN l≤99999→w+iN l≤9999→CK p ls (iN l) (8 * iN l) k (cI p x l w k)
 | [],w,k,_,_,_,_,_=>by unfold cI;exact CK.nil
 | y::r,w,k,hv,hu,hd,hk,hw=>by
  simp only [qeG,qfQ,Bool.and_eq_true] at hv hu;rw [iN] at *;unfold cI;exact qxr r w k hv.2 hu.2 (fun nd h=>hd nd (List.mem_append_right _ h)) hk hw
theorem qxq{ls:List Str}{lp:Nat}:∀ (l:List Ex) (w k:Nat),qeG l=true→qfQ l=true→(∀ nd∈qfI l lp,ndC p x nd=0)→k+2 * qcs l≤99999→w+qcs l≤9999→CK p ls (qcs l) (8 * qcs l+l.length) k (cC p x l w k)
 | [],w,k,_,_,_,_,_=>by unfold cC;exact CK.nil
 | y::r,w,k,hv,hu,hd,hk,hw=>by
  simp only [qeG,qfQ,Bool.and_eq_true] at hv hu;have hp:=qk1 y;rw [qcs] at *;unfold cC;have A:=qCe (ls:=ls) y w k hv.1 hu.1 (fun nd h=>hd nd (List.mem_append_left _ h)) O O;have B:=qxq (ls:=ls) r (w+1) (cE p x y w k).2 hv.2 hu.2 (fun nd h=>hd nd (List.mem_append_right _ h)) Q14 O;have:=A.lo;have:=A.hi;have:=A.len;have:=B.lo;have:=B.hi;have:=B.len;exact ⟨by simp only;omega,by simp only;omega,by simp only [List.length_append,List.length_cons,List.length_nil];omega,A.cg.appS (B.cg.cop Dc) (fun i h1 h2=>by omega) fun i=>by simp only;omega⟩
end
end
end Go.Proofs.YtlfiplbamnpgoaaGreatDoor
namespace Go.FL
open Go Go.RowKit
section
variable{P:Program}{TT:qaM}{D n:Nat}{Q:qbs}{fr:Fr}{L K:Hl}{s s0:World}{ops:Array Oper}{rest:List Oper}{d ty:Nat}{pos:String}{af:Array Edge}
def qc3{P:Program}{TT:qaM}{D:Nat}{fr:Fr}{ty:Nat}{K:Hl}{s0:World}{κ:Type} [DecidableEq κ] {dk:TypeDesc} {kf:κ→Value} (KK:KeyK κ dk kf) {t b:Nat} {x y:Operand} {z:Value} (hm:qfd P t dk z) {es:List (κ×Value×Nat)} {k:κ} (hx:lk fr x=some (.map (some b))) (hy:lk fr y=some (kf k)) (hi:MapS s0 kf b es) :
  QE P TT D fr (.lookup t x y false) ty K s0 ((qaW es k).getD z):=fun hT dst pos af g ρ hρ L s ho hl hK=>by
 exact Ez83
end
end Go.FL
namespace Go.Proofs.YtlfiplbamnpgoaaGreatDoor
open Go Go.FL Go.RowKit
variable{i lp lv n:Nat}{nm:Str}
section
variable{p:Prg}{x:Fnc}{e y z:Ex}{az:List Ex}{w k j:Nat}
def qeX(h:az[0]?=some y):cH p x az w k=cE p x y w k:=by
 match az,h with
 | _::_,h=>simp at h;subst h;unfold cH;rfl
def qry(h:az[1]?=some y):cI p x az w k=cE p x y w k:=by
 match az,h with
 | _::r,h=>unfold cI;exact qeX Q4
def qEO(h:az[j]?=some y):cC p x (az.drop j) w k=((cE p x y w k).1++.op qcq::(cC p x (az.drop (j+1)) (w+1) (cE p x y w k).2).1,(cC p x (az.drop (j+1)) (w+1) (cE p x y w k).2).2):=by
 obtain ⟨hk,rfl⟩:=List.getElem?_eq_some_iff.1 h;rw [List.drop_eq_getElem_cons hk,cC]
def cX_1(h:e.kind=1):cE p x e w k=([.num qeE e.num],k):=by
 obtain ⟨kd,o,n,nm,az⟩:=e;unfold cE;exact if_pos h
def cX_2(h:e.kind=2):cE p x e w k=([cN p x e.name w],k):=by
 obtain ⟨kd,o,n,nm,az⟩:=e;have h:kd=2:=h;subst h;unfold cE;rfl
def cX_3(h:e.kind=3)(hy:e.args[0]?=some y):cE p x e w k=((cE p x y w k).1++[.num qgi (gnI p (gi p e.name)),.ref qmG (gT (gi p e.name))],(cE p x y w k).2):=by
 obtain ⟨kd,o,n,nm,az⟩:=e;have h:kd=3:=h;subst h;simp only [cE,Int.reduceEq,↓reduceIte,qeX (az:=az) hy,Ex.name]
def cX_4(h:e.kind=4):cE p x e w k=((cC p x e.args w k).1++cL p e.name e.args.length,(cC p x e.args w k).2):=by
 obtain ⟨kd,o,n,nm,az⟩:=e;have h:kd=4:=h;subst h;unfold cE;rfl
def cX_5(h:e.kind=5):cE p x e w k=([.op qEd],k):=by
 obtain ⟨kd,o,n,nm,az⟩:=e;have h:kd=5:=h;subst h;unfold cE;rfl
def cX_6(h:e.kind=6)(ho:e.op=1)(hy:e.args[0]?=some y):cE p x e w k=((cE p x y w k).1++[.op qcv],(cE p x y w k).2):=by
 obtain ⟨kd,o,n,nm,az⟩:=e;have h:kd=6:=h;have ho:o=1:=ho;subst h;subst ho;simp only [cE,Int.reduceEq,↓reduceIte,qeX (az:=az) hy]
def cX_7(h:e.kind=6)(ho:¬ e.op=1)(hy:e.args[0]?=some y):cE p x e w k=(.num qeE (if e.op=3 then 4294967295 else 0)::.op qcq::(cE p x y (w+1) k).1++[.op qAj],(cE p x y (w+1) k).2):=by
 obtain ⟨kd,o,n,nm,az⟩:=e;have h:kd=6:=h;subst h;simp only [cE,Int.reduceEq,↓reduceIte,qeX (az:=az) hy,if_neg (show ¬ o=1 from ho),Ex.op];rfl
section
variable(h:e.kind=7)(hy:e.args[0]?=some y)(hz:e.args[1]?=some z)
include h hy hz
theorem qCb(ho:e.op=20):cE p x e w k=((cE p x y w k).1++.ref qb9 (lT ((cE p x y w k).2+1))::(cE p x z w ((cE p x y w k).2+1)).1++[.op qcv,.op qcv,.lab (lT ((cE p x y w k).2+1))],(cE p x z w ((cE p x y w k).2+1)).2):=by
 obtain ⟨kd,o,n,nm,az⟩:=e;have h:kd=7:=h;have ho:o=20:=ho;subst h;subst ho;simp only [cE,Int.reduceEq,↓reduceIte,qeX (az:=az) hy,qry (az:=az) hz]
theorem qCc(ho:e.op=21):cE p x e w k=((cE p x y w k).1++.op qcv::.ref qb9 (lT ((cE p x y w k).2+1))::(cE p x z w ((cE p x y w k).2+1)).1++[.op qcv,.lab (lT ((cE p x y w k).2+1)),.op qcv],(cE p x z w ((cE p x y w k).2+1)).2):=by
 obtain ⟨kd,o,n,nm,az⟩:=e;have h:kd=7:=h;have ho:o=21:=ho;subst h;subst ho;simp only [cE,Int.reduceEq,↓reduceIte,qeX (az:=az) hy,qry (az:=az) hz]
theorem qCd(ho:¬ e.op=20)(ho2:¬ e.op=21):cE p x e w k=((cE p x y w k).1++.op qcq::(cE p x z (w+1) (cE p x y w k).2).1++(opN e.op).map .op,(cE p x z (w+1) (cE p x y w k).2).2):=by
 obtain ⟨kd,o,n,nm,az⟩:=e;have h:kd=7:=h;subst h;simp only [cE,Int.reduceEq,↓reduceIte,qeX (az:=az) hy,qry (az:=az) hz,if_neg (show ¬ o=20 from ho),if_neg (show ¬ o=21 from ho2),Ex.op]
end
mutual
def qkT:∀ (e:Ex) (w k:Nat),(cE p x e w k).2≤k+2 * exN e
 | .mk kd o n nm az,w,k=>by
  have a:=qrx az w k;have b:=qrx az (w+1) k;have c:=qxp az w k;have d:=qxs az w ((cH p x az w k).2+1);have f:=qxs az (w+1) (cH p x az w k).2;have g:=qr9 az;rw [exN];unfold cE;repeat' split
  all_goals (simp only;omega)
def qrx:∀ (l:List Ex) (w k:Nat),(cH p x l w k).2≤k+2 * hN l
 | [],w,k=>by unfold cH;exact Nat.le_refl _
 | y::r,w,k=>by unfold cH;rw [hN];exact qkT y w k
def qxs:∀ (l:List Ex) (w k:Nat),(cI p x l w k).2≤k+2 * iN l
 | [],w,k=>by unfold cI;exact Nat.le_refl _
 | y::r,w,k=>by unfold cI;rw [iN];exact qrx r w k
def qxp:∀ (l:List Ex) (w k:Nat),(cC p x l w k).2≤k+2 * qcs l
 | [],w,k=>by unfold cC;exact Nat.le_refl _
 | y::r,w,k=>by
  have a:=qkT y w k;have b:=qxp r (w+1) (cE p x y w k).2;unfold cC;rw [qcs];simp only;omega
end
def XOK(p:Prg)(x:Fnc)(e:Ex):Prop:=exV e=true∧∃ lp,∀ nd∈ndX e lp,ndC p x nd=0
def XsOK(p:Prg)(x:Fnc)(l:List Ex):Prop:=qeG l=true∧∃ lp,∀ nd∈qfI l lp,ndC p x nd=0
def XsOK.at_:∀ {l:List Ex} {j:Nat},XsOK p x l→l[j]?=some y→XOK p x y
 | z::r,0,⟨h1,lp,h2⟩,h=>by
  simp at h;subst h;simp only [qeG,Bool.and_eq_true] at h1;exact ⟨h1.1,lp,fun nd k=>h2 nd (List.mem_append_left _ k)⟩
 | z::r,j+1,⟨h1,lp,h2⟩,h=>by
  simp only [qeG,Bool.and_eq_true] at h1;exact XsOK.at_ (l:=r) ⟨h1.2,lp,fun nd k=>h2 nd (List.mem_append_right _ k)⟩ Q4
def XOK.args(h:XOK p x e):XsOK p x e.args:=by
 obtain ⟨kd,o,n,nm,az⟩:=e;obtain ⟨h,lp,hd⟩:=h;exact ⟨(qdW h).2,lp,fun nd k=>hd nd (List.mem_cons_of_mem _ k)⟩
def qdH:∀ {l:List Ex} {j:Nat},l[j]?=some y→qcs (l.drop j)=exN y+qcs (l.drop (j+1))
 | z::r,0,h=>by simp at h;subst h;simp only [List.drop_zero,List.drop_succ_cons,qcs]
 | z::r,j+1,h=>by simp only [List.drop_succ_cons];exact qdH Q4
def qxM(hy:e.args[0]?=some y):exN e=1+exN y+qcs (e.args.drop 1):=by
 obtain ⟨kd,o,n,nm,az⟩:=e;have h:=qdH (l:=az) (j:=0) hy;rw [List.drop_zero] at h;rw [exN,h,← Nat.add_assoc];rfl
def qE7(hy:e.args[0]?=some y)(hz:e.args[1]?=some z):1+exN y+exN z≤exN e:=by
 rw [qxM hy,qdH hz];omega
def qAO{p:Prop} (h:p:=by
 rcases qih hd Dc Dc with ⟨_,h1⟩|⟨h1,i,g,h2,h3,_⟩
 · exact .inl h1
 · exact .inr ⟨h1.resolve_right Dc,i,g,h2,h3⟩):p:=h
def nm_2(h:XOK p x e)(hk:e.kind=2):(∃ a,fdI (sE x) e.name=some a)∨fdI (sE x) e.name=none∧∃ (i:Nat) (g:Glo),gi p e.name=(i:Int)∧p.globals[i]?=some g:=by
 obtain ⟨kd,o,n,nm,az⟩:=e;obtain ⟨_,lp,hd⟩:=h;have hd:=hd _ Mc;rw [ndC,qen,if_pos hk] at hd;exact qAO
def Ez93{p:Prop} (h:p:=by
 obtain ⟨_,i,g,h2,h3,_⟩:=(qih (x:=x) (nm:=nm) (uk:=3) (na:=0) hd Dc Dc).resolve_left (fun h=>absurd h.1 Dc);exact ⟨i,g,h2,h3⟩):p:=h
def nm_3(h:XOK p x e)(hk:e.kind=3):∃ (i:Nat) (g:Glo),gi p e.name=(i:Int)∧p.globals[i]?=some g:=by
 obtain ⟨kd,o,n,nm,az⟩:=e;obtain ⟨_,lp,hd⟩:=h;have hd:=hd _ Mc;have hk:kd=3:=hk;subst hk;rw [ndC,qen] at hd;exact Ez93
def qo8{g:Glo}(h:p.globals[i]?=some g):gnI p (i:Int)=g.num:=by rw [gnI,Int.toNat_natCast,h]
def qk3(h:XOK p x e):qdx e.kind≤e.args.length∧1≤e.kind∧e.kind≤7∧(e.kind=7→4≤e.op∧e.op≤21):=by
 obtain ⟨a1,a2,a3,a4,a5,a6⟩:=qcC (qdW h.1).1;exact ⟨a3,a1,a2,fun k=>⟨(a6 k).1,(a6 k).2⟩⟩
def cN_s{a:Int}(h:fdI (sE x) nm=some a):cN p x nm w=.num qmH ((szF x:Int)+(w:Int) - a):=by rw [cN,h]
section
variable{nm:Str}{i:Nat}{g:Glo}(h:fdI (sE x) nm=none)(hi:gi p nm=(i:Int))(hg:p.globals[i]?=some g)
include h hi hg
theorem cN_c(hc:g.kind=1):cN p x nm w=.num qeE g.num:=by rw [cN,h,hi,qe3 hg,qo8 hg];exact if_pos hc
theorem cN_g(hc:¬ g.kind=1):cN p x nm w=.ref qAi (gT (i:Int)):=by rw [cN,h,hi,qe3 hg];exact if_neg hc
end
end
theorem qeA{p:Prg}{x:Fnc}{kd:Int}{es:List Ex}{b e:List Stm}(h:∀ nd∈ndS (.mk kd nm es b e) lp,ndC p x nd=0):ndC p x (.st (.mk kd nm es b e) lp)=0∧(∀ nd∈qfI es lp,ndC p x nd=0)∧(∀ nd∈qdf b (if kd=4 then lp+1 else lp),ndC p x nd=0)∧∀ nd∈qdf e (if kd=4 then lp+1 else lp),ndC p x nd=0:=by grind [ndS]
section
variable{p:Prg}{x:Fnc}{y:Stm}{e f:Ex}{k j:Nat}{ls:List Str}
def qEL{a:Int}(h:fdI (sE x) nm=some a):asL p x nm=.num qi3 ((szF x:Int) - a):=by rw [asL,h]
def qEK(h:fdI (sE x) nm=none)(hi:gi p nm=(i:Int)):asL p x nm=.ref qqF (gT (i:Int)):=by rw [asL,h,hi]
def qEN{l:List Stm}(h:l[j]?=some y):cB p x (l.drop j) k ls=((cS p x y k ls).1++(cB p x (l.drop (j+1)) (cS p x y k ls).2 ls).1,(cB p x (l.drop (j+1)) (cS p x y k ls).2 ls).2):=by
 obtain ⟨hk,rfl⟩:=List.getElem?_eq_some_iff.1 h;rw [List.drop_eq_getElem_cons hk,cB]
def cS_1(h:y.kind=1)(he:y.exprs[0]?=some e):cS p x y k ls=((cE p x e 0 k).1++[asL p x y.name],(cE p x e 0 k).2):=by
 obtain ⟨kd,nm,es,b,l⟩:=y;have h:kd=1:=h;subst h;simp only [cS,Int.reduceEq,↓reduceIte,qeX (az:=es) he,Stm.name]
def cS_2(h:y.kind=2)(he:y.exprs[0]?=some e)(hf:y.exprs[1]?=some f):cS p x y k ls=((cE p x e 0 k).1++.num qgi (gnI p (gi p y.name))::.op qcq::(cE p x f 1 (cE p x e 0 k).2).1++[.ref qmI (gT (gi p y.name))],(cE p x f 1 (cE p x e 0 k).2).2):=by
 obtain ⟨kd,nm,es,b,l⟩:=y;have h:kd=2:=h;subst h;simp only [cS,Int.reduceEq,↓reduceIte,qeX (az:=es) he,qry (az:=es) hf,Stm.name]
def cS_3(h:y.kind=3)(he:y.exprs[0]?=some e)(hl:y.els=[]):cS p x y k ls=((cE p x e 0 (k+1)).1++.ref qb9 (lT (k+1))::(cB p x y.body (cE p x e 0 (k+1)).2 ls).1++[.lab (lT (k+1))],(cB p x y.body (cE p x e 0 (k+1)).2 ls).2):=by
 obtain ⟨kd,nm,es,b,l⟩:=y;have h:kd=3:=h;have hl:l=[]:=hl;subst h;subst hl;simp only [cS,Int.reduceEq,↓reduceIte,qeX (az:=es) he,Stm.body,List.length_nil]
def qB9(h:y.kind=3)(he:y.exprs[0]?=some e)(hl:y.els.length≠0):cS p x y k ls=((cE p x e 0 (k+1)).1++.ref qb9 (lT (k+1))::(cB p x y.body (cE p x e 0 (k+1)).2 ls).1++.ref qep (lT ((cB p x y.body (cE p x e 0 (k+1)).2 ls).2+1))::.lab (lT (k+1))::(cB p x y.els ((cB p x y.body (cE p x e 0 (k+1)).2 ls).2+1) ls).1++[.lab (lT ((cB p x y.body (cE p x e 0 (k+1)).2 ls).2+1))],(cB p x y.els ((cB p x y.body (cE p x e 0 (k+1)).2 ls).2+1) ls).2):=by
 obtain ⟨kd,nm,es,b,l⟩:=y;have h:kd=3:=h;subst h;simp only [cS,Int.reduceEq,↓reduceIte,qeX (az:=es) he,if_neg (show ¬ l.length=0 from hl),Stm.body,Stm.els]
def cS_4(h:y.kind=4)(he:y.exprs[0]?=some e):cS p x y k ls=(.lab (lT (k+1))::(cE p x e 0 (k+2)).1++.ref qb9 (lT (k+2))::(cB p x y.body (cE p x e 0 (k+2)).2 (ls++[lT (k+1),lT (k+2)])).1++[.ref qep (lT (k+1)),.lab (lT (k+2))],(cB p x y.body (cE p x e 0 (k+2)).2 (ls++[lT (k+1),lT (k+2)])).2):=by
 obtain ⟨kd,nm,es,b,l⟩:=y;have h:kd=4:=h;subst h;simp only [cS,Int.reduceEq,↓reduceIte,qeX (az:=es) he,Stm.body]
def cS_5(h:y.kind=5):cS p x y k ls=((cC p x y.exprs 0 k).1++cL p y.name y.exprs.length,(cC p x y.exprs 0 k).2):=by
 obtain ⟨kd,nm,es,b,l⟩:=y;have h:kd=5:=h;subst h;unfold cS;rfl
def cS_6(h:y.kind=6)(he:y.exprs[0]?=some e):cS p x y k ls=((cE p x e 0 k).1++[.num qv1 (x.locals.length+1:Nat)],(cE p x e 0 k).2):=by
 obtain ⟨kd,nm,es,b,l⟩:=y;have h:kd=6:=h;subst h;simp only [cS,Int.reduceEq,↓reduceIte,qeX (az:=es) he]
def cS_7(h:y.kind=7)(he:y.exprs[0]?=some e):cS p x y k ls=((cE p x e 0 k).1++[.op qEe],(cE p x e 0 k).2):=by
 obtain ⟨kd,nm,es,b,l⟩:=y;have h:kd=7:=h;subst h;simp only [cS,Int.reduceEq,↓reduceIte,qeX (az:=es) he]
def cS_8(h:y.kind=8)(he:y.exprs[0]?=some e):cS p x y k ls=((cE p x e 0 k).1++[.op qhu],(cE p x e 0 k).2):=by
 obtain ⟨kd,nm,es,b,l⟩:=y;have h:kd=8:=h;subst h;simp only [cS,Int.reduceEq,↓reduceIte,qeX (az:=es) he]
def cS_9(h:y.kind=9):cS p x y k ls=([.ref qep (ls.getD (ls.length - 1) [])],k):=by
 obtain ⟨kd,nm,es,b,l⟩:=y;have h:kd=9:=h;subst h;unfold cS;rfl
def qEU(h:y.kind=10):cS p x y k ls=([.ref qep (ls.getD (ls.length - 2) [])],k):=by
 obtain ⟨kd,nm,es,b,l⟩:=y;have h:kd=10:=h;subst h;unfold cS;rfl
mutual
def qCa:∀ (y:Stm) (k:Nat) (ls:List Str),(cS p x y k ls).2≤k+2 * stN y
 | .mk kd nm es b e,k,ls=>by
  have a:=fun k=>qrx (p:=p) (x:=x) es 0 k;have a1:=a k;have a2:=a (k+1);have a3:=a (k+2);have c:=qxp (p:=p) (x:=x) es 0 k;have d:=qxs (p:=p) (x:=x) es 1 (cH p x es 0 k).2;have f:=qmS b (cH p x es 0 (k+1)).2 ls;have g:=qmS e ((cB p x b (cH p x es 0 (k+1)).2 ls).2+1) ls;have i:=qmS b (cH p x es 0 (k+2)).2 (ls++[lT (k+1),lT (k+2)]);have h:=qr9 es;have h2:=qr8 es;rw [stN];unfold cS;repeat' split
  all_goals (simp only;omega)
def qmS:∀ (l:List Stm) (k:Nat) (ls:List Str),(cB p x l k ls).2≤k+2 * qbG l
 | [],k,ls=>by unfold cB;exact Nat.le_refl _
 | y::r,k,ls=>by
  have a:=qCa y k ls;have b:=qmS r (cS p x y k ls).2 ls;unfold cB;rw [qbG];simp only;omega
end
def SmK(p:Prg)(x:Fnc)(y:Stm)(lp lv:Nat):Prop:=stV y lv=true∧∀ nd∈ndS y lp,ndC p x nd=0
def SbK(p:Prg)(x:Fnc)(l:List Stm)(lp lv:Nat):Prop:=qdU l lv=true∧∀ nd∈qdf l lp,ndC p x nd=0
def SbK.at_:∀ {l:List Stm} {j:Nat},SbK p x l lp lv→l[j]?=some y→SmK p x y lp lv
 | z::r,0,⟨h1,h2⟩,h=>by
  simp at h;subst h;simp only [qdU,Bool.and_eq_true] at h1;exact ⟨h1.1,fun nd k=>h2 nd (List.mem_append_left _ k)⟩
 | z::r,j+1,⟨h1,h2⟩,h=>by
  simp only [qdU,Bool.and_eq_true] at h1;exact SbK.at_ (l:=r) ⟨h1.2,fun nd k=>h2 nd (List.mem_append_right _ k)⟩ Q4
def qqj:∀ {l:List Stm} {j:Nat},l[j]?=some y→qbG (l.drop j)=stN y+qbG (l.drop (j+1))
 | z::r,0,h=>by simp at h;subst h;simp only [List.drop_zero,List.drop_succ_cons,qbG]
 | z::r,j+1,h=>by simp only [List.drop_succ_cons];exact qqj Q4
def SmK.parts(h:SmK p x y lp lv):lv≤16∧XsOK p x y.exprs∧SbK p x y.body (if y.kind=4 then lp+1 else lp) (lv+1)∧SbK p x y.els (if y.kind=4 then lp+1 else lp) (lv+1):=by
 obtain ⟨h1,h2,h3,h4,h5⟩:=qdm h.1;obtain ⟨kd,nm,es,b,e⟩:=y;obtain ⟨d1,d2,d3,d4⟩:=qeA h.2;exact ⟨h1,⟨h3,_,d2⟩,⟨h4,d3⟩,⟨h5,d4⟩⟩
def sm_1(h:SmK p x y lp lv)(hk:y.kind=1):(∃ a,fdI (sE x) y.name=some a)∨fdI (sE x) y.name=none∧∃ (i:Nat) (g:Glo),gi p y.name=(i:Int)∧p.globals[i]?=some g:=by
 obtain ⟨kd,nm,es,b,e⟩:=y;have hd:=(qeA h.2).1;have e1:qeo (.mk kd nm es b e)=(nm,1,0):=if_pos hk;have hk:kd=1:=hk;rw [ndC,if_neg Q16,e1] at hd;exact qAO
def sm_2(h:SmK p x y lp lv)(hk:y.kind=2):∃ (i:Nat) (g:Glo),gi p y.name=(i:Int)∧p.globals[i]?=some g:=by
 obtain ⟨kd,nm,es,b,e⟩:=y;have hd:=(qeA h.2).1;have hk:kd=2:=hk;have e1:qeo (.mk kd nm es b e)=(nm,3,0):=(if_neg (show ¬ kd=1 by omega)).trans (if_pos hk);rw [ndC,if_neg Q16,e1] at hd;exact Ez93
def sm_9(h:SmK p x y lp lv)(hk:y.kind=9∨y.kind=10):0 < lp:=by
 obtain ⟨kd,nm,es,b,e⟩:=y;have hd:=(qeA h.2).1;rw [ndC] at hd;by_cases h0:lp=0
 · rw [if_pos ⟨hk,h0⟩] at hd;cases hd
 · omega
theorem qvW{j:Nat}(h:j < ls.length):(sb ls)[j]?=some (St (ls.getD j [])):=by grind [List.getD,sb]
end
def qlS{α:Type}{l:List α}{k:Nat}{x:α}(h:l[k]?=some x):l.drop k=x::l.drop (k+1):=by
 obtain ⟨hk,rfl⟩:=List.getElem?_eq_some_iff.1 h;exact List.drop_eq_getElem_cons hk
def qsD{e:Nat}{R:Hl}{A:Option Addr}{m c:Nat}{xs ys:List Value}(h:FL.Own e 1 R (.slice A n c) n (xs++ys))(hm:m=xs.length)(hn:n≠0):FL.Own e 1 R (.slice A m c) m xs:=by
 obtain ⟨b,zs,rfl,rfl,h1,h2,h3,h4⟩:=qhe h O;subst hm;rw [List.append_assoc] at *;exact qml rfl (by simp only [List.length_append] at h2 ⊢;omega) (by simp only [List.length_append] at h1;omega) h4
def qb1{κ:Type} [DecidableEq κ] {dk:TypeDesc} {kf:κ→Value} {P:Program} {TT:qaM} {D n:Nat} {Q:qbs} {fr:Fr} {L:Hl} {s:World} {ops:Array Oper} {rest:List Oper} {ty:Nat} {pos:String} {af:Array Edge} {v:Value} (KK:KeyK κ dk kf) {t b:Nat} {x y z:Operand} {zv:Value} (i:Nat) (hm:qfd P t dk zv) {es:List (κ×Value×Nat)} {ck:Nat} {k:κ} (hx:lk fr x=some (.map (some b))) (hy:lk fr y=some (kf k)) (hz:lk fr z=some v) (hi:L[i]?=some (b,mp kf es ck))
  (kk:∀ es' ck',(∀ j,qaW es' j=if j=k then some v else qaW es j)→JO P TT D n ops Q rest fr (qch L i (mp kf es' ck')) s):JO P TT D n ops Q (⟨none,.insert t x y z,ty,pos,af,none⟩::rest) fr L s:=by
 obtain ⟨ck',h⟩:=qkH (TT:=TT) (D:=D) (s:=s) (ty:=ty) KK i hm hx hy hz hi;exact qqZ (fun hT ho dst pos af g ρ hρ=>h hT ho dst pos af g ρ hρ) (kk _ ck' (qeu es k v ck))
def qnI{P:Program}{TT:qaM}{D:Nat}{Q:qbs}{fr:Fr}{s:World}{c:Code}(X A Y:Hl)(h:∀ s',Le D s s'→(∀ b o,(b,o)∈A→s'.heap[b]?=some o)→JC P TT D n Q c fr (X++Y) s'):JC P TT D n Q c fr (X++(A++Y)) s:=fun ht a hr ho=>by
 have hp:(X++(A++Y)).Perm (A++(X++Y)):=by
  exact qqT
 rw [qa5 hp _ ho];have ho2:=ho.perm hp;obtain ⟨e,d1,d2⟩:=qbp ho2;rw [e];exact h _ d2 (fun b o hm=>qa3 ho2.left hm) ht a hr d1
def qwE{P:Program}{TT:qaM}{D:Nat}{fr:Fr}{s0:World}{ty:Nat}{K:Hl}{x y:Operand}{a b:Int}{k k':IntKind}{ts:Array TypeId}(hx:lk fr x=some (.int k a))(hy:lk fr y=some (.int k' b)):QE P TT D fr (.call { callee:=.builtin .max,args:=#[x,y],argTypes:=ts }) ty K s0 (.int k (max a b)):=by
 have e:max a b=if b > a then b else a:=by split<;>omega
 rw [e];exact QE.pure fun hT dst pos af g ρ hρ w=>by simp [execOp,resolve,invoke,builtin,Builtin.max_,Builtin.max2,hρ x _ hx,hρ y _ hy]
def qqW{κ:Type}{P:Program}{TT:qaM}{D n:Nat}{Q:qbs}{fr:Fr}{L K:Hl}{s s0:World}{ops:Array Oper}{d ty i0 t:Nat}{pos:String}{af:Array Edge}{g:Option (Nat×Bool)}{fuel:Nat}{listed:Array Bool}(hi0:ops[i0]?=some ⟨some d,.makeMap t none,ty,pos,af,g⟩)(hg:GOK ops fr g)(kf:κ→Value)(hd:Nat.blt d n=true)
  (k:∀ β s',Le D s s'→JA P TT D n ops Q K s0 fuel (listed.setIfInBounds i0 true) ((d,.map (some β))::fr) ((β,mp kf [] 0)::L) s'):JB P TT D n ops Q K s0 fuel listed i0 fr L s:=fun hT a hf ho hl hK=>
 qhz hi0 hg (qlr kf ho) (qaD ho (mp kf [] 0)).2.2 (fun x _ hx=>List.mem_cons_of_mem _ hx) hd (k _ _ (qaD ho (mp kf [] 0)).2.2) hT a hf ho hl hK
section
variable{p:Prg}{x:Fnc}{k:Nat}{w:Str}{g:Glo}{y:Fnc}
abbrev fI(m:Int×Int):Value:=.int .i64 m.2
def qFh(h:p.globals[k]?=some g):(gE p)[k]?=some (g.name,((3:Int),(k:Int))):=by rw [gE,List.getElem?_mapIdx,h];rfl
def qFf(h:p.funcs[k]?=some y):(fE p)[k]?=some (y.name,((4:Int),(k:Int))):=by rw [fE,List.getElem?_mapIdx,h];rfl
theorem sE_l(h:x.locals[k]?=some w):(sE x)[k]?=some (w,((2:Int),((x.params.length+1+k:Nat):Int))):=by grind [sE]
theorem sE_p(h:x.params[k]?=some w):(sE x)[x.locals.length+k]?=some (w,((1:Int),(k:Int))):=by grind [sE,List.length_mapIdx,Nat.add_sub_cancel_left]
def qoR{T:List (Str×(Int×Int))}{es:List (Str×Value×Nat)}(hn:T.length≤n)(h:∀ nm,qaW es nm=((T.take n).find? fun e=>decide (e.1=nm)).map fun e=>fI e.2)(nm:Str):qaW es nm=(fdI T nm).map (Value.int .i64):=by
 rw [h nm,List.take_of_length_le hn,fdI,Option.map_map];rfl
def qEP(p:Prg)(x:Fnc)(i k:Nat):cF p x i k=(.lab (fT i)::(if 0 < x.locals.length then [.num qeE 0] else [])++List.replicate x.locals.length (.op qcq)++(cB p x x.body k []).1++[.num qeE 0,.num qv1 (x.locals.length+1:Nat)],(cB p x x.body k []).2):=rfl
def qlU:∀ l:List Ex,l.length≤qcs l
 | []=>Nat.le_refl _
 | z::r=>by have:=qk1 z;have:=qlU r;rw [qcs,List.length_cons];omega
def qmt:∀ l:List Stm,l.length≤qbG l
 | []=>Nat.le_refl _
 | z::r=>by have:=qif z;have:=qmt r;rw [qbG,List.length_cons];omega
def qFk(h:g.kind=2):glN g=1:=if_pos h
theorem qFl(h:g.kind=3):glN g=g.num:=by grind [glN]
def qFj(h:¬ g.kind=2)(h2:¬ g.kind=3):glN g=0:=by unfold glN;rw [if_neg h,if_neg h2]
def qFm(h:U32 g.num):0≤glN g∧glN g < 4294967296:=by
 have:=h.1;have:=h.2;unfold glN;split
 · omega
 · split<;>omega
def qlh:∀ (l:List Glo),(∀ g∈l,U32 g.num)→l.length≤64→0≤qfX l∧qfX l≤4294967296 * (l.length:Int)
 | [],_,_=>⟨Int.le_refl _,Int.le_refl _⟩
 | z::r,h,hl=>by
  have a:=qFm (h z Mc);simp only [List.length_cons] at hl ⊢;have b:=qlh r (fun y hy=>h y (List.mem_cons_of_mem _ hy)) O;rw [qfX];omega
def qst{l:List Glo}(h:l[k]?=some g):qfX (l.drop k)=glN g+qfX (l.drop (k+1)):=by
 obtain ⟨hk,rfl⟩:=List.getElem?_eq_some_iff.1 h;rw [List.drop_eq_getElem_cons hk,qfX]
def qo1{l:List Fnc}(h:l[k]?=some y):qiC (l.drop k)=qbG y.body+qiC (l.drop (k+1)):=by
 obtain ⟨hk,rfl⟩:=List.getElem?_eq_some_iff.1 h;rw [List.drop_eq_getElem_cons hk,qiC]
def qo2:∀ (l:List Fnc),(∀ x∈l,qbG x.body≤2000)→qiC l≤2000 * l.length
 | [],_=>Nat.le_refl _
 | z::r,h=>by
  have a:=h z Mc;have b:=qo2 r fun y hy=>h y (List.mem_cons_of_mem _ hy);rw [qiC,List.length_cons];omega
def qEQ(p:Prg)(x:Fnc)(i k:Nat):(cF p x i k).2≤k+2 * qbG x.body:=qmS x.body k []
def qB7(p:Prg):cP p=[.ref qht qkE,.ref qgp (fT (fi p qbI)),.num qeE 0,.op qhu]++(cFs p p.funcs 0 0).1++cGs p.globals 0++[.lab qkE]:=rfl
def qg2(h:qcf p=(0,0)):0 < p.funcs.length:=by
  unfold qcf at h;cases hf:p.funcs with
  | cons x r=>simp
  | nil=>
    rw [hf] at h;split at h
    · rename_i h2;rw [h] at h2;exact absurd rfl h2
    · split at h
      · rename_i h2;rw [h] at h2;exact absurd rfl h2
      · cases h
def qos{l:List Glo}(h:l[k]?=some g):cGs (l.drop k) i=cG g i++cGs (l.drop (k+1)) (i+1):=by
 obtain ⟨hk,rfl⟩:=List.getElem?_eq_some_iff.1 h;rw [List.drop_eq_getElem_cons hk,cGs]
def qB4{l:List Fnc}{j:Nat}(h:l[k]?=some y):cFs p (l.drop k) i j=((cF p y i j).1++(cFs p (l.drop (k+1)) (i+1) (cF p y i j).2).1,(cFs p (l.drop (k+1)) (i+1) (cF p y i j).2).2):=by
 obtain ⟨hk,rfl⟩:=List.getElem?_eq_some_iff.1 h;rw [List.drop_eq_getElem_cons hk,cFs]
def qvF(hg:qe4 g=0)(hu:U32 g.num):0≤max g.num 1 - (g.init.length:Int)∧max g.num 1 - (g.init.length:Int) < 4294967296:=by
  have h4:=(qbS hg).2.2.2.1;have h5:=(qbS hg).2.2.1;have hu2:=hu.2;by_cases h3:g.kind=3
  · unfold qe4 at hg
    rw [if_neg O,if_neg (by rw [h5];decide),if_neg O] at hg;split at hg
    · cases hg
    · split at hg
      · cases hg
      · omega
  · rw [h4 h3];simp only [List.length_nil];omega
end
end Go.Proofs.YtlfiplbamnpgoaaGreatDoor
