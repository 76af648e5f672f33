/- Part 5 of the proof of interpFoldedProgramsRunAlike_holds: texts C17, V4, C18, So, C19, C20, C21, Cl, Ot, C22, C23, C24, C25. -/
import Derived.Test.YtpdnijphccdiiaaGreatDoorQ37x4
import Derived.Shelf.Sort.Plain
import Derived.Shelf.Slices.CompactI
import Derived.Shelf.Slices.In.SortNone
import Derived.Lib.SliceRun
set_option linter.unusedVariables false
set_option linter.unusedSimpArgs false
set_option linter.unnecessarySimpa false
set_option maxRecDepth 100000
set_option maxHeartbeats 8000000
namespace Go.Proofs.YtpdnijphccdiiaaGreatDoor
open Go.FL
attribute [local irreducible] JC JO JA JB thenQ blockQ retQ AC fill CellsAt QE Ev Mid
theorem NdV.agg {s:World} {nd:Nd} {nv:Value} (h:NdV s nd nv):∃ (pa pb:Option Addr) (lp:Nat),nv=.agg #[.pointer pa,.pointer pb,.int .i64 (lp:Int)]:=by
  cases nd with
  | st y lp=>obtain ⟨b,o,C1,r1,e1,C2,r2,e2,C3,r3,e3,rfl,hy,hr⟩:=h;exact ⟨_,_,_,rfl⟩
  | ex y lp=>obtain ⟨b,o,C1,r1,e1,rfl,hy,hr⟩:=h;exact ⟨_,_,_,rfl⟩
theorem NdV.le {D:Nat} {s s':World} {nd:Nd} {nv:Value} (h:NdV s nd nv) (hl:Le D s s'):NdV s' nd nv:=by
  cases nd with
  | st y lp=>obtain ⟨b,o,C1,r1,e1,C2,r2,e2,C3,r3,e3,rfl,hy,hr⟩:=h;exact ⟨b,o,C1,r1,e1,C2,r2,e2,C3,r3,e3,rfl,hy.le hl,hr⟩
  | ex y lp=>obtain ⟨b,o,C1,r1,e1,rfl,hy,hr⟩:=h;exact ⟨b,o,C1,r1,e1,rfl,hy.le hl,hr⟩
theorem ndXs_len:∀ (l:List Ex) (lp:Nat),(ndXs l lp).length=exNs l
  | [],_=>rfl
  | .mk k o n nm ar::r,lp=>by rw [ndXs,ndX,exNs,exN,List.length_append,List.length_cons,ndXs_len ar,ndXs_len r];omega
theorem ndSs_len:∀ (l:List Stm) (lp:Nat),(ndSs l lp).length=stNs l
  | [],_=>rfl
  | .mk k nm es b e::r,lp=>by rw [ndSs,ndS,stNs,stN,List.length_append,List.length_cons,List.length_append,List.length_append,ndXs_len es,ndSs_len b,ndSs_len e,ndSs_len r];omega
def badN (p:Prg) (x:Fnc):List Nd→Int
  | []=>0
  | n::r=>if ndC p x n=0 then badN p x r else ndC p x n
def badF (p:Prg):List Fnc→Nat→Int×Int
  | [],_=>(0,0)
  | x::r,i=>if badN p x (ndSs x.body 0)=0 then badF p r (i+1) else (badN p x (ndSs x.body 0),(i:Int))
def chkF (p:Prg):Int×Int:=if (prgF p).1≠0 then prgF p else if (nameF p).1≠0 then nameF p else badF p p.funcs p.globals.length
theorem badF_at {p:Prg} {l:List Fnc} {k i:Nat} {x:Fnc} (h:l[k]?=some x):badF p (l.drop k) i=if badN p x (ndSs x.body 0)=0 then badF p (l.drop (k+1)) (i+1) else (badN p x (ndSs x.body 0),(i:Int)):=by
  obtain ⟨hk,rfl⟩:=List.getElem?_eq_some_iff.1 h
  rw [List.drop_eq_getElem_cons hk,badF]
theorem badN_zero {p:Prg} {x:Fnc}:∀ {l:List Nd},badN p x l=0→∀ nd∈l,ndC p x nd=0
  | [],_=>fun nd h=>by cases h
  | n::r,h=>fun nd hm=>by
    rw [badN] at h
    split at h
    · rename_i h1
      rcases List.mem_cons.1 hm with rfl | hm
      · exact h1
      · exact badN_zero h nd hm
    · rename_i h1;exact absurd h h1
theorem badF_zero {p:Prg}:∀ {l:List Fnc} {i:Nat},(badF p l i).1=0→badF p l i=(0,0)∧∀ x∈l,∀ nd∈ndSs x.body 0,ndC p x nd=0
  | [],_,_=>⟨rfl,fun x h=>by cases h⟩
  | y::r,i,h=>by
    rw [badF] at h ⊢
    split at h
    · rename_i h1
      obtain ⟨a,b⟩:=badF_zero h
      rw [if_pos h1]
      refine ⟨a,fun x hm=>?_⟩
      rcases List.mem_cons.1 hm with rfl | hm
      · exact badN_zero h1
      · exact b x hm
    · rename_i h1;exact absurd h h1
theorem nameF_00 {p:Prg} (h:(nameF p).1=0):nameF p=(0,0):=by
  unfold nameF at h ⊢
  split at h
  · rename_i h1;exact absurd h h1
  rename_i h1
  rw [if_neg h1]
  split at h
  · rename_i h2;exact absurd h h2
  rename_i h2
  rw [if_neg h2]
  split at h
  · cases h
  rename_i h3
  rw [if_neg h3]
  split at h
  · split at h
    · rename_i h4;rw [if_pos h4]
    · cases h
  · rfl
def OKP (p:Prg):Prop:=PV p∧nameF p=(0,0)∧∀ x∈p.funcs,∀ nd∈ndSs x.body 0,ndC p x nd=0
theorem OKP.of {p:Prg} (hu:prU p) (h:(chkF p).1=0):OKP p∧chkF p=(0,0):=by
  unfold chkF at h ⊢
  split at h
  · rename_i h1;exact absurd h h1
  rename_i h1
  split at h
  · rename_i h2;exact absurd h h2
  rename_i h2
  rw [if_neg h1,if_neg h2]
  obtain ⟨a,b⟩:=badF_zero h
  exact ⟨⟨PV.of hu (prF_shape (by simpa using h1)),nameF_00 (by simpa using h2),b⟩,a⟩
abbrev pendO (g:Option Int):Option Code:=g.map fun _=>.ret
abbrev stO (p:Prg) (x:Fnc) (nd:Nd) (g1:Option Int):Prop:=g1=if ndC p x nd=0 then none else some (ndC p x nd)
theorem run_bad {p:Prg} {x:Fnc}:∀ {l:List Nd} {g':Option Int},runN pendO (fun _ nd g1=>stO p x nd g1) none l g'→g'=if badN p x l=0 then none else some (badN p x l)
  | [],g',h=>by
    have h:g'=none:=h
    rw [h,badN,if_pos rfl]
  | n::r,g',⟨g1,h1,h2⟩=>by
    have h1:g1=if ndC p x n=0 then none else some (ndC p x n):=h1
    by_cases h3:ndC p x n=0
    · rw [if_pos h3] at h1;subst h1
      rw [show (pendO none).isNone=true from rfl,if_pos rfl] at h2
      rw [badN,if_pos h3];exact run_bad h2
    · rw [if_neg h3] at h1;subst h1
      rw [if_neg (by simp)] at h2
      subst h2
      rw [badN,if_neg h3,if_neg h3]
theorem all_ac (D:Nat) (L:Hl) (s:World) (x:Fnc) (A1 A2 A3:Option Addr) (n1 q1 n2 q2 n3 q3:Nat):AC Tryz.prog D 45 [.agg #[St x.name,.slice A1 n1 q1,.slice A2 n2 q2,.slice A3 n3 q3]] L s fun v L' s'=>L=L'∧∃ b,v=.func (.func 80) #[] #[.pointer (some ⟨b,0,none⟩)]∧CellsAt s' b 0 [St x.name,.slice A1 n1 q1,.slice A2 n2 q2,.slice A3 n3 q3]:=by
  refine (AC.pub (allO_ac D L s x A1 A2 A3 n1 q1 n2 q2 n3 q3)).mono ?_
  rintro v L1 s1 _ ⟨h1,M1,s2,⟨b,rfl,h3⟩,_,h5⟩
  exact ⟨h1,b,h3,h5 _ _ _ (List.mem_cons_self ..)⟩
theorem program_ac (D:Nat) (L:Hl) (s:World) (hG:GP s) (d:Nat) (p:Prg) (Ag Af:Option Addr) (ng cg nf cf:Nat) (hGl:Glos s Ag ng cg p.globals) (hFn:Fncs d s Af nf cf p.funcs):AC Tryz.prog D 20 [.agg #[.slice Ag ng cg,.slice Af nf cf]] L s fun v L' _=>v=.agg #[.int .i64 (chkF p).1,.int .i64 (chkF p).2]∧L=L':=by
 have hn1:=hGl.1
 have hn2:=hFn.1
 have hU:prU p:=⟨hGl.u,hFn.u⟩
 refine AC_enterR (TT:=TT) (fn:=Tryz.f20) TT_ok Tryz.func20 V Z Tryz.ntmps20 Z (rs:=[.cell 2 33]) Z [(0,_)] Z<|Ys<|Yr<|RO_boxA Z Z ?_
 intro β1 s1 h1
 refine RO_allocZ Z [_,_] Z Z ?_
 intro β2 s2 h2
 refine Yn<|Yt<|Ys<|Ys<|Yr<|RO_q (QE_ldA 1 [_,_] Z Z Z Z Z) Z<|Rc9 Z Z Z (validate_ac D _ _ (hG.le (h1.t h2)) d p Ag _ ng cg nf cf (hGl.le (h1.t h2)) (hFn.le (h1.t h2))) ?_
 rintro _ _ s3 h3 ⟨rfl,rfl⟩
 refine RO_allocZ Z [_,_] Z Z ?_
 intro β4 s4 h4
 refine RO_st 0 [_,_] Z Z Z Z Z Z Z Z Z<|Yn<|Yt<|Ys<|Yr<|RO_q (QE_ldA 0 [_,_] Z Z Z Z Z) Z<|RO_q (QE_build [] [_,_] Z Z Z Z Z Z) Z<|RO_q (QE_ane Z Z (eqFault _ _ _ _)) Z<|Yn<|Yt<|?_
 refine RC_ifN Z (fun c5=>?_) (fun c5=>?_)
 ·
  have hE:chkF p=prgF p:=if_pos (fun h=>c5 (by rw [prgF_00 h];exact ⟨rfl,rfl⟩))
  refine Ys<|Yr<|RO_q (QE_ldA 0 [_,_] Z Z Z Z Z) Z<|RO_st 1 [_,_] Z Z Z Z Z Z Z Z Z<|Yn<|Yt<|Yo<|Yu<|?_
  refine retG_mk (_::_::_::[]) L (.inr Z) (.agg (us:=[_,_]) 1 Z Z Z Z Z (.nil)) Z (h1.t h2|>.t h3|>.t h4) ⟨[],Z,List.nil_sublist _⟩ (fun sR hS2=>?_)
  exact ⟨by rw [hE];rfl,rfl⟩
 have g4:=c5
 have g14:¬ (prgF p).1≠0:=fun h=>h g4.1
 have hV:=PV.of hU (prF_shape g4.1)
 have hV1:=hV.1
 have hV2:=hV.2.1
 have hVf:=hV.2.2.2.1
 refine Yk<|Yt<|Ys<|Ys<|Yr<|RO_q (QE_ldA 2 [_,_] Z Z Z Z Z) Z<|Rc9 Z Z Z (chkN_ac D _ _ d p Ag _ ng cg nf cf (hGl.le (h1.t h2|>.t h3|>.t h4)) (hFn.le (h1.t h2|>.t h3|>.t h4)) hV) ?_
 rintro _ _ s6 h6 ⟨rfl,rfl⟩
 refine RO_allocZ Z [_,_] Z Z ?_
 intro β7 s7 h7
 refine RO_st 0 [_,_] Z Z Z Z Z Z Z Z Z<|Yn<|Yt<|Ys<|Yr<|RO_q (QE_ldA 0 [_,_] Z Z Z Z Z) Z<|RO_q (QE_build [] [_,_] Z Z Z Z Z Z) Z<|RO_q (QE_ane Z Z (eqFault _ _ _ _)) Z<|Yn<|Yt<|?_
 refine RC_ifN Z (fun c8=>?_) (fun c8=>?_)
 ·
  have hE:chkF p=nameF p:=(if_neg g14).trans (if_pos (fun h=>c8 (by rw [nameF_00 h];exact ⟨rfl,rfl⟩)))
  refine Ys<|Yr<|RO_q (QE_ldA 0 [_,_] Z Z Z Z Z) Z<|RO_st 2 [_,_] Z Z Z Z Z Z Z Z Z<|Yn<|Yt<|Yo<|Yu<|?_
  refine retG_mk (_::_::_::_::[]) L (.inr Z) (.agg (us:=[_,_]) 2 Z Z Z Z Z (.nil)) Z (h1.t h2|>.t h3|>.t h4|>.t h6|>.t h7) ⟨[],Z,List.nil_sublist _⟩ (fun sR hS2=>?_)
  exact ⟨by rw [hE];rfl,rfl⟩
 have g5:=c8
 have g20:¬ (nameF p).1≠0:=fun h=>h g5.1
 refine Yk<|Yt<|Ys<|Yr<|RO_q (QE_ldA 3 [_,_] Z Z Z Z Z) Z<|Rc9 Z Z Z (open_ac D _ _ d p Ag _ ng cg nf cf (hGl.le (h1.t h2|>.t h3|>.t h4|>.t h6|>.t h7)) (hFn.le (h1.t h2|>.t h3|>.t h4|>.t h6|>.t h7)) (name_nd g5.1).1) ?_
 rintro _ _ s9 h9 ⟨rfl,bm,rfl,hM⟩
 refine RO_allocZ Z [_,_,_] Z Z ?_
 intro β10 s10 h10
 refine RO_st 0 [_,_,_] Z Z Z Z Z Z Z Z Z<|Yn<|Yt<|Ys<|Ys<|Yr<|YqfB Z Z Z Z Z<|Yql 4 Z Z Z Z Z Z<|Yqls Z Z Z Z<|Yqm Z Z<|Yn<|Yt<|Yp<|?_
 refine RC_loopM (γ:=Nat×List Nat) (fun g=>[(1,_),(2,_),(5,_),(25,_),(26,_),(27,.int .i64 (g.1:Int))]) (fun g=>_::_::_::_::_::(g.2.map markB++L)) (fun g=>g.2.map markD) (fun g tw=>Le D s10 tw∧(g.1≤nf∧badF p p.funcs p.globals.length=badF p (p.funcs.drop g.1) (p.globals.length+g.1))) (fun g=>nf - g.1) (fun _ _ _ h hl=>⟨h.1.trans hl,h.2⟩) (0,[]) (.cons Z (.cons Z (.cons Z (.cons Z (.cons Z (.cons Z (.nil _))))))) Z Z ⟨Le.refl _,⟨Nat.zero_le _,Z⟩⟩ ?_
 intro g s11 I11
 obtain ⟨k,bs⟩:=g
 obtain ⟨hk0,hS⟩:=I11.2
 simp only at hk0 hS
 dsimp only
 refine Ys<|Yr<|Yqlt Z Z Z<|Yn<|Yt<|Ys<|?_
 refine RC_ifD Z (fun c12=>?_) (fun c12=>?_)
 ·
  have hk:k < nf:=by omega
  obtain ⟨b,off,x,B1,m1,d1,B2,m2,d2,B3,m3,d3,rfl,hx,hcx,hpx,hlx,hbx,hnl⟩:=Fncs.at_ (hFn.le (h1.t h2|>.t h3|>.t h4|>.t h6|>.t h7|>.t h9|>.t h10|>.t I11.1)) hk
  have hfx:=hVf x (List.mem_of_getElem? hx)
  refine Yk<|Yt<|Ys<|Yp<|Ys<|Yr<|Yqm Z Z<|RO_q (QE_iaN Z Z Z Z Z Z hk) Z<|RO_q (QE_ldsA Z Z Z (hcx.le (Lr D)) Z) Z<|RO_allocZ Z [_] Z Z ?_
  intro β13 s13 h13
  refine RO_allocZ Z [_,_,_,_] Z Z ?_
  intro β14 s14 h14
  refine RO_st 1 [_] Z Z Z Z Z Z Z Z Z<|RO_st 0 [_,_,_,_] Z Z Z Z Z Z Z Z Z<|Yn<|Yt<|Ys<|Yr<|RO_q (QE_ldA 0 [_,_,_,_] Z Z Z Z Z) Z<|Rc9 Z Z Z (all_ac D _ _ x B1 B2 B3 m1 d1 m2 d2 m3 d3) ?_
  rintro _ _ s15 h15 ⟨rfl,ba,rfl,hba⟩
  refine Yn<|Yt<|Yp<|?_
  refine RC_rangeA (σ:=Option Int) (α:=Nd×Option Addr×Option Addr×Nat) (fun g=>(β14,cb [St x.name,.slice B1 m1 d1,.slice B2 m2 d2,.slice B3 m3 d3] 57)::(β13,cb [.int .i64 (k:Int)] 3)::_::_::_::(β2,cb [.int .i64 (g.getD 0),.int .i64 (match g with | none=>0 | some _=>(ng:Int)+(k:Int))] 33)::_::(bs.map markB++L)) (fun g tw=>True) (fun g=>pendO g) (fun g xn g1=>stO p x xn.1 g1) (fun xn=>[.agg #[.pointer xn.2.1,.pointer xn.2.2.1,.int .i64 (xn.2.2.2:Int)]]) (fun g xn tw=>NdV tw xn.1 (.agg #[.pointer xn.2.1,.pointer xn.2.2.1,.int .i64 (xn.2.2.2:Int)])) (fun g1=>g1=if badN p x (ndSs x.body 0)=0 then none else some (badN p x (ndSs x.body 0))) (AR:=(fun xn fr A=>∃ βy,Keeps fr [(8,.pointer (some ⟨βy,0,none⟩)),(1,.pointer (some ⟨β1,0,none⟩)),(2,.pointer (some ⟨β2,0,none⟩)),(5,.pointer (some ⟨β10,0,none⟩)),(6,.pointer (some ⟨β13,0,none⟩)),(7,.pointer (some ⟨β14,0,none⟩))]∧A=[(βy,cb [.pointer xn.2.1,.pointer xn.2.2.1,.int .i64 (xn.2.2.2:Int)] 111)])) (cap:=[_]) Z none Z (trivial) Z (fun _ _ _ h _=>h) (fun g=>by cases g with
    | none=>exact .inl rfl
    | some f=>exact .inr (.inl rfl)) (fun _=>rfl) rfl ?_ ?_ ?_ ?_
  ·
   intro l16 x16 L16 s16
   refine Yr<|RO_allocZ Z [_,_,_] Z Z ?_
   intro β17 s17 h17
   refine RO_st 0 [_,_,_] Z Z Z Z Z Z Z Z Z<|Yn ?_
   exact ⟨rfl,rfl,⟨[_],⟨_,(.cons rfl (.cons rfl (.cons rfl (.cons rfl (.cons rfl (.cons rfl (.nil _))))))),rfl⟩,rfl⟩,h17⟩
  ·
   rintro l18 d18 o18 p18 g xn s18 s19 fr18 A18 h18 h19 I18 hp18 P18 ⟨βy,hK18,rfl⟩
   refine RC_sub hK18 ?_
   simp only [cQ9,nQ9]
   obtain ⟨nd,pa,pb,lp⟩:=xn
   have hN:=P18
   simp only at hN
   obtain rfl:g=none:=by cases g with
     | none=>rfl
     | some f=>cases hp18
   dsimp only
   refine Yp<|Ys<|Yr<|RO_q (QE_ldA 5 [_,_,_] Z Z Z Z Z) Z<|RO_q (QE_ldA 3 [_,_,_,_] Z Z Z Z Z) Z<|RO_q (QE_ldA 0 [_,_,_] Z Z Z Z Z) Z ?_
   refine Rc9 Z Z Z (chkNd_ac D _ _ d p Ag _ ng cg nf cf (hGl.le (h1.t h2|>.t h3|>.t h4|>.t h6|>.t h7|>.t h9|>.t h10|>.t I11.1|>.t h13|>.t h14|>.t h15|>.t h18|>.t h19)) (hFn.le (h1.t h2|>.t h3|>.t h4|>.t h6|>.t h7|>.t h9|>.t h10|>.t I11.1|>.t h13|>.t h14|>.t h15|>.t h18|>.t h19)) bm (hM.le (h10.t I11.1|>.t h13|>.t h14|>.t h15|>.t h18|>.t h19)) x B1 B2 B3 m1 d1 m2 d2 m3 d3 (hpx.le (h13.t h14|>.t h15|>.t h18|>.t h19)) (hlx.le (h13.t h14|>.t h15|>.t h18|>.t h19)) nd _ (hN.le h19)) ?_
   rintro _ _ s20 h20 ⟨rfl,rfl⟩
   refine Yqa Z Z<|Yn<|Yt<|Ys<|Yr<|Yqm Z Z<|Yqne Z Z Z<|Yn<|Yt<|?_
   refine RC_ifN Z (fun c21=>?_) (fun c21=>?_)
   ·
    have hz:¬ ndC p x nd=0:=c21
    refine Ys<|Yr<|Yqm Z Z<|Yqf0 Z Z Z Z Z<|RO_q (Wd 9 Y5) Z<|Yqls Z Z Z Z<|Yql 4 Z Z Z Z Z Z<|Yqadd Z Z Z (w64 O O)<|Rc9 Z Z Z (kfault_ac D _ _ _ _) ?_
    rintro _ _ s22 h22 ⟨rfl,rfl⟩
    refine RO_st 8 [_,_] Z Z Z Z Z Z Z Z Z<|Yn<|Yt<|Yo<|Yc<|?_
    refine ⟨some (ndC p x nd),(by simp only [stO];rw [if_neg hz]),Z,[_],Z,(h20.t h22),trivial⟩
   have hz:ndC p x nd=0:=c21
   refine Yk<|Yb<|?_
   refine ⟨none,(by simp only [stO];rw [if_pos hz]),Z,[_],Z,h20,trivial⟩
  ·
   intro l23 HH s23 h23 hY
   refine (all1_ac D _ _ HH (fun g tw=>True) (pendO) (fun g nd g1=>stO p x nd g1) l23 none ((fun _=>0)) (ndSs x.body 0).length (fun _ _ _ _=>Nat.zero_le _) (fun g s s' h hl=>h) ?_ (trivial) Z ba d x B1 B2 B3 m1 d1 m2 d2 m3 d3 (hba.le h23) (hbx.le (h13.t h14|>.t h15|>.t h23)) hfx.2.2.2.2.1 (Nat.le_of_eq (Nat.zero_add _))).mono ?_
   · intro g nd nv s2 hl2 hI2 hp2 hc2 hN2
     obtain ⟨pa,pb,lp,rfl⟩:=hN2.agg
     exact hY g (nd,pa,pb,lp) s2 (h23.trans hl2) hI2 hp2 hN2
   · rintro v L' s3 _ ⟨g',h1,h2,h3⟩
     exact ⟨g',run_bad h1,h2,h3⟩
  intro d24 g s24 h24 F24 I24
  have hF:g=if badN p x (ndSs x.body 0)=0 then none else some (badN p x (ndSs x.body 0)):=F24
  cases g with
  | some f=>
   have hbn:¬ badN p x (ndSs x.body 0)=0:=fun h=>by rw [if_pos h] at hF;cases hF
   rw [if_neg hbn] at hF
   injection hF with hF
   have hE:chkF p=(f,(ng:Int)+(k:Int)):=by
     rw [chkF,if_neg g14,if_neg g20,hS,badF_at hx,if_neg hbn,← hF,hn1];simp
   refine Yc<|Yc<|Yu<|Yu<|Yc<|Yu<|?_
   refine retG_mk (_::_::_::_::_::_::_::_::bs.map markB) L (.inr Z) (.agg (us:=[_,_]) 6 Z Z Z Z Z (.nil)) Z (h1.t h2|>.t h3|>.t h4|>.t h6|>.t h7|>.t h9|>.t h10|>.t I11.1|>.t h13|>.t h14|>.t h15|>.t h24) ⟨_::bs,Z,List.Sublist.cons_cons _ (List.Sublist.cons _ (List.Sublist.cons _ (List.Sublist.cons _ (List.Sublist.cons _ (List.Sublist.cons _ (List.Sublist.cons _ (List.Sublist.cons _ (List.Sublist.refl _))))))))⟩ (fun sR hS2=>?_)
   exact ⟨by rw [hE];rfl,rfl⟩
  | none=>
   have hbn:badN p x (ndSs x.body 0)=0:=by
     by_cases h:badN p x (ndSs x.body 0)=0
     · exact h
     · rw [if_neg h] at hF;cases hF
   refine Yb<|Yb<|Yt<|RC_perm (List.perm_append_comm_assoc [_] [_,_,_,_,_,_,_] _) ?_
   simp only [cQ9,nQ9]
   refine Yr<|Yqadd Z Z Z (w64 O O)<|Yqm Z Z<|Yn<|?_
   refine thenG_n ⟨(k+1,d24::bs),[_,_],Z,(.cons Z (.cons Z (.cons Z (.cons Z (.cons Z (.cons Z (.nil _))))))),Z,⟨(I11.1.t h13|>.t h14|>.t h15|>.t h24),⟨by simp only;omega,by simp only;rw [hS,badF_at hx,if_pos hbn];rfl⟩⟩,(by simp only;omega)⟩
 rw [List.drop_eq_nil_of_le O,badF] at hS
 have hE:chkF p=(0,0):=by rw [chkF,if_neg g14,if_neg g20,hS]
 refine Yl<|Yv<|Yv<|Yd<|Yt<|Ys<|Yr<|RO_q (QE_build [] [_,_] Z Z Z Z Z Z) Z<|RO_st 3 [_,_] Z Z Z Z Z Z Z Z Z<|Yn<|Yt<|Yo<|?_
 refine retG_mk (_::_::_::_::_::bs.map markB) L (.inr Z) (.agg (us:=[_,_]) 3 Z Z Z Z Z (.nil)) Z (h1.t h2|>.t h3|>.t h4|>.t h6|>.t h7|>.t h9|>.t h10|>.t I11.1) ⟨bs,Z,List.Sublist.cons _ (List.Sublist.cons _ (List.Sublist.cons _ (List.Sublist.cons _ (List.Sublist.cons _ (List.Sublist.refl _)))))⟩ (fun sR hS2=>?_)
 exact ⟨by rw [hE];rfl,rfl⟩
theorem wrapW (a:Int):IntKind.u32.wrap a=w32 a:=IntKind.wrap_u32 a
theorem divW {x y:Int} (hx:U32 x) (hy:U32 y):w32 (x.tdiv y)=x / y:=by
  obtain ⟨h1,h2⟩:=hx
  obtain ⟨h3,h4⟩:=hy
  rw [Int.tdiv_eq_ediv_of_nonneg h1]
  have h5:0≤x / y:=Int.ediv_nonneg h1 h3
  have h6:x / y≤x:=Int.ediv_le_self _ h1
  unfold w32;omega
theorem modW {x y:Int} (hx:U32 x):x.tmod y=x % y:=Int.tmod_eq_emod_of_nonneg hx.1
theorem QE_neg {P:Program} {TT:TyTab} {D:Nat} {fr:Fr} {ty:Nat} {K:Hl} {s0:World} {x:Operand} {t:Nat} {a:Int} (hx:lk fr x=some (.int .u32 a)):QE P TT D fr (.unOp .neg t x) ty K s0 (.int .u32 (w32 (0 - a))):=QE.pure fun _ dst pos af g ρ hρ w=>by
  have h:Op.unary .neg (.int .u32 a)=pure (.int .u32 (IntKind.u32.wrap (0 - a))):=rfl
  rw [IntKind.wrap_u32] at h
  simp [execOp,hρ x _ hx,h,w32]
theorem xor_ones {n:Nat} (h:n < 4294967296):4294967295 ^^^ n=4294967295 - n:=by
  have e:(~~~(BitVec.ofNat 32 n)).toNat=4294967295 - n:=by rw [BitVec.toNat_not,BitVec.toNat_ofNat,Nat.mod_eq_of_lt h]
  rw [← e,BitVec.not_def,BitVec.toNat_xor,BitVec.toNat_allOnes,BitVec.toNat_ofNat,Nat.mod_eq_of_lt h]
theorem QE_flip {P:Program} {TT:TyTab} {D:Nat} {fr:Fr} {ty:Nat} {K:Hl} {s0:World} {x:Operand} {t:Nat} {a:Int} (hx:lk fr x=some (.int .u32 a)) (ha:U32 a):QE P TT D fr (.unOp .xor t x) ty K s0 (.int .u32 (4294967295 - a)):=QE.pure fun _ dst pos af g ρ hρ w=>by
  have h:=run_xor32 (P:=P) (t:=t) (x:=4294967295) (y:=a) ⟨by decide,by decide⟩ ha w
  have e:Op.unary .xor (.int .u32 a)=Op.intBits .xor .u32 4294967295 a:=rfl
  have e2:binOp .xor t (.int .u32 4294967295) (.int .u32 a)=Op.intBits .xor .u32 4294967295 a:=rfl
  rw [e2] at h
  obtain ⟨n,rfl⟩:=Int.eq_ofNat_of_zero_le ha.1
  have hn:n < 4294967296:=by have:=ha.2;omega
  have e3:(((4294967295:Int).toNat ^^^ ((n:Nat):Int).toNat:Nat):Int)=4294967295 - (n:Int):=by
    show ((4294967295 ^^^ n:Nat):Int)=_
    rw [xor_ones hn];omega
  rw [e3] at h
  simp [execOp,hρ x _ hx,e,h]
def holdB (op x y:Int):Bool:=if op=1 then decide (x=0) else if op=14 then decide (x=y) else if op=15 then !decide (x=y) else if op=16 then decide (x < y) else if op=17 then decide (x≤y) else if op=18 then decide (y < x) else if op=19 then decide (y≤x) else if op=20 then (!decide (x=0) && !decide (y=0)) else (!decide (x=0) || !decide (y=0))
def opP (op x y:Int):Int:=if 14≤op∨op=1 then (if holdB op x y=true then 1 else 0) else if op=2 then w32 (0 - x) else if op=3 then 4294967295 - x else if op=4 then w32 (x * y) else if op=5 then x / y else if op=6 then x % y
  else if op=7 then (((x.toNat <<< y.toNat) % 4294967296:Nat):Int) else if op=8 then ((x.toNat >>> y.toNat:Nat):Int) else if op=9 then ((x.toNat &&& y.toNat:Nat):Int) else if op=10 then w32 (x+y) else if op=11 then w32 (x - y) else if op=12 then ((x.toNat ||| y.toNat:Nat):Int) else ((x.toNat ^^^ y.toNat:Nat):Int)
def oprF (op y:Int):Int×Int:=if op < 1∨21 < op then (4,-1) else if (op=5∨op=6)∧y=0 then (26,-3) else (0,0)
theorem holds_ac (D:Nat) (L:Hl) (s:World) (k x y:Int) (hk:k=1∨(14≤k∧k≤21)):AC Tryz.prog D 61 [.int .i64 k,.int .u32 x,.int .u32 y] L s fun v L' _=>v=.bool (holdB k x y)∧L=L':=by
 refine AC_enter (TT:=TT) (fn:=Tryz.f61) TT_ok Tryz.func61 V Z Tryz.ntmps61 Z (rs:=[.tmp 6]) Z [(0,_),(1,_),(2,_)] Z<|Sr<|At Z Z<|Zs<|Sr<|Zqm Z Z<|Nt<|Zp<|Sr<|Zqeq Z Z Z<|At Z Z<|?_
 refine JC_ifD Z (fun c1=>?_) (fun c1=>?_)
 ·
  refine Sr<|Zqm Z Z<|Zqeq Z Z Z<|At Z Z<|Zo<|Zc<|Zu<|?_
  refine retQ_mk [] L (.inr Z) (.tmp Z (.nil)) Z (Lr D) (fun sR hS2=>?_)
  refine ⟨?_,Z⟩
  simp [resV,holdB, *];done
 refine Sr<|Zqeq Z Z Z<|At Z Z<|?_
 refine JC_ifD Z (fun c2=>?_) (fun c2=>?_)
 ·
  refine Sr<|Zqm Z Z<|Zqm Z Z<|Zqeq Z Z Z<|At Z Z<|Zo<|Zc<|Zu<|?_
  refine retQ_mk [] L (.inr Z) (.tmp Z (.nil)) Z (Lr D) (fun sR hS2=>?_)
  refine ⟨?_,Z⟩
  simp [resV,holdB, *];done
 refine Sr<|Zqeq Z Z Z<|At Z Z<|?_
 refine JC_ifD Z (fun c3=>?_) (fun c3=>?_)
 ·
  refine Sr<|Zqm Z Z<|Zqm Z Z<|Zqne Z Z Z<|At Z Z<|Zo<|Zc<|Zu<|?_
  refine retQ_mk [] L (.inr Z) (.tmp Z (.nil)) Z (Lr D) (fun sR hS2=>?_)
  refine ⟨?_,Z⟩
  simp [resV,holdB, *];done
 refine Sr<|Zqeq Z Z Z<|At Z Z<|?_
 refine JC_ifD Z (fun c4=>?_) (fun c4=>?_)
 ·
  refine Sr<|Zqm Z Z<|Zqm Z Z<|Zqlt Z Z Z<|At Z Z<|Zo<|Zc<|Zu<|?_
  refine retQ_mk [] L (.inr Z) (.tmp Z (.nil)) Z (Lr D) (fun sR hS2=>?_)
  refine ⟨?_,Z⟩
  simp [resV,holdB, *];done
 refine Sr<|Zqeq Z Z Z<|At Z Z<|?_
 refine JC_ifD Z (fun c5=>?_) (fun c5=>?_)
 ·
  refine Sr<|Zqm Z Z<|Zqm Z Z<|Zqle Z Z Z<|At Z Z<|Zo<|Zc<|Zu<|?_
  refine retQ_mk [] L (.inr Z) (.tmp Z (.nil)) Z (Lr D) (fun sR hS2=>?_)
  refine ⟨?_,Z⟩
  simp [resV,holdB, *];done
 refine Sr<|Zqeq Z Z Z<|At Z Z<|?_
 refine JC_ifD Z (fun c6=>?_) (fun c6=>?_)
 ·
  refine Sr<|Zqm Z Z<|Zqm Z Z<|Zqgt Z Z Z<|At Z Z<|Zo<|Zc<|Zu<|?_
  refine retQ_mk [] L (.inr Z) (.tmp Z (.nil)) Z (Lr D) (fun sR hS2=>?_)
  refine ⟨?_,Z⟩
  simp [resV,holdB, *];done
 refine Sr<|Zqeq Z Z Z<|At Z Z<|?_
 refine JC_ifD Z (fun c7=>?_) (fun c7=>?_)
 ·
  refine Sr<|Zqm Z Z<|Zqm Z Z<|Zqge Z Z Z<|At Z Z<|Zo<|Zc<|Zu<|?_
  refine retQ_mk [] L (.inr Z) (.tmp Z (.nil)) Z (Lr D) (fun sR hS2=>?_)
  refine ⟨?_,Z⟩
  simp [resV,holdB, *];done
 refine Sr<|Zqeq Z Z Z<|At Z Z<|?_
 refine JC_ifD Z (fun c8=>?_) (fun c8=>?_)
 ·
  refine Sr<|Zqm Z Z<|Zqne Z Z Z<|Zqm Z Z<|?_
  refine JO_caseN (t:=46) Z (fun c9=>?_) (fun c9=>?_)
  ·
   refine Zg Z Z<|Zqm Z Z<|Zg Z Z<|Zqne Z Z Z<|ZqT Z Z Z<|At Z Z<|Zo<|Zc<|Zu<|?_
   refine retQ_mk [] L (.inr Z) (.tmp Z (.nil)) Z (Lr D) (fun sR hS2=>?_)
   refine ⟨?_,Z⟩
   simp [resV,holdB, *];done
  refine Wf Y4<|Wf Y4<|ZqF Z Z Z<|At Z Z<|Zo<|Zc<|Zu<|?_
  refine retQ_mk [] L (.inr Z) (.tmp Z (.nil)) Z (Lr D) (fun sR hS2=>?_)
  refine ⟨?_,Z⟩
  simp [resV,holdB, *];done
 refine Zk<|Zb<|Zt<|Sr<|Zqm Z Z<|Zqne Z Z Z<|Zqm Z Z<|?_
 refine JO_caseN (t:=52) Z (fun c10=>?_) (fun c10=>?_)
 ·
  refine Wf Y4<|Wf Y4<|ZqT Z Z Z<|At Z Z<|Zo<|?_
  refine retQ_mk [] L (.inr Z) (.tmp Z (.nil)) Z (Lr D) (fun sR hS2=>?_)
  refine ⟨?_,Z⟩
  have h21:k=21:=by omega
  simp [resV,holdB, *];done
 refine Zg Z Z<|Zqm Z Z<|Zg Z Z<|Zqne Z Z Z<|ZqF Z Z Z<|At Z Z<|Zo<|?_
 refine retQ_mk [] L (.inr Z) (.tmp Z (.nil)) Z (Lr D) (fun sR hS2=>?_)
 refine ⟨?_,Z⟩
 have h21:k=21:=by omega
 simp [resV,holdB, *];done
theorem kcompute_ac (D:Nat) (L:Hl) (s:World) (k:Int) (x y:Int) (hx:U32 x) (hy:U32 y) (hk:2≤k∧k≤13) (hz:k=5∨k=6→y≠0):AC Tryz.prog D 62 [.int .i64 k,.int .u32 x,.int .u32 y] L s fun v L' _=>v=.int .u32 (opP k x y)∧L=L':=by
 refine AC_enter (TT:=TT) (fn:=Tryz.f62) TT_ok Tryz.func62 V Z Tryz.ntmps62 Z (rs:=[.tmp 6]) Z [(0,_),(1,_),(2,_)] Z<|Sr<|At Z Z<|Zs<|Sr<|Zqm Z Z<|Nt<|Zp<|Sr<|Zqeq Z Z Z<|At Z Z<|?_
 refine JC_ifD Z (fun c1=>?_) (fun c1=>?_)
 ·
  refine Sr<|Zqm Z Z<|JO_q (QE_neg Z) Z<|At Z Z<|Zo<|Zc<|Zu<|?_
  refine retQ_mk [] L (.inr Z) (.tmp Z (.nil)) Z (Lr D) (fun sR hS2=>?_)
  refine ⟨?_,Z⟩
  have hk1:¬ (14≤k∨k=1):=by omega
  simp only [resV,opP]
  rw [if_neg hk1]
  simp [wrapW, *];done
 refine Sr<|Zqeq Z Z Z<|At Z Z<|?_
 refine JC_ifD Z (fun c2=>?_) (fun c2=>?_)
 ·
  refine Sr<|Zqm Z Z<|JO_q (QE_flip Z hx) Z<|At Z Z<|Zo<|Zc<|Zu<|?_
  refine retQ_mk [] L (.inr Z) (.tmp Z (.nil)) Z (Lr D) (fun sR hS2=>?_)
  refine ⟨?_,Z⟩
  have hk1:¬ (14≤k∨k=1):=by omega
  simp only [resV,opP]
  rw [if_neg hk1]
  simp [wrapW, *];done
 refine Sr<|Zqeq Z Z Z<|At Z Z<|?_
 refine JC_ifD Z (fun c3=>?_) (fun c3=>?_)
 ·
  refine Sr<|Zqm Z Z<|Zqm Z Z<|JO_q (QE_mul Z Z) Z<|At Z Z<|Zo<|Zc<|Zu<|?_
  refine retQ_mk [] L (.inr Z) (.tmp Z (.nil)) Z (Lr D) (fun sR hS2=>?_)
  refine ⟨?_,Z⟩
  have hk1:¬ (14≤k∨k=1):=by omega
  simp only [resV,opP]
  rw [if_neg hk1]
  simp [wrapW, *];done
 refine Sr<|Zqeq Z Z Z<|At Z Z<|?_
 refine JC_ifD Z (fun c4=>?_) (fun c4=>?_)
 ·
  refine Sr<|Zqm Z Z<|Zqm Z Z<|JO_q (QE_quo Z Z (hz (.inl As))) Z<|At Z Z<|Zo<|Zc<|Zu<|?_
  refine retQ_mk [] L (.inr Z) (.tmp Z (.nil)) Z (Lr D) (fun sR hS2=>?_)
  refine ⟨?_,Z⟩
  have hk1:¬ (14≤k∨k=1):=by omega
  simp only [resV,opP]
  rw [if_neg hk1]
  have h5:k=5:=by assumption
  simp [h5,wrapW,divW hx hy];done
 refine Sr<|Zqeq Z Z Z<|At Z Z<|?_
 refine JC_ifD Z (fun c5=>?_) (fun c5=>?_)
 ·
  refine Sr<|Zqm Z Z<|Zqm Z Z<|JO_q (QE_rem Z Z (hz (.inr As))) Z<|At Z Z<|Zo<|Zc<|Zu<|?_
  refine retQ_mk [] L (.inr Z) (.tmp Z (.nil)) Z (Lr D) (fun sR hS2=>?_)
  refine ⟨?_,Z⟩
  have hk1:¬ (14≤k∨k=1):=by omega
  simp only [resV,opP]
  rw [if_neg hk1]
  have h6:k=6:=by assumption
  simp [h6,modW hx];done
 refine Sr<|Zqeq Z Z Z<|At Z Z<|?_
 refine JC_ifD Z (fun c6=>?_) (fun c6=>?_)
 ·
  refine Sr<|Zqm Z Z<|Zqm Z Z<|JO_q (QE_bin Z Z notEq_shl (run_shl32 hx hy)) Z<|At Z Z<|Zo<|Zc<|Zu<|?_
  refine retQ_mk [] L (.inr Z) (.tmp Z (.nil)) Z (Lr D) (fun sR hS2=>?_)
  refine ⟨?_,Z⟩
  have hk1:¬ (14≤k∨k=1):=by omega
  simp only [resV,opP]
  rw [if_neg hk1]
  simp [wrapW, *];done
 refine Sr<|Zqeq Z Z Z<|At Z Z<|?_
 refine JC_ifD Z (fun c7=>?_) (fun c7=>?_)
 ·
  refine Sr<|Zqm Z Z<|Zqm Z Z<|JO_q (QE_bin Z Z notEq_shr (run_shr32 hx hy)) Z<|At Z Z<|Zo<|Zc<|Zu<|?_
  refine retQ_mk [] L (.inr Z) (.tmp Z (.nil)) Z (Lr D) (fun sR hS2=>?_)
  refine ⟨?_,Z⟩
  have hk1:¬ (14≤k∨k=1):=by omega
  simp only [resV,opP]
  rw [if_neg hk1]
  simp [wrapW, *];done
 refine Sr<|Zqeq Z Z Z<|At Z Z<|?_
 refine JC_ifD Z (fun c8=>?_) (fun c8=>?_)
 ·
  refine Sr<|Zqm Z Z<|Zqm Z Z<|JO_q (QE_bin Z Z notEq_and (run_and32 hx hy)) Z<|At Z Z<|Zo<|Zc<|Zu<|?_
  refine retQ_mk [] L (.inr Z) (.tmp Z (.nil)) Z (Lr D) (fun sR hS2=>?_)
  refine ⟨?_,Z⟩
  have hk1:¬ (14≤k∨k=1):=by omega
  simp only [resV,opP]
  rw [if_neg hk1]
  simp [wrapW, *];done
 refine Sr<|Zqeq Z Z Z<|At Z Z<|?_
 refine JC_ifD Z (fun c9=>?_) (fun c9=>?_)
 ·
  refine Sr<|Zqm Z Z<|Zqm Z Z<|JO_q (QE_add Z Z) Z<|At Z Z<|Zo<|Zc<|Zu<|?_
  refine retQ_mk [] L (.inr Z) (.tmp Z (.nil)) Z (Lr D) (fun sR hS2=>?_)
  refine ⟨?_,Z⟩
  have hk1:¬ (14≤k∨k=1):=by omega
  simp only [resV,opP]
  rw [if_neg hk1]
  simp [wrapW, *];done
 refine Sr<|Zqeq Z Z Z<|At Z Z<|?_
 refine JC_ifD Z (fun c10=>?_) (fun c10=>?_)
 ·
  refine Sr<|Zqm Z Z<|Zqm Z Z<|JO_q (QE_sub Z Z) Z<|At Z Z<|Zo<|Zc<|Zu<|?_
  refine retQ_mk [] L (.inr Z) (.tmp Z (.nil)) Z (Lr D) (fun sR hS2=>?_)
  refine ⟨?_,Z⟩
  have hk1:¬ (14≤k∨k=1):=by omega
  simp only [resV,opP]
  rw [if_neg hk1]
  simp [wrapW, *];done
 refine Sr<|Zqeq Z Z Z<|At Z Z<|?_
 refine JC_ifD Z (fun c11=>?_) (fun c11=>?_)
 ·
  refine Sr<|Zqm Z Z<|Zqm Z Z<|JO_q (QE_bin Z Z notEq_or (run_or32 hx hy)) Z<|At Z Z<|Zo<|Zc<|Zu<|?_
  refine retQ_mk [] L (.inr Z) (.tmp Z (.nil)) Z (Lr D) (fun sR hS2=>?_)
  refine ⟨?_,Z⟩
  have hk1:¬ (14≤k∨k=1):=by omega
  simp only [resV,opP]
  rw [if_neg hk1]
  simp [wrapW, *];done
 refine Zk<|Zb<|Zt<|Sr<|Zqm Z Z<|Zqm Z Z<|JO_q (QE_bin Z Z notEq_xor (run_xor32 hx hy)) Z<|At Z Z<|Zo<|?_
 refine retQ_mk [] L (.inr Z) (.tmp Z (.nil)) Z (Lr D) (fun sR hS2=>?_)
 refine ⟨?_,Z⟩
 have hk1:¬ (14≤k∨k=1):=by omega
 simp only [resV,opP]
 rw [if_neg hk1]
 simp [wrapW, *];done
theorem operate_ac (D:Nat) (L:Hl) (s:World) (k:Int) (x y:Int) (hx:U32 x) (hy:U32 y):AC Tryz.prog D 34 [.int .i64 k,.int .u32 x,.int .u32 y] L s fun v L' _=>v=.tuple #[.int .u32 (if (oprF k y).1=0 then opP k x y else 0),.agg #[.int .i64 (oprF k y).1,.int .i64 (oprF k y).2]]∧L=L':=by
 refine AC_enter (TT:=TT) (fn:=Tryz.f34) TT_ok Tryz.func34 V Z Tryz.ntmps34 Z (rs:=[.tmp 6,.cell 7 33]) Z [(0,_),(1,_),(2,_)] Z<|Sr<|Zqa Z Z<|JO_allocZ Z [_,_] Z Z ?_
 intro β1 s1 h1
 refine Nt<|Zs<|Zp<|?_
 refine JC_cutB 8 (k < 1∨21 < k) ?_ ?_
 ·
  refine Zr<|Zqm Z Z<|Zqlt Z Z Z<|Zqm Z Z<|?_
  refine JO_caseD (t:=11) Z (fun c3=>?_) (fun c3=>?_)
  ·
   refine Wf Y4<|Wf Y4<|ZqT Z Z Z<|Zqa Z Z<|Zn<|?_
   refine thenQ_n (MidB.mk (Lr D) Sb Z ((decide_eq_true O).symm))
  refine Zg Z Z<|Zqm Z Z<|Zg Z Z<|Zqgt Z Z Z<|ZqF Z Z Z<|Zqa Z Z<|Zn<|?_
  refine thenQ_n (MidB.mk (Lr D) Sb Z (decide_eq_decide.2 O))
 intro s2 h2
 refine JC_ifD Z (fun c4=>?_) (fun c4=>?_)
 ·
  have hE:oprF k y=(4,-1):=if_pos c4
  refine Sr<|Jc Z Z Z (kfault_ac D _ _ _ _) ?_
  rintro _ _ s5 h5 ⟨rfl,rfl⟩
  refine Zqa Z Z<|Wt 0 [_,_] Y9<|Nt<|Zo<|Zc<|Zu<|?_
  refine retQ_mk [_] L (.inr Z) (.tmp Z (.agg (us:=[_,_]) 0 Z Z Z Z Z (.nil))) Z (h1.t h2|>.t h5) (fun sR hS2=>?_)
  refine ⟨?_,Z⟩
  rw [hE]
  rfl
 have g8:=c4
 refine JC_cutB 16 ((k=5∨k=6)∧y=0) ?_ ?_
 ·
  refine Zr<|Zqm Z Z<|Zqeq Z Z Z<|Zqm Z Z<|?_
  refine JO_caseD (t:=19) Z (fun c7=>?_) (fun c7=>?_)
  ·
   refine Wf Y4<|Wf Y4<|ZqT Z Z Z<|Zqm Z Z<|Zg Z Z<|Zqm Z Z<|Zg Z Z<|Zqeq Z Z Z<|ZqT Z Z Z<|Zqa Z Z<|Zn<|?_
   refine thenQ_n (MidB.mk (Lr D) Sb Z (decide_eq_decide.2 O))
  refine Zg Z Z<|Zqm Z Z<|Zg Z Z<|Zqeq Z Z Z<|ZqF Z Z Z<|Zqm Z Z<|?_
  refine JO_caseD (t:=23) Z (fun c8=>?_) (fun c8=>?_)
  ·
   refine Zg Z Z<|Zqm Z Z<|Zg Z Z<|Zqeq Z Z Z<|ZqT Z Z Z<|Zqa Z Z<|Zn<|?_
   refine thenQ_n (MidB.mk (Lr D) Sb Z (decide_eq_decide.2 O))
  refine Wf Y4<|Wf Y4<|ZqF Z Z Z<|Zqa Z Z<|Zn<|?_
  refine thenQ_n (MidB.mk (Lr D) Sb Z ((decide_eq_false O).symm))
 intro s6 h6
 refine JC_ifD Z (fun c9=>?_) (fun c9=>?_)
 ·
  have hE:oprF k y=(26,-3):=(if_neg g8).trans (if_pos c9)
  refine Sr<|Jc Z Z Z (kfault_ac D _ _ _ _) ?_
  rintro _ _ s10 h10 ⟨rfl,rfl⟩
  refine Zqa Z Z<|Wt 0 [_,_] Y9<|Nt<|Zo<|Zc<|Zu<|?_
  refine retQ_mk [_] L (.inr Z) (.tmp Z (.agg (us:=[_,_]) 0 Z Z Z Z Z (.nil))) Z (h1.t h2|>.t h6|>.t h10) (fun sR hS2=>?_)
  refine ⟨?_,Z⟩
  rw [hE]
  rfl
 have g16:=c9
 have hE:oprF k y=(0,0):=(if_neg g8).trans (if_neg g16)
 refine Zk<|Zb<|Zt<|Zs<|?_
 refine JC_cutB 33 (14≤k∨k=1) ?_ ?_
 ·
  refine Zr<|Zqm Z Z<|Zqge Z Z Z<|Zqm Z Z<|?_
  refine JO_caseD (t:=30) Z (fun c12=>?_) (fun c12=>?_)
  ·
   refine Wf Y4<|Wf Y4<|ZqT Z Z Z<|Zn<|?_
   refine thenQ_n (MidB.mk (Lr D) Sb Z ((decide_eq_true O).symm))
  refine Zg Z Z<|Zqm Z Z<|Zg Z Z<|Zqeq Z Z Z<|ZqF Z Z Z<|Zn<|?_
  refine thenQ_n (MidB.mk (Lr D) Sb Z (decide_eq_decide.2 O))
 intro s11 h11
 refine JC_ifD Z (fun c13=>?_) (fun c13=>?_)
 ·
  have g33:=c13
  refine Zs<|Sr<|Zqm Z Z<|Zqm Z Z<|Zqm Z Z<|Jc Z Z Z (holds_ac D _ _ k x y O) ?_
  rintro _ _ s14 h14 ⟨rfl,rfl⟩
  refine Nt<|?_
  refine JC_if Z (fun c15=>?_) (fun c15=>?_)
  ·
   have hO:opP k x y=1:=by rw [opP,if_pos g33,if_pos c15]
   refine Sr<|JO_q (QE_build [] [_,_] Z Z Z Z Z Z) Z<|Zqa Z Z<|Wt 0 [_,_] Y9<|Nt<|Zo<|Zu<|Zu<|?_
   refine retQ_mk [_] L (.inr Z) (.tmp Z (.agg (us:=[_,_]) 0 Z Z Z Z Z (.nil))) Z (h1.t h2|>.t h6|>.t h11|>.t h14) (fun sR hS2=>?_)
   refine ⟨?_,Z⟩
   rw [hE]
   rw [hO];rfl
  have hO:opP k x y=0:=by rw [opP,if_pos g33,if_neg (by rw [c15];decide)]
  refine Zk<|Zt<|Sr<|JO_q (QE_build [] [_,_] Z Z Z Z Z Z) Z<|Zqa Z Z<|Wt 0 [_,_] Y9<|Nt<|Zo<|Zu<|?_
  refine retQ_mk [_] L (.inr Z) (.tmp Z (.agg (us:=[_,_]) 0 Z Z Z Z Z (.nil))) Z (h1.t h2|>.t h6|>.t h11|>.t h14) (fun sR hS2=>?_)
  refine ⟨?_,Z⟩
  rw [hE]
  rw [hO];rfl
 have g33:=c13
 refine Zk<|Zt<|Sr<|Zqm Z Z<|Zqm Z Z<|Zqm Z Z<|Jc Z Z Z (kcompute_ac D _ _ k x y hx hy O (fun h h0=>g16 ⟨h,h0⟩)) ?_
 rintro _ _ s16 h16 ⟨rfl,rfl⟩
 refine JO_q (QE_build [] [_,_] Z Z Z Z Z Z) Z<|Zqa Z Z<|Wt 0 [_,_] Y9<|Nt<|Zo<|?_
 refine retQ_mk [_] L (.inr Z) (.tmp Z (.agg (us:=[_,_]) 0 Z Z Z Z Z (.nil))) Z (h1.t h2|>.t h6|>.t h11|>.t h16) (fun sR hS2=>?_)
 refine ⟨?_,Z⟩
 rw [hE]
 rfl
end Go.Proofs.YtpdnijphccdiiaaGreatDoor
namespace Go.FL
open Go Go.RowKit
variable {D:Nat}
theorem put_grow {L:Hl} {s:World} {b e n:Nat} {os:Array Obj} {zs ys:List Value} {f:Array Value→Array Value} (ho:OKL D ((b,cb zs e)::L) s) (hf:(f zs.toArray).toList=ys) :
    ∃ s',Sort.grow (Sort.mapBlock (Sort.ahead (fill ((b,cb zs e)::L) s) n) b f) os=fill ((b,cb ys e)::L) s'∧OKL D ((b,cb ys e)::L) s'∧Le D s s':=by
  have e1:Sort.mapBlock (Sort.ahead (fill ((b,cb zs e)::L) s) n) b f=fill ((b,cb ys e)::L) (s.drewN n):=by
    show (Sort.mapBlock (setBlk (fill L s) b (cb zs e)) b f).drewN n=_
    rw [mapBlock_set,hf]
    exact fill_drewN ((b,cb ys e)::L) s n
  have ho':OKL D ((b,cb ys e)::L) (s.drewN n):=⟨ho.nd,fun x hx=>by
    rcases List.mem_cons.1 hx with rfl | hx
    · exact ho.dm (b,cb zs e) (List.mem_cons_self ..)
    · exact ho.dm x (List.mem_cons_of_mem _ hx)⟩
  rw [e1]
  obtain ⟨h1,h2,h3⟩:=of_grown (w':=Sort.grow (fill ((b,cb ys e)::L) (s.drewN n)) os) ho' (fill_os _ _) (fill_tape _ _) (fill_output _ _) (by rw [Sort.size_grow,fill_size];omega) ho'.nd
    (fun x hx=>by rw [Sort.heap_grow_old _ _ (by rw [fill_size];exact ho'.lt hx)];exact fill_mem ho' hx) (fun x hx=>.inl (List.mem_map.2 ⟨x,hx,rfl⟩))
    (fun k hk hn=>by rw [Sort.heap_grow_old _ _ (by rw [fill_size];exact hk)];exact fill_other hn)
  exact ⟨_,h1,h2,(Le.drewN s n).trans h3⟩
end Go.FL
namespace Go.Proofs.YtpdnijphccdiiaaGreatDoor
open Go Go.FL Go.RowKit
theorem put_iv {l m:List Int} {yc:List Value} (h:m.length=l.length):(Sort.putCells (Value.int .i64) 0 m.toArray (iv l++yc).toArray).toList=iv m++yc:=by
  apply List.ext_getElem?
  intro k
  simp only [Sort.putCells,Array.toList_mapIdx,List.getElem?_mapIdx,Nat.zero_le,true_and,Nat.zero_add,Nat.sub_zero]
  by_cases hk:k < l.length
  · rw [List.getElem?_append_left (by simp [iv,hk]),List.getElem?_append_left (by simp [iv];omega)]
    simp [iv,hk,h]
  · rw [List.getElem?_append_right (by simp [iv];omega),List.getElem?_append_right (by simp [iv];omega)]
    simp [iv,hk,h]
theorem holds_iv {D:Nat} {L:Hl} {s:World} {b e:Nat} {l:List Int} {yc:List Value} (ho:OKL D ((b,cb (iv l++yc) e)::L) s):Sort.Holds (Value.int .i64) (fill ((b,cb (iv l++yc) e)::L) s) b 0 l.toArray:=by
  have hblk:(fill ((b,cb (iv l++yc) e)::L) s).heap[b]?=some (cb (iv l++yc) e):=fill_mem ho (List.mem_cons_self ..)
  intro j hj
  have hj':j < l.length:=by simpa using hj
  refine ⟨?_,by unfold World.frozen?;rw [hblk];simp [cb]⟩
  rw [Nat.zero_add,mem_cell ho (List.mem_cons_self ..),List.getElem?_append_left (by simp [iv];omega)]
  simp [iv,hj']
theorem fnok_sort:FnOK Tryz.prog 67:=⟨_,Tryz.func67,by kernel_rfl,by kernel_rfl⟩
theorem fnok_compact:FnOK Tryz.prog 68:=⟨_,Tryz.func68,by kernel_rfl,by kernel_rfl⟩
def sortI (l:List Int):List Int:=l.mergeSort fun x y=>decide (x≤y)
theorem sort_ac (D:Nat) (L:Hl) (s:World) (e:Nat) (M:Hl) (A:Option Addr) (n c:Nat) (l:List Int) (hO:FL.Own e 1 M (.slice A n c) n (iv l)) (hb:n < 4611686018427387904):AC Tryz.prog D 67 [.slice A n c] (M++L) s fun v L' _=>∃ M',L'=M'++L∧v=.tuple #[]∧FL.Own e 1 M' (.slice A n c) n (iv (sortI l)):=by
  generalize hv:Value.slice A n c=v0 at hO
  generalize hx:iv l=xs at hO
  cases hO with
  | nil=>
    injection hv with e1 e2 e3
    subst e1;subst e3
    have:l=[]:=List.eq_nil_of_length_eq_zero (by have:=congrArg List.length hx;simpa [iv] using this)
    subst this
    refine AC.of_calls fnok_sort fun _=>(Any.slices_Sort_int_none Tryz.lays189 none 0 (fill L s)).mono fun e w' ⟨he,hw⟩=>⟨_,he,by rw [hw];exact below_refl _,fun s' _ _ _=>⟨[],Z,Z,?_⟩⟩
    simp only [sortI,List.mergeSort_nil]
    exact .nil
  | blk b cap n xs ys h1 h2 h3 h4=>
    injection hv with e1 e2 e3
    subst e1;subst e3;subst hx
    have hl:n=l.length:=by simpa [iv] using h1.symm
    subst hl
    refine ⟨fnok_sort,fun ho=>?_⟩
    refine (Any.slices_Sort_int Tryz.lays189 b 0 c l (fill ((b,cb (iv l++ys) e)::L) s) (holds_iv ho) (by rw [fill_size];exact ho.lt (List.mem_cons_self ..)) hb).mono ?_
    rintro e1 w' ⟨he,k,os,hw⟩
    obtain ⟨s',q1,q2,q3⟩:=put_grow (n:=k) (os:=os) (ys:=iv (sortI l)++ys) ho (put_iv (by simp [sortI]))
    exact ⟨_,_,s',he,hw.trans q1,q2,q3,[(b,cb (iv (sortI l)++ys) e)],rfl,rfl,.blk b c _ _ ys (by simp [iv,sortI]) (by simpa [iv,sortI] using h2) h3 h4⟩
theorem compact_le (l:List Int):(Lib.compact l).length≤l.length:=by
  rw [Lib.compact,Lib.compactUpTo,List.length_map]
  exact Nat.le_trans (List.length_filter_le _ _) (by simp)
theorem compact_ac (D:Nat) (L:Hl) (s:World) (e:Nat) (M:Hl) (A:Option Addr) (n c:Nat) (l:List Int) (hO:FL.Own e 1 M (.slice A n c) n (iv l)):AC Tryz.prog D 68 [.slice A n c] (M++L) s fun v L' _=>∃ M',L'=M'++L∧v=.slice A (Lib.compact l).length c∧FL.Own e 1 M' (.slice A (Lib.compact l).length c) (Lib.compact l).length (iv (Lib.compact l)):=by
  generalize hv:Value.slice A n c=v0 at hO
  generalize hx:iv l=xs at hO
  cases hO with
  | nil=>
    injection hv with e1 e2 e3
    subst e1;subst e3
    have:l=[]:=List.eq_nil_of_length_eq_zero (by have:=congrArg List.length hx;simpa [iv] using this)
    subst this
    exact AC.of_calls fnok_compact fun _=>(Any.slices_Compact_int_empty Tryz.laysNm220 none 0 (fill L s)).mono fun e w' ⟨he,hw⟩=>⟨_,he,by rw [hw];exact below_refl _,fun s' _ _ _=>⟨[],rfl,rfl,.nil⟩⟩
  | blk b cap n xs ys h1 h2 h3 h4=>
    injection hv with e1 e2 e3
    subst e1;subst e3;subst hx
    have hl:n=l.length:=by simpa [iv] using h1.symm
    subst hl
    have hle:=compact_le l
    refine ⟨fnok_compact,fun ho=>?_⟩
    refine (Any.slices_Compact_int Tryz.laysNm220 b 0 c l (fill ((b,cb (iv l++ys) e)::L) s) (holds_iv ho) O h3).mono ?_
    rintro e1 w' ⟨he,k,hw⟩
    obtain ⟨s',q1,q2,q3⟩:=put_grow (n:=k) (os:=#[]) (ys:=iv (Lib.compact l++List.replicate (l.length - (Lib.compact l).length) 0)++ys) ho (put_iv (by simp;omega))
    rw [Sort.grow_empty] at q1
    have he2:iv (Lib.compact l++List.replicate (l.length - (Lib.compact l).length) 0)++ys=iv (Lib.compact l)++(iv (List.replicate (l.length - (Lib.compact l).length) 0)++ys):=by simp [iv]
    rw [he2] at q1 q2
    have h9:l.length+ys.length=c * 1:=by simpa [iv] using h2
    exact ⟨_,_,s',he,hw.trans q1,q2,q3,[(b,_)],rfl,rfl,.blk b c _ _ _ (by simp [iv]) (by simp [iv];omega) O h4⟩
def Its (s:World) (A:Option Addr) (n c:Nat) (l:List Int):Prop:=Sl 1 (fun _ x cs=>cs=[.int .i64 x]) s A n c l
theorem Its.le {D:Nat} {s s':World} {A:Option Addr} {n c:Nat} {l:List Int} (h:Its s A n c l) (hl:Le D s s'):Its s' A n c l:=Sl.le (fun _ _ h=>h) h hl
theorem Its.at_ {s:World} {A:Option Addr} {n c k:Nat} {l:List Int} (h:Its s A n c l) (hk:k < n):∃ b off x,A=some ⟨b,off,none⟩∧l[k]?=some x∧CellsAt s b (off+k) [.int .i64 x]∧True:=by
  have hl:k < l.length:=by rw [← h.1];exact hk
  obtain ⟨b,off,cs,h1,h2,_,rfl⟩:=h.2.2.2 k l[k] (List.getElem?_eq_getElem hl)
  exact ⟨b,off,l[k],h1,List.getElem?_eq_getElem hl,by simpa using h2,trivial⟩
theorem all2_mapI {α β:Type} {R:α→β→Prop} (f:α→β) (l:List α) (h:∀ x∈l,R x (f x)):All2 R l (l.map f):=by
  induction l with
  | nil=>exact All2.nil
  | cons x l ih=>exact All2.cons (h x (List.mem_cons_self ..)) (ih fun y hy=>h y (List.mem_cons_of_mem _ hy))
theorem iv_flat (l:List Int):iv l=(l.map fun x=>[Value.int .i64 x]).flatten:=by
  induction l with
  | nil=>rfl
  | cons x l ih=>simp [iv] at ih ⊢;exact ih
theorem Own.its {e:Nat} {A:Hl} {Ad:Option Addr} {n c:Nat} {l:List Int} {s:World} (h:FL.Own e 1 A (.slice Ad n c) n (iv l)) (hp:Pub A s) (hn:n=l.length):Its s Ad n c l:=
  Own.rows (R:=fun _ (x:Int) cs=>cs=[Value.int .i64 x]) (iv_flat l▸h) hp (all2_mapI (fun (x:Int)=>[Value.int .i64 x]) l fun x hx=>⟨rfl,rfl⟩) hn
theorem iv_snoc (l:List Int) (x:Int):iv (l++[x])=iv l++[.int .i64 x]:=by simp [iv]
theorem compact_spec {l:List Int} (hs:l.Pairwise (·≤·)):(Lib.compact l).Pairwise (· < ·)∧∀ x,x∈Lib.compact l↔x∈l:=by
  have hat:∀ i j,i≤j→j < l.length→l.toArray[i]! ≤ l.toArray[j]! := fun i j hij hj=>by
    rw [getElem!_pos l.toArray i (by simpa using Nat.lt_of_le_of_lt hij hj),getElem!_pos l.toArray j (by simpa using hj)]
    rcases Nat.lt_or_ge i j with h | h
    · exact (List.pairwise_iff_getElem.1 hs) i j O hj h
    · obtain rfl:i=j:=by omega
      exact Int.le_refl _
  have hmem:∀ j,j < l.length→∃ i,i < l.length∧Lib.keeps l.toArray i=true∧l.toArray[i]! = l.toArray[j]! := by
    intro j
    induction j with
    | zero=>exact fun h=>⟨0,h,by simp [Lib.keeps],rfl⟩
    | succ j ih=>
      intro h
      by_cases hk:Lib.keeps l.toArray (j+1)=true
      · exact ⟨j+1,h,hk,rfl⟩
      · obtain ⟨i,h1,h2,h3⟩:=ih O
        have h4:l.toArray[j+1]! = l.toArray[j]! := by
          simp only [Lib.keeps,decide_eq_true_eq,not_or,Nat.add_sub_cancel] at hk
          exact Decidable.not_not.1 hk.2
        exact ⟨i,h1,h2,h3.trans h4.symm⟩
  constructor
  · rw [Lib.compact,Lib.compactUpTo,List.pairwise_map]
    refine List.Pairwise.imp_of_mem ?_ ((List.pairwise_lt_range (n:=l.length)).filter _)
    intro i j hi hj hij
    obtain ⟨hj1,hj2⟩:=List.mem_filter.1 hj
    have hjl:j < l.length:=List.mem_range.1 hj1
    simp only [Lib.keeps,decide_eq_true_eq] at hj2
    rcases hj2 with h | h
    · omega
    · have a1:=hat i (j - 1) O O
      have a2:=hat (j - 1) j O hjl
      omega
  · intro x
    rw [Lib.compact,Lib.compactUpTo,List.mem_map]
    constructor
    · rintro ⟨i,hi,rfl⟩
      have hil:i < l.length:=List.mem_range.1 (List.mem_filter.1 hi).1
      rw [getElem!_pos l.toArray i (by simpa using hil)]
      simp
    · intro hx
      obtain ⟨j,hj,rfl⟩:=List.mem_iff_getElem.1 hx
      obtain ⟨i,h1,h2,h3⟩:=hmem j hj
      refine ⟨i,List.mem_filter.2 ⟨List.mem_range.2 h1,h2⟩,h3.trans ?_⟩
      rw [getElem!_pos l.toArray j (by simpa using hj)];simp
theorem sortI_spec (l:List Int):(sortI l).Pairwise (·≤·)∧∀ x,x∈sortI l↔x∈l:=by
  refine ⟨?_,fun x=>(List.mergeSort_perm l _).mem_iff⟩
  have h:=List.pairwise_mergeSort (le:=fun (x y:Int)=>decide (x≤y)) (fun a b c h1 h2=>by simp only [decide_eq_true_eq] at *;omega) (fun a b=>by simp only [Bool.or_eq_true,decide_eq_true_eq];omega) l
  exact h.imp fun h=>by simpa using h
open Go.FL
attribute [local irreducible] JC JO JA JB thenQ blockQ retQ AC fill CellsAt QE Ev Mid
def resP (p:Prg) (fi:Int) (nm:Str):(Int×Int)×(Int×Int):=if (chkF p).1≠0 then ((0,0),chkF p) else if fi < 0∨(p.funcs.length:Int)≤fi then ((0,0),(4,-2)) else match p.funcs[fi.toNat]? with
  | some x=>if (meanP p x nm).2=false then ((0,0),(12,-3)) else ((meanP p x nm).1,(0,0))
  | none=>((0,0),(4,-2))
theorem res_bad {p:Prg} {fi:Int} {nm:Str} (h:(chkF p).1≠0):resP p fi nm=((0,0),chkF p):=if_pos h
theorem res_far {p:Prg} {fi:Int} {nm:Str} (h:¬ (chkF p).1≠0) (h2:fi < 0∨(p.funcs.length:Int)≤fi):resP p fi nm=((0,0),(4,-2)):=(if_neg h).trans (if_pos h2)
theorem res_at {p:Prg} {j:Nat} {x:Fnc} {nm:Str} (h:¬ (chkF p).1≠0) (hx:p.funcs[j]?=some x):resP p (j:Int) nm=if (meanP p x nm).2=false then ((0,0),(12,-3)) else ((meanP p x nm).1,(0,0)):=by
  have hl:=(List.getElem?_eq_some_iff.1 hx).1
  rw [resP,if_neg h,if_neg O,Int.toNat_natCast,hx]
theorem chk_00 {p:Prg} (hu:prU p) (h:(chkF p).1=0):chkF p=(0,0):=(OKP.of hu h).2
theorem use_ac (D:Nat) (L:Hl) (s:World) (nd:Nd) (nv:Value) (hN:NdV s nd nv):AC Tryz.prog D 66 [nv] L s fun v L' _=>v=.agg #[St (nd.use).1,.int .i64 (nd.use).2.1,.int .i64 (nd.use).2.2]∧L=L':=by
  cases nd with
  | st y lp=>obtain ⟨b,o,C1,r1,e1,C2,r2,e2,C3,r3,e3,rfl,hy,hr⟩:=hN;exact use_s D L s y b o C1 C2 C3 r1 e1 r2 e2 r3 e3 hy hr _
  | ex y lp=>obtain ⟨b,o,C1,r1,e1,rfl,hy,hr⟩:=hN;exact use_e D L s y b o C1 r1 e1 hy hr _
theorem resolve_ac (D:Nat) (L:Hl) (s:World) (hG:GP s) (d:Nat) (p:Prg) (Ag Af:Option Addr) (ng cg nf cf:Nat) (hGl:Glos s Ag ng cg p.globals) (hFn:Fncs d s Af nf cf p.funcs) (fi:Int) (nm:List UInt8):AC Tryz.prog D 32 [.agg #[.slice Ag ng cg,.slice Af nf cf],.int .i64 fi,St nm] L s fun v L' _=>v=.tuple #[.agg #[.int .i64 (resP p fi nm).1.1,.int .i64 (resP p fi nm).1.2],.agg #[.int .i64 (resP p fi nm).2.1,.int .i64 (resP p fi nm).2.2]]∧L=L':=by
 have hn1:=hGl.1
 have hn2:=hFn.1
 have hU:prU p:=⟨hGl.u,hFn.u⟩
 refine AC_enter (TT:=TT) (fn:=Tryz.f32) TT_ok Tryz.func32 V Z Tryz.ntmps32 Z (rs:=[.cell 6 79,.cell 7 33]) Z [(0,_),(1,_),(2,_)] Z<|Sr<|JO_boxA Z Z ?_
 intro β1 s1 h1
 refine JO_allocZ Z [_,_] Z Z ?_
 intro β2 s2 h2
 refine JO_allocZ Z [_,_] Z Z ?_
 intro β3 s3 h3
 refine Nt<|Zs<|Sr<|JO_q (QE_ldA 2 [_,_] Z Z Z Z Z) Z<|Jc Z Z Z (program_ac D _ _ (hG.le (h1.t h2|>.t h3)) d p Ag _ ng cg nf cf (hGl.le (h1.t h2|>.t h3)) (hFn.le (h1.t h2|>.t h3))) ?_
 rintro _ _ s4 h4 ⟨rfl,rfl⟩
 refine JO_allocZ Z [_,_] Z Z ?_
 intro β5 s5 h5
 refine Wt 0 [_,_] Y9<|Nt<|Sr<|JO_q (QE_ldA 0 [_,_] Z Z Z Z Z) Z<|JO_q (QE_build [] [_,_] Z Z Z Z Z Z) Z<|JO_q (QE_ane Z Z (eqFault _ _ _ _)) Z<|Nt<|?_
 refine JC_ifN Z (fun c6=>?_) (fun c6=>?_)
 ·
  have hE:resP p fi nm=((0,0),chkF p):=res_bad (fun h=>c6 (by rw [chk_00 hU h];exact ⟨rfl,rfl⟩))
  refine Zs<|JC_drawE drawsMixed 4 Z [2,1] (by intro x hx;exact eraseAll_mem hx) ?_
  intro s7 h7
  refine za 0 Z (QE_build [] [_,_] Z Z Z Z Z Z) Z<|za 1 Z (QE_ldA 0 [_,_] Z Z Z Z Z) Z<|JA_1 2 V<|Wu Z trivial 2 [_,_] Y9 (fun _ hx=>sub_mem (sbY (sbN (sbY (sbE _)))) hx)<|JA_1 3 V<|Wu Z trivial 1 [_,_] Y9 (fun _ hx=>sub_mem (sbY (sbN (sbY (sbE _)))) hx)<|JA_done V<|Zt<|Zo<|Zu<|?_
  refine retQ_mk [_,_,_,_] L (.inr Z) (.agg (us:=[_,_]) 2 Z Z Z Z Z (.agg (us:=[_,_]) 1 Z Z Z Z Z (.nil))) Z (h1.t h2|>.t h3|>.t h4|>.t h5|>.t h7) (fun sR hS2=>?_)
  exact ⟨by rw [hE];rfl,rfl⟩
 have g4:=c6
 have g14:¬ (chkF p).1≠0:=fun h=>h g4.1
 obtain ⟨hOK,hz0⟩:=OKP.of hU g4.1
 have hV:=hOK.1
 have hV1:=hV.1
 have hV2:=hV.2.1
 have hVf:=hV.2.2.2.1
 have hND:=(name_nd (p:=p) (by rw [hOK.2.1])).1
 refine Zk<|Zt<|Zs<|?_
 refine JC_cutB 26 (fi < 0∨(nf:Int)≤fi) ?_ ?_
 ·
  refine Zr<|Zqm Z Z<|Zqlt Z Z Z<|Zqm Z Z<|?_
  refine JO_caseD (t:=20) Z (fun c9=>?_) (fun c9=>?_)
  ·
   refine Wf Y4<|Wf Y4<|Wf Y4<|Wf Y4<|Wf Y4<|ZqT Z Z Z<|Zn<|?_
   refine thenQ_n (MidB.mk (Lr D) Sb Z ((decide_eq_true O).symm))
  refine Zg Z Z<|Zqm Z Z<|Zg Z Z<|Wb Y5<|Zg Z Z<|Wl 3 Y6<|Zg Z Z<|Ws Y4<|Zg Z Z<|Zqge Z Z Z<|ZqF Z Z Z<|Zn<|?_
  refine thenQ_n (MidB.mk (Lr D) Sb Z (decide_eq_decide.2 O))
 intro s8 h8
 refine JC_ifD Z (fun c10=>?_) (fun c10=>?_)
 ·
  have hE:=res_far (nm:=nm) g14 (by rw [← hn2];exact c10)
  refine Sr<|JO_q (QE_build [] [_,_] Z Z Z Z Z Z) Z<|Jc Z Z Z (kfault_ac D _ _ _ _) ?_
  rintro _ _ s11 h11 ⟨rfl,rfl⟩
  refine Wt 2 [_,_] Y9<|Wt 1 [_,_] Y9<|Nt<|Zo<|Zu<|?_
  refine retQ_mk [_,_,_,_] L (.inr Z) (.agg (us:=[_,_]) 2 Z Z Z Z Z (.agg (us:=[_,_]) 1 Z Z Z Z Z (.nil))) Z (h1.t h2|>.t h3|>.t h4|>.t h5|>.t h8|>.t h11) (fun sR hS2=>?_)
  exact ⟨by rw [hE];rfl,rfl⟩
 obtain ⟨j,rfl⟩:=Int.eq_ofNat_of_zero_le (show 0≤fi by omega)
 have hk:j < nf:=by omega
 obtain ⟨b,off,x,B1,m1,d1,B2,m2,d2,B3,m3,d3,rfl,hx,hcx,hpx,hlx,hbx,hnl⟩:=Fncs.at_ (hFn.le (h1.t h2|>.t h3|>.t h4|>.t h5|>.t h8)) hk
 have hfx:=hVf x (List.mem_of_getElem? hx)
 have hE9:=res_at (nm:=nm) g14 hx
 refine Zk<|Zt<|Zs<|JC_draw drawsMixed 15 Z _ (fun _ h=>h) ?_
 intro s12 h12
 refine za 0 Z (QE_ldA 3 [_,_] Z Z Z Z Z) Z<|za 2 Z (We Y4) Z<|za 3 Z (Wd 3 Y5) Z<|za 4 Z (QE_mv Z) Z<|za 5 Z (QE_iaN Z Z Z Z Z Z hk) Z<|za 6 Z (QE_ldsA Z Z Z (hcx.le h12) Z) Z<|za 7 Z (QE_mv Z) Z ?_
 refine JA_2 1 12 V ?_ ?_
 ·
  refine Jb Z trivial Z Z Z (open_ac D _ _ d p Ag _ ng cg nf cf (hGl.le (h1.t h2|>.t h3|>.t h4|>.t h5|>.t h8|>.t h12)) (hFn.le (h1.t h2|>.t h3|>.t h4|>.t h5|>.t h8|>.t h12)) hND) ?_
  rintro _ _ s13 h13 ⟨rfl,bm,rfl,hM⟩
  refine ⟨fun _ _ h=>h,?_⟩
  refine JA_2 8 12 V ?_ ?_
  ·
   refine Jb Z trivial Z Z Z (mean_ac D _ _ p Ag _ ng cg nf cf bm (hM.le (Lr D)) x B1 B2 B3 m1 d1 m2 d2 m3 d3 (hpx.le (h12.t h13)) (hlx.le (h12.t h13)) nm) ?_
   rintro _ _ s14 h14 ⟨rfl,rfl⟩
   refine ⟨fun _ _ h=>h,?_⟩
   refine za 9 Z (QE_mv Z) Z<|za 10 Z (QE_ext Z Z) Z<|za 11 Z (QE_ext Z Z) Z<|JA_1 12 V<|JB_alloc Z trivial Z [_,_] Z Z ?_
   intro β15 s15 h15
   refine JA_1 13 V<|Wu Z trivial 0 [_,_] Y9 (fun _ hx=>sub_mem (sbY (sbY (sbY (sbY (sbE _))))) hx)<|za 14 Z (QE_as Z) Z<|JA_done V<|Zt<|Zs<|Sr<|Zqm Z Z<|Zqno Z Z<|Nt<|?_
   refine JC_ifM Z (fun c16=>?_) (fun c16=>?_)
   ·
    have hE:resP p (j:Int) nm=((0,0),(12,-3)):=by rw [hE9,if_pos c16]
    refine Sr<|JO_q (QE_build [] [_,_] Z Z Z Z Z Z) Z<|Jc Z Z Z (kfault_ac D _ _ _ _) ?_
    rintro _ _ s17 h17 ⟨rfl,rfl⟩
    refine Wt 3 [_,_] Y9<|Wt 2 [_,_] Y9<|Nt<|Zo<|Zu<|?_
    refine retQ_mk [_,_,_,_,_] L (.inr Z) (.agg (us:=[_,_]) 3 Z Z Z Z Z (.agg (us:=[_,_]) 2 Z Z Z Z Z (.nil))) Z (h1.t h2|>.t h3|>.t h4|>.t h5|>.t h8|>.t h12|>.t h13|>.t h14|>.t h15|>.t h17) (fun sR hS2=>?_)
    exact ⟨by rw [hE];rfl,rfl⟩
   have hE:resP p (j:Int) nm=((meanP p x nm).1,(0,0)):=by rw [hE9,if_neg (by rw [c16];decide)]
   refine Zk<|Zt<|Sr<|JO_q (QE_ldA 0 [_,_] Z Z Z Z Z) Z<|JO_q (QE_build [] [_,_] Z Z Z Z Z Z) Z<|Wt 3 [_,_] Y9<|Wt 2 [_,_] Y9<|Nt<|Zo<|?_
   refine retQ_mk [_,_,_,_,_] L (.inr Z) (.agg (us:=[_,_]) 3 Z Z Z Z Z (.agg (us:=[_,_]) 2 Z Z Z Z Z (.nil))) Z (h1.t h2|>.t h3|>.t h4|>.t h5|>.t h8|>.t h12|>.t h13|>.t h14|>.t h15) (fun sR hS2=>?_)
   exact ⟨by rw [hE];rfl,rfl⟩
  refine JB_alloc Z trivial Z [_,_] Z Z ?_
  intro β18 s18 h18
  refine JA_1 8 V<|Jb Z trivial Z Z Z (mean_ac D _ _ p Ag _ ng cg nf cf bm (hM.le h18) x B1 B2 B3 m1 d1 m2 d2 m3 d3 (hpx.le (h12.t h13|>.t h18)) (hlx.le (h12.t h13|>.t h18)) nm) ?_
  rintro _ _ s19 h19 ⟨rfl,rfl⟩
  refine ⟨fun _ _ h=>h,?_⟩
  refine za 9 Z (QE_mv Z) Z<|za 10 Z (QE_ext Z Z) Z<|za 11 Z (QE_ext Z Z) Z<|JA_1 13 V<|Wu Z trivial 0 [_,_] Y9 (fun _ hx=>sub_mem (sbY (sbY (sbY (sbY (sbE _))))) hx)<|za 14 Z (QE_as Z) Z<|JA_done V<|Zt<|Zs<|Sr<|Zqm Z Z<|Zqno Z Z<|Nt<|?_
  refine JC_ifM Z (fun c20=>?_) (fun c20=>?_)
  ·
   have hE:resP p (j:Int) nm=((0,0),(12,-3)):=by rw [hE9,if_pos c20]
   refine Sr<|JO_q (QE_build [] [_,_] Z Z Z Z Z Z) Z<|Jc Z Z Z (kfault_ac D _ _ _ _) ?_
   rintro _ _ s21 h21 ⟨rfl,rfl⟩
   refine Wt 3 [_,_] Y9<|Wt 2 [_,_] Y9<|Nt<|Zo<|Zu<|?_
   refine retQ_mk [_,_,_,_,_] L (.inr Z) (.agg (us:=[_,_]) 3 Z Z Z Z Z (.agg (us:=[_,_]) 2 Z Z Z Z Z (.nil))) Z (h1.t h2|>.t h3|>.t h4|>.t h5|>.t h8|>.t h12|>.t h13|>.t h18|>.t h19|>.t h21) (fun sR hS2=>?_)
   exact ⟨by rw [hE];rfl,rfl⟩
  have hE:resP p (j:Int) nm=((meanP p x nm).1,(0,0)):=by rw [hE9,if_neg (by rw [c20];decide)]
  refine Zk<|Zt<|Sr<|JO_q (QE_ldA 0 [_,_] Z Z Z Z Z) Z<|JO_q (QE_build [] [_,_] Z Z Z Z Z Z) Z<|Wt 3 [_,_] Y9<|Wt 2 [_,_] Y9<|Nt<|Zo<|?_
  refine retQ_mk [_,_,_,_,_] L (.inr Z) (.agg (us:=[_,_]) 3 Z Z Z Z Z (.agg (us:=[_,_]) 2 Z Z Z Z Z (.nil))) Z (h1.t h2|>.t h3|>.t h4|>.t h5|>.t h8|>.t h12|>.t h13|>.t h18|>.t h19) (fun sR hS2=>?_)
  exact ⟨by rw [hE];rfl,rfl⟩
 refine JB_alloc Z trivial Z [_,_] Z Z ?_
 intro β22 s22 h22
 refine JA_1 1 V<|Jb Z trivial Z Z Z (open_ac D _ _ d p Ag _ ng cg nf cf (hGl.le (h1.t h2|>.t h3|>.t h4|>.t h5|>.t h8|>.t h12|>.t h22)) (hFn.le (h1.t h2|>.t h3|>.t h4|>.t h5|>.t h8|>.t h12|>.t h22)) hND) ?_
 rintro _ _ s23 h23 ⟨rfl,bm,rfl,hM⟩
 refine ⟨fun _ _ h=>h,?_⟩
 refine JA_1 8 V<|Jb Z trivial Z Z Z (mean_ac D _ _ p Ag _ ng cg nf cf bm (hM.le (Lr D)) x B1 B2 B3 m1 d1 m2 d2 m3 d3 (hpx.le (h12.t h22|>.t h23)) (hlx.le (h12.t h22|>.t h23)) nm) ?_
 rintro _ _ s24 h24 ⟨rfl,rfl⟩
 refine ⟨fun _ _ h=>h,?_⟩
 refine za 9 Z (QE_mv Z) Z<|za 10 Z (QE_ext Z Z) Z<|za 11 Z (QE_ext Z Z) Z<|JA_1 13 V<|Wu Z trivial 0 [_,_] Y9 (fun _ hx=>sub_mem (sbY (sbY (sbY (sbY (sbE _))))) hx)<|za 14 Z (QE_as Z) Z<|JA_done V<|Zt<|Zs<|Sr<|Zqm Z Z<|Zqno Z Z<|Nt<|?_
 refine JC_ifM Z (fun c25=>?_) (fun c25=>?_)
 ·
  have hE:resP p (j:Int) nm=((0,0),(12,-3)):=by rw [hE9,if_pos c25]
  refine Sr<|JO_q (QE_build [] [_,_] Z Z Z Z Z Z) Z<|Jc Z Z Z (kfault_ac D _ _ _ _) ?_
  rintro _ _ s26 h26 ⟨rfl,rfl⟩
  refine Wt 3 [_,_] Y9<|Wt 2 [_,_] Y9<|Nt<|Zo<|Zu<|?_
  refine retQ_mk [_,_,_,_,_] L (.inr Z) (.agg (us:=[_,_]) 3 Z Z Z Z Z (.agg (us:=[_,_]) 2 Z Z Z Z Z (.nil))) Z (h1.t h2|>.t h3|>.t h4|>.t h5|>.t h8|>.t h12|>.t h22|>.t h23|>.t h24|>.t h26) (fun sR hS2=>?_)
  exact ⟨by rw [hE];rfl,rfl⟩
 have hE:resP p (j:Int) nm=((meanP p x nm).1,(0,0)):=by rw [hE9,if_neg (by rw [c25];decide)]
 refine Zk<|Zt<|Sr<|JO_q (QE_ldA 0 [_,_] Z Z Z Z Z) Z<|JO_q (QE_build [] [_,_] Z Z Z Z Z Z) Z<|Wt 3 [_,_] Y9<|Wt 2 [_,_] Y9<|Nt<|Zo<|?_
 refine retQ_mk [_,_,_,_,_] L (.inr Z) (.agg (us:=[_,_]) 3 Z Z Z Z Z (.agg (us:=[_,_]) 2 Z Z Z Z Z (.nil))) Z (h1.t h2|>.t h3|>.t h4|>.t h5|>.t h8|>.t h12|>.t h22|>.t h23|>.t h24) (fun sR hS2=>?_)
 exact ⟨by rw [hE];rfl,rfl⟩
def mnI (p:Prg) (x:Fnc) (kd:Int) (nd:Nd):List Int:=if nd.use.2.1=0 then [] else if (meanP p x nd.use.1).1.1=kd then [(meanP p x nd.use.1).1.2] else []
theorem mnI_le {p:Prg} {x:Fnc} {kd:Int} {nd:Nd}:(mnI p x kd nd).length≤1:=by
  unfold mnI;split
  · simp
  · split <;> simp
def msP (p:Prg) (x:Fnc) (kd:Int):List Int:=Lib.compact (sortI ((ndSs x.body 0).flatMap (mnI p x kd)))
theorem msP_spec (p:Prg) (x:Fnc) (kd:Int):(msP p x kd).Pairwise (· < ·)∧∀ i,i∈msP p x kd↔∃ nd∈ndSs x.body 0,i∈mnI p x kd nd:=by
  have h1:=sortI_spec ((ndSs x.body 0).flatMap (mnI p x kd))
  have h2:=compact_spec h1.1
  exact ⟨h2.1,fun i=>by rw [msP,h2.2,h1.2,List.mem_flatMap]⟩
abbrev MnG:=Value×Hl×List Int
theorem run_mn {p:Prg} {x:Fnc} {kd:Int}:∀ {l:List Nd} {g g':MnG},runN (fun _:MnG=>none) (fun g nd g1=>g1.2.2=g.2.2++mnI p x kd nd) g l g'→g'.2.2=g.2.2++l.flatMap (mnI p x kd)
  | [],g,g',h=>by
    have h:g'=g:=h
    subst h;simp
  | n::r,g,g',⟨g1,h1,h2⟩=>by
    have h1:g1.2.2=g.2.2++mnI p x kd n:=h1
    have h2:runN (fun _:MnG=>none) (fun g nd g1=>g1.2.2=g.2.2++mnI p x kd nd) g1 r g':=h2
    rw [run_mn h2,h1,List.flatMap_cons,List.append_assoc]
def LsR (s:World) (l:List Int) (v:Value):Prop:=∃ A n c,v=.slice A n c∧Its s A n c l
theorem LsR.le {D:Nat} {s s':World} {l:List Int} {v:Value} (h:LsR s l v) (hl:Le D s s'):LsR s' l v:=by
  obtain ⟨A,n,c,h1,h2⟩:=h
  exact ⟨A,n,c,h1,h2.le hl⟩
theorem meaningsO_ac (D:Nat) (L:Hl) (s:World) (p:Prg) (Ag Af:Option Addr) (ng cg nf cf bm d:Nat) (hM:NmOK s bm p) (x:Fnc) (B1 B2 B3:Option Addr) (m1 d1 m2 d2 m3 d3:Nat) (hpx:Strs s B1 m1 d1 x.params) (hlx:Strs s B2 m2 d2 x.locals) (hbx:Stms d s B3 m3 d3 x.body) (hfx:fnV x) (kd:Int):AC Tryz.prog D 40 [.agg #[.slice Ag ng cg,.slice Af nf cf,.map (some bm)],.agg #[St x.name,.slice B1 m1 d1,.slice B2 m2 d2,.slice B3 m3 d3],.int .i64 kd] L s fun v L' s'=>∃ M',L'=M'++L∧∀ s2,Le D s' s2→Pub M' s2→LsR s2 (msP p x kd) v:=by
 have hbl:(ndSs x.body 0).length≤2000:=by rw [ndSs_len];exact hfx.2.2.2.2.2
 refine AC_enterR (TT:=TT) (fn:=Tryz.f40) TT_ok Tryz.func40 V Z Tryz.ntmps40 Z (rs:=[.tmp 6]) Z [(0,_),(1,_),(2,_)] Z<|Ys<|Yr<|RO_boxA Z Z ?_
 intro β1 s1 h1
 refine RO_boxA Z Z ?_
 intro β2 s2 h2
 refine RO_box Z Z Z ?_
 intro β3 s3 h3
 refine Yqa Z Z<|Yn<|Yt<|Ys<|Yr<|RO_allocZ Z [_] Z Z ?_
 intro β4 s4 h4
 refine Yn<|Yt<|Ys<|Ys<|Yr<|RO_q (QE_ldA 2 [_,_,_,_] Z Z Z Z Z) Z<|Rc9 Z Z Z (all_ac D _ _ x B1 B2 B3 m1 d1 m2 d2 m3 d3) ?_
 rintro _ _ s5 h5 ⟨rfl,ba,rfl,hba⟩
 refine Yn<|Yt<|Yp<|?_
 refine RC_rangeA (σ:=MnG) (α:=Nd×Option Addr×Option Addr×Nat) (fun g=>(β4,cb [g.1] 91)::_::_::_::(g.2.1++L)) (fun g tw=>FL.Own 3 1 g.2.1 g.1 g.2.2.length (iv g.2.2)∧g.2.2.length≤2000) (fun g=>none) (fun g xn g1=>g1.2.2=g.2.2++mnI p x kd xn.1) (fun xn=>[.agg #[.pointer xn.2.1,.pointer xn.2.2.1,.int .i64 (xn.2.2.2:Int)]]) (fun g xn tw=>NdV tw xn.1 (.agg #[.pointer xn.2.1,.pointer xn.2.2.1,.int .i64 (xn.2.2.2:Int)])∧g.2.2.length < (ndSs x.body 0).length) (fun g1=>g1.2.2=(ndSs x.body 0).flatMap (mnI p x kd)) (AR:=(fun xn fr A=>∃ βy,Keeps fr [(8,.pointer (some ⟨βy,0,none⟩)),(3,.pointer (some ⟨β1,0,none⟩)),(4,.pointer (some ⟨β2,0,none⟩)),(5,.pointer (some ⟨β3,0,none⟩)),(7,.pointer (some ⟨β4,0,none⟩))]∧A=[(βy,cb [.pointer xn.2.1,.pointer xn.2.2.1,.int .i64 (xn.2.2.2:Int)] 111)])) (cap:=[_]) Z (.slice none 0 0,[],[]) Z (⟨FL.Own.nil,Nat.zero_le _⟩) Z (fun _ _ _ h _=>h) (fun _=>.inl Z) (fun _=>rfl) Z ?_ ?_ ?_ ?_
 ·
  intro l6 x6 L6 s6
  refine Yr<|RO_allocZ Z [_,_,_] Z Z ?_
  intro β7 s7 h7
  refine RO_st 0 [_,_,_] Z Z Z Z Z Z Z Z Z<|Yn ?_
  exact ⟨rfl,rfl,⟨[_],⟨_,(.cons rfl (.cons rfl (.cons rfl (.cons rfl (.cons rfl (.nil _)))))),rfl⟩,rfl⟩,h7⟩
 ·
  rintro l8 d8 o8 p8 g xn s8 s9 fr8 A8 h8 h9 I8 hp8 P8 ⟨βy,hK8,rfl⟩
  refine RC_sub hK8 ?_
  simp only [cQ9,nQ9]
  obtain ⟨vo,Mo,acc⟩:=g
  obtain ⟨nd,pa,pb,lp⟩:=xn
  obtain ⟨hO,hol⟩:=I8
  obtain ⟨hN,hcl⟩:=P8
  simp only at hO hol hN hcl
  dsimp only
  refine Yp<|Ys<|Yr<|RO_q (QE_ldA 0 [_,_,_] Z Z Z Z Z) Z<|Rc9 Z Z Z (use_ac D _ _ nd _ (hN.le h9)) ?_
  rintro _ _ s10 h10 ⟨rfl,rfl⟩
  refine RO_allocZ Z [_,_,_] Z Z ?_
  intro β11 s11 h11
  refine RO_st 0 [_,_,_] Z Z Z Z Z Z Z Z Z<|Yn<|Yt<|Ys<|Yr<|YqfB Z Z Z Z Z<|Yql 0 Z Z Z Z Z Z<|Yqne Z Z Z<|Yn<|Yt<|?_
  refine RC_ifN Z (fun c12=>?_) (fun c12=>?_)
  ·
   have hu:=c12
   refine Ys<|Yr<|RO_q (QE_ldA 7 [_,_,_] Z Z Z Z Z) Z<|RO_q (QE_ldA 6 [_,_,_,_] Z Z Z Z Z) Z<|Yqf0 Z Z Z Z Z<|Yql 0 Z Z Z Z Z Z<|Rc9 Z Z Z (mean_ac D _ _ p Ag Af ng cg nf cf bm (hM.le (h1.t h2|>.t h3|>.t h4|>.t h5|>.t h8|>.t h9|>.t h10|>.t h11)) x B1 B2 B3 m1 d1 m2 d2 m3 d3 (hpx.le (h1.t h2|>.t h3|>.t h4|>.t h5|>.t h8|>.t h9|>.t h10|>.t h11)) (hlx.le (h1.t h2|>.t h3|>.t h4|>.t h5|>.t h8|>.t h9|>.t h10|>.t h11)) _) ?_
   rintro _ _ s13 h13 ⟨rfl,rfl⟩
   refine Yqm Z Z<|Yqx Z Z Z<|Yqx Z Z Z<|RO_allocZ Z [_,_] Z Z ?_
   intro β14 s14 h14
   refine RO_st 0 [_,_] Z Z Z Z Z Z Z Z Z<|Yqa Z Z<|Yn<|Yt<|Ys<|Yr<|Yqf0 Z Z Z Z Z<|Yql 0 Z Z Z Z Z Z<|RO_q (Wd 6 Y5) Z<|Yqeq Z Z Z<|Yn<|Yt<|?_
   refine RC_ifD Z (fun c15=>?_) (fun c15=>?_)
   ·
    have hI:mnI p x kd nd=[(meanP p x nd.use.1).1.2]:=(if_neg hu).trans (if_pos c15)
    refine Yr<|Yql 5 Z Z Z Z Z Z<|YqfB Z Z Z Z Z<|Yql 0 Z Z Z Z Z Z<|RO_bs [(_,_)] [_] Z Z Z Z Z Z Z Z Z ?_
    intro βn s16 h16 hcb
    refine RO_app (sz:=1) [_,_,_,_,_,_,_,_,_] Mo L Z Z Z Z Z Z Z hO (Row.of_cells (hcb.le (Lr D)) Z Z) ⟨by simp [ti3];omega,by omega⟩ Z ?_
    intro vq Mq s17 h17 oq
    obtain ⟨Avq,cvq,rfl,_,_⟩:=Own.slice oq
    simp only [cQ9,nQ9]
    refine RO_st 5 [_] Z Z Z Z Z Z Z Z Z<|Yn<|Yb<|?_
    refine ⟨(.slice Avq (acc.length+1) cvq,Mq,acc++[(meanP p x nd.use.1).1.2]),(by simp only;rw [hI]),Z,[_,_,_],Z,(h10.t h11|>.t h13|>.t h14|>.t h16|>.t h17),⟨by simp only;rw [List.length_append,iv_snoc];exact oq,by simp only [List.length_append,List.length_cons,List.length_nil];omega⟩⟩
   have hI:mnI p x kd nd=[]:=(if_neg hu).trans (if_neg c15)
   refine Yk<|Yb<|?_
   refine ⟨(vo,Mo,acc),(by simp only;rw [hI,List.append_nil]),Z,[_,_,_],Z,(h10.t h11|>.t h13|>.t h14),⟨hO,hol⟩⟩
  have hI:mnI p x kd nd=[]:=if_pos c12
  refine Yk<|Yb<|?_
  refine ⟨(vo,Mo,acc),(by simp only;rw [hI,List.append_nil]),Z,[_,_],Z,(h10.t h11),⟨hO,hol⟩⟩
 ·
  intro l18 HH s18 h18 hY
  refine (all1_ac D _ _ HH (fun (g:MnG) tw=>FL.Own 3 1 g.2.1 g.1 g.2.2.length (iv g.2.2)∧g.2.2.length≤2000) (fun _=>none) (fun g nd g1=>g1.2.2=g.2.2++mnI p x kd nd) l18 (.slice none 0 0,[],[]) (fun g=>g.2.2.length) (ndSs x.body 0).length (fun g nd g1 h=>by have h:g1.2.2=g.2.2++mnI p x kd nd:=h;show g1.2.2.length≤g.2.2.length+1;rw [h,List.length_append];have:=mnI_le (p:=p) (x:=x) (kd:=kd) (nd:=nd);omega) (fun _ _ _ h _=>h) ?_ ⟨FL.Own.nil,Nat.zero_le _⟩ Z ba d x B1 B2 B3 m1 d1 m2 d2 m3 d3 (hba.le h18) (hbx.le (h1.t h2|>.t h3|>.t h4|>.t h5|>.t h18)) hfx.2.2.2.2.1 (by simp)).mono ?_
  · intro g nd nv s2 hl2 hI2 hp2 hc2 hN2
    obtain ⟨pa,pb,lp,rfl⟩:=hN2.agg
    exact hY g (nd,pa,pb,lp) s2 (h18.trans hl2) hI2 rfl ⟨hN2,hc2⟩
  · rintro v L' s3 _ ⟨g',h1,h2,h3⟩
    exact ⟨g',by have:=run_mn h1;simpa using this,h2,h3⟩
 intro d19 g s19 h19 F19 I19
 obtain ⟨vo,Mo,acc⟩:=g
 obtain ⟨hO,hol⟩:=I19
 have hF:=F19
 simp only at hO hol hF
 dsimp only
 obtain ⟨Ao,co,rfl,_,_⟩:=Own.slice hO
 refine Yb<|Yt<|Ys<|Yr<|Yql 1 Z Z Z Z Z Z<|Rc9 Z Z Z (AC.mid [_,_,_,_,_] Mo L (sort_ac D _ _ 3 Mo Ao acc.length co acc hO O)) ?_
 rintro _ _ s20 h20 ⟨M2,rfl,rfl,hO2⟩
 simp only [cQ9,nQ9]
 refine Yn<|Yt<|Ys<|Yr<|Yql 1 Z Z Z Z Z Z<|Rc9 Z Z Z (AC.mid [_,_,_,_,_] M2 L (compact_ac D _ _ 3 M2 Ao acc.length co _ hO2)) ?_
 rintro _ _ s21 h21 ⟨M4,rfl,rfl,hO4⟩
 simp only [cQ9,nQ9]
 refine Yqa Z Z<|Yn<|Yt<|Yo<|?_
 refine retG_mk [_,_,_,_,_] _ (.inr Z) (.tmp Z (.nil)) Z (h1.t h2|>.t h3|>.t h4|>.t h5|>.t h19|>.t h20|>.t h21) ⟨[_],Z,List.Sublist.cons_cons _ (List.nil_sublist _)⟩ (fun sR hS2=>?_)
 subst hF
 exact ⟨M4,rfl,fun s2 hs2 hp=>⟨_,_,_,rfl,Own.its hO4 hp rfl⟩⟩
theorem meanings_ac (D:Nat) (L:Hl) (s:World) (p:Prg) (Ag Af:Option Addr) (ng cg nf cf bm d:Nat) (hM:NmOK s bm p) (x:Fnc) (B1 B2 B3:Option Addr) (m1 d1 m2 d2 m3 d3:Nat) (hpx:Strs s B1 m1 d1 x.params) (hlx:Strs s B2 m2 d2 x.locals) (hbx:Stms d s B3 m3 d3 x.body) (hfx:fnV x) (kd:Int):AC Tryz.prog D 40 [.agg #[.slice Ag ng cg,.slice Af nf cf,.map (some bm)],.agg #[St x.name,.slice B1 m1 d1,.slice B2 m2 d2,.slice B3 m3 d3],.int .i64 kd] L s fun v L' s'=>L=L'∧LsR s' (msP p x kd) v:=AC.pubW (meaningsO_ac D L s p Ag Af ng cg nf cf bm d hM x B1 B2 B3 m1 d1 m2 d2 m3 d3 hpx hlx hbx hfx kd)
def ClsR (p:Prg) (s:World) (A:Option Addr) (n c:Nat) (l:List Fnc):Prop:=Sl 1 (fun s x cs=>∃ v,cs=[v]∧LsR s (msP p x 4) v) s A n c l
theorem ClsR.le {D:Nat} {p:Prg} {s s':World} {A:Option Addr} {n c:Nat} {l:List Fnc} (h:ClsR p s A n c l) (hl:Le D s s'):ClsR p s' A n c l:=Sl.le (fun _ _ ⟨v,h1,h2⟩=>⟨v,h1,h2.le hl⟩) h hl
theorem ClsR.at_ {p:Prg} {s:World} {A:Option Addr} {n c k:Nat} {l:List Fnc} (h:ClsR p s A n c l) (hk:k < n):∃ b off x A' n' c',A=some ⟨b,off,none⟩∧l[k]?=some x∧CellsAt s b (off+k) [.slice A' n' c']∧Its s A' n' c' (msP p x 4):=by
  have hl:k < l.length:=by rw [← h.1];exact hk
  obtain ⟨b,off,cs,h1,h2,_,v,rfl,A',n',c',rfl,h3⟩:=h.2.2.2 k l[k] (List.getElem?_eq_getElem hl)
  exact ⟨b,off,l[k],A',n',c',h1,List.getElem?_eq_getElem hl,by simpa using h2,h3⟩
def callsP (p:Prg):List Fnc:=if (chkF p).1≠0 then [] else p.funcs
theorem vs_flat (l:List Value):l=(l.map fun x=>[x]).flatten:=by
  induction l with
  | nil=>rfl
  | cons x l ih=>simp only [List.map_cons,List.flatten_cons,List.cons_append,List.nil_append];rw [← ih]
theorem all2_sng {α:Type} {R:α→Value→Prop} {l:List α} {vs:List Value} (h:All2 R l vs):All2 (fun x cs=>cs.length=1∧∃ v,cs=[v]∧R x v) l (vs.map fun v=>[v]):=by
  induction h with
  | nil=>exact .nil
  | cons h _ ih=>exact .cons ⟨rfl,_,rfl,h⟩ ih
theorem Own.cls {e:Nat} {p:Prg} {A:Hl} {Ad:Option Addr} {n c:Nat} {l:List Fnc} {vs:List Value} {s:World} (h:FL.Own e 1 A (.slice Ad n c) n vs) (ha:All2 (fun x v=>LsR s (msP p x 4) v) l vs) (hp:Pub A s) (hn:n=l.length):ClsR p s Ad n c l:=
  Own.rows (R:=fun s x cs=>∃ v,cs=[v]∧LsR s (msP p x 4) v) (vs_flat vs▸h) hp (all2_sng ha) hn
theorem cls_nil (p:Prg) (s:World):ClsR p s none 0 0 []:=⟨rfl,Nat.le_refl _,by omega,fun i x h=>by cases h⟩
theorem take_snocF {l:List Fnc} {k:Nat} {x:Fnc} (h:l[k]?=some x):l.take (k+1)=l.take k++[x]:=by
  obtain ⟨hk,rfl⟩:=List.getElem?_eq_some_iff.1 h
  exact List.take_succ_eq_append_getElem hk
theorem callsO_ac (D:Nat) (L:Hl) (s:World) (hG:GP s) (d:Nat) (p:Prg) (Ag Af:Option Addr) (ng cg nf cf:Nat) (hGl:Glos s Ag ng cg p.globals) (hFn:Fncs d s Af nf cf p.funcs):AC Tryz.prog D 33 [.agg #[.slice Ag ng cg,.slice Af nf cf]] L s fun v L' s'=>∃ M',L'=M'++L∧∀ s2,Le D s' s2→Pub M' s2→∃ A n c,v=.tuple #[.slice A n c,.agg #[.int .i64 (chkF p).1,.int .i64 (chkF p).2]]∧ClsR p s2 A n c (callsP p):=by
 have hn1:=hGl.1
 have hn2:=hFn.1
 have hU:prU p:=⟨hGl.u,hFn.u⟩
 refine AC_enter (TT:=TT) (fn:=Tryz.f33) TT_ok Tryz.func33 V Z Tryz.ntmps33 Z (rs:=[.tmp 2,.cell 3 33]) Z [(0,_)] Z<|Sr<|JO_boxA Z Z ?_
 intro β1 s1 h1
 refine Zqa Z Z<|JO_allocZ Z [_,_] Z Z ?_
 intro β2 s2 h2
 refine Nt<|Zs<|Sr<|JO_q (QE_ldA 1 [_,_] Z Z Z Z Z) Z<|Jc Z Z Z (program_ac D _ _ (hG.le (h1.t h2)) d p Ag _ ng cg nf cf (hGl.le (h1.t h2)) (hFn.le (h1.t h2))) ?_
 rintro _ _ s3 h3 ⟨rfl,rfl⟩
 refine JO_allocZ Z [_,_] Z Z ?_
 intro β4 s4 h4
 refine Wt 0 [_,_] Y9<|Nt<|Sr<|JO_q (QE_ldA 0 [_,_] Z Z Z Z Z) Z<|JO_q (QE_build [] [_,_] Z Z Z Z Z Z) Z<|JO_q (QE_ane Z Z (eqFault _ _ _ _)) Z<|Nt<|?_
 refine JC_ifN Z (fun c5=>?_) (fun c5=>?_)
 ·
  have hb0:(chkF p).1≠0:=fun h=>c5 (by rw [chk_00 hU h];exact ⟨rfl,rfl⟩)
  have hC:callsP p=[]:=if_pos hb0
  refine Zs<|JC_drawE drawsMixed 3 Z [1] (by intro x hx;exact eraseAll_mem hx) ?_
  intro s6 h6
  refine za 0 Z (QE_ldA 0 [_,_] Z Z Z Z Z) Z<|za 1 Z (QE_as Z) Z<|JA_1 2 V<|Wu Z trivial 1 [_,_] Y9 (fun _ hx=>sub_mem (sbY (sbY (sbE _))) hx)<|JA_done V<|Zt<|Zo<|Zu<|?_
  refine retQ_mk [_,_,_] _ (.inr Z) (.tmp Z (.agg (us:=[_,_]) 1 Z Z Z Z Z (.nil))) Z (h1.t h2|>.t h3|>.t h4|>.t h6) (fun sR hS2=>?_)
  rw [hC];exact ⟨[],rfl,fun s2 hs2 hp=>⟨none,0,0,rfl,cls_nil p s2⟩⟩
 have g4:=c5
 have g14:¬ (chkF p).1≠0:=fun h=>h g4.1
 obtain ⟨hOK,hz0⟩:=OKP.of hU g4.1
 have hV:=hOK.1
 have hV1:=hV.1
 have hV2:=hV.2.1
 have hVf:=hV.2.2.2.1
 have hND:=(name_nd (p:=p) (by rw [hOK.2.1])).1
 have hC:callsP p=p.funcs:=if_neg g14
 refine Zk<|Zt<|Sr<|JO_q (QE_ldA 2 [_,_] Z Z Z Z Z) Z<|Jc Z Z Z (open_ac D _ _ d p Ag _ ng cg nf cf (hGl.le (h1.t h2|>.t h3|>.t h4)) (hFn.le (h1.t h2|>.t h3|>.t h4)) hND) ?_
 rintro _ _ s7 h7 ⟨rfl,bm,rfl,hM⟩
 refine JO_allocZ Z [_,_,_] Z Z ?_
 intro β8 s8 h8
 refine Wt 0 [_,_,_] Y9<|Nt<|Sr<|At Z Z<|Zs<|Sr<|Wb Y5<|Wl 3 Y6<|Ws Y4<|Zqm Z Z<|Nt<|Zp<|?_
 refine JC_loop (γ:=Nat×Value×Hl×List Value) (fun g=>[(2,_),(3,_),(5,_),(6,g.2.1),(18,_),(19,_),(20,.int .i64 (g.1:Int))]) (fun g=>_::_::_::_::(g.2.2.1++L)) (fun g tw=>Le D s8 tw∧(g.1≤nf∧FL.Own 91 1 g.2.2.1 g.2.1 g.1 g.2.2.2∧All2 (fun x v=>LsR tw (msP p x 4) v) (p.funcs.take g.1) g.2.2.2)) (fun g=>nf - g.1) (fun _ _ _ h hl=>⟨h.1.trans hl,⟨h.2.1,h.2.2.1,h.2.2.2.mono fun _ _ q=>q.le hl⟩⟩) (0,.slice none 0 0,[],[]) (.cons Z (.cons Z (.cons Z (.cons Z (.cons Z (.cons Z (.cons Z (.nil _)))))))) Z ⟨Le.refl _,⟨Nat.zero_le _,FL.Own.nil,.nil⟩⟩ ?_
 intro g s9 I9
 obtain ⟨k,vo,Mo,vs⟩:=g
 obtain ⟨hk0,hO,hcs⟩:=I9.2
 simp only at hk0 hO hcs
 dsimp only
 obtain ⟨Ao,co,rfl,_,_⟩:=Own.slice hO
 refine Sr<|Zqlt Z Z Z<|Nt<|Zs<|?_
 refine JC_ifD Z (fun c10=>?_) (fun c10=>?_)
 ·
  have hk:k < nf:=by omega
  obtain ⟨b,off,x,B1,m1,d1,B2,m2,d2,B3,m3,d3,rfl,hx,hcx,hpx,hlx,hbx,hnl⟩:=Fncs.at_ (hFn.le (h1.t h2|>.t h3|>.t h4|>.t h7|>.t h8|>.t I9.1)) hk
  have hfx:=hVf x (List.mem_of_getElem? hx)
  refine Zk<|Zt<|Zs<|Zp<|Sr<|JO_q (QE_iaN Z Z Z Z Z Z hk) Z<|JO_q (QE_ldsA Z Z Z (hcx.le (Lr D)) Z) Z<|JO_allocZ Z [_,_,_,_] Z Z ?_
  intro β11 s11 h11
  refine Wt 0 [_,_,_,_] Y9<|Nt<|Zr<|Zqm Z Z<|JO_q (QE_ldA 1 [_,_,_] Z Z Z Z Z) Z<|JO_q (QE_ldA 0 [_,_,_,_] Z Z Z Z Z) Z<|Jc Z Z Z (meanings_ac D _ _ p Ag _ ng cg nf cf bm d (hM.le (h8.t I9.1|>.t h11)) x B1 B2 B3 m1 d1 m2 d2 m3 d3 (hpx.le h11) (hlx.le h11) (hbx.le h11) hfx 4) ?_
  rintro _ _ s12 h12 ⟨rfl,Aw,nw,cw,rfl,hIw⟩
  refine JO_bs [(_,_)] [_] Z Z Z Z Z Z Z Z Z ?_
  intro βn s13 h13 hcb
  refine JO_app (sz:=1) [_,_,_,_,_] Mo L Z Z Z Z Z Z Z hO (Row.of_cells (hcb.le (Lr D)) Z Z) ⟨by simp [ti91];omega,by omega⟩ Z ?_
  intro vq Mq s14 h14 oq
  obtain ⟨Avq,cvq,rfl,_,_⟩:=Own.slice oq
  simp only [cQ9,nQ9]
  refine Zqa Z Z<|Zn<|Zb<|Zt<|Zr<|Zqadd Z Z Z (w64 O O)<|Zqm Z Z<|Zn<|?_
  refine thenQ_n ⟨(k+1,.slice Avq (k+1) cvq,Mq,vs++[.slice Aw nw cw]),[_],kp,Z,⟨(I9.1.t h11|>.t h12|>.t h13|>.t h14),⟨by simp only;omega,oq,by simp only;rw [take_snocF hx];exact All2.snoc (hcs.mono fun _ _ q=>q.le (h11.t h12|>.t h13|>.t h14)) ⟨_,_,_,Z,hIw.le (h13.t h14)⟩⟩⟩,(by simp only;omega)⟩
 obtain rfl:k=nf:=by omega
 rw [List.take_of_length_le O] at hcs
 refine Zl<|Zv<|Zv<|Zd<|Zt<|Sr<|Zqm Z Z<|JO_q (QE_build [] [_,_] Z Z Z Z Z Z) Z<|Zqa Z Z<|Wt 2 [_,_] Y9<|Nt<|Zo<|?_
 refine retQ_mk [_,_,_,_] _ (.inr Z) (.tmp Z (.agg (us:=[_,_]) 2 Z Z Z Z Z (.nil))) Z (h1.t h2|>.t h3|>.t h4|>.t h7|>.t h8|>.t I9.1) (fun sR hS2=>?_)
 rw [hC,hz0];exact ⟨Mo,rfl,fun s2 hs2 hp=>⟨_,_,_,rfl,Own.cls hO (hcs.mono fun _ _ q=>q.le ((Lr D).t (hS2.t hs2))) hp hn2⟩⟩
theorem calls_ac (D:Nat) (L:Hl) (s:World) (hG:GP s) (d:Nat) (p:Prg) (Ag Af:Option Addr) (ng cg nf cf:Nat) (hGl:Glos s Ag ng cg p.globals) (hFn:Fncs d s Af nf cf p.funcs):AC Tryz.prog D 33 [.agg #[.slice Ag ng cg,.slice Af nf cf]] L s fun v L' s'=>L=L'∧∃ A n c,v=.tuple #[.slice A n c,.agg #[.int .i64 (chkF p).1,.int .i64 (chkF p).2]]∧ClsR p s' A n c (callsP p):=AC.pubW (callsO_ac D L s hG d p Ag Af ng cg nf cf hGl hFn)
end Go.Proofs.YtpdnijphccdiiaaGreatDoor
namespace Go.FL
open Go Go.RowKit
section
variable {P:Program} {TT:TyTab} {D n:Nat} {Q:APost} {fr:Fr} {L K:Hl} {s s0:World} {ops:Array Oper} {rest:List Oper} {d ty:Nat} {pos:String} {af:Array Edge}
theorem QE_slnil {x:Operand} {A:Option Addr} {m c t t' e:Nat} {ti:TI} (hx:lk fr x=some (.slice A m c)) (ht:tlook TT t=some ti) (hk:ti.kind=.sl e):QE P TT D fr (.binOp .eql t x (.const (.slice none 0 0)) t') ty K s0 (.bool A.isNone):=
  QE.pure fun hT dst pos af g ρ hρ w=>by
    have hc:=hρ (.const (.slice none 0 0)) _ rfl
    have hu:P.underlying t=some (.slice e):=by
      obtain ⟨h1,h2,_⟩:=hT.at_ ht
      rw [hk] at h2
      rw [h1]
      exact congrArg some h2
    have h:=Lib.run_eql_slice_nil (P:=P) w t e A m c 0 0 hu
    simp [execOp,hρ x _ hx,hc,eqGuard,h]
theorem JA_4 {fuel:Nat} {listed:Array Bool} (i j m o:Nat) (hr:Region.ready .any ops listed=[i,j,m,o]) (h:JB P TT D n ops Q K s0 fuel listed i fr L s) (h':JB P TT D n ops Q K s0 fuel listed j fr L s) (h'':JB P TT D n ops Q K s0 fuel listed m fr L s) (h4:JB P TT D n ops Q K s0 fuel listed o fr L s):JA P TT D n ops Q K s0 (fuel+1) listed fr L s:=
  JA_all hr (by simp) (by simpa using ⟨h,h',h'',h4⟩)
theorem perm_in (M1 X F L:Hl):(M1++(X++(F++L))).Perm (X++((F++M1)++L)):=by
  have:=List.perm_append_comm_assoc M1 (X++F) L
  simpa [List.append_assoc] using this
theorem QE_lookupN {P:Program} {TT:TyTab} {D:Nat} {fr:Fr} {ty:Nat} {K:Hl} {s0:World} {κ:Type} [DecidableEq κ] {dk:TypeDesc} {kf:κ→Value} (KK:KeyK κ dk kf) {t b:Nat} {x y:Operand} {z:Value} (hm:MapTy P t dk z) {es:List (κ×Value×Nat)} {k:κ} (hx:lk fr x=some (.map (some b))) (hy:lk fr y=some (kf k)) (hi:MapS s0 kf b es) :
    QE P TT D fr (.lookup t x y false) ty K s0 ((assoc es k).getD z):=fun hT dst pos af g ρ hρ L s ho hl hK=>by
  obtain ⟨ck,hb⟩:=hi.le (hl.trans (fill_le ho))
  simp only [execOp,hρ x _ hx,hρ y _ hy,Sem.run_bind,run_lookup' KK hm hb,Result.andThen_ok,Sem.run_pure]
  rfl
end
inductive All3 {α β γ:Type} (R:α→β→γ→Prop):List α→List β→List γ→Prop
  | nil:All3 R [] [] []
  | cons {a b c us vs ws}:R a b c→All3 R us vs ws→All3 R (a::us) (b::vs) (c::ws)
section
variable {α β γ:Type} {R S:α→β→γ→Prop}
theorem All3.len {us:List α} {vs:List β} {ws:List γ} (h:All3 R us vs ws):us.length=vs.length∧ws.length=vs.length:=by
  induction h with
  | nil=>exact ⟨rfl,rfl⟩
  | cons _ _ ih=>exact ⟨by simp [ih.1],by simp [ih.2]⟩
theorem All3.app {us us':List α} {vs vs':List β} {ws ws':List γ} (h:All3 R us vs ws) (h':All3 R us' vs' ws'):All3 R (us++us') (vs++vs') (ws++ws'):=by
  induction h with
  | nil=>exact h'
  | cons h1 _ ih=>exact .cons h1 ih
theorem All3.mono (hR:∀ a b c,R a b c→S a b c) {us:List α} {vs:List β} {ws:List γ} (h:All3 R us vs ws):All3 S us vs ws:=by
  induction h with
  | nil=>exact .nil
  | cons h1 _ ih=>exact .cons (hR _ _ _ h1) ih
theorem All3.at_ {us:List α} {vs:List β} {ws:List γ} (h:All3 R us vs ws) {k:Nat} (hk:k < vs.length):∃ us1 a us2 vs1 b vs2 ws1 c ws2,us=us1++a::us2∧vs=vs1++b::vs2∧ws=ws1++c::ws2∧vs1.length=k∧R a b c∧All3 R us1 vs1 ws1∧All3 R us2 vs2 ws2:=by
  induction h generalizing k with
  | nil=>exact absurd hk (Nat.not_lt_zero _)
  | @cons a b c us vs ws h1 h2 ih=>
    cases k with
    | zero=>exact ⟨[],a,us,[],b,vs,[],c,ws,rfl,rfl,rfl,rfl,h1,.nil,h2⟩
    | succ k=>
      obtain ⟨us1,a',us2,vs1,b',vs2,ws1,c',ws2,rfl,rfl,rfl,e,r1,r2,r3⟩:=ih (k:=k) (by simpa using hk)
      exact ⟨a::us1,a',us2,b::vs1,b',vs2,c::ws1,c',ws2,rfl,rfl,rfl,by simp [e],r1,.cons h1 r2,r3⟩
theorem all3_flat {Ms:List Hl} {xs:List β} {css:List γ} {R:Hl→β→γ→Prop} {P:Nat×Obj→Prop} (h:All3 R Ms xs css) (hR:∀ M x cs,R M x cs→∀ y∈M,P y):∀ y∈Ms.flatten,P y:=by
  induction h with
  | nil=>exact fun y h=>by cases h
  | cons h1 _ ih=>
    intro y hy
    rw [List.flatten_cons] at hy
    rcases List.mem_append.1 hy with hy | hy
    · exact hR _ _ _ h1 y hy
    · exact ih y hy
end
theorem nth_mid {P c Q:List Value} {off j:Nat} (h:P.length=off) (hj:j < c.length):nth (P++(c++Q)) (off+j)=nth c j:=by
  rw [nth_eq,nth_eq,List.getElem?_append_right O,show off+j - P.length=j by omega,List.getElem?_append_left hj]
theorem cut_of {zs vs:List Value} {off n:Nat} (hn:vs.length=n) (h:∀ j v,vs[j]?=some v→zs[off+j]?=some v):cut zs off n=some vs:=by
  induction n generalizing off vs with
  | zero=>rw [List.eq_nil_of_length_eq_zero hn];rfl
  | succ n ih=>
    cases vs with
    | nil=>cases hn
    | cons v vs=>
      have h1:=ih (off:=off+1) (vs:=vs) (by simpa using hn) fun j u hj=>by
        have:=h (j+1) u (by simpa using hj)
        rwa [show off+1+j=off+(j+1) by omega]
      have h0:=h 0 v rfl
      simp only [cut,nth_eq]
      rw [show zs[off]?=some v from h0]
      simp only [h1]
theorem cut_mid {P c Q:List Value} {off n:Nat} (h:P.length=off) (hn:c.length=n):cut (P++(c++Q)) off n=some c:=by
  refine cut_of hn fun j v hj=>?_
  have hl:=(List.getElem?_eq_some_iff.1 hj).1
  rw [List.getElem?_append_right O,show off+j - P.length=j by omega,List.getElem?_append_left hl];exact hj
theorem splice_mid {P c v Q:List Value} {off:Nat} (h:P.length=off) (hv:v.length=c.length):splice (P++(c++Q)) off v=P++(v++Q):=by
  rw [splice_eq _ _ _ (by simp only [List.length_append];omega),List.take_append_of_le_length O,List.take_of_length_le O,List.append_assoc]
  congr 2
  rw [← List.append_assoc,List.drop_append_of_le_length (by simp only [List.length_append];omega),List.drop_of_length_le (by simp only [List.length_append];omega)];rfl
theorem ble_mid {P c Q:List Value} {off n:Nat} (h:P.length=off) (hn:c.length=n):Nat.ble (off+n) (P++(c++Q)).length=true:=Nat.ble_eq_true_of_le (by simp only [List.length_append];omega)
end Go.FL
namespace Go.Proofs.YtpdnijphccdiiaaGreatDoor
open Go Go.FL Go.RowKit
theorem all3_all2 {β γ:Type} {Ms:List Hl} {xs:List β} {css:List γ} {R:Hl→β→γ→Prop} {S:β→γ→Prop} (h:All3 R Ms xs css) (hR:∀ M∈Ms,∀ x cs,R M x cs→S x cs):All2 S xs css:=by
  induction h with
  | nil=>exact .nil
  | cons h1 _ ih=>exact .cons (hR _ (List.mem_cons_self ..) _ _ h1) (ih fun M hM=>hR M (List.mem_cons_of_mem _ hM))
def OX:Nat→Hl→Ex→List Value→Prop
  | 0,_,_,_=>False
  | d+1,M,x,cs=>∃ A n c,cs=[.int .i64 x.kind,.int .i64 x.op,.int .u32 x.num,St x.name,.slice A n c]∧(∃ css Ms R,FL.Own 89 5 R (.slice A n c) n css.flatten∧M=R++Ms.flatten∧All3 (OX d) Ms x.args css∧n=x.args.length)∧U32 x.num∧x.name.length≤9223372036854775807
def OXs (d:Nat) (M:Hl) (A:Option Addr) (n c:Nat) (xs:List Ex):Prop:=∃ css Ms R,FL.Own 89 5 R (.slice A n c) n css.flatten∧M=R++Ms.flatten∧All3 (OX d) Ms xs css∧n=xs.length
theorem OX.eq {d:Nat} {M:Hl} {x:Ex} {cs:List Value} (h:OX d M x cs):∃ e A n c,d=e+1∧cs=[.int .i64 x.kind,.int .i64 x.op,.int .u32 x.num,St x.name,.slice A n c]∧OXs e M A n c x.args∧U32 x.num∧x.name.length≤9223372036854775807:=by
  cases d with
  | zero=>exact h.elim
  | succ e=>obtain ⟨A,n,c,h1,h2,h3⟩:=h;exact ⟨e,A,n,c,rfl,h1,h2,h3⟩
theorem OX.mk {d:Nat} {M:Hl} {x:Ex} {A:Option Addr} {n c:Nat} (h:OXs d M A n c x.args) (hu:U32 x.num) (hl:x.name.length≤9223372036854775807):OX (d+1) M x [.int .i64 x.kind,.int .i64 x.op,.int .u32 x.num,St x.name,.slice A n c]:=⟨A,n,c,rfl,h,hu,hl⟩
theorem OXs.nil (d:Nat):OXs d [] none 0 0 []:=⟨[],[],[],.nil,rfl,.nil,rfl⟩
theorem pub_flat {Ms:List Hl} {s:World} (h:Pub Ms.flatten s):∀ M∈Ms,Pub M s:=fun M hM b zs t hm=>h b zs t (List.mem_flatten.2 ⟨M,hM,hm⟩)
theorem OX.pub {s:World}:∀ {d:Nat} {M:Hl} {x:Ex} {cs:List Value},OX d M x cs→Pub M s→cs.length=5∧ExR d s x cs:=by
  intro d
  induction d with
  | zero=>exact fun h=>h.elim
  | succ d ih=>
    intro M x cs h hp
    obtain ⟨A,n,c,rfl,⟨css,Ms,R,k1,rfl,k3,k4⟩,h3,h4⟩:=h
    exact ⟨rfl,A,n,c,rfl,Own.rows k1 hp.left (all3_all2 k3 fun M hM x cs h=>ih h (pub_flat hp.right M hM)) k4,h3,h4⟩
theorem OXs.pub {s:World} {d:Nat} {M:Hl} {A:Option Addr} {n c:Nat} {xs:List Ex} (h:OXs d M A n c xs) (hp:Pub M s):Exs d s A n c xs:=by
  obtain ⟨css,Ms,R,k1,rfl,k3,k4⟩:=h
  exact Own.rows k1 hp.left (all3_all2 k3 fun M hM x cs h=>h.pub (pub_flat hp.right M hM)) k4
theorem OX.cb {D:Nat}:∀ {d:Nat} {M:Hl} {x:Ex} {cs:List Value},OX d M x cs→∀ y∈M,y.2≠dum D:=by
  intro d
  induction d with
  | zero=>exact fun h=>h.elim
  | succ d ih=>
    intro M x cs h
    obtain ⟨A,n,c,rfl,⟨css,Ms,R,k1,rfl,k3,k4⟩,h3,h4⟩:=h
    intro y hy
    rcases List.mem_append.1 hy with hy | hy
    · exact own_cb k1 y hy
    · exact all3_flat k3 (fun M x cs h=>ih h) y hy
theorem OXs.cb {D d:Nat} {M:Hl} {A:Option Addr} {n c:Nat} {xs:List Ex} (h:OXs d M A n c xs):∀ y∈M,y.2≠dum D:=by
  obtain ⟨css,Ms,R,k1,rfl,k3,k4⟩:=h
  intro y hy
  rcases List.mem_append.1 hy with hy | hy
  · exact own_cb k1 y hy
  · exact all3_flat k3 (fun M x cs h=>h.cb) y hy
theorem rows_flat {d:Nat} {Ms:List Hl} {xs:List Ex} {css:List (List Value)} (h:All3 (OX d) Ms xs css):css.flatten.length=xs.length * 5:=by
  induction h with
  | nil=>rfl
  | cons h1 _ ih=>
    obtain ⟨e,A,n,c,_,rfl,_⟩:=h1.eq
    simp only [List.flatten_cons,List.length_append,ih,List.length_cons,List.length_nil];omega
open Go.FL
attribute [local irreducible] JC JO JA JB thenQ blockQ retQ AC fill CellsAt QE Ev Mid
theorem strs_u {s:World} {A:Option Addr} {n c:Nat} {l:List Str} (h:Strs s A n c l):∀ x∈l,x.length≤9223372036854775807:=fun x hx=>by
  obtain ⟨k,hk⟩:=List.getElem?_of_mem hx
  have hl:=(List.getElem?_eq_some_iff.1 hk).1
  obtain ⟨b,off,y,_,h2,_,h4⟩:=Strs.at_ h (show k < n by rw [h.1];exact hl)
  rw [hk] at h2;injection h2 with h2;subst h2;exact h4
theorem cloneWO_ac (D:Nat) (L:Hl) (s:World) (A:Option Addr) (n c:Nat) (l:List Int) (hW:Wds s A n c l) (hn:n≤4000000):AC Tryz.prog D 69 [.slice A n c] L s fun v L' s'=>∃ M',L'=M'++L∧∀ s2,Le D s' s2→Pub M' s2→∃ A' n' c',v=.slice A' n' c'∧Wds s2 A' n' c' l:=by
 refine AC_enter (TT:=TT) (fn:=Tryz.f69) TT_ok Tryz.func69 V Z Tryz.ntmps69 Z (rs:=[.tmp 2]) Z [(0,_)] Z<|Sr<|At Z Z<|Zs<|Sr<|Zqm Z Z<|JO_q (QE_slnil Z Z Z) Z<|Nt<|?_
 refine JC_if Z (fun c1=>?_) (fun c1=>?_)
 ·
  obtain rfl:A=none:=by simpa using c1
  have hn0:n=0:=by
    rcases Nat.eq_zero_or_pos n with h | h
    · exact h
    · obtain ⟨b,off,x,e0,_⟩:=Wds.at_ hW h
      cases e0
  obtain rfl:l=[]:=List.eq_nil_of_length_eq_zero (by have:=hW.1;omega)
  refine Sr<|At Z Z<|Zo<|Zu<|?_
  refine retQ_mk [] _ (.inr Z) (.tmp Z (.nil)) Z (Lr D) (fun sR hS2=>?_)
  exact ⟨[],rfl,fun s2 hs2 hp=>⟨none,0,0,rfl,Wds.nil s2 none 0 O⟩⟩
 refine Zk<|Zt<|Sr<|JO_bs0 (sz:=1) Z Z Z Z ?_
 intro βz s2 h2 oz
 refine Zqm Z Z<|JO_app (sz:=1) [] _ L Z Z Z Z Z Z Z oz (hW.le h2).row ⟨by simp [ti29];omega,by omega⟩ Z ?_
 intro vq Mq s3 h3 oq
 obtain ⟨Avq,cvq,rfl,_,_⟩:=Own.slice oq
 rw [Nat.zero_add,List.nil_append] at oq
 simp only [List.nil_append]
 refine At Z Z<|Zo<|?_
 refine retQ_mk [] _ (.inr Z) (.tmp Z (.nil)) Z (h2.t h3) (fun sR hS2=>?_)
 exact ⟨Mq,rfl,fun s2 hs2 hp=>⟨_,_,_,rfl,by have:=Own.wds oq (Wds.u32 hW) hp;simpa using this⟩⟩
theorem cloneSO_ac (D:Nat) (L:Hl) (s:World) (A:Option Addr) (n c:Nat) (l:List Str) (hW:Strs s A n c l) (hn:n≤4000000):AC Tryz.prog D 70 [.slice A n c] L s fun v L' s'=>∃ M',L'=M'++L∧∀ s2,Le D s' s2→Pub M' s2→∃ A' n' c',v=.slice A' n' c'∧Strs s2 A' n' c' l:=by
 refine AC_enter (TT:=TT) (fn:=Tryz.f70) TT_ok Tryz.func70 V Z Tryz.ntmps70 Z (rs:=[.tmp 2]) Z [(0,_)] Z<|Sr<|At Z Z<|Zs<|Sr<|Zqm Z Z<|JO_q (QE_slnil Z Z Z) Z<|Nt<|?_
 refine JC_if Z (fun c1=>?_) (fun c1=>?_)
 ·
  obtain rfl:A=none:=by simpa using c1
  have hn0:n=0:=by
    rcases Nat.eq_zero_or_pos n with h | h
    · exact h
    · obtain ⟨b,off,x,e0,_⟩:=Strs.at_ hW h
      cases e0
  obtain rfl:l=[]:=List.eq_nil_of_length_eq_zero (by have:=hW.1;omega)
  refine Sr<|At Z Z<|Zo<|Zu<|?_
  refine retQ_mk [] _ (.inr Z) (.tmp Z (.nil)) Z (Lr D) (fun sR hS2=>?_)
  exact ⟨[],rfl,fun s2 hs2 hp=>⟨none,0,0,rfl,⟨rfl,Nat.le_refl _,by omega,fun i x h=>by cases h⟩⟩⟩
 refine Zk<|Zt<|Sr<|JO_bs0 (sz:=1) Z Z Z Z ?_
 intro βz s2 h2 oz
 refine Zqm Z Z<|JO_app (sz:=1) [] _ L Z Z Z Z Z Z Z oz (hW.le h2).row ⟨by simp [ti9];omega,by omega⟩ Z ?_
 intro vq Mq s3 h3 oq
 obtain ⟨Avq,cvq,rfl,_,_⟩:=Own.slice oq
 rw [Nat.zero_add,List.nil_append] at oq
 simp only [List.nil_append]
 refine At Z Z<|Zo<|?_
 refine retQ_mk [] _ (.inr Z) (.tmp Z (.nil)) Z (h2.t h3) (fun sR hS2=>?_)
 exact ⟨Mq,rfl,fun s2 hs2 hp=>⟨_,_,_,rfl,by have:=Own.strs oq (strs_u hW) hp hW.1;simpa using this⟩⟩
theorem cloneW_ac (D:Nat) (L:Hl) (s:World) (A:Option Addr) (n c:Nat) (l:List Int) (hW:Wds s A n c l) (hn:n≤4000000):AC Tryz.prog D 69 [.slice A n c] L s fun v L' s'=>L=L'∧∃ A' n' c',v=.slice A' n' c'∧Wds s' A' n' c' l:=AC.pubW (cloneWO_ac D L s A n c l hW hn)
theorem cloneS_ac (D:Nat) (L:Hl) (s:World) (A:Option Addr) (n c:Nat) (l:List Str) (hW:Strs s A n c l) (hn:n≤4000000):AC Tryz.prog D 70 [.slice A n c] L s fun v L' s'=>L=L'∧∃ A' n' c',v=.slice A' n' c'∧Strs s' A' n' c' l:=AC.pubW (cloneSO_ac D L s A n c l hW hn)
theorem exNs_mem {x:Ex}:∀ {l:List Ex} {k:Nat},l[k]?=some x→exNs x.args+k+1≤exNs l
  | [],k,h=>by cases h
  | .mk a b c d e::r,0,h=>by
    simp at h;subst h
    rw [exNs,exN];simp only [Ex.args];omega
  | .mk a b c d e::r,k+1,h=>by
    have:=exNs_mem (l:=r) (k:=k) (by simpa using h)
    rw [exNs,exN];omega
theorem exNs_len:∀ l:List Ex,l.length≤exNs l
  | []=>Nat.le_refl _
  | .mk a b c d e::r=>by have:=exNs_len r;rw [exNs,exN,List.length_cons];omega
theorem take_snocE {α:Type} {l:List α} {k:Nat} {x:α} (h:l[k]?=some x):l.take (k+1)=l.take k++[x]:=by
  obtain ⟨hk,rfl⟩:=List.getElem?_eq_some_iff.1 h
  exact List.take_succ_eq_append_getElem hk
theorem all3_snoc {α β γ:Type} {R:α→β→γ→Prop} {us:List α} {vs:List β} {ws:List γ} {a:α} {b:β} {c:γ} (h:All3 R us vs ws) (h1:R a b c):All3 R (us++[a]) (vs++[b]) (ws++[c]):=h.app (.cons h1 .nil)
def CLX (D d:Nat):Prop:=∀ (L:Hl) (s:World) (A:Option Addr) (n c:Nat) (xs:List Ex),Exs d s A n c xs→exNs xs≤4000000→AC Tryz.prog D 110 [.slice A n c] L s fun v L' _=>∃ M',L'=M'++L∧∃ A' n' c',v=.slice A' n' c'∧OXs d M' A' n' c' xs
theorem clx_step (D d:Nat) (ih:∀ e,d=e+1→CLX D e) (L:Hl) (s:World) (A:Option Addr) (n c:Nat) (xs:List Ex) (hA:Exs d s A n c xs) (hx9:exNs xs≤4000000):AC Tryz.prog D 110 [.slice A n c] L s fun v L' _=>∃ M',L'=M'++L∧∃ A' n' c',v=.slice A' n' c'∧OXs d M' A' n' c' xs:=by
 have hn:=hA.1
 have hc1:=hA.2.1
 have hc2:=hA.2.2.1
 have hl9:=exNs_len xs
 refine AC_enter (TT:=TT) (fn:=Tryz.f110) TT_ok Tryz.func110 V Z Tryz.ntmps110 Z (rs:=[.tmp 2]) Z [(0,_)] Z<|Sr<|At Z Z<|Sr<|At Z Z<|Zs<|Sr<|Zqm Z Z<|Ws Y4<|Zqm Z Z<|Nt<|Zp<|?_
 refine JC_loop (γ:=Nat×Value×Hl×Hl) (fun g=>[(2,_),(3,g.2.1),(6,_),(7,_),(8,.int .i64 (g.1:Int))]) (fun g=>g.2.2.1++(g.2.2.2++L)) (fun g tw=>Le D s tw∧(g.1≤n∧∃ css Ms,FL.Own 89 5 g.2.2.1 g.2.1 g.1 (List.flatten css)∧g.2.2.2=List.flatten Ms∧All3 (OX d) Ms (xs.take g.1) css)) (fun g=>n - g.1) (fun _ _ _ h hl=>⟨h.1.trans hl,h.2⟩) (0,.slice none 0 0,[],[]) (.cons Z (.cons Z (.cons Z (.cons Z (.cons Z (.nil _)))))) Z ⟨Le.refl _,⟨Nat.zero_le _,[],[],FL.Own.nil,Z,.nil⟩⟩ ?_
 intro g s1 I1
 obtain ⟨k,vo,Mo,Fo⟩:=g
 obtain ⟨hk0,css,Ms,hO,hF,hA3⟩:=I1.2
 simp only at hk0 hO hF hA3
 dsimp only
 obtain ⟨Ao,co,rfl,_,_⟩:=Own.slice hO
 refine Sr<|Zqlt Z Z Z<|Nt<|Zs<|?_
 refine JC_ifD Z (fun c2=>?_) (fun c2=>?_)
 ·
  have hk:k < n:=by omega
  obtain ⟨e,b,off,x,A',n',c',hd,rfl,hx,hcx,hax,hux,hnl⟩:=Exs.at_ (hA.le I1.1) hk
  have hx8:=exNs_mem hx
  refine Zk<|Zt<|Zs<|Zp<|Sr<|JO_q (QE_iaN Z Z Z Z Z Z hk) Z<|JO_q (QE_ldsA Z Z Z (hcx.le (Lr D)) Z) Z<|JO_allocZ Z [_,_,_,_,_] Z Z ?_
  intro β3 s3 h3
  refine Wt 0 [_,_,_,_,_] Y9<|Nt<|Sr<|Wb Y5<|Wl 0 Y6<|Jc Z Z Z (AC.mid [_] [] (Mo++(Fo++L)) (ih e hd _ _ A' n' c' x.args (hax.le h3) O)) ?_
  rintro _ _ s4 h4 ⟨M1,rfl,A1,n1,c1,rfl,hM1⟩
  simp only [cQ9,nQ9]
  refine Wb Y5<|Wt 0 [_,_,_,_,_] Y9<|Nt<|JC_perm (L':=_::(Mo++((Fo++M1)++L))) (List.Perm.cons _ (perm_in M1 Mo Fo L))<|Zr<|Zqm Z Z<|JO_q (QE_ldA 0 [_,_,_,_,_] Z Z Z Z Z) Z<|JO_bs [(_,_)] [_,_,_,_,_] Z Z Z Z Z Z Z Z Z ?_
  intro βn s5 h5 hcb
  refine JO_app (sz:=5) [_] Mo ((Fo++M1)++L) Z Z Z Z Z Z Z hO (Row.of_cells (hcb.le (Lr D)) Z Z) ⟨by simp [ti89];omega,by omega⟩ Z ?_
  intro vq Mq s6 h6 oq
  obtain ⟨Avq,cvq,rfl,_,_⟩:=Own.slice oq
  simp only [cQ9,nQ9]
  refine Zqa Z Z<|Zn<|Zb<|Zt<|Zr<|Zqadd Z Z Z (w64 O O)<|Zqm Z Z<|Zn<|?_
  refine thenQ_n ⟨(k+1,.slice Avq (k+1) cvq,Mq,Fo++M1),[_],kp,Z,⟨(I1.1.t h3|>.t h4|>.t h5|>.t h6),⟨by simp only;omega,css++[[.int .i64 x.kind,.int .i64 x.op,.int .u32 x.num,St x.name,.slice A1 n1 c1]],Ms++[M1],by simp only [List.flatten_append,List.flatten_cons,List.flatten_nil,List.append_nil];exact oq,by simp only [List.flatten_append,List.flatten_cons,List.flatten_nil,List.append_nil];rw [hF],by simp only;rw [take_snocE hx];exact all3_snoc hA3 (hd▸OX.mk hM1 hux hnl)⟩⟩,(by simp only;omega)⟩
 obtain rfl:n=k:=by omega
 rw [List.take_of_length_le O] at hA3
 refine Zl<|Zv<|Zv<|Zd<|Zt<|Sr<|Zqm Z Z<|At Z Z<|Zo<|?_
 refine retQ_mk [] _ (.inr Z) (.tmp Z (.nil)) Z I1.1 (fun sR hS2=>?_)
 exact ⟨Mo++Fo,(List.append_assoc Mo Fo L).symm,_,_,_,rfl,css,Ms,Mo,hO,by rw [hF],hA3,hn⟩
theorem clx (D:Nat):∀ d,CLX D d
  | 0=>fun L s A n c xs hA hx9=>clx_step D 0 (fun e h=>by omega) L s A n c xs hA hx9
  | d+1=>fun L s A n c xs hA hx9=>clx_step D (d+1) (fun e h=>(show d=e by omega)▸clx D d) L s A n c xs hA hx9
def Rws (sz:Nat) (s:World) (A:Option Addr) (n c:Nat) (css:List (List Value)):Prop:=Sl sz (fun _ x cs=>cs=x) s A n c css
theorem Rws.le {D sz:Nat} {s s':World} {A:Option Addr} {n c:Nat} {l:List (List Value)} (h:Rws sz s A n c l) (hl:Le D s s'):Rws sz s' A n c l:=Sl.le (fun _ _ h=>h) h hl
theorem Rws.at_ {sz:Nat} {s:World} {A:Option Addr} {n c k:Nat} {l:List (List Value)} {x:List Value} (h:Rws sz s A n c l) (hx:l[k]?=some x):∃ b off,A=some ⟨b,off,none⟩∧CellsAt s b (off+k * sz) x:=by
  obtain ⟨b,off,cs,h1,h2,_,rfl⟩:=h.2.2.2 k x hx
  exact ⟨b,off,h1,h2⟩
theorem Rws.own {e sz:Nat} {M:Hl} {A:Option Addr} {n c:Nat} {css:List (List Value)} {s:World} (h:FL.Own e sz M (.slice A n c) n css.flatten) (hp:Pub M s) (ha:∀ cs∈css,cs.length=sz) (hn:n=css.length):Rws sz s A n c css:=by
  refine Own.rows h hp ?_ hn
  clear h hn
  induction css with
  | nil=>exact .nil
  | cons x l ih=>exact .cons ⟨ha x (List.mem_cons_self ..),rfl⟩ (ih fun y hy=>ha y (List.mem_cons_of_mem _ hy))
def SO:Nat→World→Hl→Stm→List Value→Prop
  | 0,_,_,_,_=>False
  | d+1,s,M,x,cs=>∃ A1 n1 c1 A2 n2 c2 A3 n3 c3 M1 M2 M3,cs=[.int .i64 x.kind,St x.name,.slice A1 n1 c1,.slice A2 n2 c2,.slice A3 n3 c3]∧M=M1++(M2++M3)∧OXs d M1 A1 n1 c1 x.exprs ∧
      (∃ css Ms,M2=Ms.flatten∧Rws 5 s A2 n2 c2 css∧All3 (SO d s) Ms x.body css)∧(∃ css Ms,M3=Ms.flatten∧Rws 5 s A3 n3 c3 css∧All3 (SO d s) Ms x.els css)∧x.name.length≤9223372036854775807
def SOs (d:Nat) (s:World) (M:Hl) (A:Option Addr) (n c:Nat) (l:List Stm):Prop:=∃ css Ms,M=Ms.flatten∧Rws 5 s A n c css∧All3 (SO d s) Ms l css
theorem SO.le {D:Nat} {s s':World} (hl:Le D s s'):∀ {d:Nat} {M:Hl} {x:Stm} {cs:List Value},SO d s M x cs→SO d s' M x cs:=by
  intro d
  induction d with
  | zero=>exact fun h=>h.elim
  | succ d ih=>
    intro M x cs ⟨A1,n1,c1,A2,n2,c2,A3,n3,c3,M1,M2,M3,h1,h2,h3,⟨c4,m4,e4,r4,k4⟩,⟨c5,m5,e5,r5,k5⟩,h6⟩
    exact ⟨A1,n1,c1,A2,n2,c2,A3,n3,c3,M1,M2,M3,h1,h2,h3,⟨c4,m4,e4,r4.le hl,k4.mono fun _ _ _ h=>ih h⟩,⟨c5,m5,e5,r5.le hl,k5.mono fun _ _ _ h=>ih h⟩,h6⟩
theorem SOs.le {D d:Nat} {s s':World} {M:Hl} {A:Option Addr} {n c:Nat} {l:List Stm} (h:SOs d s M A n c l) (hl:Le D s s'):SOs d s' M A n c l:=by
  obtain ⟨c4,m4,e4,r4,k4⟩:=h
  exact ⟨c4,m4,e4,r4.le hl,k4.mono fun _ _ _ h=>SO.le hl h⟩
theorem SO.mk {d:Nat} {s:World} {M1 M2 M3:Hl} {x:Stm} {A1 A2 A3:Option Addr} {n1 c1 n2 c2 n3 c3:Nat} (h1:OXs d M1 A1 n1 c1 x.exprs) (h2:SOs d s M2 A2 n2 c2 x.body) (h3:SOs d s M3 A3 n3 c3 x.els) (hl:x.name.length≤9223372036854775807):SO (d+1) s (M1++(M2++M3)) x [.int .i64 x.kind,St x.name,.slice A1 n1 c1,.slice A2 n2 c2,.slice A3 n3 c3]:=
  ⟨A1,n1,c1,A2,n2,c2,A3,n3,c3,M1,M2,M3,rfl,rfl,h1,h2,h3,hl⟩
theorem SO.eq {d:Nat} {s:World} {M:Hl} {x:Stm} {cs:List Value} (h:SO d s M x cs):∃ e A1 n1 c1 A2 n2 c2 A3 n3 c3 M1 M2 M3,d=e+1∧cs=[.int .i64 x.kind,St x.name,.slice A1 n1 c1,.slice A2 n2 c2,.slice A3 n3 c3]∧M=M1++(M2++M3)∧OXs e M1 A1 n1 c1 x.exprs∧SOs e s M2 A2 n2 c2 x.body∧SOs e s M3 A3 n3 c3 x.els∧x.name.length≤9223372036854775807:=by
  cases d with
  | zero=>exact h.elim
  | succ e=>obtain ⟨A1,n1,c1,A2,n2,c2,A3,n3,c3,M1,M2,M3,h1⟩:=h;exact ⟨e,A1,n1,c1,A2,n2,c2,A3,n3,c3,M1,M2,M3,rfl,h1⟩
theorem SO.five {d:Nat} {s:World} {M:Hl} {x:Stm} {cs:List Value} (h:SO d s M x cs):cs.length=5:=by
  obtain ⟨_,_,_,_,_,_,_,_,_,_,_,_,_,_,rfl,_⟩:=h.eq;rfl
theorem all3_third {α β γ:Type} {R:α→β→γ→Prop} {P:γ→Prop} (hR:∀ a b c,R a b c→P c) {us:List α} {vs:List β} {ws:List γ} (h:All3 R us vs ws):∀ c∈ws,P c:=by
  induction h with
  | nil=>exact fun c h=>by cases h
  | cons h1 _ ih=>
      intro c hc;rcases List.mem_cons.1 hc with rfl | hc
      · exact hR _ _ _ h1
      · exact ih c hc
theorem stNs_mem {x:Stm}:∀ {l:List Stm} {k:Nat},l[k]?=some x→exNs x.exprs+stNs x.body+stNs x.els+k+1≤stNs l
  | [],k,h=>by cases h
  | .mk a b c d e::r,0,h=>by
    simp at h;subst h
    rw [stNs,stN];simp only [Stm.exprs,Stm.body,Stm.els];omega
  | .mk a b c d e::r,k+1,h=>by
    have:=stNs_mem (l:=r) (k:=k) (by simpa using h)
    rw [stNs,stN];omega
theorem stNs_len:∀ l:List Stm,l.length≤stNs l
  | []=>Nat.le_refl _
  | .mk a b c d e::r=>by have:=stNs_len r;rw [stNs,stN,List.length_cons];omega
def CLS (D d:Nat):Prop:=∀ (L:Hl) (s:World) (A:Option Addr) (n c:Nat) (xs:List Stm),Stms d s A n c xs→stNs xs≤4000000→AC Tryz.prog D 71 [.slice A n c] L s fun v L' s'=>∃ M',L'=M'++L∧∃ A' n' c',v=.slice A' n' c'∧SOs d s' M' A' n' c' xs
theorem perm_3 (b:Nat×Obj) (M1 M2 M3 Mo Fo L:Hl):(b::(M3++(M2++(M1++(Mo++(Fo++L)))))).Perm (b::(Mo++((Fo++(M1++(M2++M3)))++L))):=by
  refine List.Perm.cons _ ?_
  have h1:(M3++(M2++M1)).Perm (M1++(M2++M3)):=by
    have a:(M3++(M2++M1)).Perm ((M2++M1)++M3):=List.perm_append_comm
    have b:((M2++M1)++M3).Perm ((M1++M2)++M3):=List.Perm.append_right M3 List.perm_append_comm
    simpa [List.append_assoc] using a.trans b
  have h2:(M3++(M2++(M1++(Mo++(Fo++L))))).Perm ((M1++(M2++M3))++(Mo++(Fo++L))):=by
    have:=List.Perm.append_right (Mo++(Fo++L)) h1
    simpa [List.append_assoc] using this
  exact h2.trans (perm_in (M1++(M2++M3)) Mo Fo L)
theorem cls_step (D d:Nat) (ih:∀ e,d=e+1→CLS D e) (L:Hl) (s:World) (A:Option Addr) (n c:Nat) (xs:List Stm) (hA:Stms d s A n c xs) (hx9:stNs xs≤4000000):AC Tryz.prog D 71 [.slice A n c] L s fun v L' s'=>∃ M',L'=M'++L∧∃ A' n' c',v=.slice A' n' c'∧∀ s2,Le D s' s2→SOs d s2 M' A' n' c' xs:=by
 have hn:=hA.1
 have hc1:=hA.2.1
 have hc2:=hA.2.2.1
 have hl9:=stNs_len xs
 refine AC_enter (TT:=TT) (fn:=Tryz.f71) TT_ok Tryz.func71 V Z Tryz.ntmps71 Z (rs:=[.tmp 2]) Z [(0,_)] Z<|Sr<|At Z Z<|Sr<|At Z Z<|Zs<|Sr<|Zqm Z Z<|Ws Y4<|Zqm Z Z<|Nt<|Zp<|?_
 refine JC_loop (γ:=Nat×Value×Hl×Hl) (fun g=>[(2,_),(3,g.2.1),(6,_),(7,_),(8,.int .i64 (g.1:Int))]) (fun g=>g.2.2.1++(g.2.2.2++L)) (fun g tw=>Le D s tw∧(g.1≤n∧∃ css Ms,FL.Own 95 5 g.2.2.1 g.2.1 g.1 (List.flatten css)∧g.2.2.2=List.flatten Ms∧All3 (SO d tw) Ms (xs.take g.1) css)) (fun g=>n - g.1) (fun _ _ _ h hl=>⟨h.1.trans hl,⟨h.2.1,by obtain ⟨css,Ms,q1,q2,q3⟩:=h.2.2;exact ⟨css,Ms,q1,q2,q3.mono fun _ _ _ k=>SO.le hl k⟩⟩⟩) (0,.slice none 0 0,[],[]) (.cons Z (.cons Z (.cons Z (.cons Z (.cons Z (.nil _)))))) Z ⟨Le.refl _,⟨Nat.zero_le _,[],[],FL.Own.nil,Z,.nil⟩⟩ ?_
 intro g s1 I1
 obtain ⟨k,vo,Mo,Fo⟩:=g
 obtain ⟨hk0,css,Ms,hO,hF,hA3⟩:=I1.2
 simp only at hk0 hO hF hA3
 dsimp only
 obtain ⟨Ao,co,rfl,_,_⟩:=Own.slice hO
 refine Sr<|Zqlt Z Z Z<|Nt<|Zs<|?_
 refine JC_ifD Z (fun c2=>?_) (fun c2=>?_)
 ·
  have hk:k < n:=by omega
  obtain ⟨e,b,off,x,A1,n1,p1,A2,n2,p2,A3,n3,p3,hd,rfl,hx,hcx,hax,hbx,hex,hnl⟩:=Stms.at_ (hA.le I1.1) hk
  have hx8:=stNs_mem hx
  refine Zk<|Zt<|Zs<|Zp<|Sr<|JO_q (QE_iaN Z Z Z Z Z Z hk) Z<|JO_q (QE_ldsA Z Z Z (hcx.le (Lr D)) Z) Z<|JO_allocZ Z [_,_,_,_,_] Z Z ?_
  intro β3 s3 h3
  refine Wt 0 [_,_,_,_,_] Y9<|Nt<|?_
  refine JC_cutF [] Z (γ:=Value×Value×Value×Hl×Hl×Hl) (fun g=>(β3,cb [.int .i64 x.kind,St x.name,g.1,g.2.1,g.2.2.1] 95)::(Mo++((Fo++(g.2.2.2.1++(g.2.2.2.2.1++g.2.2.2.2.2)))++L))) (fun g tw=>(∃ A n c,g.1=.slice A n c∧OXs e g.2.2.2.1 A n c x.exprs)∧(∃ A n c,g.2.1=.slice A n c∧SOs e tw g.2.2.2.2.1 A n c x.body)∧(∃ A n c,g.2.2.1=.slice A n c∧SOs e tw g.2.2.2.2.2 A n c x.els)) (fun _ _ _ h hl=>⟨h.1,by obtain ⟨A,n,c,q1,q2⟩:=h.2.1;exact ⟨A,n,c,q1,q2.le hl⟩,by obtain ⟨A,n,c,q1,q2⟩:=h.2.2;exact ⟨A,n,c,q1,q2.le hl⟩⟩) ?_ ?_
  ·
   refine JC_drawT drawsMixed 15 Z 0 ?_
   intro s5 h5
   refine za 0 Z (We Y4) Z<|za 3 Z (We Y4) Z<|za 6 Z (We Y4) Z ?_
   refine JA_3 1 4 7 V ?_ ?_ ?_
   ·
    refine JB_q Z trivial (Wd 0 Y5) Z ?_
    refine JA_3 2 4 7 V ?_ ?_ ?_
    ·
     refine Jb Z trivial Z Z Z (AC.mid [_] [] (Mo++(Fo++L)) (clx D e _ _ A1 n1 p1 x.exprs (hax.le (h3.t h5)) O)) ?_
     rintro _ _ s6 h6 ⟨M1,rfl,C1,r1,e1,rfl,hM1⟩
     refine ⟨(fun x hx _=>nomatch hx),?_⟩
     simp only [cQ9,nQ9]
     refine JA_2 4 7 V ?_ ?_
     ·
      refine JB_q Z trivial (Wd 0 Y5) Z ?_
      refine JA_2 5 7 V ?_ ?_
      ·
       refine Jb Z trivial Z Z Z (AC.mid [_] [] (M1++(Mo++(Fo++L))) (ih e hd _ _ A2 n2 p2 x.body (hbx.le (h3.t h5|>.t h6)) O)) ?_
       rintro _ _ s7 h7 ⟨M2,rfl,C2,r2,e2,rfl,hM2⟩
       refine ⟨(fun x hx _=>nomatch hx),?_⟩
       simp only [cQ9,nQ9]
       refine JA_1 7 V<|JB_q Z trivial (Wd 0 Y5) Z<|za 9 Z (We Y4) Z<|JA_1 8 V<|Jb Z trivial Z Z Z (AC.mid [_] [] (M2++(M1++(Mo++(Fo++L)))) (ih e hd _ _ A3 n3 p3 x.els (hex.le (h3.t h5|>.t h6|>.t h7)) O)) ?_
       rintro _ _ s8 h8 ⟨M3,rfl,C3,r3,e3,rfl,hM3⟩
       refine ⟨(fun x hx _=>nomatch hx),?_⟩
       simp only [cQ9,nQ9]
       refine JA_1 10 V<|Wu Z trivial 0 [_,_,_,_,_] Y9 (fun _ hx=>sub_mem (sb0 _) hx)<|za 11 Z (We Y4) Z<|JA_1 12 V<|Wu Z trivial 0 [_,_,_,_,_] Y9 (fun _ hx=>sub_mem (sb0 _) hx)<|za 13 Z (We Y4) Z<|JA_1 14 V<|Wu Z trivial 0 [_,_,_,_,_] Y9 (fun _ hx=>sub_mem (sb0 _) hx)<|JA_done V ?_
       refine thenQ_n (MidF.mk (.slice C1 r1 e1,.slice C2 r2 e2,.slice C3 r3 e3,M1,M2,M3) [] (h5.t h6|>.t h7|>.t h8) sk (perm_3 _ M1 M2 M3 Mo Fo L) ⟨⟨_,_,_,Z,hM1⟩,⟨_,_,_,Z,hM2.le h8⟩,⟨_,_,_,Z,hM3.le (Lr D)⟩⟩)
      refine JB_q Z trivial (Wd 0 Y5) Z<|za 9 Z (We Y4) Z<|JA_1 5 V<|Jb Z trivial Z Z Z (AC.mid [_] [] (M1++(Mo++(Fo++L))) (ih e hd _ _ A2 n2 p2 x.body (hbx.le (h3.t h5|>.t h6)) O)) ?_
      rintro _ _ s9 h9 ⟨M2,rfl,C2,r2,e2,rfl,hM2⟩
      refine ⟨(fun x hx _=>nomatch hx),?_⟩
      simp only [cQ9,nQ9]
      refine JA_1 8 V<|Jb Z trivial Z Z Z (AC.mid [_] [] (M2++(M1++(Mo++(Fo++L)))) (ih e hd _ _ A3 n3 p3 x.els (hex.le (h3.t h5|>.t h6|>.t h9)) O)) ?_
      rintro _ _ s10 h10 ⟨M3,rfl,C3,r3,e3,rfl,hM3⟩
      refine ⟨(fun x hx _=>nomatch hx),?_⟩
      simp only [cQ9,nQ9]
      refine JA_1 10 V<|Wu Z trivial 0 [_,_,_,_,_] Y9 (fun _ hx=>sub_mem (sb0 _) hx)<|za 11 Z (We Y4) Z<|JA_1 12 V<|Wu Z trivial 0 [_,_,_,_,_] Y9 (fun _ hx=>sub_mem (sb0 _) hx)<|za 13 Z (We Y4) Z<|JA_1 14 V<|Wu Z trivial 0 [_,_,_,_,_] Y9 (fun _ hx=>sub_mem (sb0 _) hx)<|JA_done V ?_
      refine thenQ_n (MidF.mk (.slice C1 r1 e1,.slice C2 r2 e2,.slice C3 r3 e3,M1,M2,M3) [] (h5.t h6|>.t h9|>.t h10) sk (perm_3 _ M1 M2 M3 Mo Fo L) ⟨⟨_,_,_,Z,hM1⟩,⟨_,_,_,Z,hM2.le h10⟩,⟨_,_,_,Z,hM3.le (Lr D)⟩⟩)
     refine JB_q Z trivial (Wd 0 Y5) Z<|JA_1 4 V<|JB_q Z trivial (Wd 0 Y5) Z<|za 9 Z (We Y4) Z<|JA_1 5 V<|Jb Z trivial Z Z Z (AC.mid [_] [] (M1++(Mo++(Fo++L))) (ih e hd _ _ A2 n2 p2 x.body (hbx.le (h3.t h5|>.t h6)) O)) ?_
     rintro _ _ s11 h11 ⟨M2,rfl,C2,r2,e2,rfl,hM2⟩
     refine ⟨(fun x hx _=>nomatch hx),?_⟩
     simp only [cQ9,nQ9]
     refine JA_1 8 V<|Jb Z trivial Z Z Z (AC.mid [_] [] (M2++(M1++(Mo++(Fo++L)))) (ih e hd _ _ A3 n3 p3 x.els (hex.le (h3.t h5|>.t h6|>.t h11)) O)) ?_
     rintro _ _ s12 h12 ⟨M3,rfl,C3,r3,e3,rfl,hM3⟩
     refine ⟨(fun x hx _=>nomatch hx),?_⟩
     simp only [cQ9,nQ9]
     refine JA_1 10 V<|Wu Z trivial 0 [_,_,_,_,_] Y9 (fun _ hx=>sub_mem (sb0 _) hx)<|za 11 Z (We Y4) Z<|JA_1 12 V<|Wu Z trivial 0 [_,_,_,_,_] Y9 (fun _ hx=>sub_mem (sb0 _) hx)<|za 13 Z (We Y4) Z<|JA_1 14 V<|Wu Z trivial 0 [_,_,_,_,_] Y9 (fun _ hx=>sub_mem (sb0 _) hx)<|JA_done V ?_
     refine thenQ_n (MidF.mk (.slice C1 r1 e1,.slice C2 r2 e2,.slice C3 r3 e3,M1,M2,M3) [] (h5.t h6|>.t h11|>.t h12) sk (perm_3 _ M1 M2 M3 Mo Fo L) ⟨⟨_,_,_,Z,hM1⟩,⟨_,_,_,Z,hM2.le h12⟩,⟨_,_,_,Z,hM3.le (Lr D)⟩⟩)
    ·
     refine JB_q Z trivial (Wd 0 Y5) Z ?_
     refine JA_2 2 7 V ?_ ?_
     ·
      refine Jb Z trivial Z Z Z (AC.mid [_] [] (Mo++(Fo++L)) (clx D e _ _ A1 n1 p1 x.exprs (hax.le (h3.t h5)) O)) ?_
      rintro _ _ s13 h13 ⟨M1,rfl,C1,r1,e1,rfl,hM1⟩
      refine ⟨(fun x hx _=>nomatch hx),?_⟩
      simp only [cQ9,nQ9]
      refine JA_2 5 7 V ?_ ?_
      ·
       refine Jb Z trivial Z Z Z (AC.mid [_] [] (M1++(Mo++(Fo++L))) (ih e hd _ _ A2 n2 p2 x.body (hbx.le (h3.t h5|>.t h13)) O)) ?_
       rintro _ _ s14 h14 ⟨M2,rfl,C2,r2,e2,rfl,hM2⟩
       refine ⟨(fun x hx _=>nomatch hx),?_⟩
       simp only [cQ9,nQ9]
       refine JA_1 7 V<|JB_q Z trivial (Wd 0 Y5) Z<|za 9 Z (We Y4) Z<|JA_1 8 V<|Jb Z trivial Z Z Z (AC.mid [_] [] (M2++(M1++(Mo++(Fo++L)))) (ih e hd _ _ A3 n3 p3 x.els (hex.le (h3.t h5|>.t h13|>.t h14)) O)) ?_
       rintro _ _ s15 h15 ⟨M3,rfl,C3,r3,e3,rfl,hM3⟩
       refine ⟨(fun x hx _=>nomatch hx),?_⟩
       simp only [cQ9,nQ9]
       refine JA_1 10 V<|Wu Z trivial 0 [_,_,_,_,_] Y9 (fun _ hx=>sub_mem (sb0 _) hx)<|za 11 Z (We Y4) Z<|JA_1 12 V<|Wu Z trivial 0 [_,_,_,_,_] Y9 (fun _ hx=>sub_mem (sb0 _) hx)<|za 13 Z (We Y4) Z<|JA_1 14 V<|Wu Z trivial 0 [_,_,_,_,_] Y9 (fun _ hx=>sub_mem (sb0 _) hx)<|JA_done V ?_
       refine thenQ_n (MidF.mk (.slice C1 r1 e1,.slice C2 r2 e2,.slice C3 r3 e3,M1,M2,M3) [] (h5.t h13|>.t h14|>.t h15) sk (perm_3 _ M1 M2 M3 Mo Fo L) ⟨⟨_,_,_,Z,hM1⟩,⟨_,_,_,Z,hM2.le h15⟩,⟨_,_,_,Z,hM3.le (Lr D)⟩⟩)
      refine JB_q Z trivial (Wd 0 Y5) Z<|za 9 Z (We Y4) Z<|JA_1 5 V<|Jb Z trivial Z Z Z (AC.mid [_] [] (M1++(Mo++(Fo++L))) (ih e hd _ _ A2 n2 p2 x.body (hbx.le (h3.t h5|>.t h13)) O)) ?_
      rintro _ _ s16 h16 ⟨M2,rfl,C2,r2,e2,rfl,hM2⟩
      refine ⟨(fun x hx _=>nomatch hx),?_⟩
      simp only [cQ9,nQ9]
      refine JA_1 8 V<|Jb Z trivial Z Z Z (AC.mid [_] [] (M2++(M1++(Mo++(Fo++L)))) (ih e hd _ _ A3 n3 p3 x.els (hex.le (h3.t h5|>.t h13|>.t h16)) O)) ?_
      rintro _ _ s17 h17 ⟨M3,rfl,C3,r3,e3,rfl,hM3⟩
      refine ⟨(fun x hx _=>nomatch hx),?_⟩
      simp only [cQ9,nQ9]
      refine JA_1 10 V<|Wu Z trivial 0 [_,_,_,_,_] Y9 (fun _ hx=>sub_mem (sb0 _) hx)<|za 11 Z (We Y4) Z<|JA_1 12 V<|Wu Z trivial 0 [_,_,_,_,_] Y9 (fun _ hx=>sub_mem (sb0 _) hx)<|za 13 Z (We Y4) Z<|JA_1 14 V<|Wu Z trivial 0 [_,_,_,_,_] Y9 (fun _ hx=>sub_mem (sb0 _) hx)<|JA_done V ?_
      refine thenQ_n (MidF.mk (.slice C1 r1 e1,.slice C2 r2 e2,.slice C3 r3 e3,M1,M2,M3) [] (h5.t h13|>.t h16|>.t h17) sk (perm_3 _ M1 M2 M3 Mo Fo L) ⟨⟨_,_,_,Z,hM1⟩,⟨_,_,_,Z,hM2.le h17⟩,⟨_,_,_,Z,hM3.le (Lr D)⟩⟩)
     refine JB_q Z trivial (Wd 0 Y5) Z<|JA_1 2 V<|Jb Z trivial Z Z Z (AC.mid [_] [] (Mo++(Fo++L)) (clx D e _ _ A1 n1 p1 x.exprs (hax.le (h3.t h5)) O)) ?_
     rintro _ _ s18 h18 ⟨M1,rfl,C1,r1,e1,rfl,hM1⟩
     refine ⟨(fun x hx _=>nomatch hx),?_⟩
     simp only [cQ9,nQ9]
     refine za 9 Z (We Y4) Z<|JA_1 5 V<|Jb Z trivial Z Z Z (AC.mid [_] [] (M1++(Mo++(Fo++L))) (ih e hd _ _ A2 n2 p2 x.body (hbx.le (h3.t h5|>.t h18)) O)) ?_
     rintro _ _ s19 h19 ⟨M2,rfl,C2,r2,e2,rfl,hM2⟩
     refine ⟨(fun x hx _=>nomatch hx),?_⟩
     simp only [cQ9,nQ9]
     refine JA_1 8 V<|Jb Z trivial Z Z Z (AC.mid [_] [] (M2++(M1++(Mo++(Fo++L)))) (ih e hd _ _ A3 n3 p3 x.els (hex.le (h3.t h5|>.t h18|>.t h19)) O)) ?_
     rintro _ _ s20 h20 ⟨M3,rfl,C3,r3,e3,rfl,hM3⟩
     refine ⟨(fun x hx _=>nomatch hx),?_⟩
     simp only [cQ9,nQ9]
     refine JA_1 10 V<|Wu Z trivial 0 [_,_,_,_,_] Y9 (fun _ hx=>sub_mem (sb0 _) hx)<|za 11 Z (We Y4) Z<|JA_1 12 V<|Wu Z trivial 0 [_,_,_,_,_] Y9 (fun _ hx=>sub_mem (sb0 _) hx)<|za 13 Z (We Y4) Z<|JA_1 14 V<|Wu Z trivial 0 [_,_,_,_,_] Y9 (fun _ hx=>sub_mem (sb0 _) hx)<|JA_done V ?_
     refine thenQ_n (MidF.mk (.slice C1 r1 e1,.slice C2 r2 e2,.slice C3 r3 e3,M1,M2,M3) [] (h5.t h18|>.t h19|>.t h20) sk (perm_3 _ M1 M2 M3 Mo Fo L) ⟨⟨_,_,_,Z,hM1⟩,⟨_,_,_,Z,hM2.le h20⟩,⟨_,_,_,Z,hM3.le (Lr D)⟩⟩)
    refine JB_q Z trivial (Wd 0 Y5) Z ?_
    refine JA_2 2 4 V ?_ ?_
    ·
     refine Jb Z trivial Z Z Z (AC.mid [_] [] (Mo++(Fo++L)) (clx D e _ _ A1 n1 p1 x.exprs (hax.le (h3.t h5)) O)) ?_
     rintro _ _ s21 h21 ⟨M1,rfl,C1,r1,e1,rfl,hM1⟩
     refine ⟨(fun x hx _=>nomatch hx),?_⟩
     simp only [cQ9,nQ9]
     refine JA_1 4 V<|JB_q Z trivial (Wd 0 Y5) Z<|za 9 Z (We Y4) Z<|JA_1 5 V<|Jb Z trivial Z Z Z (AC.mid [_] [] (M1++(Mo++(Fo++L))) (ih e hd _ _ A2 n2 p2 x.body (hbx.le (h3.t h5|>.t h21)) O)) ?_
     rintro _ _ s22 h22 ⟨M2,rfl,C2,r2,e2,rfl,hM2⟩
     refine ⟨(fun x hx _=>nomatch hx),?_⟩
     simp only [cQ9,nQ9]
     refine JA_1 8 V<|Jb Z trivial Z Z Z (AC.mid [_] [] (M2++(M1++(Mo++(Fo++L)))) (ih e hd _ _ A3 n3 p3 x.els (hex.le (h3.t h5|>.t h21|>.t h22)) O)) ?_
     rintro _ _ s23 h23 ⟨M3,rfl,C3,r3,e3,rfl,hM3⟩
     refine ⟨(fun x hx _=>nomatch hx),?_⟩
     simp only [cQ9,nQ9]
     refine JA_1 10 V<|Wu Z trivial 0 [_,_,_,_,_] Y9 (fun _ hx=>sub_mem (sb0 _) hx)<|za 11 Z (We Y4) Z<|JA_1 12 V<|Wu Z trivial 0 [_,_,_,_,_] Y9 (fun _ hx=>sub_mem (sb0 _) hx)<|za 13 Z (We Y4) Z<|JA_1 14 V<|Wu Z trivial 0 [_,_,_,_,_] Y9 (fun _ hx=>sub_mem (sb0 _) hx)<|JA_done V ?_
     refine thenQ_n (MidF.mk (.slice C1 r1 e1,.slice C2 r2 e2,.slice C3 r3 e3,M1,M2,M3) [] (h5.t h21|>.t h22|>.t h23) sk (perm_3 _ M1 M2 M3 Mo Fo L) ⟨⟨_,_,_,Z,hM1⟩,⟨_,_,_,Z,hM2.le h23⟩,⟨_,_,_,Z,hM3.le (Lr D)⟩⟩)
    refine JB_q Z trivial (Wd 0 Y5) Z<|JA_1 2 V<|Jb Z trivial Z Z Z (AC.mid [_] [] (Mo++(Fo++L)) (clx D e _ _ A1 n1 p1 x.exprs (hax.le (h3.t h5)) O)) ?_
    rintro _ _ s24 h24 ⟨M1,rfl,C1,r1,e1,rfl,hM1⟩
    refine ⟨(fun x hx _=>nomatch hx),?_⟩
    simp only [cQ9,nQ9]
    refine za 9 Z (We Y4) Z<|JA_1 5 V<|Jb Z trivial Z Z Z (AC.mid [_] [] (M1++(Mo++(Fo++L))) (ih e hd _ _ A2 n2 p2 x.body (hbx.le (h3.t h5|>.t h24)) O)) ?_
    rintro _ _ s25 h25 ⟨M2,rfl,C2,r2,e2,rfl,hM2⟩
    refine ⟨(fun x hx _=>nomatch hx),?_⟩
    simp only [cQ9,nQ9]
    refine JA_1 8 V<|Jb Z trivial Z Z Z (AC.mid [_] [] (M2++(M1++(Mo++(Fo++L)))) (ih e hd _ _ A3 n3 p3 x.els (hex.le (h3.t h5|>.t h24|>.t h25)) O)) ?_
    rintro _ _ s26 h26 ⟨M3,rfl,C3,r3,e3,rfl,hM3⟩
    refine ⟨(fun x hx _=>nomatch hx),?_⟩
    simp only [cQ9,nQ9]
    refine JA_1 10 V<|Wu Z trivial 0 [_,_,_,_,_] Y9 (fun _ hx=>sub_mem (sb0 _) hx)<|za 11 Z (We Y4) Z<|JA_1 12 V<|Wu Z trivial 0 [_,_,_,_,_] Y9 (fun _ hx=>sub_mem (sb0 _) hx)<|za 13 Z (We Y4) Z<|JA_1 14 V<|Wu Z trivial 0 [_,_,_,_,_] Y9 (fun _ hx=>sub_mem (sb0 _) hx)<|JA_done V ?_
    refine thenQ_n (MidF.mk (.slice C1 r1 e1,.slice C2 r2 e2,.slice C3 r3 e3,M1,M2,M3) [] (h5.t h24|>.t h25|>.t h26) sk (perm_3 _ M1 M2 M3 Mo Fo L) ⟨⟨_,_,_,Z,hM1⟩,⟨_,_,_,Z,hM2.le h26⟩,⟨_,_,_,Z,hM3.le (Lr D)⟩⟩)
   ·
    refine JB_q Z trivial (Wd 0 Y5) Z ?_
    refine JA_2 1 7 V ?_ ?_
    ·
     refine JB_q Z trivial (Wd 0 Y5) Z ?_
     refine JA_2 2 7 V ?_ ?_
     ·
      refine Jb Z trivial Z Z Z (AC.mid [_] [] (Mo++(Fo++L)) (clx D e _ _ A1 n1 p1 x.exprs (hax.le (h3.t h5)) O)) ?_
      rintro _ _ s27 h27 ⟨M1,rfl,C1,r1,e1,rfl,hM1⟩
      refine ⟨(fun x hx _=>nomatch hx),?_⟩
      simp only [cQ9,nQ9]
      refine JA_2 5 7 V ?_ ?_
      ·
       refine Jb Z trivial Z Z Z (AC.mid [_] [] (M1++(Mo++(Fo++L))) (ih e hd _ _ A2 n2 p2 x.body (hbx.le (h3.t h5|>.t h27)) O)) ?_
       rintro _ _ s28 h28 ⟨M2,rfl,C2,r2,e2,rfl,hM2⟩
       refine ⟨(fun x hx _=>nomatch hx),?_⟩
       simp only [cQ9,nQ9]
       refine JA_1 7 V<|JB_q Z trivial (Wd 0 Y5) Z<|za 9 Z (We Y4) Z<|JA_1 8 V<|Jb Z trivial Z Z Z (AC.mid [_] [] (M2++(M1++(Mo++(Fo++L)))) (ih e hd _ _ A3 n3 p3 x.els (hex.le (h3.t h5|>.t h27|>.t h28)) O)) ?_
       rintro _ _ s29 h29 ⟨M3,rfl,C3,r3,e3,rfl,hM3⟩
       refine ⟨(fun x hx _=>nomatch hx),?_⟩
       simp only [cQ9,nQ9]
       refine JA_1 10 V<|Wu Z trivial 0 [_,_,_,_,_] Y9 (fun _ hx=>sub_mem (sb0 _) hx)<|za 11 Z (We Y4) Z<|JA_1 12 V<|Wu Z trivial 0 [_,_,_,_,_] Y9 (fun _ hx=>sub_mem (sb0 _) hx)<|za 13 Z (We Y4) Z<|JA_1 14 V<|Wu Z trivial 0 [_,_,_,_,_] Y9 (fun _ hx=>sub_mem (sb0 _) hx)<|JA_done V ?_
       refine thenQ_n (MidF.mk (.slice C1 r1 e1,.slice C2 r2 e2,.slice C3 r3 e3,M1,M2,M3) [] (h5.t h27|>.t h28|>.t h29) sk (perm_3 _ M1 M2 M3 Mo Fo L) ⟨⟨_,_,_,Z,hM1⟩,⟨_,_,_,Z,hM2.le h29⟩,⟨_,_,_,Z,hM3.le (Lr D)⟩⟩)
      refine JB_q Z trivial (Wd 0 Y5) Z<|za 9 Z (We Y4) Z<|JA_1 5 V<|Jb Z trivial Z Z Z (AC.mid [_] [] (M1++(Mo++(Fo++L))) (ih e hd _ _ A2 n2 p2 x.body (hbx.le (h3.t h5|>.t h27)) O)) ?_
      rintro _ _ s30 h30 ⟨M2,rfl,C2,r2,e2,rfl,hM2⟩
      refine ⟨(fun x hx _=>nomatch hx),?_⟩
      simp only [cQ9,nQ9]
      refine JA_1 8 V<|Jb Z trivial Z Z Z (AC.mid [_] [] (M2++(M1++(Mo++(Fo++L)))) (ih e hd _ _ A3 n3 p3 x.els (hex.le (h3.t h5|>.t h27|>.t h30)) O)) ?_
      rintro _ _ s31 h31 ⟨M3,rfl,C3,r3,e3,rfl,hM3⟩
      refine ⟨(fun x hx _=>nomatch hx),?_⟩
      simp only [cQ9,nQ9]
      refine JA_1 10 V<|Wu Z trivial 0 [_,_,_,_,_] Y9 (fun _ hx=>sub_mem (sb0 _) hx)<|za 11 Z (We Y4) Z<|JA_1 12 V<|Wu Z trivial 0 [_,_,_,_,_] Y9 (fun _ hx=>sub_mem (sb0 _) hx)<|za 13 Z (We Y4) Z<|JA_1 14 V<|Wu Z trivial 0 [_,_,_,_,_] Y9 (fun _ hx=>sub_mem (sb0 _) hx)<|JA_done V ?_
      refine thenQ_n (MidF.mk (.slice C1 r1 e1,.slice C2 r2 e2,.slice C3 r3 e3,M1,M2,M3) [] (h5.t h27|>.t h30|>.t h31) sk (perm_3 _ M1 M2 M3 Mo Fo L) ⟨⟨_,_,_,Z,hM1⟩,⟨_,_,_,Z,hM2.le h31⟩,⟨_,_,_,Z,hM3.le (Lr D)⟩⟩)
     refine JB_q Z trivial (Wd 0 Y5) Z<|JA_1 2 V<|Jb Z trivial Z Z Z (AC.mid [_] [] (Mo++(Fo++L)) (clx D e _ _ A1 n1 p1 x.exprs (hax.le (h3.t h5)) O)) ?_
     rintro _ _ s32 h32 ⟨M1,rfl,C1,r1,e1,rfl,hM1⟩
     refine ⟨(fun x hx _=>nomatch hx),?_⟩
     simp only [cQ9,nQ9]
     refine za 9 Z (We Y4) Z<|JA_1 5 V<|Jb Z trivial Z Z Z (AC.mid [_] [] (M1++(Mo++(Fo++L))) (ih e hd _ _ A2 n2 p2 x.body (hbx.le (h3.t h5|>.t h32)) O)) ?_
     rintro _ _ s33 h33 ⟨M2,rfl,C2,r2,e2,rfl,hM2⟩
     refine ⟨(fun x hx _=>nomatch hx),?_⟩
     simp only [cQ9,nQ9]
     refine JA_1 8 V<|Jb Z trivial Z Z Z (AC.mid [_] [] (M2++(M1++(Mo++(Fo++L)))) (ih e hd _ _ A3 n3 p3 x.els (hex.le (h3.t h5|>.t h32|>.t h33)) O)) ?_
     rintro _ _ s34 h34 ⟨M3,rfl,C3,r3,e3,rfl,hM3⟩
     refine ⟨(fun x hx _=>nomatch hx),?_⟩
     simp only [cQ9,nQ9]
     refine JA_1 10 V<|Wu Z trivial 0 [_,_,_,_,_] Y9 (fun _ hx=>sub_mem (sb0 _) hx)<|za 11 Z (We Y4) Z<|JA_1 12 V<|Wu Z trivial 0 [_,_,_,_,_] Y9 (fun _ hx=>sub_mem (sb0 _) hx)<|za 13 Z (We Y4) Z<|JA_1 14 V<|Wu Z trivial 0 [_,_,_,_,_] Y9 (fun _ hx=>sub_mem (sb0 _) hx)<|JA_done V ?_
     refine thenQ_n (MidF.mk (.slice C1 r1 e1,.slice C2 r2 e2,.slice C3 r3 e3,M1,M2,M3) [] (h5.t h32|>.t h33|>.t h34) sk (perm_3 _ M1 M2 M3 Mo Fo L) ⟨⟨_,_,_,Z,hM1⟩,⟨_,_,_,Z,hM2.le h34⟩,⟨_,_,_,Z,hM3.le (Lr D)⟩⟩)
    refine JB_q Z trivial (Wd 0 Y5) Z<|JA_1 1 V<|JB_q Z trivial (Wd 0 Y5) Z<|JA_1 2 V<|Jb Z trivial Z Z Z (AC.mid [_] [] (Mo++(Fo++L)) (clx D e _ _ A1 n1 p1 x.exprs (hax.le (h3.t h5)) O)) ?_
    rintro _ _ s35 h35 ⟨M1,rfl,C1,r1,e1,rfl,hM1⟩
    refine ⟨(fun x hx _=>nomatch hx),?_⟩
    simp only [cQ9,nQ9]
    refine za 9 Z (We Y4) Z<|JA_1 5 V<|Jb Z trivial Z Z Z (AC.mid [_] [] (M1++(Mo++(Fo++L))) (ih e hd _ _ A2 n2 p2 x.body (hbx.le (h3.t h5|>.t h35)) O)) ?_
    rintro _ _ s36 h36 ⟨M2,rfl,C2,r2,e2,rfl,hM2⟩
    refine ⟨(fun x hx _=>nomatch hx),?_⟩
    simp only [cQ9,nQ9]
    refine JA_1 8 V<|Jb Z trivial Z Z Z (AC.mid [_] [] (M2++(M1++(Mo++(Fo++L)))) (ih e hd _ _ A3 n3 p3 x.els (hex.le (h3.t h5|>.t h35|>.t h36)) O)) ?_
    rintro _ _ s37 h37 ⟨M3,rfl,C3,r3,e3,rfl,hM3⟩
    refine ⟨(fun x hx _=>nomatch hx),?_⟩
    simp only [cQ9,nQ9]
    refine JA_1 10 V<|Wu Z trivial 0 [_,_,_,_,_] Y9 (fun _ hx=>sub_mem (sb0 _) hx)<|za 11 Z (We Y4) Z<|JA_1 12 V<|Wu Z trivial 0 [_,_,_,_,_] Y9 (fun _ hx=>sub_mem (sb0 _) hx)<|za 13 Z (We Y4) Z<|JA_1 14 V<|Wu Z trivial 0 [_,_,_,_,_] Y9 (fun _ hx=>sub_mem (sb0 _) hx)<|JA_done V ?_
    refine thenQ_n (MidF.mk (.slice C1 r1 e1,.slice C2 r2 e2,.slice C3 r3 e3,M1,M2,M3) [] (h5.t h35|>.t h36|>.t h37) sk (perm_3 _ M1 M2 M3 Mo Fo L) ⟨⟨_,_,_,Z,hM1⟩,⟨_,_,_,Z,hM2.le h37⟩,⟨_,_,_,Z,hM3.le (Lr D)⟩⟩)
   refine JB_q Z trivial (Wd 0 Y5) Z ?_
   refine JA_2 1 4 V ?_ ?_
   ·
    refine JB_q Z trivial (Wd 0 Y5) Z ?_
    refine JA_2 2 4 V ?_ ?_
    ·
     refine Jb Z trivial Z Z Z (AC.mid [_] [] (Mo++(Fo++L)) (clx D e _ _ A1 n1 p1 x.exprs (hax.le (h3.t h5)) O)) ?_
     rintro _ _ s38 h38 ⟨M1,rfl,C1,r1,e1,rfl,hM1⟩
     refine ⟨(fun x hx _=>nomatch hx),?_⟩
     simp only [cQ9,nQ9]
     refine JA_1 4 V<|JB_q Z trivial (Wd 0 Y5) Z<|za 9 Z (We Y4) Z<|JA_1 5 V<|Jb Z trivial Z Z Z (AC.mid [_] [] (M1++(Mo++(Fo++L))) (ih e hd _ _ A2 n2 p2 x.body (hbx.le (h3.t h5|>.t h38)) O)) ?_
     rintro _ _ s39 h39 ⟨M2,rfl,C2,r2,e2,rfl,hM2⟩
     refine ⟨(fun x hx _=>nomatch hx),?_⟩
     simp only [cQ9,nQ9]
     refine JA_1 8 V<|Jb Z trivial Z Z Z (AC.mid [_] [] (M2++(M1++(Mo++(Fo++L)))) (ih e hd _ _ A3 n3 p3 x.els (hex.le (h3.t h5|>.t h38|>.t h39)) O)) ?_
     rintro _ _ s40 h40 ⟨M3,rfl,C3,r3,e3,rfl,hM3⟩
     refine ⟨(fun x hx _=>nomatch hx),?_⟩
     simp only [cQ9,nQ9]
     refine JA_1 10 V<|Wu Z trivial 0 [_,_,_,_,_] Y9 (fun _ hx=>sub_mem (sb0 _) hx)<|za 11 Z (We Y4) Z<|JA_1 12 V<|Wu Z trivial 0 [_,_,_,_,_] Y9 (fun _ hx=>sub_mem (sb0 _) hx)<|za 13 Z (We Y4) Z<|JA_1 14 V<|Wu Z trivial 0 [_,_,_,_,_] Y9 (fun _ hx=>sub_mem (sb0 _) hx)<|JA_done V ?_
     refine thenQ_n (MidF.mk (.slice C1 r1 e1,.slice C2 r2 e2,.slice C3 r3 e3,M1,M2,M3) [] (h5.t h38|>.t h39|>.t h40) sk (perm_3 _ M1 M2 M3 Mo Fo L) ⟨⟨_,_,_,Z,hM1⟩,⟨_,_,_,Z,hM2.le h40⟩,⟨_,_,_,Z,hM3.le (Lr D)⟩⟩)
    refine JB_q Z trivial (Wd 0 Y5) Z<|JA_1 2 V<|Jb Z trivial Z Z Z (AC.mid [_] [] (Mo++(Fo++L)) (clx D e _ _ A1 n1 p1 x.exprs (hax.le (h3.t h5)) O)) ?_
    rintro _ _ s41 h41 ⟨M1,rfl,C1,r1,e1,rfl,hM1⟩
    refine ⟨(fun x hx _=>nomatch hx),?_⟩
    simp only [cQ9,nQ9]
    refine za 9 Z (We Y4) Z<|JA_1 5 V<|Jb Z trivial Z Z Z (AC.mid [_] [] (M1++(Mo++(Fo++L))) (ih e hd _ _ A2 n2 p2 x.body (hbx.le (h3.t h5|>.t h41)) O)) ?_
    rintro _ _ s42 h42 ⟨M2,rfl,C2,r2,e2,rfl,hM2⟩
    refine ⟨(fun x hx _=>nomatch hx),?_⟩
    simp only [cQ9,nQ9]
    refine JA_1 8 V<|Jb Z trivial Z Z Z (AC.mid [_] [] (M2++(M1++(Mo++(Fo++L)))) (ih e hd _ _ A3 n3 p3 x.els (hex.le (h3.t h5|>.t h41|>.t h42)) O)) ?_
    rintro _ _ s43 h43 ⟨M3,rfl,C3,r3,e3,rfl,hM3⟩
    refine ⟨(fun x hx _=>nomatch hx),?_⟩
    simp only [cQ9,nQ9]
    refine JA_1 10 V<|Wu Z trivial 0 [_,_,_,_,_] Y9 (fun _ hx=>sub_mem (sb0 _) hx)<|za 11 Z (We Y4) Z<|JA_1 12 V<|Wu Z trivial 0 [_,_,_,_,_] Y9 (fun _ hx=>sub_mem (sb0 _) hx)<|za 13 Z (We Y4) Z<|JA_1 14 V<|Wu Z trivial 0 [_,_,_,_,_] Y9 (fun _ hx=>sub_mem (sb0 _) hx)<|JA_done V ?_
    refine thenQ_n (MidF.mk (.slice C1 r1 e1,.slice C2 r2 e2,.slice C3 r3 e3,M1,M2,M3) [] (h5.t h41|>.t h42|>.t h43) sk (perm_3 _ M1 M2 M3 Mo Fo L) ⟨⟨_,_,_,Z,hM1⟩,⟨_,_,_,Z,hM2.le h43⟩,⟨_,_,_,Z,hM3.le (Lr D)⟩⟩)
   refine JB_q Z trivial (Wd 0 Y5) Z<|JA_1 1 V<|JB_q Z trivial (Wd 0 Y5) Z<|JA_1 2 V<|Jb Z trivial Z Z Z (AC.mid [_] [] (Mo++(Fo++L)) (clx D e _ _ A1 n1 p1 x.exprs (hax.le (h3.t h5)) O)) ?_
   rintro _ _ s44 h44 ⟨M1,rfl,C1,r1,e1,rfl,hM1⟩
   refine ⟨(fun x hx _=>nomatch hx),?_⟩
   simp only [cQ9,nQ9]
   refine za 9 Z (We Y4) Z<|JA_1 5 V<|Jb Z trivial Z Z Z (AC.mid [_] [] (M1++(Mo++(Fo++L))) (ih e hd _ _ A2 n2 p2 x.body (hbx.le (h3.t h5|>.t h44)) O)) ?_
   rintro _ _ s45 h45 ⟨M2,rfl,C2,r2,e2,rfl,hM2⟩
   refine ⟨(fun x hx _=>nomatch hx),?_⟩
   simp only [cQ9,nQ9]
   refine JA_1 8 V<|Jb Z trivial Z Z Z (AC.mid [_] [] (M2++(M1++(Mo++(Fo++L)))) (ih e hd _ _ A3 n3 p3 x.els (hex.le (h3.t h5|>.t h44|>.t h45)) O)) ?_
   rintro _ _ s46 h46 ⟨M3,rfl,C3,r3,e3,rfl,hM3⟩
   refine ⟨(fun x hx _=>nomatch hx),?_⟩
   simp only [cQ9,nQ9]
   refine JA_1 10 V<|Wu Z trivial 0 [_,_,_,_,_] Y9 (fun _ hx=>sub_mem (sb0 _) hx)<|za 11 Z (We Y4) Z<|JA_1 12 V<|Wu Z trivial 0 [_,_,_,_,_] Y9 (fun _ hx=>sub_mem (sb0 _) hx)<|za 13 Z (We Y4) Z<|JA_1 14 V<|Wu Z trivial 0 [_,_,_,_,_] Y9 (fun _ hx=>sub_mem (sb0 _) hx)<|JA_done V ?_
   refine thenQ_n (MidF.mk (.slice C1 r1 e1,.slice C2 r2 e2,.slice C3 r3 e3,M1,M2,M3) [] (h5.t h44|>.t h45|>.t h46) sk (perm_3 _ M1 M2 M3 Mo Fo L) ⟨⟨_,_,_,Z,hM1⟩,⟨_,_,_,Z,hM2.le h46⟩,⟨_,_,_,Z,hM3.le (Lr D)⟩⟩)
  intro g s4 h4 I4
  simp only [cQ9,nQ9]
  obtain ⟨v1,v2,v3,M1,M2,M3⟩:=g
  obtain ⟨⟨C1,r1,e1,q1,hM1⟩,⟨C2,r2,e2,q2,hM2⟩,⟨C3,r3,e3,q3,hM3⟩⟩:=I4
  simp only at q1 q2 q3 hM1 hM2 hM3
  subst q1 q2 q3
  dsimp only
  refine Zr<|Zqm Z Z<|JO_q (QE_ldA 0 [_,_,_,_,_] Z Z Z Z Z) Z<|JO_bs [(_,_)] [_,_,_,_,_] Z Z Z Z Z Z Z Z Z ?_
  intro βn s47 h47 hcb
  refine JO_app (sz:=5) [_] Mo ((Fo++(M1++(M2++M3)))++L) Z Z Z Z Z Z Z hO (Row.of_cells (hcb.le (Lr D)) Z Z) ⟨by simp [ti95];omega,by omega⟩ Z ?_
  intro vq Mq s48 h48 oq
  obtain ⟨Avq,cvq,rfl,_,_⟩:=Own.slice oq
  simp only [cQ9,nQ9]
  refine Zqa Z Z<|Zn<|Zb<|Zt<|Zr<|Zqadd Z Z Z (w64 O O)<|Zqm Z Z<|Zn<|?_
  refine thenQ_n ⟨(k+1,.slice Avq (k+1) cvq,Mq,Fo++(M1++(M2++M3))),[_],kp,Z,⟨(I1.1.t h3|>.t h4|>.t h47|>.t h48),⟨by simp only;omega,css++[[.int .i64 x.kind,St x.name,.slice C1 r1 e1,.slice C2 r2 e2,.slice C3 r3 e3]],Ms++[M1++(M2++M3)],by simp only [List.flatten_append,List.flatten_cons,List.flatten_nil,List.append_nil];exact oq,by simp only [List.flatten_append,List.flatten_cons,List.flatten_nil,List.append_nil];rw [hF],by simp only;rw [take_snocE hx];exact all3_snoc (hA3.mono fun _ _ _ k=>SO.le (h3.t h4|>.t h47|>.t h48) k) (hd▸SO.mk hM1 (hM2.le (h47.t h48)) (hM3.le (h47.t h48)) hnl)⟩⟩,(by simp only;omega)⟩
 obtain rfl:n=k:=by omega
 rw [List.take_of_length_le O] at hA3
 refine Zl<|Zv<|Zv<|Zd<|Zt<|Zs<|JC_pubX [] Mo _ ?_
 intro s49 h49 hpub49
 simp only [cQ9,nQ9]
 have hRw:Rws 5 s49 Ao n co css:=Rws.own hO hpub49 (all3_third (fun _ _ _ h=>SO.five h) hA3) (by have:=hA3.len;omega)
 refine Zr<|Zqm Z Z<|At Z Z<|Zo<|?_
 refine retQ_mk [] _ (.inr Z) (.tmp Z (.nil)) Z (I1.1.t h49) (fun sR hS2=>?_)
 exact ⟨Fo,rfl,_,_,_,rfl,fun s2 hs2=>⟨css,Ms,hF,hRw.le ((Lr D).t (hS2.t hs2)),hA3.mono fun _ _ _ k=>SO.le (h49.t (hS2.t hs2)) k⟩⟩
theorem cls_of {D d:Nat} {f:FuncId} {args:List Value} {L:Hl} {s:World} {xs:List Stm} (h:AC Tryz.prog D f args L s fun v L' s'=>∃ M',L'=M'++L∧∃ A' n' c',v=.slice A' n' c'∧∀ s2,Le D s' s2→SOs d s2 M' A' n' c' xs):AC Tryz.prog D f args L s fun v L' s'=>∃ M',L'=M'++L∧∃ A' n' c',v=.slice A' n' c'∧SOs d s' M' A' n' c' xs:=h.mono fun v L' s' _ ⟨M',h1,A',n',c',h2,h3⟩=>⟨M',h1,A',n',c',h2,h3 _ (Le.refl _)⟩
theorem cls (D:Nat):∀ d,CLS D d
  | 0=>fun L s A n c xs hA hx9=>cls_of (cls_step D 0 (fun e h=>by omega) L s A n c xs hA hx9)
  | d+1=>fun L s A n c xs hA hx9=>cls_of (cls_step D (d+1) (fun e h=>(show d=e by omega)▸cls D d) L s A n c xs hA hx9)
def FO (d:Nat) (s:World) (M:Hl) (x:Fnc) (cs:List Value):Prop:=∃ A1 n1 c1 A2 n2 c2 A3 n3 c3,cs=[St x.name,.slice A1 n1 c1,.slice A2 n2 c2,.slice A3 n3 c3]∧Strs s A1 n1 c1 x.params∧Strs s A2 n2 c2 x.locals∧SOs d s M A3 n3 c3 x.body∧x.name.length≤9223372036854775807
def FOs (d:Nat) (s:World) (M:Hl) (A:Option Addr) (n c:Nat) (l:List Fnc):Prop:=∃ css Ms,M=Ms.flatten∧Rws 4 s A n c css∧All3 (FO d s) Ms l css
theorem FO.le {D d:Nat} {s s':World} {M:Hl} {x:Fnc} {cs:List Value} (h:FO d s M x cs) (hl:Le D s s'):FO d s' M x cs:=by
  obtain ⟨A1,n1,c1,A2,n2,c2,A3,n3,c3,h1,h2,h3,h4,h5⟩:=h
  exact ⟨A1,n1,c1,A2,n2,c2,A3,n3,c3,h1,h2.le hl,h3.le hl,h4.le hl,h5⟩
theorem FO.four {d:Nat} {s:World} {M:Hl} {x:Fnc} {cs:List Value} (h:FO d s M x cs):cs.length=4:=by
  obtain ⟨A1,n1,c1,A2,n2,c2,A3,n3,c3,rfl,_⟩:=h;rfl
theorem FOs.le {D d:Nat} {s s':World} {M:Hl} {A:Option Addr} {n c:Nat} {l:List Fnc} (h:FOs d s M A n c l) (hl:Le D s s'):FOs d s' M A n c l:=by
  obtain ⟨c4,m4,e4,r4,k4⟩:=h
  exact ⟨c4,m4,e4,r4.le hl,k4.mono fun _ _ _ h=>h.le hl⟩
theorem all2_snoc' {α β:Type} {R:α→β→Prop} {l:List α} {m:List β} {a:α} {b:β} (h:All2 R l m) (h1:R a b):All2 R (l++[a]) (m++[b]):=by
  induction h with
  | nil=>exact .cons h1 .nil
  | cons k _ ih=>exact .cons k ih
theorem cloneP0_ac (D:Nat) (L:Hl) (s:World) (d:Nat) (p:Prg) (Ag Af:Option Addr) (ng cg nf cf:Nat) (hGl:Glos s Ag ng cg p.globals) (hFn:Fncs d s Af nf cf p.funcs) (hV:PV p):AC Tryz.prog D 41 [.agg #[.slice Ag ng cg,.slice Af nf cf]] L s fun v L' s'=>∃ M',L'=M'++L∧∃ Bg mg eg Bf mf ef,v=.agg #[.slice Bg mg eg,.slice Bf mf ef]∧∀ s2,Le D s' s2→Glos s2 Bg mg eg p.globals∧FOs d s2 M' Bf mf ef p.funcs:=by
 have hn1:=hGl.1
 have hn2:=hFn.1
 have hV1:=hV.1
 have hV2:=hV.2.1
 have hVg:=hV.2.2.1
 have hVf:=hV.2.2.2.1
 refine AC_enter (TT:=TT) (fn:=Tryz.f41) TT_ok Tryz.func41 V Z Tryz.ntmps41 Z (rs:=[.cell 2 25]) Z [(0,_)] Z<|Sr<|JO_boxA Z Z ?_
 intro β1 s1 h1
 refine JO_allocZ Z [_,_] Z Z ?_
 intro β2 s2 h2
 refine Nt<|Sr<|JO_allocZ Z [_,_] Z Z ?_
 intro β3 s3 h3
 refine Nt<|Zs<|Sr<|W0 Y5<|Wl 2 Y6<|Ws Y4<|Zqm Z Z<|Nt<|Zp<|?_
 refine JC_loop (γ:=Nat×Value×Hl) (fun g=>[(1,_),(2,_),(3,_),(9,_),(10,_),(11,.int .i64 (g.1:Int))]) (fun g=>(β3,cb [g.2.1,.slice none 0 0] 25)::_::_::(g.2.2++L)) (fun g tw=>Le D s3 tw∧(g.1≤ng∧∃ css,FL.Own 53 4 g.2.2 g.2.1 g.1 (List.flatten css)∧All2 (fun x cs=>cs.length=4∧GlR tw x cs) (p.globals.take g.1) css)) (fun g=>ng - g.1) (fun _ _ _ h hl=>⟨h.1.trans hl,⟨h.2.1,by obtain ⟨css,q1,q2⟩:=h.2.2;exact ⟨css,q1,q2.mono fun _ _ k=>⟨k.1,k.2.le hl⟩⟩⟩⟩) (0,.slice none 0 0,[]) (.cons Z (.cons Z (.cons Z (.cons Z (.cons Z (.cons Z (.nil _))))))) Z ⟨Le.refl _,⟨Nat.zero_le _,[],FL.Own.nil,.nil⟩⟩ ?_
 intro g s4 I4
 obtain ⟨k,vo,Mo⟩:=g
 obtain ⟨hk0,css,hO,hA2⟩:=I4.2
 simp only at hk0 hO hA2
 dsimp only
 obtain ⟨Ao,co,rfl,_,_⟩:=Own.slice hO
 refine Sr<|Zqlt Z Z Z<|Nt<|Zs<|?_
 refine JC_ifD Z (fun c5=>?_) (fun c5=>?_)
 ·
  have hk:k < ng:=by omega
  obtain ⟨b,off,x,Ai,ni,ci,rfl,hx,hcx,hix,hux,hnl⟩:=Glos.at_ (hGl.le (h1.t h2|>.t h3|>.t I4.1)) hk
  have hni:=hix.1
  have hgx:=(hVg x (List.mem_of_getElem? hx)).2
  refine Zk<|Zt<|Zs<|Zp<|Sr<|JO_q (QE_iaN Z Z Z Z Z Z hk) Z<|JO_q (QE_ldsA Z Z Z (hcx.le (Lr D)) Z) Z<|JO_allocZ Z [_,_,_,_] Z Z ?_
  intro β6 s6 h6
  refine Wt 0 [_,_,_,_] Y9<|Nt<|Sr<|Wb Y5<|Wl 0 Y6<|Jc Z Z Z (cloneW_ac D _ _ Ai ni ci x.init (hix.le h6) O) ?_
  rintro _ _ s7 h7 ⟨rfl,Aw,nw,cw,rfl,hWw⟩
  refine Wb Y5<|Wt 0 [_,_,_,_] Y9<|Nt<|Zr<|W0 Y5<|Wl 1 Y6<|JO_q (QE_ldA 0 [_,_,_,_] Z Z Z Z Z) Z<|JO_bs [(_,_)] [_,_,_,_] Z Z Z Z Z Z Z Z Z ?_
  intro βn s8 h8 hcb
  refine JO_app (sz:=4) [_,_,_,_] Mo L Z Z Z Z Z Z Z hO (Row.of_cells (hcb.le (Lr D)) Z Z) ⟨by simp [ti53];omega,by omega⟩ Z ?_
  intro vq Mq s9 h9 oq
  obtain ⟨Avq,cvq,rfl,_,_⟩:=Own.slice oq
  simp only [cQ9,nQ9]
  refine W0 Y5<|Wt 1 [_,_] Y9<|Zn<|Zb<|Zt<|Zr<|Zqadd Z Z Z (w64 O O)<|Zqm Z Z<|Zn<|?_
  refine thenQ_n ⟨(k+1,.slice Avq (k+1) cvq,Mq),[_],kp,Z,⟨(I4.1.t h6|>.t h7|>.t h8|>.t h9),⟨by simp only;omega,css++[[.int .i64 x.kind,St x.name,.int .u32 x.num,.slice Aw nw cw]],by simp only [List.flatten_append,List.flatten_cons,List.flatten_nil,List.append_nil];exact oq,by simp only;rw [take_snocE hx];exact all2_snoc' (hA2.mono fun _ _ k=>⟨k.1,k.2.le (h6.t h7|>.t h8|>.t h9)⟩) ⟨Z,Aw,nw,cw,Z,hWw.le (h8.t h9),hux,hnl⟩⟩⟩,(by simp only;omega)⟩
 obtain rfl:ng=k:=by omega
 rw [List.take_of_length_le O] at hA2
 refine Zl<|Zv<|Zv<|Zd<|Zt<|Zs<|Zs<|JC_pubX [_,_,_] Mo _ ?_
 intro s10 h10 hpub10
 simp only [cQ9,nQ9]
 have hGN:Glos s10 Ao ng co p.globals:=Own.rows hO hpub10 (hA2.mono fun _ _ k=>⟨k.1,k.2.le h10⟩) hn1
 obtain ⟨Go,hGo⟩:∃ Go,Go=Ao:=⟨_,rfl⟩
 obtain ⟨eg,heg⟩:∃ eg,eg=co:=⟨_,rfl⟩
 rw [← hGo,← heg] at hGN ⊢
 clear hGo heg hO hA2
 refine Zr<|Wb Y5<|Wl 2 Y6<|Ws Y4<|Zqm Z Z<|Nt<|Zp<|?_
 refine JC_loop (γ:=Nat×Value×Hl×Hl) (fun g=>[(2,_),(3,_),(27,_),(28,_),(29,.int .i64 (g.1:Int))]) (fun g=>(β3,cb [.slice Go ng eg,g.2.1] 25)::_::_::(g.2.2.1++(g.2.2.2++L))) (fun g tw=>Le D s10 tw∧(g.1≤nf∧∃ css Ms,FL.Own 57 4 g.2.2.1 g.2.1 g.1 (List.flatten css)∧g.2.2.2=List.flatten Ms∧All3 (FO d tw) Ms (p.funcs.take g.1) css)) (fun g=>nf - g.1) (fun _ _ _ h hl=>⟨h.1.trans hl,⟨h.2.1,by obtain ⟨css,Ms,q1,q2,q3⟩:=h.2.2;exact ⟨css,Ms,q1,q2,q3.mono fun _ _ _ k=>k.le hl⟩⟩⟩) (0,.slice none 0 0,[],[]) (.cons Z (.cons Z (.cons Z (.cons Z (.cons Z (.nil _)))))) Z ⟨Le.refl _,⟨Nat.zero_le _,[],[],FL.Own.nil,Z,.nil⟩⟩ ?_
 intro g s11 I11
 obtain ⟨k,vo,Mo,Fo⟩:=g
 obtain ⟨hk0,css,Ms,hO,hF,hA3⟩:=I11.2
 simp only at hk0 hO hF hA3
 dsimp only
 obtain ⟨Ao,co,rfl,_,_⟩:=Own.slice hO
 refine Sr<|Zqlt Z Z Z<|Nt<|Zs<|?_
 refine JC_ifD Z (fun c12=>?_) (fun c12=>?_)
 ·
  have hk:k < nf:=by omega
  obtain ⟨b,off,x,B1,m1,d1,B2,m2,d2,B3,m3,d3,rfl,hx,hcx,hpx,hlx,hbx,hnl⟩:=Fncs.at_ (hFn.le (h1.t h2|>.t h3|>.t I4.1|>.t h10|>.t I11.1)) hk
  obtain ⟨hi1,hi2,hi3,hi4,hi5,hi6⟩:=hVf x (List.mem_of_getElem? hx)
  have hp9:=hpx.1
  have hl9:=hlx.1
  refine Zk<|Zt<|Zs<|Zp<|Sr<|JO_q (QE_iaN Z Z Z Z Z Z hk) Z<|JO_q (QE_ldsA Z Z Z (hcx.le (Lr D)) Z) Z<|JO_allocZ Z [_,_,_,_] Z Z ?_
  intro β13 s13 h13
  refine Wt 0 [_,_,_,_] Y9<|Nt<|?_
  refine JC_cutF [] Z (γ:=Value×Value×Value×Hl) (fun g=>(β13,cb [St x.name,g.1,g.2.1,g.2.2.1] 57)::(β3,cb [.slice Go ng eg,.slice Ao k co] 25)::(β2,cb [.slice none 0 0,.slice none 0 0] 25)::(β1,cb [.slice Ag ng cg,.slice (some ⟨b,off,none⟩) nf cf] 25)::(Mo++((Fo++g.2.2.2)++L))) (fun g tw=>(∃ A n c,g.1=.slice A n c∧Strs tw A n c x.params)∧(∃ A n c,g.2.1=.slice A n c∧Strs tw A n c x.locals)∧(∃ A n c,g.2.2.1=.slice A n c∧SOs d tw g.2.2.2 A n c x.body)) (fun _ _ _ h hl=>⟨by obtain ⟨A,n,c,q1,q2⟩:=h.1;exact ⟨A,n,c,q1,q2.le hl⟩,by obtain ⟨A,n,c,q1,q2⟩:=h.2.1;exact ⟨A,n,c,q1,q2.le hl⟩,by obtain ⟨A,n,c,q1,q2⟩:=h.2.2;exact ⟨A,n,c,q1,q2.le hl⟩⟩) ?_ ?_
  ·
   refine JC_drawT drawsMixed 15 Z 0 ?_
   intro s15 h15
   refine za 0 Z (We Y4) Z<|za 3 Z (We Y4) Z<|za 6 Z (We Y4) Z ?_
   refine JA_3 1 4 7 V ?_ ?_ ?_
   ·
    refine JB_q Z trivial (Wd 0 Y5) Z ?_
    refine JA_3 2 4 7 V ?_ ?_ ?_
    ·
     refine Jb Z trivial Z Z Z (cloneS_ac D _ _ B1 m1 d1 x.params (hpx.le (h13.t h15)) O) ?_
     rintro _ _ s16 h16 ⟨rfl,C1,r1,e1,rfl,hS1⟩
     refine ⟨(fun x hx _=>nomatch hx),?_⟩
     refine JA_2 4 7 V ?_ ?_
     ·
      refine JB_q Z trivial (Wd 0 Y5) Z ?_
      refine JA_2 5 7 V ?_ ?_
      ·
       refine Jb Z trivial Z Z Z (cloneS_ac D _ _ B2 m2 d2 x.locals (hlx.le (h13.t h15|>.t h16)) O) ?_
       rintro _ _ s17 h17 ⟨rfl,C2,r2,e2,rfl,hS2q⟩
       refine ⟨(fun x hx _=>nomatch hx),?_⟩
       refine JA_1 7 V<|JB_q Z trivial (Wd 0 Y5) Z<|za 9 Z (We Y4) Z<|JA_1 8 V<|Jb Z trivial Z Z Z (AC.mid [_,_,_,_] [] (Mo++(Fo++L)) (cls D d _ _ B3 m3 d3 x.body (hbx.le (h13.t h15|>.t h16|>.t h17)) O)) ?_
       rintro _ _ s18 h18 ⟨M1,rfl,C3,r3,e3,rfl,hS3⟩
       refine ⟨(fun x hx _=>nomatch hx),?_⟩
       simp only [cQ9,nQ9]
       refine JA_1 10 V<|Wu Z trivial 0 [_,_,_,_] Y9 (fun _ hx=>sub_mem (sb0 _) hx)<|za 11 Z (We Y4) Z<|JA_1 12 V<|Wu Z trivial 0 [_,_,_,_] Y9 (fun _ hx=>sub_mem (sb0 _) hx)<|za 13 Z (We Y4) Z<|JA_1 14 V<|Wu Z trivial 0 [_,_,_,_] Y9 (fun _ hx=>sub_mem (sb0 _) hx)<|JA_done V ?_
       refine thenQ_n (MidF.mk (.slice C1 r1 e1,.slice C2 r2 e2,.slice C3 r3 e3,M1) [] (h15.t h16|>.t h17|>.t h18) sk (.cons _ (.cons _ (.cons _ (.cons _ (perm_in M1 Mo Fo L))))) ⟨⟨_,_,_,Z,hS1.le (h17.t h18)⟩,⟨_,_,_,Z,hS2q.le h18⟩,⟨_,_,_,Z,hS3.le (Lr D)⟩⟩)
      refine JB_q Z trivial (Wd 0 Y5) Z<|za 9 Z (We Y4) Z<|JA_1 5 V<|Jb Z trivial Z Z Z (cloneS_ac D _ _ B2 m2 d2 x.locals (hlx.le (h13.t h15|>.t h16)) O) ?_
      rintro _ _ s19 h19 ⟨rfl,C2,r2,e2,rfl,hS2q⟩
      refine ⟨(fun x hx _=>nomatch hx),?_⟩
      refine JA_1 8 V<|Jb Z trivial Z Z Z (AC.mid [_,_,_,_] [] (Mo++(Fo++L)) (cls D d _ _ B3 m3 d3 x.body (hbx.le (h13.t h15|>.t h16|>.t h19)) O)) ?_
      rintro _ _ s20 h20 ⟨M1,rfl,C3,r3,e3,rfl,hS3⟩
      refine ⟨(fun x hx _=>nomatch hx),?_⟩
      simp only [cQ9,nQ9]
      refine JA_1 10 V<|Wu Z trivial 0 [_,_,_,_] Y9 (fun _ hx=>sub_mem (sb0 _) hx)<|za 11 Z (We Y4) Z<|JA_1 12 V<|Wu Z trivial 0 [_,_,_,_] Y9 (fun _ hx=>sub_mem (sb0 _) hx)<|za 13 Z (We Y4) Z<|JA_1 14 V<|Wu Z trivial 0 [_,_,_,_] Y9 (fun _ hx=>sub_mem (sb0 _) hx)<|JA_done V ?_
      refine thenQ_n (MidF.mk (.slice C1 r1 e1,.slice C2 r2 e2,.slice C3 r3 e3,M1) [] (h15.t h16|>.t h19|>.t h20) sk (.cons _ (.cons _ (.cons _ (.cons _ (perm_in M1 Mo Fo L))))) ⟨⟨_,_,_,Z,hS1.le (h19.t h20)⟩,⟨_,_,_,Z,hS2q.le h20⟩,⟨_,_,_,Z,hS3.le (Lr D)⟩⟩)
     refine JB_q Z trivial (Wd 0 Y5) Z<|JA_1 4 V<|JB_q Z trivial (Wd 0 Y5) Z<|za 9 Z (We Y4) Z<|JA_1 5 V<|Jb Z trivial Z Z Z (cloneS_ac D _ _ B2 m2 d2 x.locals (hlx.le (h13.t h15|>.t h16)) O) ?_
     rintro _ _ s21 h21 ⟨rfl,C2,r2,e2,rfl,hS2q⟩
     refine ⟨(fun x hx _=>nomatch hx),?_⟩
     refine JA_1 8 V<|Jb Z trivial Z Z Z (AC.mid [_,_,_,_] [] (Mo++(Fo++L)) (cls D d _ _ B3 m3 d3 x.body (hbx.le (h13.t h15|>.t h16|>.t h21)) O)) ?_
     rintro _ _ s22 h22 ⟨M1,rfl,C3,r3,e3,rfl,hS3⟩
     refine ⟨(fun x hx _=>nomatch hx),?_⟩
     simp only [cQ9,nQ9]
     refine JA_1 10 V<|Wu Z trivial 0 [_,_,_,_] Y9 (fun _ hx=>sub_mem (sb0 _) hx)<|za 11 Z (We Y4) Z<|JA_1 12 V<|Wu Z trivial 0 [_,_,_,_] Y9 (fun _ hx=>sub_mem (sb0 _) hx)<|za 13 Z (We Y4) Z<|JA_1 14 V<|Wu Z trivial 0 [_,_,_,_] Y9 (fun _ hx=>sub_mem (sb0 _) hx)<|JA_done V ?_
     refine thenQ_n (MidF.mk (.slice C1 r1 e1,.slice C2 r2 e2,.slice C3 r3 e3,M1) [] (h15.t h16|>.t h21|>.t h22) sk (.cons _ (.cons _ (.cons _ (.cons _ (perm_in M1 Mo Fo L))))) ⟨⟨_,_,_,Z,hS1.le (h21.t h22)⟩,⟨_,_,_,Z,hS2q.le h22⟩,⟨_,_,_,Z,hS3.le (Lr D)⟩⟩)
    ·
     refine JB_q Z trivial (Wd 0 Y5) Z ?_
     refine JA_2 2 7 V ?_ ?_
     ·
      refine Jb Z trivial Z Z Z (cloneS_ac D _ _ B1 m1 d1 x.params (hpx.le (h13.t h15)) O) ?_
      rintro _ _ s23 h23 ⟨rfl,C1,r1,e1,rfl,hS1⟩
      refine ⟨(fun x hx _=>nomatch hx),?_⟩
      refine JA_2 5 7 V ?_ ?_
      ·
       refine Jb Z trivial Z Z Z (cloneS_ac D _ _ B2 m2 d2 x.locals (hlx.le (h13.t h15|>.t h23)) O) ?_
       rintro _ _ s24 h24 ⟨rfl,C2,r2,e2,rfl,hS2q⟩
       refine ⟨(fun x hx _=>nomatch hx),?_⟩
       refine JA_1 7 V<|JB_q Z trivial (Wd 0 Y5) Z<|za 9 Z (We Y4) Z<|JA_1 8 V<|Jb Z trivial Z Z Z (AC.mid [_,_,_,_] [] (Mo++(Fo++L)) (cls D d _ _ B3 m3 d3 x.body (hbx.le (h13.t h15|>.t h23|>.t h24)) O)) ?_
       rintro _ _ s25 h25 ⟨M1,rfl,C3,r3,e3,rfl,hS3⟩
       refine ⟨(fun x hx _=>nomatch hx),?_⟩
       simp only [cQ9,nQ9]
       refine JA_1 10 V<|Wu Z trivial 0 [_,_,_,_] Y9 (fun _ hx=>sub_mem (sb0 _) hx)<|za 11 Z (We Y4) Z<|JA_1 12 V<|Wu Z trivial 0 [_,_,_,_] Y9 (fun _ hx=>sub_mem (sb0 _) hx)<|za 13 Z (We Y4) Z<|JA_1 14 V<|Wu Z trivial 0 [_,_,_,_] Y9 (fun _ hx=>sub_mem (sb0 _) hx)<|JA_done V ?_
       refine thenQ_n (MidF.mk (.slice C1 r1 e1,.slice C2 r2 e2,.slice C3 r3 e3,M1) [] (h15.t h23|>.t h24|>.t h25) sk (.cons _ (.cons _ (.cons _ (.cons _ (perm_in M1 Mo Fo L))))) ⟨⟨_,_,_,Z,hS1.le (h24.t h25)⟩,⟨_,_,_,Z,hS2q.le h25⟩,⟨_,_,_,Z,hS3.le (Lr D)⟩⟩)
      refine JB_q Z trivial (Wd 0 Y5) Z<|za 9 Z (We Y4) Z<|JA_1 5 V<|Jb Z trivial Z Z Z (cloneS_ac D _ _ B2 m2 d2 x.locals (hlx.le (h13.t h15|>.t h23)) O) ?_
      rintro _ _ s26 h26 ⟨rfl,C2,r2,e2,rfl,hS2q⟩
      refine ⟨(fun x hx _=>nomatch hx),?_⟩
      refine JA_1 8 V<|Jb Z trivial Z Z Z (AC.mid [_,_,_,_] [] (Mo++(Fo++L)) (cls D d _ _ B3 m3 d3 x.body (hbx.le (h13.t h15|>.t h23|>.t h26)) O)) ?_
      rintro _ _ s27 h27 ⟨M1,rfl,C3,r3,e3,rfl,hS3⟩
      refine ⟨(fun x hx _=>nomatch hx),?_⟩
      simp only [cQ9,nQ9]
      refine JA_1 10 V<|Wu Z trivial 0 [_,_,_,_] Y9 (fun _ hx=>sub_mem (sb0 _) hx)<|za 11 Z (We Y4) Z<|JA_1 12 V<|Wu Z trivial 0 [_,_,_,_] Y9 (fun _ hx=>sub_mem (sb0 _) hx)<|za 13 Z (We Y4) Z<|JA_1 14 V<|Wu Z trivial 0 [_,_,_,_] Y9 (fun _ hx=>sub_mem (sb0 _) hx)<|JA_done V ?_
      refine thenQ_n (MidF.mk (.slice C1 r1 e1,.slice C2 r2 e2,.slice C3 r3 e3,M1) [] (h15.t h23|>.t h26|>.t h27) sk (.cons _ (.cons _ (.cons _ (.cons _ (perm_in M1 Mo Fo L))))) ⟨⟨_,_,_,Z,hS1.le (h26.t h27)⟩,⟨_,_,_,Z,hS2q.le h27⟩,⟨_,_,_,Z,hS3.le (Lr D)⟩⟩)
     refine JB_q Z trivial (Wd 0 Y5) Z<|JA_1 2 V<|Jb Z trivial Z Z Z (cloneS_ac D _ _ B1 m1 d1 x.params (hpx.le (h13.t h15)) O) ?_
     rintro _ _ s28 h28 ⟨rfl,C1,r1,e1,rfl,hS1⟩
     refine ⟨(fun x hx _=>nomatch hx),?_⟩
     refine za 9 Z (We Y4) Z<|JA_1 5 V<|Jb Z trivial Z Z Z (cloneS_ac D _ _ B2 m2 d2 x.locals (hlx.le (h13.t h15|>.t h28)) O) ?_
     rintro _ _ s29 h29 ⟨rfl,C2,r2,e2,rfl,hS2q⟩
     refine ⟨(fun x hx _=>nomatch hx),?_⟩
     refine JA_1 8 V<|Jb Z trivial Z Z Z (AC.mid [_,_,_,_] [] (Mo++(Fo++L)) (cls D d _ _ B3 m3 d3 x.body (hbx.le (h13.t h15|>.t h28|>.t h29)) O)) ?_
     rintro _ _ s30 h30 ⟨M1,rfl,C3,r3,e3,rfl,hS3⟩
     refine ⟨(fun x hx _=>nomatch hx),?_⟩
     simp only [cQ9,nQ9]
     refine JA_1 10 V<|Wu Z trivial 0 [_,_,_,_] Y9 (fun _ hx=>sub_mem (sb0 _) hx)<|za 11 Z (We Y4) Z<|JA_1 12 V<|Wu Z trivial 0 [_,_,_,_] Y9 (fun _ hx=>sub_mem (sb0 _) hx)<|za 13 Z (We Y4) Z<|JA_1 14 V<|Wu Z trivial 0 [_,_,_,_] Y9 (fun _ hx=>sub_mem (sb0 _) hx)<|JA_done V ?_
     refine thenQ_n (MidF.mk (.slice C1 r1 e1,.slice C2 r2 e2,.slice C3 r3 e3,M1) [] (h15.t h28|>.t h29|>.t h30) sk (.cons _ (.cons _ (.cons _ (.cons _ (perm_in M1 Mo Fo L))))) ⟨⟨_,_,_,Z,hS1.le (h29.t h30)⟩,⟨_,_,_,Z,hS2q.le h30⟩,⟨_,_,_,Z,hS3.le (Lr D)⟩⟩)
    refine JB_q Z trivial (Wd 0 Y5) Z ?_
    refine JA_2 2 4 V ?_ ?_
    ·
     refine Jb Z trivial Z Z Z (cloneS_ac D _ _ B1 m1 d1 x.params (hpx.le (h13.t h15)) O) ?_
     rintro _ _ s31 h31 ⟨rfl,C1,r1,e1,rfl,hS1⟩
     refine ⟨(fun x hx _=>nomatch hx),?_⟩
     refine JA_1 4 V<|JB_q Z trivial (Wd 0 Y5) Z<|za 9 Z (We Y4) Z<|JA_1 5 V<|Jb Z trivial Z Z Z (cloneS_ac D _ _ B2 m2 d2 x.locals (hlx.le (h13.t h15|>.t h31)) O) ?_
     rintro _ _ s32 h32 ⟨rfl,C2,r2,e2,rfl,hS2q⟩
     refine ⟨(fun x hx _=>nomatch hx),?_⟩
     refine JA_1 8 V<|Jb Z trivial Z Z Z (AC.mid [_,_,_,_] [] (Mo++(Fo++L)) (cls D d _ _ B3 m3 d3 x.body (hbx.le (h13.t h15|>.t h31|>.t h32)) O)) ?_
     rintro _ _ s33 h33 ⟨M1,rfl,C3,r3,e3,rfl,hS3⟩
     refine ⟨(fun x hx _=>nomatch hx),?_⟩
     simp only [cQ9,nQ9]
     refine JA_1 10 V<|Wu Z trivial 0 [_,_,_,_] Y9 (fun _ hx=>sub_mem (sb0 _) hx)<|za 11 Z (We Y4) Z<|JA_1 12 V<|Wu Z trivial 0 [_,_,_,_] Y9 (fun _ hx=>sub_mem (sb0 _) hx)<|za 13 Z (We Y4) Z<|JA_1 14 V<|Wu Z trivial 0 [_,_,_,_] Y9 (fun _ hx=>sub_mem (sb0 _) hx)<|JA_done V ?_
     refine thenQ_n (MidF.mk (.slice C1 r1 e1,.slice C2 r2 e2,.slice C3 r3 e3,M1) [] (h15.t h31|>.t h32|>.t h33) sk (.cons _ (.cons _ (.cons _ (.cons _ (perm_in M1 Mo Fo L))))) ⟨⟨_,_,_,Z,hS1.le (h32.t h33)⟩,⟨_,_,_,Z,hS2q.le h33⟩,⟨_,_,_,Z,hS3.le (Lr D)⟩⟩)
    refine JB_q Z trivial (Wd 0 Y5) Z<|JA_1 2 V<|Jb Z trivial Z Z Z (cloneS_ac D _ _ B1 m1 d1 x.params (hpx.le (h13.t h15)) O) ?_
    rintro _ _ s34 h34 ⟨rfl,C1,r1,e1,rfl,hS1⟩
    refine ⟨(fun x hx _=>nomatch hx),?_⟩
    refine za 9 Z (We Y4) Z<|JA_1 5 V<|Jb Z trivial Z Z Z (cloneS_ac D _ _ B2 m2 d2 x.locals (hlx.le (h13.t h15|>.t h34)) O) ?_
    rintro _ _ s35 h35 ⟨rfl,C2,r2,e2,rfl,hS2q⟩
    refine ⟨(fun x hx _=>nomatch hx),?_⟩
    refine JA_1 8 V<|Jb Z trivial Z Z Z (AC.mid [_,_,_,_] [] (Mo++(Fo++L)) (cls D d _ _ B3 m3 d3 x.body (hbx.le (h13.t h15|>.t h34|>.t h35)) O)) ?_
    rintro _ _ s36 h36 ⟨M1,rfl,C3,r3,e3,rfl,hS3⟩
    refine ⟨(fun x hx _=>nomatch hx),?_⟩
    simp only [cQ9,nQ9]
    refine JA_1 10 V<|Wu Z trivial 0 [_,_,_,_] Y9 (fun _ hx=>sub_mem (sb0 _) hx)<|za 11 Z (We Y4) Z<|JA_1 12 V<|Wu Z trivial 0 [_,_,_,_] Y9 (fun _ hx=>sub_mem (sb0 _) hx)<|za 13 Z (We Y4) Z<|JA_1 14 V<|Wu Z trivial 0 [_,_,_,_] Y9 (fun _ hx=>sub_mem (sb0 _) hx)<|JA_done V ?_
    refine thenQ_n (MidF.mk (.slice C1 r1 e1,.slice C2 r2 e2,.slice C3 r3 e3,M1) [] (h15.t h34|>.t h35|>.t h36) sk (.cons _ (.cons _ (.cons _ (.cons _ (perm_in M1 Mo Fo L))))) ⟨⟨_,_,_,Z,hS1.le (h35.t h36)⟩,⟨_,_,_,Z,hS2q.le h36⟩,⟨_,_,_,Z,hS3.le (Lr D)⟩⟩)
   ·
    refine JB_q Z trivial (Wd 0 Y5) Z ?_
    refine JA_2 1 7 V ?_ ?_
    ·
     refine JB_q Z trivial (Wd 0 Y5) Z ?_
     refine JA_2 2 7 V ?_ ?_
     ·
      refine Jb Z trivial Z Z Z (cloneS_ac D _ _ B1 m1 d1 x.params (hpx.le (h13.t h15)) O) ?_
      rintro _ _ s37 h37 ⟨rfl,C1,r1,e1,rfl,hS1⟩
      refine ⟨(fun x hx _=>nomatch hx),?_⟩
      refine JA_2 5 7 V ?_ ?_
      ·
       refine Jb Z trivial Z Z Z (cloneS_ac D _ _ B2 m2 d2 x.locals (hlx.le (h13.t h15|>.t h37)) O) ?_
       rintro _ _ s38 h38 ⟨rfl,C2,r2,e2,rfl,hS2q⟩
       refine ⟨(fun x hx _=>nomatch hx),?_⟩
       refine JA_1 7 V<|JB_q Z trivial (Wd 0 Y5) Z<|za 9 Z (We Y4) Z<|JA_1 8 V<|Jb Z trivial Z Z Z (AC.mid [_,_,_,_] [] (Mo++(Fo++L)) (cls D d _ _ B3 m3 d3 x.body (hbx.le (h13.t h15|>.t h37|>.t h38)) O)) ?_
       rintro _ _ s39 h39 ⟨M1,rfl,C3,r3,e3,rfl,hS3⟩
       refine ⟨(fun x hx _=>nomatch hx),?_⟩
       simp only [cQ9,nQ9]
       refine JA_1 10 V<|Wu Z trivial 0 [_,_,_,_] Y9 (fun _ hx=>sub_mem (sb0 _) hx)<|za 11 Z (We Y4) Z<|JA_1 12 V<|Wu Z trivial 0 [_,_,_,_] Y9 (fun _ hx=>sub_mem (sb0 _) hx)<|za 13 Z (We Y4) Z<|JA_1 14 V<|Wu Z trivial 0 [_,_,_,_] Y9 (fun _ hx=>sub_mem (sb0 _) hx)<|JA_done V ?_
       refine thenQ_n (MidF.mk (.slice C1 r1 e1,.slice C2 r2 e2,.slice C3 r3 e3,M1) [] (h15.t h37|>.t h38|>.t h39) sk (.cons _ (.cons _ (.cons _ (.cons _ (perm_in M1 Mo Fo L))))) ⟨⟨_,_,_,Z,hS1.le (h38.t h39)⟩,⟨_,_,_,Z,hS2q.le h39⟩,⟨_,_,_,Z,hS3.le (Lr D)⟩⟩)
      refine JB_q Z trivial (Wd 0 Y5) Z<|za 9 Z (We Y4) Z<|JA_1 5 V<|Jb Z trivial Z Z Z (cloneS_ac D _ _ B2 m2 d2 x.locals (hlx.le (h13.t h15|>.t h37)) O) ?_
      rintro _ _ s40 h40 ⟨rfl,C2,r2,e2,rfl,hS2q⟩
      refine ⟨(fun x hx _=>nomatch hx),?_⟩
      refine JA_1 8 V<|Jb Z trivial Z Z Z (AC.mid [_,_,_,_] [] (Mo++(Fo++L)) (cls D d _ _ B3 m3 d3 x.body (hbx.le (h13.t h15|>.t h37|>.t h40)) O)) ?_
      rintro _ _ s41 h41 ⟨M1,rfl,C3,r3,e3,rfl,hS3⟩
      refine ⟨(fun x hx _=>nomatch hx),?_⟩
      simp only [cQ9,nQ9]
      refine JA_1 10 V<|Wu Z trivial 0 [_,_,_,_] Y9 (fun _ hx=>sub_mem (sb0 _) hx)<|za 11 Z (We Y4) Z<|JA_1 12 V<|Wu Z trivial 0 [_,_,_,_] Y9 (fun _ hx=>sub_mem (sb0 _) hx)<|za 13 Z (We Y4) Z<|JA_1 14 V<|Wu Z trivial 0 [_,_,_,_] Y9 (fun _ hx=>sub_mem (sb0 _) hx)<|JA_done V ?_
      refine thenQ_n (MidF.mk (.slice C1 r1 e1,.slice C2 r2 e2,.slice C3 r3 e3,M1) [] (h15.t h37|>.t h40|>.t h41) sk (.cons _ (.cons _ (.cons _ (.cons _ (perm_in M1 Mo Fo L))))) ⟨⟨_,_,_,Z,hS1.le (h40.t h41)⟩,⟨_,_,_,Z,hS2q.le h41⟩,⟨_,_,_,Z,hS3.le (Lr D)⟩⟩)
     refine JB_q Z trivial (Wd 0 Y5) Z<|JA_1 2 V<|Jb Z trivial Z Z Z (cloneS_ac D _ _ B1 m1 d1 x.params (hpx.le (h13.t h15)) O) ?_
     rintro _ _ s42 h42 ⟨rfl,C1,r1,e1,rfl,hS1⟩
     refine ⟨(fun x hx _=>nomatch hx),?_⟩
     refine za 9 Z (We Y4) Z<|JA_1 5 V<|Jb Z trivial Z Z Z (cloneS_ac D _ _ B2 m2 d2 x.locals (hlx.le (h13.t h15|>.t h42)) O) ?_
     rintro _ _ s43 h43 ⟨rfl,C2,r2,e2,rfl,hS2q⟩
     refine ⟨(fun x hx _=>nomatch hx),?_⟩
     refine JA_1 8 V<|Jb Z trivial Z Z Z (AC.mid [_,_,_,_] [] (Mo++(Fo++L)) (cls D d _ _ B3 m3 d3 x.body (hbx.le (h13.t h15|>.t h42|>.t h43)) O)) ?_
     rintro _ _ s44 h44 ⟨M1,rfl,C3,r3,e3,rfl,hS3⟩
     refine ⟨(fun x hx _=>nomatch hx),?_⟩
     simp only [cQ9,nQ9]
     refine JA_1 10 V<|Wu Z trivial 0 [_,_,_,_] Y9 (fun _ hx=>sub_mem (sb0 _) hx)<|za 11 Z (We Y4) Z<|JA_1 12 V<|Wu Z trivial 0 [_,_,_,_] Y9 (fun _ hx=>sub_mem (sb0 _) hx)<|za 13 Z (We Y4) Z<|JA_1 14 V<|Wu Z trivial 0 [_,_,_,_] Y9 (fun _ hx=>sub_mem (sb0 _) hx)<|JA_done V ?_
     refine thenQ_n (MidF.mk (.slice C1 r1 e1,.slice C2 r2 e2,.slice C3 r3 e3,M1) [] (h15.t h42|>.t h43|>.t h44) sk (.cons _ (.cons _ (.cons _ (.cons _ (perm_in M1 Mo Fo L))))) ⟨⟨_,_,_,Z,hS1.le (h43.t h44)⟩,⟨_,_,_,Z,hS2q.le h44⟩,⟨_,_,_,Z,hS3.le (Lr D)⟩⟩)
    refine JB_q Z trivial (Wd 0 Y5) Z<|JA_1 1 V<|JB_q Z trivial (Wd 0 Y5) Z<|JA_1 2 V<|Jb Z trivial Z Z Z (cloneS_ac D _ _ B1 m1 d1 x.params (hpx.le (h13.t h15)) O) ?_
    rintro _ _ s45 h45 ⟨rfl,C1,r1,e1,rfl,hS1⟩
    refine ⟨(fun x hx _=>nomatch hx),?_⟩
    refine za 9 Z (We Y4) Z<|JA_1 5 V<|Jb Z trivial Z Z Z (cloneS_ac D _ _ B2 m2 d2 x.locals (hlx.le (h13.t h15|>.t h45)) O) ?_
    rintro _ _ s46 h46 ⟨rfl,C2,r2,e2,rfl,hS2q⟩
    refine ⟨(fun x hx _=>nomatch hx),?_⟩
    refine JA_1 8 V<|Jb Z trivial Z Z Z (AC.mid [_,_,_,_] [] (Mo++(Fo++L)) (cls D d _ _ B3 m3 d3 x.body (hbx.le (h13.t h15|>.t h45|>.t h46)) O)) ?_
    rintro _ _ s47 h47 ⟨M1,rfl,C3,r3,e3,rfl,hS3⟩
    refine ⟨(fun x hx _=>nomatch hx),?_⟩
    simp only [cQ9,nQ9]
    refine JA_1 10 V<|Wu Z trivial 0 [_,_,_,_] Y9 (fun _ hx=>sub_mem (sb0 _) hx)<|za 11 Z (We Y4) Z<|JA_1 12 V<|Wu Z trivial 0 [_,_,_,_] Y9 (fun _ hx=>sub_mem (sb0 _) hx)<|za 13 Z (We Y4) Z<|JA_1 14 V<|Wu Z trivial 0 [_,_,_,_] Y9 (fun _ hx=>sub_mem (sb0 _) hx)<|JA_done V ?_
    refine thenQ_n (MidF.mk (.slice C1 r1 e1,.slice C2 r2 e2,.slice C3 r3 e3,M1) [] (h15.t h45|>.t h46|>.t h47) sk (.cons _ (.cons _ (.cons _ (.cons _ (perm_in M1 Mo Fo L))))) ⟨⟨_,_,_,Z,hS1.le (h46.t h47)⟩,⟨_,_,_,Z,hS2q.le h47⟩,⟨_,_,_,Z,hS3.le (Lr D)⟩⟩)
   refine JB_q Z trivial (Wd 0 Y5) Z ?_
   refine JA_2 1 4 V ?_ ?_
   ·
    refine JB_q Z trivial (Wd 0 Y5) Z ?_
    refine JA_2 2 4 V ?_ ?_
    ·
     refine Jb Z trivial Z Z Z (cloneS_ac D _ _ B1 m1 d1 x.params (hpx.le (h13.t h15)) O) ?_
     rintro _ _ s48 h48 ⟨rfl,C1,r1,e1,rfl,hS1⟩
     refine ⟨(fun x hx _=>nomatch hx),?_⟩
     refine JA_1 4 V<|JB_q Z trivial (Wd 0 Y5) Z<|za 9 Z (We Y4) Z<|JA_1 5 V<|Jb Z trivial Z Z Z (cloneS_ac D _ _ B2 m2 d2 x.locals (hlx.le (h13.t h15|>.t h48)) O) ?_
     rintro _ _ s49 h49 ⟨rfl,C2,r2,e2,rfl,hS2q⟩
     refine ⟨(fun x hx _=>nomatch hx),?_⟩
     refine JA_1 8 V<|Jb Z trivial Z Z Z (AC.mid [_,_,_,_] [] (Mo++(Fo++L)) (cls D d _ _ B3 m3 d3 x.body (hbx.le (h13.t h15|>.t h48|>.t h49)) O)) ?_
     rintro _ _ s50 h50 ⟨M1,rfl,C3,r3,e3,rfl,hS3⟩
     refine ⟨(fun x hx _=>nomatch hx),?_⟩
     simp only [cQ9,nQ9]
     refine JA_1 10 V<|Wu Z trivial 0 [_,_,_,_] Y9 (fun _ hx=>sub_mem (sb0 _) hx)<|za 11 Z (We Y4) Z<|JA_1 12 V<|Wu Z trivial 0 [_,_,_,_] Y9 (fun _ hx=>sub_mem (sb0 _) hx)<|za 13 Z (We Y4) Z<|JA_1 14 V<|Wu Z trivial 0 [_,_,_,_] Y9 (fun _ hx=>sub_mem (sb0 _) hx)<|JA_done V ?_
     refine thenQ_n (MidF.mk (.slice C1 r1 e1,.slice C2 r2 e2,.slice C3 r3 e3,M1) [] (h15.t h48|>.t h49|>.t h50) sk (.cons _ (.cons _ (.cons _ (.cons _ (perm_in M1 Mo Fo L))))) ⟨⟨_,_,_,Z,hS1.le (h49.t h50)⟩,⟨_,_,_,Z,hS2q.le h50⟩,⟨_,_,_,Z,hS3.le (Lr D)⟩⟩)
    refine JB_q Z trivial (Wd 0 Y5) Z<|JA_1 2 V<|Jb Z trivial Z Z Z (cloneS_ac D _ _ B1 m1 d1 x.params (hpx.le (h13.t h15)) O) ?_
    rintro _ _ s51 h51 ⟨rfl,C1,r1,e1,rfl,hS1⟩
    refine ⟨(fun x hx _=>nomatch hx),?_⟩
    refine za 9 Z (We Y4) Z<|JA_1 5 V<|Jb Z trivial Z Z Z (cloneS_ac D _ _ B2 m2 d2 x.locals (hlx.le (h13.t h15|>.t h51)) O) ?_
    rintro _ _ s52 h52 ⟨rfl,C2,r2,e2,rfl,hS2q⟩
    refine ⟨(fun x hx _=>nomatch hx),?_⟩
    refine JA_1 8 V<|Jb Z trivial Z Z Z (AC.mid [_,_,_,_] [] (Mo++(Fo++L)) (cls D d _ _ B3 m3 d3 x.body (hbx.le (h13.t h15|>.t h51|>.t h52)) O)) ?_
    rintro _ _ s53 h53 ⟨M1,rfl,C3,r3,e3,rfl,hS3⟩
    refine ⟨(fun x hx _=>nomatch hx),?_⟩
    simp only [cQ9,nQ9]
    refine JA_1 10 V<|Wu Z trivial 0 [_,_,_,_] Y9 (fun _ hx=>sub_mem (sb0 _) hx)<|za 11 Z (We Y4) Z<|JA_1 12 V<|Wu Z trivial 0 [_,_,_,_] Y9 (fun _ hx=>sub_mem (sb0 _) hx)<|za 13 Z (We Y4) Z<|JA_1 14 V<|Wu Z trivial 0 [_,_,_,_] Y9 (fun _ hx=>sub_mem (sb0 _) hx)<|JA_done V ?_
    refine thenQ_n (MidF.mk (.slice C1 r1 e1,.slice C2 r2 e2,.slice C3 r3 e3,M1) [] (h15.t h51|>.t h52|>.t h53) sk (.cons _ (.cons _ (.cons _ (.cons _ (perm_in M1 Mo Fo L))))) ⟨⟨_,_,_,Z,hS1.le (h52.t h53)⟩,⟨_,_,_,Z,hS2q.le h53⟩,⟨_,_,_,Z,hS3.le (Lr D)⟩⟩)
   refine JB_q Z trivial (Wd 0 Y5) Z<|JA_1 1 V<|JB_q Z trivial (Wd 0 Y5) Z<|JA_1 2 V<|Jb Z trivial Z Z Z (cloneS_ac D _ _ B1 m1 d1 x.params (hpx.le (h13.t h15)) O) ?_
   rintro _ _ s54 h54 ⟨rfl,C1,r1,e1,rfl,hS1⟩
   refine ⟨(fun x hx _=>nomatch hx),?_⟩
   refine za 9 Z (We Y4) Z<|JA_1 5 V<|Jb Z trivial Z Z Z (cloneS_ac D _ _ B2 m2 d2 x.locals (hlx.le (h13.t h15|>.t h54)) O) ?_
   rintro _ _ s55 h55 ⟨rfl,C2,r2,e2,rfl,hS2q⟩
   refine ⟨(fun x hx _=>nomatch hx),?_⟩
   refine JA_1 8 V<|Jb Z trivial Z Z Z (AC.mid [_,_,_,_] [] (Mo++(Fo++L)) (cls D d _ _ B3 m3 d3 x.body (hbx.le (h13.t h15|>.t h54|>.t h55)) O)) ?_
   rintro _ _ s56 h56 ⟨M1,rfl,C3,r3,e3,rfl,hS3⟩
   refine ⟨(fun x hx _=>nomatch hx),?_⟩
   simp only [cQ9,nQ9]
   refine JA_1 10 V<|Wu Z trivial 0 [_,_,_,_] Y9 (fun _ hx=>sub_mem (sb0 _) hx)<|za 11 Z (We Y4) Z<|JA_1 12 V<|Wu Z trivial 0 [_,_,_,_] Y9 (fun _ hx=>sub_mem (sb0 _) hx)<|za 13 Z (We Y4) Z<|JA_1 14 V<|Wu Z trivial 0 [_,_,_,_] Y9 (fun _ hx=>sub_mem (sb0 _) hx)<|JA_done V ?_
   refine thenQ_n (MidF.mk (.slice C1 r1 e1,.slice C2 r2 e2,.slice C3 r3 e3,M1) [] (h15.t h54|>.t h55|>.t h56) sk (.cons _ (.cons _ (.cons _ (.cons _ (perm_in M1 Mo Fo L))))) ⟨⟨_,_,_,Z,hS1.le (h55.t h56)⟩,⟨_,_,_,Z,hS2q.le h56⟩,⟨_,_,_,Z,hS3.le (Lr D)⟩⟩)
  intro g s14 h14 I14
  simp only [cQ9,nQ9]
  obtain ⟨v1,v2,v3,M1⟩:=g
  obtain ⟨⟨C1,r1,e1,q1,hS1⟩,⟨C2,r2,e2,q2,hS2q⟩,⟨C3,r3,e3,q3,hS3⟩⟩:=I14
  simp only at q1 q2 q3 hS1 hS2q hS3
  subst q1 q2 q3
  dsimp only
  refine Zr<|Wb Y5<|Wl 1 Y6<|JO_q (QE_ldA 0 [_,_,_,_] Z Z Z Z Z) Z<|JO_bs [(_,_)] [_,_,_,_] Z Z Z Z Z Z Z Z Z ?_
  intro βn s57 h57 hcb
  refine JO_app (sz:=4) [_,_,_,_] Mo ((Fo++M1)++L) Z Z Z Z Z Z Z hO (Row.of_cells (hcb.le (Lr D)) Z Z) ⟨by simp [ti57];omega,by omega⟩ Z ?_
  intro vq Mq s58 h58 oq
  obtain ⟨Avq,cvq,rfl,_,_⟩:=Own.slice oq
  simp only [cQ9,nQ9]
  refine Wb Y5<|Wt 1 [_,_] Y9<|Zn<|Zb<|Zt<|Zr<|Zqadd Z Z Z (w64 O O)<|Zqm Z Z<|Zn<|?_
  refine thenQ_n ⟨(k+1,.slice Avq (k+1) cvq,Mq,Fo++M1),[_],kp,Z,⟨(I11.1.t h13|>.t h14|>.t h57|>.t h58),⟨by simp only;omega,css++[[St x.name,.slice C1 r1 e1,.slice C2 r2 e2,.slice C3 r3 e3]],Ms++[M1],by simp only [List.flatten_append,List.flatten_cons,List.flatten_nil,List.append_nil];exact oq,by simp only [List.flatten_append,List.flatten_cons,List.flatten_nil,List.append_nil];rw [hF],by simp only;rw [take_snocE hx];exact all3_snoc (hA3.mono fun _ _ _ k=>k.le (h13.t h14|>.t h57|>.t h58)) ⟨C1,r1,e1,C2,r2,e2,C3,r3,e3,Z,hS1.le (h57.t h58),hS2q.le (h57.t h58),hS3.le (h57.t h58),hnl⟩⟩⟩,(by simp only;omega)⟩
 obtain rfl:nf=k:=by omega
 rw [List.take_of_length_le O] at hA3
 refine Zl<|Zv<|Zv<|Zd<|Zt<|Zs<|JC_pubX [_,_,_] Mo _ ?_
 intro s59 h59 hpub59
 simp only [cQ9,nQ9]
 have hRw:Rws 4 s59 Ao nf co css:=Rws.own hO hpub59 (all3_third (fun _ _ _ h=>h.four) hA3) (by have:=hA3.len;omega)
 refine Zr<|JO_q (QE_ldA 0 [_,_] Z Z Z Z Z) Z<|Wt 1 [_,_] Y9<|Nt<|Zo<|?_
 refine retQ_mk [_,_,_] _ (.inr Z) (.agg (us:=[_,_]) 1 Z Z Z Z Z (.nil)) Z (h1.t h2|>.t h3|>.t I4.1|>.t h10|>.t I11.1|>.t h59) (fun sR hS2=>?_)
 exact ⟨Fo,rfl,_,_,_,_,_,_,rfl,fun s2 hs2=>⟨hGN.le (I11.1.t h59|>.t (hS2.t hs2)),css,Ms,hF,hRw.le ((Lr D).t (hS2.t hs2)),hA3.mono fun _ _ _ k=>k.le (h59.t (hS2.t hs2))⟩⟩
theorem cloneP_ac (D:Nat) (L:Hl) (s:World) (d:Nat) (p:Prg) (Ag Af:Option Addr) (ng cg nf cf:Nat) (hGl:Glos s Ag ng cg p.globals) (hFn:Fncs d s Af nf cf p.funcs) (hV:PV p):AC Tryz.prog D 41 [.agg #[.slice Ag ng cg,.slice Af nf cf]] L s fun v L' s'=>∃ M',L'=M'++L∧∃ Bg mg eg Bf mf ef,v=.agg #[.slice Bg mg eg,.slice Bf mf ef]∧Glos s' Bg mg eg p.globals∧FOs d s' M' Bf mf ef p.funcs:=(cloneP0_ac D L s d p Ag Af ng cg nf cf hGl hFn hV).mono fun v L' s' _ ⟨M',h1,Bg,mg,eg,Bf,mf,ef,h2,h3⟩=>⟨M',h1,Bg,mg,eg,Bf,mf,ef,h2,h3 _ (Le.refl _)⟩
def bvs (l:List Bool):List Value:=l.map Value.bool
theorem nth_b {l:List Bool} {j:Nat} (h:j < l.length):nth (bvs l) (0+j)=some (.bool (l.getD j false)):=by
  rw [nth_eq,Nat.zero_add,bvs,List.getElem?_map,List.getElem?_eq_getElem h,List.getD_eq_getElem?_getD,List.getElem?_eq_getElem h];rfl
theorem ble_b {l:List Bool} {j:Nat} (h:j < l.length):Nat.ble (0+j+1) (bvs l).length=true:=Nat.ble_eq_true_of_le (by simp only [bvs,List.length_map];omega)
theorem spl_b {l:List Bool} {j:Nat} (h:j < l.length) (v:Bool):splice (bvs l) (0+j) [.bool v]=bvs (l.set j v):=by
  have:=spl_row (xs:=bvs l) (ys:=[]) (.bool v) (show j < (bvs l).length by simpa [bvs] using h)
  simpa [bvs,List.map_set] using this
def falses:List Bool→Nat
  | []=>0
  | b::r=>(if b=true then 0 else 1)+falses r
theorem falses_set:∀ {l:List Bool} {j:Nat},j < l.length→l.getD j false=false→falses (l.set j true) < falses l
  | [],j,h,_=>by cases h
  | b::r,0,_,h=>by
    have h:b=false:=h
    subst h;rw [List.set_cons_zero,falses,falses];simp
  | b::r,j+1,h,h2=>by
    have:=falses_set (l:=r) (j:=j) (by simpa using h) (by simpa using h2)
    rw [List.set_cons_succ,falses,falses];omega
theorem falses_mono:∀ {l m:List Bool},m.length=l.length→(∀ j:Nat,l[j]?=some true→m[j]?=some true)→falses m≤falses l
  | [],[],_,_=>Nat.le_refl _
  | [],b::r,h,_=>by cases h
  | b::r,[],h,_=>by cases h
  | a::l,b::m,h,hm=>by
    have h1:=falses_mono (l:=l) (m:=m) (by simpa using h) fun j hj=>by simpa using hm (j+1) (by simpa using hj)
    have h0:=hm 0
    rw [falses,falses]
    cases a with
    | true=>
      have hb:=h0 rfl
      simp at hb;subst hb;simp;exact h1
    | false=>cases b <;> simp <;> omega
theorem mean_zero {p:Prg} {x:Fnc} {nm:Str} (h:(meanP p x nm).2=false):(meanP p x nm).1=(0,0):=by
  unfold meanP at h ⊢
  split at h
  · cases h
  rename_i h1
  rw [if_neg h1]
  split at h
  · cases h
  rename_i h2
  rw [if_neg h2]
  split at h
  · cases h
  · rfl
theorem mnI_mem {p:Prg} {x:Fnc} {kd:Int} {nd:Nd} {i:Int} (h:i∈mnI p x kd nd):nd.use.2.1≠0∧(meanP p x nd.use.1).1=(kd,i):=by
  unfold mnI at h
  split at h
  · cases h
  · rename_i h1
    split at h
    · rename_i h2
      rw [List.mem_singleton] at h
      exact ⟨h1,by rw [← h2,h]⟩
    · cases h
theorem msP_glo {p:Prg} {x:Fnc} {i:Int} (h:i∈msP p x 3):∃ k:Nat,i=(k:Int)∧k < p.globals.length:=by
  obtain ⟨nd,_,h1⟩:=((msP_spec p x 3).2 i).1 h
  obtain ⟨_,h2⟩:=mnI_mem h1
  cases h3:(meanP p x nd.use.1).2 with
  | false=>rw [mean_zero h3] at h2;cases h2
  | true=>
    rcases mean_kind h3 with h4 | ⟨_,k,h5,h6⟩ | ⟨h4,_⟩
    · rw [h2] at h4;rcases h4 with h4 | h4 <;> cases h4
    · exact ⟨k,by rw [← h5,h2],h6⟩
    · rw [h2] at h4;cases h4
theorem msP_fun {p:Prg} {x:Fnc} {i:Int} (h:i∈msP p x 4):∃ k:Nat,i=(k:Int)∧k < p.funcs.length:=by
  obtain ⟨nd,_,h1⟩:=((msP_spec p x 4).2 i).1 h
  obtain ⟨_,h2⟩:=mnI_mem h1
  cases h3:(meanP p x nd.use.1).2 with
  | false=>rw [mean_zero h3] at h2;cases h2
  | true=>
    rcases mean_kind h3 with h4 | ⟨h4,_⟩ | ⟨_,k,h5,h6⟩
    · rw [h2] at h4;rcases h4 with h4 | h4 <;> cases h4
    · rw [h2] at h4;cases h4
    · exact ⟨k,by rw [← h5,h2],h6⟩
def cal (p:Prg) (j k:Nat):Prop:=∃ x,p.funcs[j]?=some x∧(k:Int)∈msP p x 4
def glo (p:Prg) (j g:Nat):Prop:=∃ x,p.funcs[j]?=some x∧(g:Int)∈msP p x 3
inductive Rea (p:Prg):Nat→Nat→Prop
  | refl (i:Nat):Rea p i i
  | step {i k j:Nat}:cal p i k→Rea p k j→Rea p i j
structure Rch (p:Prg) (i:Nat) (F G F' G':List Bool):Prop where
  lenF:F'.length=F.length
  lenG:G'.length=G.length
  monoF:∀ j:Nat,F[j]?=some true→F'[j]?=some true
  monoG:∀ j:Nat,G[j]?=some true→G'[j]?=some true
  hit:F'[i]?=some true
  new:∀ j:Nat,F'[j]?=some true→F[j]?=some true∨(Rea p i j∧(∀ k:Nat,cal p j k→F'[k]?=some true)∧∀ g:Nat,glo p j g→G'[g]?=some true)
  newG:∀ g:Nat,G'[g]?=some true→G[g]?=some true∨∃ j:Nat,F'[j]?=some true∧F[j]?≠some true∧glo p j g
structure RchL (p:Prg) (l:List Int) (F G F' G':List Bool):Prop where
  lenF:F'.length=F.length
  lenG:G'.length=G.length
  monoF:∀ j:Nat,F[j]?=some true→F'[j]?=some true
  monoG:∀ j:Nat,G[j]?=some true→G'[j]?=some true
  hit:∀ k:Nat,(k:Int)∈l→F'[k]?=some true
  new:∀ j:Nat,F'[j]?=some true→F[j]?=some true∨((∃ k:Nat,(k:Int)∈l∧Rea p k j)∧(∀ k:Nat,cal p j k→F'[k]?=some true)∧∀ g:Nat,glo p j g→G'[g]?=some true)
  newG:∀ g:Nat,G'[g]?=some true→G[g]?=some true∨∃ j:Nat,F'[j]?=some true∧F[j]?≠some true∧glo p j g
theorem RchL.nil (p:Prg) (F G:List Bool):RchL p [] F G F G:=⟨rfl,rfl,fun _ h=>h,fun _ h=>h,fun k h=>(by cases h),fun j h=>.inl h,fun g h=>.inl h⟩
theorem RchL.snoc {p:Prg} {l:List Int} {F G F2 G2 F3 G3:List Bool} {k:Nat} (h:RchL p l F G F2 G2) (r:Rch p k F2 G2 F3 G3):RchL p (l++[(k:Int)]) F G F3 G3 where
  lenF:=r.lenF.trans h.lenF
  lenG:=r.lenG.trans h.lenG
  monoF j hj:=r.monoF j (h.monoF j hj)
  monoG j hj:=r.monoG j (h.monoG j hj)
  hit j hj:=by
    rcases List.mem_append.1 hj with hj | hj
    · exact r.monoF _ (h.hit j hj)
    · rw [List.mem_singleton] at hj
      obtain rfl:j=k:=by omega
      exact r.hit
  new j hj:=by
    rcases r.new j hj with h1 | ⟨h1,h2,h3⟩
    · rcases h.new j h1 with h4 | ⟨⟨k',h5,h6⟩,h7,h8⟩
      · exact .inl h4
      · exact .inr ⟨⟨k',List.mem_append_left _ h5,h6⟩,fun k hk=>r.monoF _ (h7 k hk),fun g hg=>r.monoG _ (h8 g hg)⟩
    · exact .inr ⟨⟨k,List.mem_append_right _ (List.mem_singleton.2 rfl),h1⟩,h2,h3⟩
  newG g hg:=by
    rcases r.newG g hg with h1 | ⟨j,h1,h2,h3⟩
    · rcases h.newG g h1 with h4 | ⟨j,h4,h5,h6⟩
      · exact .inl h4
      · exact .inr ⟨j,r.monoF _ h4,h5,h6⟩
    · exact .inr ⟨j,h1,fun h4=>h2 (h.monoF _ h4),h3⟩
def markAll (G:List Bool) (l:List Int):List Bool:=l.foldl (fun G i=>G.set i.toNat true) G
theorem markAll_snoc (G:List Bool) (l:List Int) (j:Nat):markAll G (l++[(j:Int)])=(markAll G l).set j true:=by simp [markAll,List.foldl_append]
theorem markAll_len (G:List Bool) (l:List Int):(markAll G l).length=G.length:=by
  induction l generalizing G with
  | nil=>rfl
  | cons x r ih=>show (markAll (G.set x.toNat true) r).length=_;rw [ih];simp
theorem set_true {G:List Bool} {j k:Nat}:(G.set j true)[k]?=some true↔(k=j∧j < G.length)∨G[k]?=some true:=by
  rw [List.getElem?_set]
  by_cases h:j=k
  · subst h
    by_cases hl:j < G.length
    · simp [hl]
    · simp [hl,List.getElem?_eq_none (Nat.le_of_not_lt hl)]
  · have:¬ k=j:=fun e=>h e.symm
    simp [h,this]
theorem markAll_mem {l:List Int}:∀ {G:List Bool} {g:Nat},(∀ i∈l,∃ k:Nat,i=(k:Int)∧k < G.length)→((markAll G l)[g]?=some true↔(g:Int)∈l∨G[g]?=some true):=by
  induction l with
  | nil=>intro G g _;simp [markAll]
  | cons x r ih=>
    intro G g hl
    obtain ⟨k,rfl,hk⟩:=hl x (List.mem_cons_self ..)
    show (markAll (G.set ((k:Int)).toNat true) r)[g]?=some true↔_
    rw [Int.toNat_natCast,ih (fun i hi=>by rw [List.length_set];exact hl i (List.mem_cons_of_mem _ hi)),set_true,List.mem_cons]
    constructor
    · rintro (h | ⟨h,_⟩ | h)
      · exact .inl (.inr h)
      · exact .inl (.inl (by rw [h]))
      · exact .inr h
    · rintro ((h | h) | h)
      · exact .inr (.inl ⟨by omega,hk⟩)
      · exact .inl h
      · exact .inr (.inr h)
theorem Rch.at {p:Prg} {i:Nat} {F G:List Bool} (h:F.getD i false=true) (hi:i < F.length):Rch p i F G F G:=by
  refine ⟨Z,Z,fun _ h=>h,fun _ h=>h,?_,fun j h=>.inl h,fun g h=>.inl h⟩
  rw [List.getD_eq_getElem?_getD,List.getElem?_eq_getElem hi] at h
  rw [List.getElem?_eq_getElem hi];exact congrArg some h
theorem RchL.done {p:Prg} {i:Nat} {x:Fnc} {F G F' G':List Bool} (hx:p.funcs[i]?=some x) (hi:i < F.length) (h0:F.getD i false=false) (hg:p.globals.length=G.length) (h:RchL p (msP p x 4) (F.set i true) (markAll G (msP p x 3)) F' G'):Rch p i F G F' G':=by
  have hm:∀ g:Nat,(markAll G (msP p x 3))[g]?=some true↔(g:Int)∈msP p x 3∨G[g]?=some true:=fun g=>markAll_mem fun j hj=>by
    obtain ⟨k,h1,h2⟩:=msP_glo hj
    exact ⟨k,h1,by omega⟩
  have hF0:F[i]?≠some true:=fun e=>by
    rw [List.getD_eq_getElem?_getD,e] at h0;cases h0
  have hFi:F'[i]?=some true:=h.monoF i (set_true.2 (.inl ⟨rfl,hi⟩))
  refine ⟨h.lenF.trans (by simp),h.lenG.trans (markAll_len _ _),fun j hj=>h.monoF j (set_true.2 (.inr hj)),fun j hj=>h.monoG j ((hm j).2 (.inr hj)),hFi,fun j hj=>?_,fun g hg2=>?_⟩
  · rcases h.new j hj with h1 | ⟨⟨k,h1,h2⟩,h3,h4⟩
    · rcases set_true.1 h1 with ⟨rfl,_⟩ | h1
      · refine .inr ⟨.refl _,fun k hk=>?_,fun g hg2=>?_⟩
        · obtain ⟨y,hy,hk⟩:=hk
          rw [hx] at hy;injection hy with hy;subst hy
          exact h.hit k hk
        · obtain ⟨y,hy,hk⟩:=hg2
          rw [hx] at hy;injection hy with hy;subst hy
          exact h.monoG g ((hm g).2 (.inl hk))
      · exact .inl h1
    · exact .inr ⟨.step ⟨x,hx,h1⟩ h2,h3,h4⟩
  · rcases h.newG g hg2 with h1 | ⟨j,h1,h2,h3⟩
    · rcases (hm g).1 h1 with h1 | h1
      · exact .inr ⟨i,hFi,hF0,x,hx,h1⟩
      · exact .inl h1
    · exact .inr ⟨j,h1,fun h4=>h2 (set_true.2 (.inr h4)),h3⟩
structure TrE (s:World) (p:Prg) (d bf bn bp bg bc br oF oG bm:Nat) (Ag Af Ac:Option Addr) (ng cg nf cf cc:Nat):Prop where
  xf:CellsAt s bf 0 [.slice (some ⟨oF,0,none⟩) nf nf]
  xn:CellsAt s bn 0 [.slice Ag ng cg,.slice Af nf cf,.map (some bm)]
  xp:CellsAt s bp 0 [.slice Ag ng cg,.slice Af nf cf]
  xg:CellsAt s bg 0 [.slice (some ⟨oG,0,none⟩) ng ng]
  xc:CellsAt s bc 0 [.slice Ac nf cc]
  xr:CellsAt s br 0 [.func (.func 39) #[] #[.pointer (some ⟨bf,0,none⟩),.pointer (some ⟨bn,0,none⟩),.pointer (some ⟨bp,0,none⟩),.pointer (some ⟨bg,0,none⟩),.pointer (some ⟨bc,0,none⟩),.pointer (some ⟨br,0,none⟩)]]
  nm:NmOK s bm p
  gl:Glos s Ag ng cg p.globals
  fn:Fncs d s Af nf cf p.funcs
  cl:ClsR p s Ac nf cc p.funcs
theorem TrE.le {D:Nat} {s s':World} {p:Prg} {d bf bn bp bg bc br oF oG bm:Nat} {Ag Af Ac:Option Addr} {ng cg nf cf cc:Nat} (h:TrE s p d bf bn bp bg bc br oF oG bm Ag Af Ac ng cg nf cf cc) (hl:Le D s s'):TrE s' p d bf bn bp bg bc br oF oG bm Ag Af Ac ng cg nf cf cc:=
  ⟨h.xf.le hl,h.xn.le hl,h.xp.le hl,h.xg.le hl,h.xc.le hl,h.xr.le hl,h.nm.le hl,h.gl.le hl,h.fn.le hl,h.cl.le hl⟩
def TRC (D m:Nat):Prop:=∀ (L:Hl) (s:World) (p:Prg) (d bf bn bp bg bc br oF oG bm:Nat) (Ag Af Ac:Option Addr) (ng cg nf cf cc:Nat),TrE s p d bf bn bp bg bc br oF oG bm Ag Af Ac ng cg nf cf cc→PV p→∀ (i:Nat) (F G:List Bool),i < nf→F.length=nf→G.length=ng→falses F < m →
  AC Tryz.prog D 39 [.int .i64 (i:Int),.pointer (some ⟨bf,0,none⟩),.pointer (some ⟨bn,0,none⟩),.pointer (some ⟨bp,0,none⟩),.pointer (some ⟨bg,0,none⟩),.pointer (some ⟨bc,0,none⟩),.pointer (some ⟨br,0,none⟩)] ((oF,cb (bvs F) 4)::(oG,cb (bvs G) 4)::L) s fun v L' _=>v=.tuple #[]∧∃ F' G',L'=(oF,cb (bvs F') 4)::(oG,cb (bvs G') 4)::L∧Rch p i F G F' G'
theorem tr_step (D m:Nat) (ih:∀ e,m=e+1→TRC D e) (L:Hl) (s:World) (p:Prg) (d bf bn bp bg bc br oF oG bm:Nat) (Ag Af Ac:Option Addr) (ng cg nf cf cc:Nat) (hE:TrE s p d bf bn bp bg bc br oF oG bm Ag Af Ac ng cg nf cf cc) (hV:PV p) (i:Nat) (F G:List Bool) (hi:i < nf) (hFl:F.length=nf) (hGl:G.length=ng) (hm:falses F < m):AC Tryz.prog D 39 [.int .i64 (i:Int),.pointer (some ⟨bf,0,none⟩),.pointer (some ⟨bn,0,none⟩),.pointer (some ⟨bp,0,none⟩),.pointer (some ⟨bg,0,none⟩),.pointer (some ⟨bc,0,none⟩),.pointer (some ⟨br,0,none⟩)] ((oF,cb (bvs F) 4)::(oG,cb (bvs G) 4)::L) s fun v L' _=>v=.tuple #[]∧∃ F' G',L'=(oF,cb (bvs F') 4)::(oG,cb (bvs G') 4)::L∧Rch p i F G F' G':=by
 have hn1:=hE.gl.1
 have hn2:=hE.fn.1
 have hVf:=hV.2.2.2.1
 have hiF:i < F.length:=by omega
 refine AC_enter (TT:=TT) (fn:=Tryz.f39) TT_ok Tryz.func39 V Z Tryz.ntmps39 Z (rs:=[]) Z [(0,_),(1,_),(2,_),(3,_),(4,_),(5,_),(6,_)] Z<|Zs<|Sr<|JO_q (QE_ldsR0 Z Z Z (hE.xf.le (Lr D)) Z) Z<|Zqm Z Z<|JO_q (QE_ia1 Z Z Z Z Z Z hi) Z<|JO_q (QE_ld1 0 Z Z Z Z (nth_b hiF)) Z<|Nt<|?_
 refine JC_if Z (fun c1=>?_) (fun c1=>?_)
 ·
  have g15:=c1
  refine Zo<|Zu<|?_
  refine retQ_mk [] _ (.inr Z) (.nil) Z (Lr D) (fun sR hS2=>?_)
  exact ⟨rfl,F,G,rfl,Rch.at g15 hiF⟩
 have g15:=c1
 obtain ⟨e,hd⟩:∃ e,m=e+1:=⟨m - 1,by omega⟩
 obtain ⟨b,off,x,B1,m1,d1,B2,m2,d2,B3,m3,d3,rfl,hx,hcx,hpx,hlx,hbx,hnl⟩:=Fncs.at_ (hE.fn.le (Lr D)) hi
 have hfx:=hVf x (List.mem_of_getElem? hx)
 have hs1:=falses_set hiF g15
 refine Zk<|Zt<|Sr<|JO_q (QE_ldsR0 Z Z Z (hE.xf.le (Lr D)) Z) Z<|Zqm Z Z<|JO_q (QE_ia1 Z Z Z Z Z Z hi) Z<|JO_st 0 (bvs (F.set i true)) Z Z Z Z Z (ble_b hiF) Z (spl_b hiF true) Z<|Nt<|Zs<|Zs<|JC_draw drawsMixed 9 Z _ (fun _ h=>h) ?_
 intro s3 h3
 refine za 0 Z (QE_ldsA Z Z Z (hE.xn.le h3) Z) Z<|za 1 Z (QE_fa Z Z Z Z) Z<|za 2 Z (QE_ldsR 1 Z Z Z (hE.xp.le h3) Z) Z<|za 3 Z (QE_mv Z) Z<|za 4 Z (QE_iaN Z Z Z Z Z Z hi) Z<|za 5 Z (QE_ldsA Z Z Z (hcx.le h3) Z) Z<|za 8 Z (QE_mv Z) Z<|JA_1 6 V<|Jb Z trivial Z Z Z (meanings_ac D _ _ p Ag _ ng cg nf cf bm d (hE.nm.le h3) x B1 B2 B3 m1 d1 m2 d2 m3 d3 (hpx.le h3) (hlx.le h3) (hbx.le h3) hfx 3) ?_
 rintro _ _ s4 h4 ⟨rfl,Aw,nw,cw,rfl,hIw⟩
 refine ⟨fun _ _ h=>h,?_⟩
 have hnw:=hIw.1
 have hnw2:=hIw.2.1
 have hnw3:=hIw.2.2.1
 refine za 7 Z (QE_lenS Z Z Z) Z<|JA_done V<|Zt<|Zp<|JC_loop (γ:=Nat×List Bool) (fun g=>[(0,_),(4,_),(5,_),(6,_),(25,_),(26,_),(27,.int .i64 (g.1:Int))]) (fun g=>(oF,cb (bvs (F.set i true)) 4)::(oG,cb (bvs g.2) 4)::L) (fun g tw=>Le D s4 tw∧(g.1≤nw∧g.2=markAll G ((msP p x 3).take g.1))) (fun g=>nw - g.1) (fun _ _ _ h hl=>⟨h.1.trans hl,h.2⟩) (0,G) (.cons Z (.cons Z (.cons Z (.cons Z (.cons Z (.cons Z (.cons Z (.nil _)))))))) Z ⟨Le.refl _,⟨Nat.zero_le _,Z⟩⟩ ?_
 intro g s5 I5
 obtain ⟨k,Gk⟩:=g
 obtain ⟨hk0,hGk⟩:=I5.2
 simp only at hk0 hGk
 dsimp only
 refine Sr<|Zqlt Z Z Z<|Nt<|Zs<|?_
 refine JC_ifD Z (fun c6=>?_) (fun c6=>?_)
 ·
  have hk:k < nw:=by omega
  obtain ⟨b2,off2,y,rfl,hy,hcy,_⟩:=Its.at_ (hIw.le I5.1) hk
  obtain ⟨j,rfl,hj⟩:=msP_glo (List.mem_of_getElem? hy)
  have hjg:j < ng:=by omega
  have hjG:j < Gk.length:=by rw [hGk,markAll_len];omega
  refine Zk<|Zt<|Zs<|Zp<|Sr<|JO_q (QE_ia1 Z Z Z Z Z Z hk) Z<|JO_q (QE_ldsR0 Z Z Z (hcy.le (Lr D)) Z) Z<|At Z Z<|Zr<|JO_q (QE_ldsR0 Z Z Z (hE.xg.le (h3.t h4|>.t I5.1)) Z) Z<|Zqm Z Z<|JO_q (QE_ia1 Z Z Z Z Z Z hjg) Z<|JO_st 1 (bvs (Gk.set j true)) Z Z Z Z Z (ble_b hjG) Z (spl_b hjG true) Z<|Zn<|Zb<|Zt<|Zr<|Zqadd Z Z Z (w64 O O)<|Zqm Z Z<|Zn<|?_
  refine thenQ_n ⟨(k+1,Gk.set j true),[],kp,Z,⟨I5.1,⟨by simp only;omega,by simp only;rw [take_snocE hy,markAll_snoc,hGk]⟩⟩,(by simp only;omega)⟩
 rw [List.take_of_length_le O] at hGk
 subst hGk
 obtain ⟨b3,off3,x2,Aq,nq,cq,rfl,hx2,hcq,hIq⟩:=ClsR.at_ (hE.cl.le (h3.t h4|>.t I5.1)) hi
 obtain rfl:x=x2:=by rw [hx] at hx2;injection hx2
 have hnq:=hIq.1
 have hnq2:=hIq.2.1
 have hnq3:=hIq.2.2.1
 refine Zl<|Zv<|Zv<|Zd<|Zt<|Sr<|JO_q (QE_ldsR0 Z Z Z (hE.xc.le (h3.t h4|>.t I5.1)) Z) Z<|Zqm Z Z<|JO_q (QE_ia1 Z Z Z Z Z Z hi) Z<|JO_q (QE_ldsR0 Z Z Z (hcq.le (Lr D)) Z) Z<|Ws Y4<|Zqm Z Z<|Nt<|Zp<|?_
 refine JC_loop (γ:=Nat×List Bool×List Bool) (fun g=>[(6,_),(38,_),(39,_),(40,.int .i64 (g.1:Int))]) (fun g=>(oF,cb (bvs g.2.1) 4)::(oG,cb (bvs g.2.2) 4)::L) (fun g tw=>Le D s5 tw∧(g.1≤nq∧RchL p ((msP p x 4).take g.1) (F.set i true) (markAll G (msP p x 3)) g.2.1 g.2.2)) (fun g=>nq - g.1) (fun _ _ _ h hl=>⟨h.1.trans hl,h.2⟩) (0,F.set i true,markAll G (msP p x 3)) (.cons Z (.cons Z (.cons Z (.cons Z (.nil _))))) Z ⟨Le.refl _,⟨Nat.zero_le _,RchL.nil _ _ _⟩⟩ ?_
 intro g s8 I8
 obtain ⟨k,F2,G2⟩:=g
 obtain ⟨hk0,hR⟩:=I8.2
 simp only at hk0 hR
 dsimp only
 refine Sr<|Zqlt Z Z Z<|Nt<|Zs<|?_
 refine JC_ifD Z (fun c9=>?_) (fun c9=>?_)
 ·
  have hk:k < nq:=by omega
  obtain ⟨b2,off2,y,rfl,hy,hcy,_⟩:=Its.at_ (hIq.le I8.1) hk
  obtain ⟨j,rfl,hj⟩:=msP_fun (List.mem_of_getElem? hy)
  have hjf:j < nf:=by omega
  have hm2:=falses_mono hR.lenF hR.monoF
  have hF2l:=hR.lenF
  have hG2l:=hR.lenG
  rw [List.length_set] at hF2l
  rw [markAll_len] at hG2l
  refine Zk<|Zt<|Zs<|Zp<|Sr<|JO_q (QE_ia1 Z Z Z Z Z Z hk) Z<|JO_q (QE_ldsR0 Z Z Z (hcy.le (Lr D)) Z) Z<|At Z Z<|Zr<|JO_q (QE_ldsR0 Z Z Z (hE.xr.le (h3.t h4|>.t I5.1|>.t I8.1)) Z) Z<|Zqm Z Z<|JO_call (first:=[]) (captured:=[_,_,_,_,_,_]) Z Z Z (ih e hd _ _ p d bf bn bp bg bc br oF oG bm Ag _ _ ng cg nf cf cc (hE.le (h3.t h4|>.t I5.1|>.t I8.1)) hV j F2 G2 hjf O O O) ?_
  rintro _ _ s10 h10 ⟨rfl,F3,G3,rfl,hR3⟩
  refine Zn<|Zb<|Zt<|Zr<|Zqadd Z Z Z (w64 O O)<|Zqm Z Z<|Zn<|?_
  refine thenQ_n ⟨(k+1,F3,G3),[],kp,Z,⟨(I8.1.t h10),⟨by simp only;omega,by simp only;rw [take_snocE hy];exact hR.snoc hR3⟩⟩,(by simp only;omega)⟩
 rw [List.take_of_length_le O] at hR
 refine Zl<|Zv<|Zv<|Zd<|?_
 refine retQ_mk [] _ (.inl Z) (.nil) Z (h3.t h4|>.t I5.1|>.t I8.1) (fun sR hS2=>?_)
 exact ⟨rfl,F2,G2,rfl,hR.done hx hiF g15 O⟩
theorem trc (D:Nat):∀ m,TRC D m
  | 0=>fun L s p d bf bn bp bg bc br oF oG bm Ag Af Ac ng cg nf cf cc hE hV i F G hi hF hG hm=>by omega
  | m+1=>fun L s p d bf bn bp bg bc br oF oG bm Ag Af Ac ng cg nf cf cc hE hV i F G hi hF hG hm=>tr_step D (m+1) (fun e h=>(show m=e by omega)▸trc D m) L s p d bf bn bp bg bc br oF oG bm Ag Af Ac ng cg nf cf cc hE hV i F G hi hF hG hm
end Go.Proofs.YtpdnijphccdiiaaGreatDoor
