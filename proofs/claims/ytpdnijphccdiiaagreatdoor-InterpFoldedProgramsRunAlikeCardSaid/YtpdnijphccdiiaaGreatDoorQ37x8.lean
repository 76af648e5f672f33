/- The law InterpFoldedProgramsRunAlike: for every input it returns true, and its arguments read behind the call az they read before; what the package-level variables of the library hold is tied tgt the text of the program. Part 8 of the proof of interpFoldedProgramsRunAlike_holds: texts N13, Pv, Pw, N14, N15, Bx, N16, V25, C31, N17, N18, C32, Fv, N20, N21, Rj, Rt, Rz, Q37. -/
import Derived.Test.YtpdnijphccdiiaaGreatDoorQ37x7
import Derived.Recover
import Derived.ControlIn
import Derived.ProofKit
import Derived.OpenShut
import Derived.SizedLaws
import Derived.Deep.Slices
import Derived.Test.YtpdnijphccdiiaaGreatDoorRows
import Derived.Lay
import Derived.Lib.LaidTab
import Derived.Stop.LaidErr
import Derived.SevenTiedAt
import Derived.Test.YtpdnijphccdiiaaGreatDoorCards
import Derived.Test.YtpdnijphccdiiaaGreatDoorTie
set_option linter.unusedVariables false
set_option linter.unusedSimpArgs false
set_option linter.unnecessarySimpa false
set_option maxRecDepth 100000
set_option maxHeartbeats 8000000
namespace Go.Proofs.YtpdnijphccdiiaaGreatDoor
open Go.FL
attribute [local irreducible] JC JO JA JB thenQ blockQ retQ AC fill CellsAt QE Ev Mid
def TPR (D d:Nat):Prop:=∀ (L:Hl) (s:World) (d0:Nat) (p:Prg) (Ag Af:Option Addr) (ng cg nf cf:Nat) (hGl:Glos s Ag ng cg p.globals) (hFn:Fncs d0 s Af nf cf p.funcs) (f:Fnc) (P1 P2 P3:Option Addr) (p1 r1 p2 r2 p3 r3:Nat) (hP1:Strs s P1 p1 r1 f.params) (hP2:Strs s P2 p2 r2 f.locals) (hsz:f.params.length+f.locals.length≤100) (hPK:POK p) (x:Stm) (A1:Option Addr) (n1 c1:Nat) (A2:Option Addr) (n2 c2:Nat) (A3:Option Addr) (n3 c3:Nat),Exs d s A1 n1 c1 x.exprs→Stms d s A2 n2 c2 x.body→Stms d s A3 n3 c3 x.els→stNs x.body≤2000→stNs x.els≤2000→StOK p f x→AC Tryz.prog D 48 [.agg #[.slice Ag ng cg,.slice Af nf cf,St f.name,.slice P1 p1 r1,.slice P2 p2 r2,.slice P3 p3 r3],.agg #[.int .i64 x.kind,St x.name,.slice A1 n1 c1,.slice A2 n2 c2,.slice A3 n3 c3]] L s fun v L' s'=>L=L'∧ViS p f (VeR p f d) (VsR p f d) s' x v
def TSR (D d:Nat):Prop:=∀ (L:Hl) (s:World) (d0:Nat) (p:Prg) (Ag Af:Option Addr) (ng cg nf cf:Nat) (hGl:Glos s Ag ng cg p.globals) (hFn:Fncs d0 s Af nf cf p.funcs) (f:Fnc) (P1 P2 P3:Option Addr) (p1 r1 p2 r2 p3 r3:Nat) (hP1:Strs s P1 p1 r1 f.params) (hP2:Strs s P2 p2 r2 f.locals) (hsz:f.params.length+f.locals.length≤100) (hPK:POK p) (A:Option Addr) (n c:Nat) (xs:List Stm),Stms d s A n c xs→(∀ x∈xs,StOK p f x)→stNs xs≤2000→AC Tryz.prog D 22 [.agg #[.slice Ag ng cg,.slice Af nf cf,St f.name,.slice P1 p1 r1,.slice P2 p2 r2,.slice P3 p3 r3],.slice A n c] L s fun v L' s'=>L=L'∧∃ A' n' c',v=.slice A' n' c'∧VsS p f d s' A' n' c' xs
theorem tbody_step (D d:Nat) (ih:∀ e,d=e+1→TPR D e) (L:Hl) (s:World) (d0:Nat) (p:Prg) (Ag Af:Option Addr) (ng cg nf cf:Nat) (hGl:Glos s Ag ng cg p.globals) (hFn:Fncs d0 s Af nf cf p.funcs) (f:Fnc) (P1 P2 P3:Option Addr) (p1 r1 p2 r2 p3 r3:Nat) (hP1:Strs s P1 p1 r1 f.params) (hP2:Strs s P2 p2 r2 f.locals) (hsz:f.params.length+f.locals.length≤100) (hPK:POK p) (A:Option Addr) (n c:Nat) (xs:List Stm) (hA:Stms d s A n c xs) (hO:∀ x∈xs,StOK p f x) (hN:stNs xs≤2000) (hnl:n≤100000):AC Tryz.prog D 22 [.agg #[.slice Ag ng cg,.slice Af nf cf,St f.name,.slice P1 p1 r1,.slice P2 p2 r2,.slice P3 p3 r3],.slice A n c] L s fun v L' s'=>∃ M',L'=M'++L∧∀ s2,Le D s' s2→Pub M' s2→∃ A' n' c',v=.slice A' n' c'∧VsS p f d s2 A' n' c' xs:=by
 have hn1:=hA.1
 have hb1:=hA.2.1
 have hb2:=hA.2.2.1
 have hlim:n≤100000:=hnl
 refine AC_enter (TT:=TT) (fn:=Tryz.f22) TT_ok Tryz.func22 V Z Tryz.ntmps22 Z (rs:=[.tmp 4]) Z [(0,_),(1,_)] Z<|Sr<|JO_boxA Z Z ?_
 intro β1 s1 h1
 refine At Z Z<|Sr<|At Z Z<|Zs<|Sr<|Zqm Z Z<|Ws Y4<|Zqm Z Z<|Nt<|Zp<|?_
 refine JC_loop (γ:=Nat×Value×Hl) (fun g=>[(2,_),(4,_),(5,g.2.1),(9,_),(10,_),(11,.int .i64 (g.1:Int))]) (fun g=>_::(g.2.2++L)) (fun g tw=>Le D s1 tw∧(g.1≤n∧∃ css,FL.Own 114 1 g.2.2 g.2.1 g.1 (List.flatten css)∧All2 (fun x cs=>cs.length=1∧VsR p f d tw x cs) (xs.take g.1) css)) (fun g=>n - g.1) (fun _ _ _ h hl=>⟨h.1.trans hl,(by obtain ⟨k1,css,k2,k3⟩:=h.2;exact ⟨k1,css,k2,k3.mono fun _ _ k=>⟨k.1,VsR.le hl k.2⟩⟩)⟩) (0,.slice none 0 0,[]) (.cons Z (.cons Z (.cons Z (.cons Z (.cons Z (.cons Z (.nil _))))))) Z ⟨Le.refl _,⟨Nat.zero_le _,[],.nil,.nil⟩⟩ ?_
 intro g s2 I2
 obtain ⟨k,vk,Mk⟩:=g
 obtain ⟨hk0,css,hOk,hA2⟩:=I2.2
 simp only at hk0 hOk hA2
 dsimp only
 refine Sr<|Zqlt Z Z Z<|Nt<|Zs<|?_
 refine JC_ifD Z (fun c3=>?_) (fun c3=>?_)
 ·
  have hk:k < n:=by omega
  obtain ⟨e,b,off,x,B1,m1,e1,B2,m2,e2,B3,m3,e3,hd,rfl,hx,hcx,hx1,hx2,hx3,_⟩:=Stms.at_ (hA.le (h1.t I2.1)) hk
  have hNx:=stNs_mem hx
  have hxo:=hO x (List.mem_of_getElem? hx)
  refine Zk<|Zt<|Zs<|Zp<|Sr<|JO_q (QE_iaN Z Z Z Z Z Z hk) Z<|JO_q (QE_ldsA Z Z Z (hcx.le (Lr D)) Z) Z<|JO_allocZ Z [_,_,_,_,_] Z Z ?_
  intro β4 s4 h4
  refine Wt 0 [_,_,_,_,_] Y9<|Nt<|Sr<|JO_q (QE_ldA 1 [_,_,_,_,_,_] Z Z Z Z Z) Z<|JO_q (QE_ldA 0 [_,_,_,_,_] Z Z Z Z Z) Z<|Jc Z Z Z (ih e hd _ _ d0 p Ag Af ng cg nf cf (hGl.le (h1.t I2.1|>.t h4)) (hFn.le (h1.t I2.1|>.t h4)) f P1 P2 P3 p1 r1 p2 r2 p3 r3 (hP1.le (h1.t I2.1|>.t h4)) (hP2.le (h1.t I2.1|>.t h4)) hsz hPK x B1 m1 e1 B2 m2 e2 B3 m3 e3 (hx1.le h4) (hx2.le h4) (hx3.le h4) O O hxo) ?_
  rintro _ _ s5 h5 ⟨rfl,hvi⟩
  obtain ⟨kk,cap,hvf⟩:=hvi.func
  subst hvf
  refine JO_allocZ Z [_] Z Z ?_
  intro β6 s6 h6
  refine Wt 0 [_] Y9<|Nt<|JC_pubX [] [_,_] _ ?_
  intro s7 h7 hpub7
  simp only [cQ9,nQ9]
  have gbx:=hpub7 _ _ _ (List.mem_cons_self ..)
  refine Zr<|Zqm Z Z<|JO_q (QE_func Z) Z<|JO_bs [(_,_)] [_] Z Z Z Z Z Z Z Z Z ?_
  intro β8 s8 h8 hc8
  refine JO_app (sz:=1) [_] Mk L Z Z Z Z Z Z Z hOk (Row.of_cells (hc8.le (Lr D)) Z Z) ⟨by simp [ti114];omega,by omega⟩ Z ?_
  intro v9 M9 s9 h9 oq
  simp only [cQ9,nQ9]
  refine Zqa Z Z<|Zn<|Zb<|Zt<|Zr<|Zqadd Z Z Z (w64 O O)<|Zqm Z Z<|Zn<|?_
  refine thenQ_n ⟨(k+1,v9,M9),[],kp,Z,⟨(I2.1.t h4|>.t h5|>.t h6|>.t h7|>.t h8|>.t h9),⟨by simp only;omega,css++[[_]],by simp only [List.flatten_append,List.flatten_cons,List.flatten_nil,List.append_nil];exact oq,by simp only;rw [take_snocE hx];exact (hA2.mono fun _ _ k=>⟨k.1,VsR.le (h4.t h5|>.t h6|>.t h7|>.t h8|>.t h9) k.2⟩).snoc ⟨Z,hd▸⟨_,_,Z,gbx.le (h8.t h9),hvi.le (h6.t h7|>.t h8|>.t h9) (fun _ _ h=>VeR.le (h6.t h7|>.t h8|>.t h9) h) (fun _ _ h=>VsR.le (h6.t h7|>.t h8|>.t h9) h)⟩⟩⟩⟩,(by simp only;omega)⟩
 obtain rfl:n=k:=by omega
 rw [List.take_of_length_le O] at hA2
 obtain ⟨Ak,ck,rfl,_,_⟩:=Own.slice hOk
 refine Zl<|Zv<|Zv<|Zd<|Zt<|Sr<|Zqm Z Z<|At Z Z<|Zo<|?_
 refine retQ_mk [] _ (.inr Z) (.tmp Z (.nil)) Z (h1.t I2.1) (fun sR hS2=>?_)
 exact ⟨_::Mk,rfl,fun s2 hs2 hp=>⟨_,_,_,rfl,Own.rows hOk hp.tail (hA2.mono fun _ _ k=>⟨k.1,VsR.le ((Lr D).t (hS2.t hs2)) k.2⟩) hn1⟩⟩
theorem tstmt_step (D d:Nat) (ihB:TSR D d) (L:Hl) (s:World) (d0:Nat) (p:Prg) (Ag Af:Option Addr) (ng cg nf cf:Nat) (hGl:Glos s Ag ng cg p.globals) (hFn:Fncs d0 s Af nf cf p.funcs) (f:Fnc) (P1 P2 P3:Option Addr) (p1 r1 p2 r2 p3 r3:Nat) (hP1:Strs s P1 p1 r1 f.params) (hP2:Strs s P2 p2 r2 f.locals) (hsz:f.params.length+f.locals.length≤100) (hPK:POK p) (x:Stm) (A1:Option Addr) (n1 q1:Nat) (A2:Option Addr) (n2 q2:Nat) (A3:Option Addr) (n3 q3:Nat) (hA1:Exs d s A1 n1 q1 x.exprs) (hA2:Stms d s A2 n2 q2 x.body) (hA3:Stms d s A3 n3 q3 x.els) (hN2:stNs x.body≤2000) (hN3:stNs x.els≤2000) (hxo:StOK p f x):AC Tryz.prog D 48 [.agg #[.slice Ag ng cg,.slice Af nf cf,St f.name,.slice P1 p1 r1,.slice P2 p2 r2,.slice P3 p3 r3],.agg #[.int .i64 x.kind,St x.name,.slice A1 n1 q1,.slice A2 n2 q2,.slice A3 n3 q3]] L s fun v L' s'=>∃ M',L'=M'++L∧∀ s2,Le D s' s2→Pub M' s2→ViS p f (VeR p f d) (VsR p f d) s2 x v:=by
 obtain ⟨lv,hlv⟩:=hxo.1
 obtain ⟨hk1,hk10,hle,hmo,_,_⟩:=stC_args (stV_eq hlv).2.1
 have hn1:=hA1.1
 have hm6:=mostS_l6 x.kind
 refine AC_enter (TT:=TT) (fn:=Tryz.f48) TT_ok Tryz.func48 V Z Tryz.ntmps48 Z (rs:=[.tmp 4]) Z [(0,_),(1,_)] Z<|Sr<|JO_boxA Z Z ?_
 intro β1 s1 h1
 refine JO_boxA Z Z ?_
 intro β2 s2 h2
 refine At Z Z<|Sr<|JO_q (QE_ldA 1 [_,_,_,_,_,_] Z Z Z Z Z) Z<|Wb Y5<|Wl 0 Y6<|Jc Z Z Z (xsr D d _ _ d0 p Ag Af ng cg nf cf (hGl.le (h1.t h2)) (hFn.le (h1.t h2)) f P1 P2 P3 p1 r1 p2 r2 p3 r3 (hP1.le (h1.t h2)) (hP2.le (h1.t h2)) hsz hPK A1 n1 q1 x.exprs (hA1.le (h1.t h2)) hxo.exprs O) ?_
 rintro _ _ s3 h3 ⟨rfl,A',n',c',rfl,hV⟩
 have hn2:=hV.1
 refine JO_allocZ Z [_] Z Z ?_
 intro β4 s4 h4
 refine Wt 0 [_] Y9<|Nt<|Zs<|Sr<|W0 Y5<|Wl 1 Y6<|Nt<|Zp<|Sr<|Zqeq Z Z Z<|At Z Z<|?_
 refine JC_ifD Z (fun c5=>?_) (fun c5=>?_)
 ·
  have hkk:x.kind=1:=c5
  have h0n:0 < n':=by have h9:leastS x.kind=1:=(by rw [hkk];rfl);omega
  obtain ⟨B0,o0,b4,hAe0,hcE,hvE⟩:=VeS.at_ hV h0n
  subst hAe0
  refine Zs<|JC_draw drawsMixed 8 Z _ (fun _ h=>h) ?_
  intro s6 h6
  refine za 0 Z (QE_ldA 2 [_,_,_,_,_,_] Z Z Z Z Z) Z<|za 1 Z (We Y4) Z<|za 2 Z (Wd 1 Y5) Z<|za 3 Z (Wd 0 Y5) Z<|za 4 Z (QE_ia1 Z Z Z Z Z Z h0n) Z<|za 5 Z (QE_ldsR0 Z Z Z (hcE.le (h4.t h6)) Z) Z<|JA_1 6 V<|Jb Z trivial Z Z Z (AC.pubW (assignO_ac D _ _ d0 p Ag Af ng cg nf cf (hGl.le (h1.t h2|>.t h3|>.t h4|>.t h6)) (hFn.le (h1.t h2|>.t h3|>.t h4|>.t h6)) f P1 P2 P3 p1 r1 p2 r2 p3 r3 (hP1.le (h1.t h2|>.t h3|>.t h4|>.t h6)) (hP2.le (h1.t h2|>.t h3|>.t h4|>.t h6)) hsz (VsR p f d) d b4 x hkk (ms1 hPK hxo hkk) (VeR.le (h4.t h6) hvE))) ?_
  rintro _ _ s7 h7 ⟨rfl,hW⟩
  refine ⟨fun _ _ h=>h,?_⟩
  refine za 7 Z (QE_as Z) Z<|JA_done V<|Zt<|Zo<|Zc<|Zu<|?_
  refine retQ_mk [] _ (.inr Z) (.tmp Z (.nil)) Z (h1.t h2|>.t h3|>.t h4|>.t h6|>.t h7) (fun sR hS2=>?_)
  exact ⟨[_,_,_],rfl,fun s2 hs2 hp=>hW.le ((Lr D).t (hS2.t hs2)) (fun _ _ h=>VeR.le ((Lr D).t (hS2.t hs2)) h) fun _ _ h=>VsR.le ((Lr D).t (hS2.t hs2)) h⟩
 refine Sr<|Zqeq Z Z Z<|At Z Z<|?_
 refine JC_ifD Z (fun c8=>?_) (fun c8=>?_)
 ·
  have hkk:x.kind=2:=c8
  obtain ⟨k,g,hg,hgp,g3⟩:=ms2 hPK hxo hkk
  have h1n:1 < n':=by have h9:leastS x.kind=2:=(by rw [hkk];rfl);omega
  refine Sr<|JO_q (QE_ldA 2 [_,_,_,_,_,_] Z Z Z Z Z) Z<|Wb Y5<|Wl 1 Y6<|Jc Z Z Z (global_ac D _ _ d0 p Ag Af ng cg nf cf (hGl.le (h1.t h2|>.t h3|>.t h4)) (hFn.le (h1.t h2|>.t h3|>.t h4)) f P1 P2 P3 p1 r1 p2 r2 p3 r3 (hP1.le (h1.t h2|>.t h3|>.t h4)) (hP2.le (h1.t h2|>.t h3|>.t h4)) x.name) ?_
  rintro _ _ s9 h9 ⟨rfl,rfl⟩
  refine JO_allocZ Z [_] Z Z ?_
  intro β10 s10 h10
  refine Wt 0 [_] Y9<|Nt<|Sr<|JO_q (QE_func Z) Z<|At Z Z<|Zo<|Zc<|Zu<|?_
  refine retQ_mk [] _ (.inr Z) (.tmp Z (.nil)) Z (h1.t h2|>.t h3|>.t h4|>.t h9|>.t h10) (fun sR hS2=>?_)
  exact ⟨[_,_,_,_],rfl,fun s2 hs2 hp=>.store _ _ k g _ _ _ hkk hg hgp g3 (by rw [← hg];exact (hp _ _ _ (List.mem_cons_self ..))) (hp _ _ _ (List.mem_cons_of_mem _ (List.mem_cons_self ..))) (hV.le (h4.t h9|>.t h10|>.t (hS2.t hs2))) h1n⟩
 refine Sr<|Zqeq Z Z Z<|At Z Z<|?_
 refine JC_ifD Z (fun c11=>?_) (fun c11=>?_)
 ·
  have hkk:x.kind=3:=c11
  have h0n:0 < n':=by have h9:leastS x.kind=1:=(by rw [hkk];rfl);omega
  refine JC_cutN (γ:=Nat×Nat×Value×Value) (fun g=>[(7,.pointer (some ⟨g.1,0,none⟩)),(8,.pointer (some ⟨g.2.1,0,none⟩))]) (fun g=>[(g.1,cb [g.2.2.1] 60),(g.2.1,cb [g.2.2.2] 60)]) (fun g tw=>∃ B5 m5 e5 B6 m6 e6,g.2.2.1=.slice B5 m5 e5∧g.2.2.2=.slice B6 m6 e6∧VsS p f d tw B5 m5 e5 x.body∧VsS p f d tw B6 m6 e6 x.els) (fun _ _ _ h hl=>(by obtain ⟨a,b,c,d,e,f,h1,h2,h3,h4⟩:=h;exact ⟨a,b,c,d,e,f,h1,h2,h3.le hl,h4.le hl⟩)) ?_ ?_
  ·
   refine JC_draw drawsMixed 12 Z _ (fun _ h=>h) ?_
   intro s13 h13
   refine za 0 Z (QE_ldA 2 [_,_,_,_,_,_] Z Z Z Z Z) Z<|za 1 Z (We Y4) Z<|za 2 Z (Wd 1 Y5) Z<|za 4 Z (QE_ldA 2 [_,_,_,_,_,_] Z Z Z Z Z) Z<|za 5 Z (We Y4) Z<|za 6 Z (Wd 1 Y5) Z ?_
   refine JA_3 3 8 9 V ?_ ?_ ?_
   ·
    refine Jb Z trivial Z Z Z (ihB _ _ d0 p Ag Af ng cg nf cf (hGl.le (h1.t h2|>.t h3|>.t h4|>.t h13)) (hFn.le (h1.t h2|>.t h3|>.t h4|>.t h13)) f P1 P2 P3 p1 r1 p2 r2 p3 r3 (hP1.le (h1.t h2|>.t h3|>.t h4|>.t h13)) (hP2.le (h1.t h2|>.t h3|>.t h4|>.t h13)) hsz hPK A2 n2 q2 x.body (hA2.le (h1.t h2|>.t h3|>.t h4|>.t h13)) hxo.body O) ?_
    rintro _ _ s14 h14 ⟨rfl,B5,m5,e5,rfl,hB5⟩
    refine ⟨fun _ _ h=>h,?_⟩
    refine JA_3 7 8 9 V ?_ ?_ ?_
    ·
     refine Jb Z trivial Z Z Z (ihB _ _ d0 p Ag Af ng cg nf cf (hGl.le (h1.t h2|>.t h3|>.t h4|>.t h13|>.t h14)) (hFn.le (h1.t h2|>.t h3|>.t h4|>.t h13|>.t h14)) f P1 P2 P3 p1 r1 p2 r2 p3 r3 (hP1.le (h1.t h2|>.t h3|>.t h4|>.t h13|>.t h14)) (hP2.le (h1.t h2|>.t h3|>.t h4|>.t h13|>.t h14)) hsz hPK A3 n3 q3 x.els (hA3.le (h1.t h2|>.t h3|>.t h4|>.t h13|>.t h14)) hxo.els O) ?_
     rintro _ _ s15 h15 ⟨rfl,B6,m6,e6,rfl,hB6⟩
     refine ⟨fun _ _ h=>h,?_⟩
     refine JA_2 8 9 V ?_ ?_
     ·
      refine JB_alloc Z trivial Z [_] Z Z ?_
      intro β16 s16 h16
      refine JA_1 9 V<|JB_alloc Z trivial Z [_] Z Z ?_
      intro β17 s17 h17
      refine JA_1 10 V<|Wu Z trivial 1 [_] Y9 (fun _ hx=>sub_mem (sbN (sbY (sbY (sbY (sbE _))))) hx)<|JA_1 11 V<|Wu Z trivial 0 [_] Y9 (fun _ hx=>sub_mem (sbN (sbY (sbY (sbY (sbE _))))) hx)<|JA_done V ?_
      refine thenQ_n (MidN.mk (β16,β17,_,_) [] (h13.t h14|>.t h15|>.t h16|>.t h17) (.cons Z (.cons Z sk)) (List.Perm.swap _ _ _) ⟨_,_,_,_,_,_,Z,Z,hB5.le (h15.t h16|>.t h17),hB6.le (h16.t h17)⟩)
     refine JB_alloc Z trivial Z [_] Z Z ?_
     intro β18 s18 h18
     refine JA_1 8 V<|JB_alloc Z trivial Z [_] Z Z ?_
     intro β19 s19 h19
     refine JA_1 10 V<|Wu Z trivial 0 [_] Y9 (fun _ hx=>sub_mem (sbN (sbY (sbY (sbY (sbE _))))) hx)<|JA_1 11 V<|Wu Z trivial 1 [_] Y9 (fun _ hx=>sub_mem (sbN (sbY (sbY (sbY (sbE _))))) hx)<|JA_done V ?_
     refine thenQ_n (MidN.mk (β19,β18,_,_) [] (h13.t h14|>.t h15|>.t h18|>.t h19) (.cons Z (.cons Z sk)) (List.Perm.refl _) ⟨_,_,_,_,_,_,Z,Z,hB5.le (h15.t h18|>.t h19),hB6.le (h18.t h19)⟩)
    ·
     refine JB_alloc Z trivial Z [_] Z Z ?_
     intro β20 s20 h20
     refine JA_2 7 9 V ?_ ?_
     ·
      refine Jb Z trivial Z Z Z (ihB _ _ d0 p Ag Af ng cg nf cf (hGl.le (h1.t h2|>.t h3|>.t h4|>.t h13|>.t h14|>.t h20)) (hFn.le (h1.t h2|>.t h3|>.t h4|>.t h13|>.t h14|>.t h20)) f P1 P2 P3 p1 r1 p2 r2 p3 r3 (hP1.le (h1.t h2|>.t h3|>.t h4|>.t h13|>.t h14|>.t h20)) (hP2.le (h1.t h2|>.t h3|>.t h4|>.t h13|>.t h14|>.t h20)) hsz hPK A3 n3 q3 x.els (hA3.le (h1.t h2|>.t h3|>.t h4|>.t h13|>.t h14|>.t h20)) hxo.els O) ?_
      rintro _ _ s21 h21 ⟨rfl,B6,m6,e6,rfl,hB6⟩
      refine ⟨fun _ _ h=>h,?_⟩
      refine JA_1 9 V<|JB_alloc Z trivial Z [_] Z Z ?_
      intro β22 s22 h22
      refine JA_1 10 V<|Wu Z trivial 1 [_] Y9 (fun _ hx=>sub_mem (sbN (sbY (sbY (sbY (sbE _))))) hx)<|JA_1 11 V<|Wu Z trivial 0 [_] Y9 (fun _ hx=>sub_mem (sbN (sbY (sbY (sbY (sbE _))))) hx)<|JA_done V ?_
      refine thenQ_n (MidN.mk (β20,β22,_,_) [] (h13.t h14|>.t h20|>.t h21|>.t h22) (.cons Z (.cons Z sk)) (List.Perm.swap _ _ _) ⟨_,_,_,_,_,_,Z,Z,hB5.le (h20.t h21|>.t h22),hB6.le h22⟩)
     refine JB_alloc Z trivial Z [_] Z Z ?_
     intro β23 s23 h23
     refine JA_1 7 V<|Jb Z trivial Z Z Z (ihB _ _ d0 p Ag Af ng cg nf cf (hGl.le (h1.t h2|>.t h3|>.t h4|>.t h13|>.t h14|>.t h20|>.t h23)) (hFn.le (h1.t h2|>.t h3|>.t h4|>.t h13|>.t h14|>.t h20|>.t h23)) f P1 P2 P3 p1 r1 p2 r2 p3 r3 (hP1.le (h1.t h2|>.t h3|>.t h4|>.t h13|>.t h14|>.t h20|>.t h23)) (hP2.le (h1.t h2|>.t h3|>.t h4|>.t h13|>.t h14|>.t h20|>.t h23)) hsz hPK A3 n3 q3 x.els (hA3.le (h1.t h2|>.t h3|>.t h4|>.t h13|>.t h14|>.t h20|>.t h23)) hxo.els O) ?_
     rintro _ _ s24 h24 ⟨rfl,B6,m6,e6,rfl,hB6⟩
     refine ⟨fun _ _ h=>h,?_⟩
     refine JA_1 10 V<|Wu Z trivial 1 [_] Y9 (fun _ hx=>sub_mem (sbN (sbY (sbY (sbY (sbE _))))) hx)<|JA_1 11 V<|Wu Z trivial 0 [_] Y9 (fun _ hx=>sub_mem (sbN (sbY (sbY (sbY (sbE _))))) hx)<|JA_done V ?_
     refine thenQ_n (MidN.mk (β20,β23,_,_) [] (h13.t h14|>.t h20|>.t h23|>.t h24) (.cons Z (.cons Z sk)) (List.Perm.swap _ _ _) ⟨_,_,_,_,_,_,Z,Z,hB5.le (h20.t h23|>.t h24),hB6.le (Lr D)⟩)
    refine JB_alloc Z trivial Z [_] Z Z ?_
    intro β25 s25 h25
    refine JA_2 7 8 V ?_ ?_
    ·
     refine Jb Z trivial Z Z Z (ihB _ _ d0 p Ag Af ng cg nf cf (hGl.le (h1.t h2|>.t h3|>.t h4|>.t h13|>.t h14|>.t h25)) (hFn.le (h1.t h2|>.t h3|>.t h4|>.t h13|>.t h14|>.t h25)) f P1 P2 P3 p1 r1 p2 r2 p3 r3 (hP1.le (h1.t h2|>.t h3|>.t h4|>.t h13|>.t h14|>.t h25)) (hP2.le (h1.t h2|>.t h3|>.t h4|>.t h13|>.t h14|>.t h25)) hsz hPK A3 n3 q3 x.els (hA3.le (h1.t h2|>.t h3|>.t h4|>.t h13|>.t h14|>.t h25)) hxo.els O) ?_
     rintro _ _ s26 h26 ⟨rfl,B6,m6,e6,rfl,hB6⟩
     refine ⟨fun _ _ h=>h,?_⟩
     refine JA_1 8 V<|JB_alloc Z trivial Z [_] Z Z ?_
     intro β27 s27 h27
     refine JA_1 10 V<|Wu Z trivial 0 [_] Y9 (fun _ hx=>sub_mem (sbN (sbY (sbY (sbY (sbE _))))) hx)<|JA_1 11 V<|Wu Z trivial 1 [_] Y9 (fun _ hx=>sub_mem (sbN (sbY (sbY (sbY (sbE _))))) hx)<|JA_done V ?_
     refine thenQ_n (MidN.mk (β27,β25,_,_) [] (h13.t h14|>.t h25|>.t h26|>.t h27) (.cons Z (.cons Z sk)) (List.Perm.refl _) ⟨_,_,_,_,_,_,Z,Z,hB5.le (h25.t h26|>.t h27),hB6.le h27⟩)
    refine JB_alloc Z trivial Z [_] Z Z ?_
    intro β28 s28 h28
    refine JA_1 7 V<|Jb Z trivial Z Z Z (ihB _ _ d0 p Ag Af ng cg nf cf (hGl.le (h1.t h2|>.t h3|>.t h4|>.t h13|>.t h14|>.t h25|>.t h28)) (hFn.le (h1.t h2|>.t h3|>.t h4|>.t h13|>.t h14|>.t h25|>.t h28)) f P1 P2 P3 p1 r1 p2 r2 p3 r3 (hP1.le (h1.t h2|>.t h3|>.t h4|>.t h13|>.t h14|>.t h25|>.t h28)) (hP2.le (h1.t h2|>.t h3|>.t h4|>.t h13|>.t h14|>.t h25|>.t h28)) hsz hPK A3 n3 q3 x.els (hA3.le (h1.t h2|>.t h3|>.t h4|>.t h13|>.t h14|>.t h25|>.t h28)) hxo.els O) ?_
    rintro _ _ s29 h29 ⟨rfl,B6,m6,e6,rfl,hB6⟩
    refine ⟨fun _ _ h=>h,?_⟩
    refine JA_1 10 V<|Wu Z trivial 0 [_] Y9 (fun _ hx=>sub_mem (sbN (sbY (sbY (sbY (sbE _))))) hx)<|JA_1 11 V<|Wu Z trivial 1 [_] Y9 (fun _ hx=>sub_mem (sbN (sbY (sbY (sbY (sbE _))))) hx)<|JA_done V ?_
    refine thenQ_n (MidN.mk (β28,β25,_,_) [] (h13.t h14|>.t h25|>.t h28|>.t h29) (.cons Z (.cons Z sk)) (List.Perm.refl _) ⟨_,_,_,_,_,_,Z,Z,hB5.le (h25.t h28|>.t h29),hB6.le (Lr D)⟩)
   ·
    refine JB_alloc Z trivial Z [_] Z Z ?_
    intro β30 s30 h30
    refine JA_2 3 9 V ?_ ?_
    ·
     refine Jb Z trivial Z Z Z (ihB _ _ d0 p Ag Af ng cg nf cf (hGl.le (h1.t h2|>.t h3|>.t h4|>.t h13|>.t h30)) (hFn.le (h1.t h2|>.t h3|>.t h4|>.t h13|>.t h30)) f P1 P2 P3 p1 r1 p2 r2 p3 r3 (hP1.le (h1.t h2|>.t h3|>.t h4|>.t h13|>.t h30)) (hP2.le (h1.t h2|>.t h3|>.t h4|>.t h13|>.t h30)) hsz hPK A2 n2 q2 x.body (hA2.le (h1.t h2|>.t h3|>.t h4|>.t h13|>.t h30)) hxo.body O) ?_
     rintro _ _ s31 h31 ⟨rfl,B5,m5,e5,rfl,hB5⟩
     refine ⟨fun _ _ h=>h,?_⟩
     refine JA_2 7 9 V ?_ ?_
     ·
      refine Jb Z trivial Z Z Z (ihB _ _ d0 p Ag Af ng cg nf cf (hGl.le (h1.t h2|>.t h3|>.t h4|>.t h13|>.t h30|>.t h31)) (hFn.le (h1.t h2|>.t h3|>.t h4|>.t h13|>.t h30|>.t h31)) f P1 P2 P3 p1 r1 p2 r2 p3 r3 (hP1.le (h1.t h2|>.t h3|>.t h4|>.t h13|>.t h30|>.t h31)) (hP2.le (h1.t h2|>.t h3|>.t h4|>.t h13|>.t h30|>.t h31)) hsz hPK A3 n3 q3 x.els (hA3.le (h1.t h2|>.t h3|>.t h4|>.t h13|>.t h30|>.t h31)) hxo.els O) ?_
      rintro _ _ s32 h32 ⟨rfl,B6,m6,e6,rfl,hB6⟩
      refine ⟨fun _ _ h=>h,?_⟩
      refine JA_1 9 V<|JB_alloc Z trivial Z [_] Z Z ?_
      intro β33 s33 h33
      refine JA_1 10 V<|Wu Z trivial 1 [_] Y9 (fun _ hx=>sub_mem (sbN (sbY (sbY (sbY (sbE _))))) hx)<|JA_1 11 V<|Wu Z trivial 0 [_] Y9 (fun _ hx=>sub_mem (sbN (sbY (sbY (sbY (sbE _))))) hx)<|JA_done V ?_
      refine thenQ_n (MidN.mk (β30,β33,_,_) [] (h13.t h30|>.t h31|>.t h32|>.t h33) (.cons Z (.cons Z sk)) (List.Perm.swap _ _ _) ⟨_,_,_,_,_,_,Z,Z,hB5.le (h32.t h33),hB6.le h33⟩)
     refine JB_alloc Z trivial Z [_] Z Z ?_
     intro β34 s34 h34
     refine JA_1 7 V<|Jb Z trivial Z Z Z (ihB _ _ d0 p Ag Af ng cg nf cf (hGl.le (h1.t h2|>.t h3|>.t h4|>.t h13|>.t h30|>.t h31|>.t h34)) (hFn.le (h1.t h2|>.t h3|>.t h4|>.t h13|>.t h30|>.t h31|>.t h34)) f P1 P2 P3 p1 r1 p2 r2 p3 r3 (hP1.le (h1.t h2|>.t h3|>.t h4|>.t h13|>.t h30|>.t h31|>.t h34)) (hP2.le (h1.t h2|>.t h3|>.t h4|>.t h13|>.t h30|>.t h31|>.t h34)) hsz hPK A3 n3 q3 x.els (hA3.le (h1.t h2|>.t h3|>.t h4|>.t h13|>.t h30|>.t h31|>.t h34)) hxo.els O) ?_
     rintro _ _ s35 h35 ⟨rfl,B6,m6,e6,rfl,hB6⟩
     refine ⟨fun _ _ h=>h,?_⟩
     refine JA_1 10 V<|Wu Z trivial 1 [_] Y9 (fun _ hx=>sub_mem (sbN (sbY (sbY (sbY (sbE _))))) hx)<|JA_1 11 V<|Wu Z trivial 0 [_] Y9 (fun _ hx=>sub_mem (sbN (sbY (sbY (sbY (sbE _))))) hx)<|JA_done V ?_
     refine thenQ_n (MidN.mk (β30,β34,_,_) [] (h13.t h30|>.t h31|>.t h34|>.t h35) (.cons Z (.cons Z sk)) (List.Perm.swap _ _ _) ⟨_,_,_,_,_,_,Z,Z,hB5.le (h34.t h35),hB6.le (Lr D)⟩)
    refine JB_alloc Z trivial Z [_] Z Z ?_
    intro β36 s36 h36
    refine JA_1 3 V<|Jb Z trivial Z Z Z (ihB _ _ d0 p Ag Af ng cg nf cf (hGl.le (h1.t h2|>.t h3|>.t h4|>.t h13|>.t h30|>.t h36)) (hFn.le (h1.t h2|>.t h3|>.t h4|>.t h13|>.t h30|>.t h36)) f P1 P2 P3 p1 r1 p2 r2 p3 r3 (hP1.le (h1.t h2|>.t h3|>.t h4|>.t h13|>.t h30|>.t h36)) (hP2.le (h1.t h2|>.t h3|>.t h4|>.t h13|>.t h30|>.t h36)) hsz hPK A2 n2 q2 x.body (hA2.le (h1.t h2|>.t h3|>.t h4|>.t h13|>.t h30|>.t h36)) hxo.body O) ?_
    rintro _ _ s37 h37 ⟨rfl,B5,m5,e5,rfl,hB5⟩
    refine ⟨fun _ _ h=>h,?_⟩
    refine JA_1 7 V<|Jb Z trivial Z Z Z (ihB _ _ d0 p Ag Af ng cg nf cf (hGl.le (h1.t h2|>.t h3|>.t h4|>.t h13|>.t h30|>.t h36|>.t h37)) (hFn.le (h1.t h2|>.t h3|>.t h4|>.t h13|>.t h30|>.t h36|>.t h37)) f P1 P2 P3 p1 r1 p2 r2 p3 r3 (hP1.le (h1.t h2|>.t h3|>.t h4|>.t h13|>.t h30|>.t h36|>.t h37)) (hP2.le (h1.t h2|>.t h3|>.t h4|>.t h13|>.t h30|>.t h36|>.t h37)) hsz hPK A3 n3 q3 x.els (hA3.le (h1.t h2|>.t h3|>.t h4|>.t h13|>.t h30|>.t h36|>.t h37)) hxo.els O) ?_
    rintro _ _ s38 h38 ⟨rfl,B6,m6,e6,rfl,hB6⟩
    refine ⟨fun _ _ h=>h,?_⟩
    refine JA_1 10 V<|Wu Z trivial 1 [_] Y9 (fun _ hx=>sub_mem (sbN (sbY (sbY (sbY (sbE _))))) hx)<|JA_1 11 V<|Wu Z trivial 0 [_] Y9 (fun _ hx=>sub_mem (sbN (sbY (sbY (sbY (sbE _))))) hx)<|JA_done V ?_
    refine thenQ_n (MidN.mk (β30,β36,_,_) [] (h13.t h30|>.t h36|>.t h37|>.t h38) (.cons Z (.cons Z sk)) (List.Perm.swap _ _ _) ⟨_,_,_,_,_,_,Z,Z,hB5.le h38,hB6.le (Lr D)⟩)
   refine JB_alloc Z trivial Z [_] Z Z ?_
   intro β39 s39 h39
   refine JA_2 3 8 V ?_ ?_
   ·
    refine Jb Z trivial Z Z Z (ihB _ _ d0 p Ag Af ng cg nf cf (hGl.le (h1.t h2|>.t h3|>.t h4|>.t h13|>.t h39)) (hFn.le (h1.t h2|>.t h3|>.t h4|>.t h13|>.t h39)) f P1 P2 P3 p1 r1 p2 r2 p3 r3 (hP1.le (h1.t h2|>.t h3|>.t h4|>.t h13|>.t h39)) (hP2.le (h1.t h2|>.t h3|>.t h4|>.t h13|>.t h39)) hsz hPK A2 n2 q2 x.body (hA2.le (h1.t h2|>.t h3|>.t h4|>.t h13|>.t h39)) hxo.body O) ?_
    rintro _ _ s40 h40 ⟨rfl,B5,m5,e5,rfl,hB5⟩
    refine ⟨fun _ _ h=>h,?_⟩
    refine JA_2 7 8 V ?_ ?_
    ·
     refine Jb Z trivial Z Z Z (ihB _ _ d0 p Ag Af ng cg nf cf (hGl.le (h1.t h2|>.t h3|>.t h4|>.t h13|>.t h39|>.t h40)) (hFn.le (h1.t h2|>.t h3|>.t h4|>.t h13|>.t h39|>.t h40)) f P1 P2 P3 p1 r1 p2 r2 p3 r3 (hP1.le (h1.t h2|>.t h3|>.t h4|>.t h13|>.t h39|>.t h40)) (hP2.le (h1.t h2|>.t h3|>.t h4|>.t h13|>.t h39|>.t h40)) hsz hPK A3 n3 q3 x.els (hA3.le (h1.t h2|>.t h3|>.t h4|>.t h13|>.t h39|>.t h40)) hxo.els O) ?_
     rintro _ _ s41 h41 ⟨rfl,B6,m6,e6,rfl,hB6⟩
     refine ⟨fun _ _ h=>h,?_⟩
     refine JA_1 8 V<|JB_alloc Z trivial Z [_] Z Z ?_
     intro β42 s42 h42
     refine JA_1 10 V<|Wu Z trivial 0 [_] Y9 (fun _ hx=>sub_mem (sbN (sbY (sbY (sbY (sbE _))))) hx)<|JA_1 11 V<|Wu Z trivial 1 [_] Y9 (fun _ hx=>sub_mem (sbN (sbY (sbY (sbY (sbE _))))) hx)<|JA_done V ?_
     refine thenQ_n (MidN.mk (β42,β39,_,_) [] (h13.t h39|>.t h40|>.t h41|>.t h42) (.cons Z (.cons Z sk)) (List.Perm.refl _) ⟨_,_,_,_,_,_,Z,Z,hB5.le (h41.t h42),hB6.le h42⟩)
    refine JB_alloc Z trivial Z [_] Z Z ?_
    intro β43 s43 h43
    refine JA_1 7 V<|Jb Z trivial Z Z Z (ihB _ _ d0 p Ag Af ng cg nf cf (hGl.le (h1.t h2|>.t h3|>.t h4|>.t h13|>.t h39|>.t h40|>.t h43)) (hFn.le (h1.t h2|>.t h3|>.t h4|>.t h13|>.t h39|>.t h40|>.t h43)) f P1 P2 P3 p1 r1 p2 r2 p3 r3 (hP1.le (h1.t h2|>.t h3|>.t h4|>.t h13|>.t h39|>.t h40|>.t h43)) (hP2.le (h1.t h2|>.t h3|>.t h4|>.t h13|>.t h39|>.t h40|>.t h43)) hsz hPK A3 n3 q3 x.els (hA3.le (h1.t h2|>.t h3|>.t h4|>.t h13|>.t h39|>.t h40|>.t h43)) hxo.els O) ?_
    rintro _ _ s44 h44 ⟨rfl,B6,m6,e6,rfl,hB6⟩
    refine ⟨fun _ _ h=>h,?_⟩
    refine JA_1 10 V<|Wu Z trivial 0 [_] Y9 (fun _ hx=>sub_mem (sbN (sbY (sbY (sbY (sbE _))))) hx)<|JA_1 11 V<|Wu Z trivial 1 [_] Y9 (fun _ hx=>sub_mem (sbN (sbY (sbY (sbY (sbE _))))) hx)<|JA_done V ?_
    refine thenQ_n (MidN.mk (β43,β39,_,_) [] (h13.t h39|>.t h40|>.t h43|>.t h44) (.cons Z (.cons Z sk)) (List.Perm.refl _) ⟨_,_,_,_,_,_,Z,Z,hB5.le (h43.t h44),hB6.le (Lr D)⟩)
   refine JB_alloc Z trivial Z [_] Z Z ?_
   intro β45 s45 h45
   refine JA_1 3 V<|Jb Z trivial Z Z Z (ihB _ _ d0 p Ag Af ng cg nf cf (hGl.le (h1.t h2|>.t h3|>.t h4|>.t h13|>.t h39|>.t h45)) (hFn.le (h1.t h2|>.t h3|>.t h4|>.t h13|>.t h39|>.t h45)) f P1 P2 P3 p1 r1 p2 r2 p3 r3 (hP1.le (h1.t h2|>.t h3|>.t h4|>.t h13|>.t h39|>.t h45)) (hP2.le (h1.t h2|>.t h3|>.t h4|>.t h13|>.t h39|>.t h45)) hsz hPK A2 n2 q2 x.body (hA2.le (h1.t h2|>.t h3|>.t h4|>.t h13|>.t h39|>.t h45)) hxo.body O) ?_
   rintro _ _ s46 h46 ⟨rfl,B5,m5,e5,rfl,hB5⟩
   refine ⟨fun _ _ h=>h,?_⟩
   refine JA_1 7 V<|Jb Z trivial Z Z Z (ihB _ _ d0 p Ag Af ng cg nf cf (hGl.le (h1.t h2|>.t h3|>.t h4|>.t h13|>.t h39|>.t h45|>.t h46)) (hFn.le (h1.t h2|>.t h3|>.t h4|>.t h13|>.t h39|>.t h45|>.t h46)) f P1 P2 P3 p1 r1 p2 r2 p3 r3 (hP1.le (h1.t h2|>.t h3|>.t h4|>.t h13|>.t h39|>.t h45|>.t h46)) (hP2.le (h1.t h2|>.t h3|>.t h4|>.t h13|>.t h39|>.t h45|>.t h46)) hsz hPK A3 n3 q3 x.els (hA3.le (h1.t h2|>.t h3|>.t h4|>.t h13|>.t h39|>.t h45|>.t h46)) hxo.els O) ?_
   rintro _ _ s47 h47 ⟨rfl,B6,m6,e6,rfl,hB6⟩
   refine ⟨fun _ _ h=>h,?_⟩
   refine JA_1 10 V<|Wu Z trivial 0 [_] Y9 (fun _ hx=>sub_mem (sbN (sbY (sbY (sbY (sbE _))))) hx)<|JA_1 11 V<|Wu Z trivial 1 [_] Y9 (fun _ hx=>sub_mem (sbN (sbY (sbY (sbY (sbE _))))) hx)<|JA_done V ?_
   refine thenQ_n (MidN.mk (β45,β39,_,_) [] (h13.t h39|>.t h45|>.t h46|>.t h47) (.cons Z (.cons Z sk)) (List.Perm.refl _) ⟨_,_,_,_,_,_,Z,Z,hB5.le h47,hB6.le (Lr D)⟩)
  intro g s12 h12 I12
  simp only [cQ9,nQ9]
  obtain ⟨b7,b8,v5,v6⟩:=g
  obtain ⟨B5,m5,e5,B6,m6,e6,h95,h96,hB5,hB6⟩:=I12
  simp only at h95 h96
  subst h95
  subst h96
  dsimp only
  refine Sr<|JO_q (QE_func Z) Z<|At Z Z<|Zo<|Zc<|Zu<|?_
  refine retQ_mk [] _ (.inr Z) (.tmp Z (.nil)) Z (h1.t h2|>.t h3|>.t h4|>.t h12) (fun sR hS2=>?_)
  exact ⟨[_,_,_,_,_],rfl,fun s2 hs2 hp=>.cond _ _ _ _ _ _ _ _ _ _ _ _ hkk (hp _ _ _ (List.mem_cons_of_mem _ (List.mem_cons_of_mem _ (List.mem_cons_self ..)))) (hp _ _ _ (List.mem_cons_self ..)) (hp _ _ _ (List.mem_cons_of_mem _ (List.mem_cons_self ..))) (hV.le (h4.t h12|>.t (hS2.t hs2))) h0n (hB5.le ((Lr D).t (hS2.t hs2))) (hB6.le ((Lr D).t (hS2.t hs2)))⟩
 refine Sr<|Zqeq Z Z Z<|At Z Z<|?_
 refine JC_ifD Z (fun c48=>?_) (fun c48=>?_)
 ·
  have hkk:x.kind=4:=c48
  have h0n:0 < n':=by have h9:leastS x.kind=1:=(by rw [hkk];rfl);omega
  refine Sr<|JO_q (QE_ldA 2 [_,_,_,_,_,_] Z Z Z Z Z) Z<|Wb Y5<|Wl 1 Y6<|Jc Z Z Z (ihB _ _ d0 p Ag Af ng cg nf cf (hGl.le (h1.t h2|>.t h3|>.t h4)) (hFn.le (h1.t h2|>.t h3|>.t h4)) f P1 P2 P3 p1 r1 p2 r2 p3 r3 (hP1.le (h1.t h2|>.t h3|>.t h4)) (hP2.le (h1.t h2|>.t h3|>.t h4)) hsz hPK A2 n2 q2 x.body (hA2.le (h1.t h2|>.t h3|>.t h4)) hxo.body O) ?_
  rintro _ _ s49 h49 ⟨rfl,B5,m5,e5,rfl,hB5⟩
  refine JO_allocZ Z [_] Z Z ?_
  intro β50 s50 h50
  refine Wt 0 [_] Y9<|Nt<|Sr<|JO_q (QE_func Z) Z<|At Z Z<|Zo<|Zc<|Zu<|?_
  refine retQ_mk [] _ (.inr Z) (.tmp Z (.nil)) Z (h1.t h2|>.t h3|>.t h4|>.t h49|>.t h50) (fun sR hS2=>?_)
  exact ⟨[_,_,_,_],rfl,fun s2 hs2 hp=>.loop _ _ _ _ _ _ _ _ hkk (hp _ _ _ (List.mem_cons_of_mem _ (List.mem_cons_self ..))) (hp _ _ _ (List.mem_cons_self ..)) (hV.le (h4.t h49|>.t h50|>.t (hS2.t hs2))) h0n (hB5.le (h50.t (hS2.t hs2)))⟩
 refine Sr<|Zqeq Z Z Z<|At Z Z<|?_
 refine JC_ifD Z (fun c51=>?_) (fun c51=>?_)
 ·
  have hkk:x.kind=5:=c51
  obtain ⟨k,fk,hg,hpk,hl⟩:=ms5 hPK hxo hkk
  refine Sr<|JO_q (QE_ldA 2 [_,_,_,_,_,_] Z Z Z Z Z) Z<|Wb Y5<|Wl 1 Y6<|Wl 0 Y6<|Jc Z Z Z (AC.pubW (tcallO_ac D _ _ d0 p Ag Af ng cg nf cf (hGl.le (h1.t h2|>.t h3|>.t h4)) (hFn.le (h1.t h2|>.t h3|>.t h4)) f P1 P2 P3 p1 r1 p2 r2 p3 r3 (hP1.le (h1.t h2|>.t h3|>.t h4)) (hP2.le (h1.t h2|>.t h3|>.t h4)) d x.name x.exprs A' n' c' k fk (hV.le h4) hg hpk hl)) ?_
  rintro _ _ s52 h52 ⟨rfl,hW⟩
  obtain ⟨be,bi,A9,n9,c9,k9,fk9,hvf,hW⟩:=hW
  subst hvf
  have hW:CallV p (VeR p f d) s52 x.name x.exprs _:=⟨be,bi,A9,n9,c9,k9,fk9,rfl,hW⟩
  refine JO_allocZ Z [_] Z Z ?_
  intro β53 s53 h53
  refine Wt 0 [_] Y9<|Nt<|Sr<|JO_q (QE_func Z) Z<|At Z Z<|Zo<|Zc<|Zu<|?_
  refine retQ_mk [] _ (.inr Z) (.tmp Z (.nil)) Z (h1.t h2|>.t h3|>.t h4|>.t h52|>.t h53) (fun sR hS2=>?_)
  exact ⟨[_,_,_,_],rfl,fun s2 hs2 hp=>.call _ _ hkk (hp _ _ _ (List.mem_cons_self ..)) (hW.le (h53.t (hS2.t hs2)) fun _ _ h=>VeR.le (h53.t (hS2.t hs2)) h)⟩
 refine Sr<|Zqeq Z Z Z<|At Z Z<|?_
 refine JC_ifD Z (fun c54=>?_) (fun c54=>?_)
 ·
  have hkk:x.kind=6:=c54
  have h0n:0 < n':=by have h9:leastS x.kind=1:=(by rw [hkk];rfl);omega
  refine Sr<|JO_q (QE_func Z) Z<|At Z Z<|Zo<|Zc<|Zu<|?_
  refine retQ_mk [] _ (.inr Z) (.tmp Z (.nil)) Z (h1.t h2|>.t h3|>.t h4) (fun sR hS2=>?_)
  exact ⟨[_,_,_],rfl,fun s2 hs2 hp=>.ret _ _ _ _ hkk (hp _ _ _ (List.mem_cons_self ..)) (hV.le (h4.t (hS2.t hs2))) h0n⟩
 refine Sr<|Zqeq Z Z Z<|At Z Z<|?_
 refine JC_ifD Z (fun c55=>?_) (fun c55=>?_)
 ·
  have hkk:x.kind=7:=c55
  have h0n:0 < n':=by have h9:leastS x.kind=1:=(by rw [hkk];rfl);omega
  refine Sr<|JO_q (QE_func Z) Z<|At Z Z<|Zo<|Zc<|Zu<|?_
  refine retQ_mk [] _ (.inr Z) (.tmp Z (.nil)) Z (h1.t h2|>.t h3|>.t h4) (fun sR hS2=>?_)
  exact ⟨[_,_,_],rfl,fun s2 hs2 hp=>.put _ _ _ _ hkk (hp _ _ _ (List.mem_cons_self ..)) (hV.le (h4.t (hS2.t hs2))) h0n⟩
 refine Sr<|Zqeq Z Z Z<|At Z Z<|?_
 refine JC_ifD Z (fun c56=>?_) (fun c56=>?_)
 ·
  have hkk:x.kind=8:=c56
  have h0n:0 < n':=by have h9:leastS x.kind=1:=(by rw [hkk];rfl);omega
  refine Sr<|JO_q (QE_func Z) Z<|At Z Z<|Zo<|Zc<|Zu<|?_
  refine retQ_mk [] _ (.inr Z) (.tmp Z (.nil)) Z (h1.t h2|>.t h3|>.t h4) (fun sR hS2=>?_)
  exact ⟨[_,_,_],rfl,fun s2 hs2 hp=>.stop _ _ _ _ hkk (hp _ _ _ (List.mem_cons_self ..)) (hV.le (h4.t (hS2.t hs2))) h0n⟩
 refine Sr<|Zqeq Z Z Z<|At Z Z<|?_
 refine JC_ifD Z (fun c57=>?_) (fun c57=>?_)
 ·
  have hkk:x.kind=9:=c57
  refine Sr<|At Z Z<|Zo<|Zc<|Zu<|?_
  refine retQ_mk [] _ (.inr Z) (.tmp Z (.nil)) Z (h1.t h2|>.t h3|>.t h4) (fun sR hS2=>?_)
  exact ⟨[_,_,_],rfl,fun s2 hs2 hp=>.brk hkk⟩
 have hkk:x.kind=10:=by omega
 refine Zk<|Zb<|Zt<|Sr<|At Z Z<|Zo<|?_
 refine retQ_mk [] _ (.inr Z) (.tmp Z (.nil)) Z (h1.t h2|>.t h3|>.t h4) (fun sR hS2=>?_)
 exact ⟨[_,_,_],rfl,fun s2 hs2 hp=>.cont hkk⟩
theorem tsr (D:Nat):∀ d,TSR D d
  | 0=>fun L s d0 p Ag Af ng cg nf cf hGl hFn f P1 P2 P3 p1 r1 p2 r2 p3 r3 hP1 hP2 hsz hPK A n c xs hA hO hN=>AC.pubW (tbody_step D 0 (fun e h=>by omega) L s d0 p Ag Af ng cg nf cf hGl hFn f P1 P2 P3 p1 r1 p2 r2 p3 r3 hP1 hP2 hsz hPK A n c xs hA hO hN (by have:=hA.1;have:=stNs_len xs;omega))
  | d+1=>fun L s d0 p Ag Af ng cg nf cf hGl hFn f P1 P2 P3 p1 r1 p2 r2 p3 r3 hP1 hP2 hsz hPK A n c xs hA hO hN=>AC.pubW (tbody_step D (d+1) (fun e h=>(show d=e by omega)▸fun L s d0 p Ag Af ng cg nf cf hGl hFn f P1 P2 P3 p1 r1 p2 r2 p3 r3 hP1 hP2 hsz hPK x A1 n1 c1 A2 n2 c2 A3 n3 c3 h1 h2 h3 hN2 hN3 hx=>AC.pubW (tstmt_step D d (tsr D d) L s d0 p Ag Af ng cg nf cf hGl hFn f P1 P2 P3 p1 r1 p2 r2 p3 r3 hP1 hP2 hsz hPK x A1 n1 c1 A2 n2 c2 A3 n3 c3 h1 h2 h3 hN2 hN3 hx)) L s d0 p Ag Af ng cg nf cf hGl hFn f P1 P2 P3 p1 r1 p2 r2 p3 r3 hP1 hP2 hsz hPK A n c xs hA hO hN (by have:=hA.1;have:=stNs_len xs;omega))
end Go.Proofs.YtpdnijphccdiiaaGreatDoor
namespace Go.FL
open Go Go.RowKit
section
variable {P:Program} {TT:TyTab} {D n:Nat} {ro:Option Nat} {Q:GPost} {ds:List Deferred} {fr:Fr} {L:Hl} {s s0:World} {ops:Array Oper} {rest:List Oper} {d ty:Nat} {pos:String} {af:Array Edge} {v:Value}
theorem RO_callP {f:FuncId} {x:Operand} {xs:List Operand} {first captured vs:List Value} {ts:Array TypeId} {R:Value→Hl→World→Prop} {X:List PanicEntry→Hl→World→Prop} (hx:lk fr x=some (.func (.func f) first.toArray captured.toArray)) (hv:lks fr xs=some vs)
    (hd:Nat.blt d n=true) (h:AP P D f (first++vs++captured) L s R X) (kx:∀ ch L' s',Le D s s'→X ch L' s'→Q (.panic ch) ds fr L' s') (k:∀ v L' s',Le D s s'→R v L' s'→RO P TT D n ro ops Q rest ds ((d,v)::fr) L' s') :
    RO P TT D n ro ops Q (⟨some d,.call { callee:=.value x,args:=xs.toArray,argTypes:=ts },ty,pos,af,none⟩::rest) ds fr L s:=fun hT a hr ho=>by
  obtain ⟨⟨fn,h1,h2,h3⟩,hc⟩:=h
  have hρ:∀ x v,lk fr x=some v→a.eval x=v:=fun x v hx=>hr.ev hx
  simp only [wpListIn,Region.wanted,if_true]
  refine ⟨fun f _=>fro_fn ro f,?_⟩
  have hrun:(execOp a.eval ⟨some d,.call { callee:=.value x,args:=xs.toArray,argTypes:=ts },ty,pos,af,none⟩).run P (fill L s)=.ok (.enter f (first++vs++captured).toArray) (fill L s):=by
    have h2':¬ fn.name = "runtime.NumGoroutine" := by simpa using h2
    have h3':¬ fn.body=none:=by intro e;simp [e] at h3
    simp [execOp,resolve,Deferred.ofValue,invoke,callFunc,hρ x _ hx,lks_map hρ hv,h1,h2',h3']
  rw [Oper.semAt_eq _ _ _ (by nofun),hrun,Oper.uponIn_enter]
  refine ⟨fro_depth ro 0,(calls_fro ro _ (hc ho)).mono ?_⟩
  rintro e w' ⟨L',s',rfl,h4,h5,h6⟩
  rcases h6 with ⟨v,rfl,h6⟩ | ⟨ch,rfl,h6⟩
  · exact k v L' s' h5 h6 hT _ (hr.put hd v) h4
  · exact ⟨ds,fr,L',s',hr,h4,rfl,kx _ _ _ h5 h6⟩
theorem RO_defer {f:FuncId} {x:Operand} {first captured:List Value} {ts:Array TypeId} (hx:lk fr x=some (.func (.func f) first.toArray captured.toArray))
    (k:RO P TT D n none ops Q rest ({ target:=.fn (.func f) captured.toArray,args:=first.toArray }::ds) fr L s) :
    RO P TT D n none ops Q (⟨none,.defer { callee:=.value x,args:=#[],argTypes:=ts },ty,pos,af,none⟩::rest) ds fr L s:=fun hT a hr ho=>by
  simp only [wpListIn,Region.wanted,if_true]
  refine ⟨fun f _=>fro_fn none f,?_⟩
  have hrun:(execOp a.eval ⟨none,.defer { callee:=.value x,args:=#[],argTypes:=ts },ty,pos,af,none⟩).run P (fill L s)=.ok (.defer { target:=.fn (.func f) captured.toArray,args:=first.toArray }) (fill L s):=by
    simp [execOp,resolve,Deferred.ofValue,hr.ev hx]
  rw [show (fro none).round=none from rfl,Oper.semAt_none,hrun,Oper.uponIn_defer]
  refine k hT _ ⟨?_,?_⟩ ho
  · exact hr.rel
  · show _::a.defers=_;rw [hr.defers]
def DC (P:Program) (D:Nat) (d:Deferred) (u:FrameMode) (L:Hl) (s:World) (K:Hl→World→Prop):Prop:=
  OKL D L s→∃ fv cap f args,d.target=.fn fv cap∧(invoke d.target d.args).run P (fill L s)=.ok (.enter f args) (fill L s)∧CallsD P f args u (fill L s) fun e u' w'=>∃ v,e=.returned v∧settle u'=.returning∧∃ L1 s1,w'=fill L1 s1∧OKL D L1 s1∧K L1 s1
def outV (TT:TyTab) (D:Nat) (rs:List ResultVar) (s0:World) (R:Value→Hl→World→Prop) (fr:Fr) (L:Hl) (s:World):Prop:=∃ vs A L',Res TT fr L rs vs∧L=A++L'∧Le D s0 s∧∀ s',Le D s s'→R (resV vs) L' s'
def retV (P:Program) (TT:TyTab) (D:Nat) (rs:List ResultVar) (s0:World) (R:Value→Hl→World→Prop):GPost
  | .normal,[],fr,L,s | .ret,[],fr,L,s=>outV TT D rs s0 R fr L s
  | .normal,[d],fr,L,s | .ret,[d],fr,L,s=>DC P D d .returning L s fun L1 s1=>outV TT D rs s0 R fr L1 s1
  | .panic ch,[d],fr,L,s=>DC P D d (.panicking ch) L s fun L1 s1=>outV TT D rs s0 R fr L1 s1
  | _,_,_,_,_=>False
theorem AC_enterV {f:FuncId} {fn:Func} {c:Code} {args:List Value} {R:Value→Hl→World→Prop} (hT:TabOK P TT) (hf:P.funcs[f]?=some fn) (hn:(fn.name == "runtime.NumGoroutine")=false) (hb:fn.body=some c) (hnt:fn.ntmps=n) (hle:Nat.ble args.length n=true) {rs:List ResultVar} (hrs:fn.results.toList=rs) (fr0:Fr) (hfr:slots 0 args=fr0)
    (h:RC P TT D n none (retV P TT D rs s R) c [] fr0 L s):AC P D f args L s R:=by
  subst hfr;subst hrs
  refine ⟨⟨fn,hf,hn,by simp [hb]⟩,fun ho=>calls_of_wp_defers hf hb ?_⟩
  have hle':args.length≤n:=Nat.le_of_ble_eq_true hle
  have hr:FrD [] n { tmps:=args.toArray++Array.replicate (fn.ntmps - args.toArray.size) undef,defers:=[] } (slots 0 args):=by
    refine ⟨⟨by simp [hnt];omega,Z,fun t ht v hv=>?_,fun t v hv=>?_⟩,Z⟩
    · rw [flook_slots] at hv
      simp at hv
      obtain ⟨hlt,_⟩:=List.getElem?_eq_some_iff.1 hv
      simp [Array.getElem?_append,hlt]
      exact (List.getElem?_eq_some_iff.1 hv).2
    · rw [flook_slots] at hv
      simp at hv
      obtain ⟨hlt,_⟩:=List.getElem?_eq_some_iff.1 hv
      omega
  refine wpIn_wide.1 (wpIn_mono (n:=0) (h hT _ hr ho) ?_)
  rintro e a w ⟨ds,fr',L1,s1,k1,k2,rfl,hq⟩
  have fin:∀ (L2:Hl) (s2:World),OKL D L2 s2→outV TT D fn.results.toList s R fr' L2 s2→∃ v,(results fn a.tmps).run P (fill L2 s2)=.ok v (fill L2 s2)∧∃ v' L' s',Ending.returned v=.returned v'∧fill L2 s2=fill L' s'∧OKL D L' s'∧Le D s s'∧R v' L' s':=fun L2 s2 ho2 hout=>by
    obtain ⟨vs,A,L',hres,rfl,hle1,hR⟩:=hout
    obtain ⟨d1,d2,d3⟩:=drop_own ho2
    have hrun:(results fn a.tmps).run P (fill (A++L') s2)=.ok (resV vs) (fill (A++L') s2):=by
      have h1:=Res.run hT k1.rel ho2 hres
      have h2:(fn.results.mapM (resF a.tmps)).run P (fill (A++L') s2)=.ok vs.toArray (fill (A++L') s2):=by
        rw [Array.mapM_eq_mapM_toList]
        simp only [map_eq_pure_bind,Sem.run_bind,h1,Result.andThen_ok,Sem.run_pure]
      rw [results_eq]
      simp only [Sem.run_bind,h2,Result.andThen_ok,Sem.run_pure]
      congr 1
      match vs with
      | []=>rfl
      | [v]=>rfl
      | v::u::r=>simp [resV]
    exact ⟨_,hrun,_,L',fill A s2,rfl,d1,d2,hle1.trans d3,hR _ d3⟩
  have one:∀ (dd:Deferred) (u:FrameMode),u≠.run→ds=[dd]→DC P D dd u L1 s1 (fun L1 s1=>outV TT D fn.results.toList s R fr' L1 s1)→Leaves P fn a.tmps (fun e w'=>∃ v L' s',e=.returned v∧w'=fill L' s'∧OKL D L' s'∧Le D s s'∧R v L' s') a.defers u (fill L1 s1):=fun dd u hu hds hdc=>by
    obtain ⟨fv,cap,g,gs,h1,h2,h3⟩:=hdc k2
    rw [k1.defers,hds]
    refine ⟨hu,fv,cap,g,gs,h1,h2,h3.mono ?_⟩
    rintro e u' w' ⟨v,rfl,hset,L2,s2,rfl,ho2,hout⟩
    show Leaves P fn a.tmps _ [] (settle u') (fill L2 s2)
    rw [hset]
    obtain ⟨v,h4,h5⟩:=fin L2 s2 ho2 hout
    exact ⟨v,h4,h5⟩
  match e,ds,hq with
  | .normal,[],hq=>
    show Leaves P fn a.tmps _ a.defers .returning (fill L1 s1)
    rw [k1.defers];exact fin L1 s1 k2 hq
  | .ret,[],hq=>
    show Leaves P fn a.tmps _ a.defers .returning (fill L1 s1)
    rw [k1.defers];exact fin L1 s1 k2 hq
  | .normal,[dd],hq=>exact one dd .returning (by intro h;cases h) rfl hq
  | .ret,[dd],hq=>exact one dd .returning (by intro h;cases h) rfl hq
  | .panic ch,[dd],hq=>exact one dd (.panicking ch) (by intro h;cases h) rfl hq
theorem thenG_p {J:List Deferred→Fr→Hl→World→Prop} {ch:List PanicEntry} (h:Q (.panic ch) ds fr L s):thenG J Q (.panic ch) ds fr L s:=h
theorem blockG_p {id:Nat} {ch:List PanicEntry} (h:Q (.panic ch) ds fr L s):blockG id Q (.panic ch) ds fr L s:=h
theorem outV_mk {rs:List ResultVar} {R:Value→Hl→World→Prop} {vs:List Value} (A L':Hl) (h:Res TT fr L rs vs) (hL:L=A++L') (hl:Le D s0 s) (hR:∀ s',Le D s s'→R (resV vs) L' s'):outV TT D rs s0 R fr L s:=⟨vs,A,L',h,hL,hl,hR⟩
theorem retV_p {rs:List ResultVar} {R:Value→Hl→World→Prop} {ch:List PanicEntry} {dd:Deferred} (h:DC P D dd (.panicking ch) L s fun L1 s1=>outV TT D rs s0 R fr L1 s1):retV P TT D rs s0 R (.panic ch) [dd] fr L s:=h
theorem run_results0 {fn:Func} (h:fn.results=#[]) (tmps:Array Value) (w:World):(results fn tmps).run P w=.ok (.tuple #[]) w:=by
  rw [results_eq,h]
  simp
section rec
variable {f:FuncId} {fn:Func} {id d0 d1 t t' ty0 ty1:Nat} {ts:Array TypeId} {p0 p1:String} {a0 a1:Array Edge} {c2:Code} {cap:List Value} {K:Hl→World→Prop}
theorem rec_frame (hnt:fn.ntmps=n) (hle:Nat.ble cap.length n=true):FrRel n { tmps:=cap.toArray++Array.replicate (fn.ntmps - cap.toArray.size) undef,defers:=[] } (slots 0 cap):=by
  have hle':cap.length≤n:=Nat.le_of_ble_eq_true hle
  refine ⟨by simp [hnt];omega,Z,fun t ht v hv=>?_,fun t v hv=>?_⟩
  · rw [flook_slots] at hv
    simp at hv
    obtain ⟨hlt,_⟩:=List.getElem?_eq_some_iff.1 hv
    simp [Array.getElem?_append,hlt]
    exact (List.getElem?_eq_some_iff.1 hv).2
  · rw [flook_slots] at hv
    simp at hv
    obtain ⟨hlt,_⟩:=List.getElem?_eq_some_iff.1 hv
    omega
end rec
end
section
variable {P:Program} {TT:TyTab} {D n:Nat} {Q:APost} {fr:Fr} {L K:Hl} {s s0:World} {ops:Array Oper} {rest:List Oper} {d ty:Nat} {pos:String} {af:Array Edge} {v:Value}
theorem QE_tas {xt t:TypeId} {x:Operand} {u:Value} (hu:P.underlying t=some (.struct #[])) (hx:lk fr x=some (.iface t u)):QE P TT D fr (.typeAssert x xt t true) ty K s0 (.tuple #[u,.bool true]):=
  QE.pure fun hT dst pos af g ρ hρ w=>by simp [execOp,Instr.typeAssert,underlying,hu,hρ x _ hx]
theorem JO_alloc0 {t:Nat} (hz:(P.info? t).bind (fun i=>i.zero)=some (Value.agg #[])) (hd:Nat.blt d n=true)
    (k:∀ β s',Le D s s'→JO P TT D n ops Q rest ((d,.pointer (some ⟨β,0,none⟩))::fr) ((β,cb [] t)::L) s'):JO P TT D n ops Q (⟨some d,.alloc t,ty,pos,af,none⟩::rest) fr L s:=fun hT a hr ho=>
  JO_ev hd (fun hT _ dst pos af g ρ _=>by
    obtain ⟨h1,h2,h3⟩:=alloc_fill ho (cb [] t)
    refine ⟨?_,h2⟩
    obtain ⟨i,hi,hi2⟩:=Option.bind_eq_some_iff.1 hz
    have hzv:(zeroValue t).run P (fill L s)=.ok (.agg #[]) (fill L s):=by simp [zeroValue,typeInfo,hi,hi2]
    simp only [execOp,Instr.alloc,Sem.run_bind,hzv,Result.andThen_ok,newVar,run_new,Sem.run_pure,fill_size,Value.cells]
    rw [← h1];rfl:Ev P TT D fr (.alloc t) ty L s (.value (.pointer (some ⟨s.heap.size,0,none⟩))) ((s.heap.size,cb [] t)::L) (s.alloc (dum D))) (k _ _ (alloc_fill ho (cb [] t)).2.2) hT a hr ho
theorem JO_st0 {t:Nat} {x y:Operand} {a0:Addr} (hs:(P.info? t).map (fun i=>i.size)=some 0) (hx:lk fr x=some (.pointer (some a0))) (hy:lk fr y=some (.agg #[])) (k:JO P TT D n ops Q rest fr L s):JO P TT D n ops Q (⟨none,.store t x y,ty,pos,af,none⟩::rest) fr L s:=
  JO_sk (fun hT ho dst pos af g ρ hρ=>by
    refine ⟨?_,ho⟩
    obtain ⟨i,hi,hi2⟩:=Option.map_eq_some_iff.1 hs
    simp [execOp,Instr.storeAt,storeVar,sizeOf,typeInfo,hi,hi2,hρ x _ hx,hρ y _ hy,Instr.sureAddr,Value.cells,storeCells]:Ev P TT D fr (.store t x y) ty L s .skip L s) k
def recD (id d0 d1 ty0 ty1:Nat) (ts:Array TypeId) (p0 p1:String) (a0 a1:Array Edge) (c2:Code):Code:=
  .seq (.region id #[⟨some d0,.call { callee:=.builtin .recover,args:=#[],argTypes:=ts },ty0,p0,a0,none⟩,⟨some d1,.assign (.tmp d0),ty1,p1,a1,none⟩] false) c2
section rec
variable {f:FuncId} {fn:Func} {id d0 d1 ty0 ty1:Nat} {ts:Array TypeId} {p0 p1:String} {a0 a1:Array Edge} {c2:Code} {cap:List Value}
theorem recD_some {a:Act} {cs cs':List Frame} {w:World} {v0:Value} {Q:Exit→Act→List Frame→World→Prop} (hrec:recoverD cs=some (v0,cs'))
    (e1:(a.put (some d0) v0).eval (.tmp d0)=v0)
    (h:Q .normal ((a.put (some d0) v0).put (some d1) v0) cs' w):wpOpsS P #[⟨some d0,.call { callee:=.builtin .recover,args:=#[],argTypes:=ts },ty0,p0,a0,none⟩,⟨some d1,.assign (.tmp d0),ty1,p1,a1,none⟩] Q [0,1] a cs w:=by
  have h0:(execOp a.eval ⟨some d0,.call { callee:=.builtin .recover,args:=#[],argTypes:=ts },ty0,p0,a0,none⟩).run P w=.ok .recover w:=by
    simp [execOp,resolve,invoke,builtin]
  have hx:=(show (execOp (a.put (some d0) v0).eval ⟨some d1,.assign (.tmp d0),ty1,p1,a1,none⟩).run P w=.ok (.value v0) w by simp [execOp,e1])
  simp only [wpOpsS,Region.wanted,List.getElem?_toArray,List.getElem?_cons_zero,List.getElem?_cons_succ,if_true,h0,hrec,hx,Oper.upon]
  exact h
def afterD (D:Nat) (K:Hl→World→Prop) (s:World):APost:=fun e _ L' s'=>e=.normal∧∃ A L1,L'=A++L1∧Le D s s'∧∀ s2,Le D s' s2→K L1 s2
theorem DC_panD {K:Hl→World→Prop} {t0:TypeId} {v0:Value} (hT:TabOK P TT) (hf:P.funcs[f]?=some fn) (hn:(fn.name == "runtime.NumGoroutine")=false) (hb:fn.body=some (recD id d0 d1 ty0 ty1 ts p0 p1 a0 a1 c2)) (hnt:fn.ntmps=n) (hle:Nat.ble cap.length n=true) (hrs:fn.results=#[]) (hd0:Nat.blt d0 n=true) (hd1:Nat.blt d1 n=true)
    (fr0:Fr) (hfr:(d1,.iface t0 v0)::(d0,.iface t0 v0)::slots 0 cap=fr0) (h:JC P TT D n (afterD D K s) c2 fr0 L s):DC P D { target:=.fn (.func f) cap.toArray,args:=#[] } (.panicking [{ v:=.iface t0 v0,recovered:=false }]) L s K:=fun ho=>by
  subst hfr
  have h2':¬ fn.name = "runtime.NumGoroutine" := by simpa using hn
  refine ⟨_,_,f,cap.toArray,Z,by simp [invoke,callFunc,hf,h2',hb],callsD_of_wpS hf hb fun c₀ cs hm=>?_⟩
  have hr:=rec_frame (fn:=fn) hnt hle
  have hr1:=hr.put hd0 (.iface t0 v0)
  have hr2:=hr1.put hd1 (.iface t0 v0)
  refine wpS_seq (wpS_region (recD_some (v0:=.iface t0 v0) (cs':={ c₀ with mode:=.panicking [{ v:=.iface t0 v0,recovered:=true }] }::cs) (by simp [recoverD,hm]) (hr1.ev (x:=.tmp d0) (v:=.iface t0 v0) (by simp [lk,flook_cons])) ?_))
  refine wpS_of_wp (wp_mono (h hT _ hr2 ho) ?_)
  rintro e a w ⟨fr',L',s',k1,k2,rfl,rfl,A,L1,rfl,hl,hK⟩
  obtain ⟨d1,d2,d3⟩:=drop_own k2
  exact ⟨k1.defers,.panicking [{ v:=.iface t0 v0,recovered:=true }],rfl,_,run_results0 hrs _ _,_,rfl,by simp [settle],L1,fill A s',d1,d2,hK _ d3⟩
theorem QE_heldi {x:Operand} {t t':Nat} {t0:TypeId} {v0:Value} (hu:P.underlying t=some (.interface (P.methodsAt t))) (hx:lk fr x=some (.iface t0 v0)):QE P TT D fr (.binOp .neq t x (.const .nilIface) t') ty K s0 (.bool true):=
  QE.pure fun hT dst pos af g ρ hρ w=>by
    have hc:ρ (.const .nilIface)=.nilIface:=hρ _ _ rfl
    simp [execOp,hρ x _ hx,hc,eqGuard,run_neq_held_nil w t t0 v0 hu]
end rec
end
end Go.FL
namespace Go.Proofs.YtpdnijphccdiiaaGreatDoor
open Go.FL
attribute [local irreducible] JC JO JA JB thenQ blockQ retQ AC fill CellsAt QE Ev Mid
theorem st_pan (D:Nat) (L:Hl) (s:World) (K:Hl→World→Prop) (hK:∀ s',Le D s s'→K L s'):DC Tryz.prog D { target:=.fn (.func 51) ([]:List Value).toArray,args:=([]:List Value).toArray } (.panicking [{ v:=.iface 117 (.agg #[]),recovered:=false }]) L s K:=by
 refine DC_panD (TT:=TT) (fn:=Tryz.f51) TT_ok Tryz.func51 V Z Tryz.ntmps51 Z Z Z Z [(0,_),(3,_)] Z<|Sr<|Zqm Z Z<|JO_q (QE_heldi V Z) Z<|Nt<|Zy Z<|Sr<|Zqm Z Z<|JO_q (QE_tas V Z) Z<|Zqm Z Z<|Zqx Z Z Z<|Zqx Z Z Z<|JO_alloc0 V Z ?_
 intro βz s1 h1
 refine JO_st0 V Z Z<|At Z Z<|Sr<|Zqm Z Z<|ZqnT Z Z<|Nt<|Zz Z<|Zk<|?_
 exact ⟨rfl,[_],_,rfl,h1,fun s2 h2=>hK _ (h1.t h2)⟩
def endE:ER Int→MS×Int×Int
  | .ok _ m=>(m,1,0)
  | .fin m st cd=>(m,st,cd)
  | .out=>(⟨[],[],[],[],0,0,[]⟩,0,0)
theorem wdn_nil (s:World):Wds s none 0 0 []:=⟨rfl,Nat.le_refl _,by omega,fun i x h=>by cases h⟩
theorem start_ac (p:Prg) (D n:Nat) (hT:TOK p D n) (L:Hl) (s:World) (c:MC) (N k:Nat) (fk:Fnc) (m:MS) (iv ov:Value) (F0:Option Addr) (n0 z0:Nat) (R:Hl) (hC:CT p c s) (hp:p.funcs[k]?=some fk) (hfk:fk.params=[]) (hM:MG p c N m iv ov R s) (hr:cX p (sem p OPp n) k [] m≠.out):AC Tryz.prog D 23 [.pointer (some ⟨c.bm,0,none⟩),.int .i64 (k:Int)] (MBv c N 0 m iv ov 0 0 (.slice F0 n0 z0)::MGb c m::(R++L)) s fun v L' s'=>v=.tuple #[]∧∃ m' st cd Z,L'=Z++L∧FIN c N m' st cd Z∧endE (cX p (sem p OPp n) k [] m)=(m',st,cd):=by
 refine AC_enterV (TT:=TT) (fn:=Tryz.f23) TT_ok Tryz.func23 V Z Tryz.ntmps23 Z (rs:=[]) Z [(0,_),(1,_)] Z<|Ys<|Yr<|RO_defer Z<|Yn<|Yt<|Ys<|Yr<|Yqm Z Z<|Yqm Z Z<|?_
 refine RO_callP (first:=[]) (captured:=[]) Z Z Z (call0_ap p D n hT L _ c N k fk [] none 0 0 m iv ov _ _ _ R (hC.le (Lr D)) (wdn_nil _) hp (by rw [hfk];rfl) (hM.le (Lr D)) hr) ?_ ?_
 ·
  rintro _ _ sx1 hx1 ⟨hp1,m1,st1,cd1,Z1,he1,rfl,hF1⟩
  repeat (first | refine thenG_p ?_ | refine blockG_p ?_)
  cases hp1
  refine retV_p (st_pan D _ _ _ (fun s9 q9=>?_))
  refine outV_mk [] _ .nil Z (hx1.t q9) (fun sR hS2=>?_)
  exact ⟨rfl,m1,st1,cd1,Z1,rfl,hF1,by rw [he1];rfl⟩
 rintro _ _ s1 h1 ⟨a1,m1,iv1,ov1,R1,he1,⟨rfl,hu1⟩,rfl,hM1⟩
 
 refine Yn<|Yt<|Yr<|Yqm Z Z<|?_
 refine RO_callP (first:=[]) (captured:=[]) Z Z Z (mstop_fr D [] _ _ c N _ m1 iv1 ov1 _ _) ?_ ?_
 ·
  rintro _ _ sx2 hx2 ⟨hp1,rfl⟩
  repeat (first | refine thenG_p ?_ | refine blockG_p ?_)
  cases hp1
  refine retV_p (st_pan D _ _ _ (fun s9 q9=>?_))
  refine outV_mk [] _ .nil Z (h1.t hx2|>.t q9) (fun sR hS2=>?_)
  exact ⟨rfl,m1,1,0,_,rfl,hM1.finv _ _ _ _ [MGb c m1],by rw [he1];rfl⟩
 rintro _ _ s2 h2 ⟨⟩
def arrs (p:Prg):List (List Int):=p.globals.map fun g=>if g.kind=3 then fitF g.num.toNat g.init else []
abbrev SN:Value:=.slice none 0 0
theorem arrV_snoc:∀ {ab:List (Option Nat)} {gs:List Glo} {g:Glo} {o:Option Nat},ab.length=gs.length→arrV (ab++[o]) (gs++[g])=arrV ab gs++[match o with | some b=>.slice (some ⟨b,0,none⟩) g.num.toNat g.num.toNat | none=>SN]
  | [],[],g,some b,_=>rfl
  | [],[],g,none,_=>rfl
  | some b::r,x::gs,g,o,h=>by rw [List.cons_append,List.cons_append,arrV,arrV,arrV_snoc (by simpa using h),List.cons_append]
  | none::r,x::gs,g,o,h=>by rw [List.cons_append,List.cons_append,arrV,arrV,arrV_snoc (by simpa using h),List.cons_append]
theorem arrV_len:∀ {ab:List (Option Nat)} {gs:List Glo},ab.length=gs.length→(arrV ab gs).length=ab.length
  | [],[],_=>rfl
  | some b::r,x::gs,h=>by rw [arrV,List.length_cons,arrV_len (by simpa using h),List.length_cons]
  | none::r,x::gs,h=>by rw [arrV,List.length_cons,arrV_len (by simpa using h),List.length_cons]
theorem arrL_snoc:∀ {ab:List (Option Nat)} {ls:List (List Int)} {l:List Int} {o:Option Nat},ab.length=ls.length→arrL (ab++[o]) (ls++[l])=arrL ab ls++(match o with | some b=>[(b,cb (wv l) 29)] | none=>[])
  | [],[],l,some b,_=>rfl
  | [],[],l,none,_=>rfl
  | some b::r,x::ls,l,o,h=>by rw [List.cons_append,List.cons_append,arrL,arrL,arrL_snoc (by simpa using h),List.cons_append]
  | none::r,x::ls,l,o,h=>by rw [List.cons_append,List.cons_append,arrL,arrL,arrL_snoc (by simpa using h)]
section
variable {p:Prg} {ab:List (Option Nat)} {k ng:Nat} {g:Glo} {b:Nat}
def avR (p:Prg) (ab:List (Option Nat)) (k ng:Nat):List Value:=arrV ab (p.globals.take k)++List.replicate (ng - k) SN
theorem take_g (hl:ab.length=k) (hg:p.globals[k]?=some g):ab.length=(p.globals.take k).length:=by
  have:=(List.getElem?_eq_some_iff.1 hg).1
  rw [List.length_take];omega
theorem rep_s (h:k < ng):List.replicate (ng - k) SN=SN::List.replicate (ng - (k+1)) SN:=by
  rw [show ng - k=ng - (k+1)+1 by omega,List.replicate_succ]
theorem avR_len (hl:ab.length=k) (hg:p.globals[k]?=some g) (hk:k < ng):(avR p ab k ng).length=ng:=by
  rw [avR,List.length_append,arrV_len (take_g hl hg),List.length_replicate];omega
theorem avR_miss (hl:ab.length=k) (hg:p.globals[k]?=some g) (hk:k < ng):avR p ab k ng=avR p (ab++[none]) (k+1) ng:=by
  rw [avR,avR,take_snocE hg,arrV_snoc (take_g hl hg),rep_s hk,List.append_assoc];rfl
theorem avR_hit (hl:ab.length=k) (hg:p.globals[k]?=some g) (hk:k < ng):splice (avR p ab k ng) (0+k) [.slice (some ⟨b,0,none⟩) g.num.toNat g.num.toNat]=avR p (ab++[some b]) (k+1) ng:=by
  rw [Nat.zero_add,splice_eq _ _ _ (by rw [avR_len hl hg hk];simp;omega)]
  have h1:=arrV_len (take_g hl hg)
  rw [avR,avR,take_snocE hg,arrV_snoc (take_g hl hg),rep_s hk,List.take_append_of_le_length O,List.take_of_length_le O,List.drop_append,List.drop_eq_nil_of_le (by simp;omega),h1,hl,List.append_assoc,List.append_assoc]
  simp
theorem avR_nth (hl:ab.length=k) (hg:p.globals[k]?=some g):nth (avR p (ab++[some b]) (k+1) ng) (0+k)=some (.slice (some ⟨b,0,none⟩) g.num.toNat g.num.toNat):=by
  rw [Nat.zero_add,nth_eq,avR,take_snocE hg,arrV_snoc (take_g hl hg),List.append_assoc,List.getElem?_append_right (by rw [arrV_len (take_g hl hg)];omega),arrV_len (take_g hl hg),hl,Nat.sub_self];rfl
theorem avR_ble (hl:ab.length=k) (hg:p.globals[k]?=some g) (hk:k < ng):Nat.ble (0+k+1) (avR p ab k ng).length=true:=by
  rw [Nat.ble_eq,avR_len hl hg hk];omega
theorem arrs_at (hg:p.globals[k]?=some g):(arrs p)[k]?=some (if g.kind=3 then fitF g.num.toNat g.init else []):=by rw [arrs,List.getElem?_map,hg];rfl
theorem arl_hit (hl:ab.length=k) (hg:p.globals[k]?=some g) (h3:g.kind=3) (L:Hl):arrL ab ((arrs p).take k)++(b,cb (wv (fitF g.num.toNat g.init)) 29)::L=arrL (ab++[some b]) ((arrs p).take (k+1))++L:=by
  have hk:=(List.getElem?_eq_some_iff.1 hg).1
  rw [take_snocE (arrs_at hg),arrL_snoc (by rw [List.length_take,arrs,List.length_map];omega),if_pos h3,List.append_assoc];rfl
theorem arl_miss (hl:ab.length=k) (hg:p.globals[k]?=some g):arrL ab ((arrs p).take k)=arrL (ab++[none]) ((arrs p).take (k+1)):=by
  have hk:=(List.getElem?_eq_some_iff.1 hg).1
  rw [take_snocE (arrs_at hg),arrL_snoc (by rw [List.length_take,arrs,List.length_map];omega),List.append_nil]
end
theorem pmA {a:Nat×Obj} (X:Hl) {A L:Hl}:(a::(X++(A++L))).Perm (X++(A++a::L)):=by
  rw [← List.append_assoc,← List.append_assoc]
  exact List.perm_middle.symm
theorem wv_rep (n:Nat):wv (List.replicate n 0)=List.replicate n (.int .u32 0):=by simp [wv]
@[irreducible] def fuX:Nat:=100000002
theorem fuX_eq:fuX=99999982+20:=by unfold fuX;rfl
def runO (p:Prg) (inp:Str) (a:Nat):Str×Int×Int×Nat:=outM a (runP p OPp (fuX+1) (mainF p.funcs).toNat inp a)
def runR (p:Prg) (inp:Str) (steps:Int):(Str×Int×Int×Nat)×(Int×Int):=if (chkF p).1≠0 then (([],0,0,0),chkF p) else if 400000 < inp.length then (([],0,0,0),(3,-2)) else if steps < 0∨50000000 < steps then (([],0,0,0),(4,-3)) else (runO p inp steps.toNat,(0,0))
def OutV (s:World) (o:Str×Int×Int×Nat) (v:Value):Prop:=∃ A n c,v=.agg #[.slice A n c,.int .i64 o.2.1,.int .u32 o.2.2.1,.int .i64 (o.2.2.2:Int)]∧Bts s A n c o.1
theorem runR_bad {p:Prg} {inp:Str} {st:Int} (h:(chkF p).1≠0):runR p inp st=(([],0,0,0),chkF p):=by rw [runR,if_pos h]
theorem run_long {p:Prg} {inp:Str} {st:Int} (h:¬ (chkF p).1≠0) (h2:400000 < inp.length):runR p inp st=(([],0,0,0),(3,-2)):=by rw [runR,if_neg h,if_pos h2]
theorem run_far {p:Prg} {inp:Str} {st:Int} (h:¬ (chkF p).1≠0) (h2:¬ 400000 < inp.length) (h3:st < 0∨50000000 < st):runR p inp st=(([],0,0,0),(4,-3)):=by rw [runR,if_neg h,if_neg h2,if_pos h3]
theorem run_good {p:Prg} {inp:Str} {a:Nat} (h:¬ (chkF p).1≠0) (h2:¬ 400000 < inp.length) (h3:¬ ((a:Int) < 0∨50000000 < (a:Int))):runR p inp a=(runO p inp a,(0,0)):=by rw [runR,if_neg h,if_neg h2,if_neg h3,Int.toNat_natCast]
theorem runO_of {p:Prg} {inp:Str} {a mi:Nat} (hm:mainF p.funcs=(mi:Int)) {m:MS} {st cd:Int} (h:endE (cX p (sem p OPp fuX) mi [] (begM p inp a))=(m,st,cd)) (hr:cX p (sem p OPp fuX) mi [] (begM p inp a)≠.out):runO p inp a=(m.out,st,cd,a - m.left):=by
  rw [runO,runP,hm,Int.toNat_natCast]
  show outM a (cX p (sem p OPp fuX) mi [] (begM p inp a))=_
  cases hc:cX p (sem p OPp fuX) mi [] (begM p inp a) with
  | out=>exact absurd hc hr
  | ok v m1=>rw [hc] at h;simp only [endE,Prod.mk.injEq] at h;obtain ⟨rfl,rfl,rfl⟩:=h;rfl
  | fin m1 s1 c1=>rw [hc] at h;simp only [endE,Prod.mk.injEq] at h;obtain ⟨rfl,rfl,rfl⟩:=h;rfl
theorem run_no (p:Prg) (inp:Str) (a mi:Nat) (ha:a≤50000000):cX p (sem p OPp fuX) mi [] (begM p inp a)≠.out:=fun h=>by
  have:=(no_sem (p:=p) (OP:=OPp) (fuX+1)).2.1 mi [] (begM p inp a) (by rw [fuX_eq];show 2 * a+1 < _;omega)
  have e:(sem p OPp (fuX+1)).c mi [] (begM p inp a)=.out:=h
  rw [e] at this;exact this
theorem OKP.pok {p:Prg} (h:OKP p):POK p:=⟨(name_nd (p:=p) (by rw [h.2.1])).1,fun g hg=>by have:=gloC_zero (h.1.2.2.1 g hg).1;exact ⟨this.1,this.2.1⟩⟩
theorem OKP.sz {p:Prg} (h:OKP p):∀ f∈p.funcs,f.params.length+f.locals.length≤100:=fun f hf=>by
  have:=h.1.2.2.2.1 f hf
  have h1:=this.2.1
  have h2:=this.2.2.1
  omega
theorem OKP.st {p:Prg} (h:OKP p) {f:Fnc} (hf:f∈p.funcs):(∀ x∈f.body,StOK p f x)∧stNs f.body≤2000:=by
  have hv:=h.1.2.2.2.1 f hf
  refine ⟨fun x hx=>?_,hv.2.2.2.2.2⟩
  obtain ⟨j,hj⟩:=List.getElem?_of_mem hx
  exact ⟨⟨1,(stV_at hv.2.2.2.2.1 hj).1⟩,0,fun nd hd=>h.2.2 f hf nd (ndSs_mem hx hd)⟩
theorem glo3 {g:Glo} (h:gloC g=0) (h3:g.kind=3):g.init.length≤g.num.toNat∧g.num.toNat≤40000:=by
  unfold gloC at h
  split at h
  · cases h
  split at h
  · cases h
  split at h
  · cases h
  split at h
  · cases h
  rename_i h4
  split at h
  · cases h
  rename_i h5
  omega
theorem beg_ok {p:Prg} {inp:Str} {a ng:Nat} {c:MC} {s:World} {Ai:Option Addr} {ni qi:Nat} (h:OKP p) (hu:prU p) (hI:Bts s Ai ni qi inp) (ha:a≤50000000) (hng:c.ng=p.globals.length) (hnf:c.nf=0) (hlb:c.ab.length=c.ng) (hab:∀ (k:Nat) (g:Glo),p.globals[k]?=some g→g.kind=3→∃ b,c.ab[k]?=some (some b)):MG p c a (begM p inp a) (.slice Ai ni qi) SN (arrL c.ab (arrs p)) s:=by
  refine ⟨⟨Ai,ni,qi,Z,hI⟩,⟨[],(List.append_nil _).symm,.nil⟩,fun x hx=>?_,fun x hx=>(by cases hx),fun l hl x hx=>?_,hng,?_,hnf.symm,hlb,?_,fun k g hg h3=>⟨hab k g hg h3,?_⟩,Nat.zero_le _,Nat.zero_le _,Nat.le_refl _,ha⟩
  · rw [show x=0 from (List.mem_replicate.1 hx).2];exact ⟨by decide,by decide⟩
  · obtain ⟨g,hg,rfl⟩:=List.mem_map.1 (show l∈arrs p from hl)
    split at hx
    · exact fit_U (hu.1 g hg).2 x hx
    · cases hx
  · rw [hng];exact List.length_replicate ..
  · rw [hng];exact List.length_map ..
  · have h0:=glo3 (h.1.2.2.1 g (List.mem_of_getElem? hg)).1 h3
    show ((arrs p).getD k []).length=_
    rw [List.getD_eq_getElem?_getD,arrs_at hg,Option.getD_some,if_pos h3,fit_len h0.1]
end Go.Proofs.YtpdnijphccdiiaaGreatDoor
namespace Go.FL
open Go Go.RowKit
theorem JB_boxA {P:Program} {TT:TyTab} {D n:Nat} {Q:APost} {fr:Fr} {L K:Hl} {s s0:World} {ops:Array Oper} {d ty:Nat} {pos:String} {af:Array Edge} {g:Option (Nat×Bool)} {fuel i t:Nat} {listed:Array Bool} {x:Operand} {zs:List Value} (hi:ops[i]?=some ⟨some d,.box t x,ty,pos,af,g⟩) (hg:GOK ops fr g) (hx:lk fr x=some (.agg zs.toArray)) (hd:Nat.blt d n=true)
    (k:∀ β s',Le D s s'→JA P TT D n ops Q K s0 fuel (listed.setIfInBounds i true) ((d,.pointer (some ⟨β,0,none⟩))::fr) ((β,cb zs t)::L) s'):JB P TT D n ops Q K s0 fuel listed i fr L s:=fun hT a hf ho hl hK=>
  JB_ev hi hg (Ev_box hx (by simp [cellsL]) ho) (alloc_fill ho (cb zs t)).2.2 (fun x _ h=>List.mem_cons_of_mem _ h) hd (k _ _ (alloc_fill ho (cb zs t)).2.2) hT a hf ho hl hK
end Go.FL
namespace Go.Proofs.YtpdnijphccdiiaaGreatDoor
open Go.FL
attribute [local irreducible] JC JO JA JB thenQ blockQ retQ AC fill CellsAt QE Ev Mid
theorem fn_inj {p:Prg} (hnd:((ents p).map (·.1)).Nodup) {j k:Nat} {y x:Fnc} (hy:p.funcs[j]?=some y) (hx:p.funcs[k]?=some x) (e:y.name=x.name):j=k:=by
  have q1:=find_nd hnd (ents_f hy)
  have q2:=find_nd hnd (ents_f hx)
  simp only [e] at q1 q2
  rw [q1] at q2
  simp at q2;omega
theorem mainx_snoc {p:Prg} (hnd:((ents p).map (·.1)).Nodup) {k:Nat} {x:Fnc} {mi mj:Int} (hx:p.funcs[k]?=some x) (h:∀ (j:Nat) (y:Fnc),j < k→p.funcs[j]?=some y→y.name=mainW→mi=(j:Int)) (h1:x.name=mainW→mj=(k:Int)) (h2:¬ x.name=mainW→mj=mi):∀ (j:Nat) (y:Fnc),j < k+1→p.funcs[j]?=some y→y.name=mainW→mj=(j:Int):=fun j y hj hy hn=>by
  by_cases hm:x.name=mainW
  · rw [h1 hm,fn_inj hnd hy hx (hn.trans hm.symm)]
  · rcases Nat.lt_or_eq_of_le (Nat.lt_succ_iff.1 hj) with hj | rfl
    · rw [h2 hm];exact h j y hj hy hn
    · rw [hx] at hy;injection hy with hy;subst hy;exact absurd hn hm
theorem ab_snoc {p:Prg} {ab:List (Option Nat)} {k:Nat} {x:Glo} {o:Option Nat} (hab:ab.length=k) (hx:p.globals[k]?=some x) (h:∀ (j:Nat) (y:Glo),j < k→p.globals[j]?=some y→y.kind=3→∃ b,ab[j]?=some (some b)) (ho:x.kind=3→∃ b,o=some b):∀ (j:Nat) (y:Glo),j < k+1→p.globals[j]?=some y→y.kind=3→∃ b,(ab++[o])[j]?=some (some b):=fun j y hj hy h3=>by
  rcases Nat.lt_or_eq_of_le (Nat.lt_succ_iff.1 hj) with hj | rfl
  · obtain ⟨b,hb⟩:=h j y hj hy h3
    exact ⟨b,by rw [List.getElem?_append_left O];exact hb⟩
  · rw [hx] at hy;injection hy with hy;subst hy
    obtain ⟨b,rfl⟩:=ho h3
    exact ⟨b,by rw [List.getElem?_append_right O,hab,Nat.sub_self];rfl⟩
theorem pm26 {Z:Hl} {o a b c d:Nat×Obj} {Mo K L:Hl} (h:Z.Perm (o::(Mo++K))):(Z++(a::b::c::d::L)).Perm (o::a::b::c::d::(Mo++(K++L))):=by
  have h1:=List.perm_append_comm_assoc (Mo++K) [a,b,c,d] L
  rw [List.append_assoc Mo K L] at h1
  exact (h.append_right _).trans (h1.cons o)
theorem memT2 {x a b:Nat×Obj} {R R':Hl} (hx:x∈(a::b::R).take 2):x∈a::b::R':=List.mem_append_left R' (show x∈[a,b] from hx)
theorem mbv_beg (p:Prg) (inp:Str) (a:Nat) (c:MC) (iv:Value):MBv c a 0 (begM p inp a) iv SN 0 0 SN=(c.bm,cb [.slice c.Af c.nF c.cF,.slice (some ⟨c.bg,0,none⟩) c.ng c.ng,.slice (some ⟨c.ba,0,none⟩) c.ng c.ng,SN,.int .u32 0,.int .i64 0,iv,.int .i64 (a:Int),SN,.int .i64 0,.int .u32 0,.int .i64 0] 51):=by
  rw [MBv]
  show (c.bm,cb [_,_,_,_,_,_,_,_,_,_,_,Value.int .i64 ((a:Int) - (a:Int))] 51)=_
  rw [Int.sub_self];rfl
theorem ifault_ac (D:Nat) (L:Hl) (s:World) (c i:Int):AC Tryz.prog D 21 [.int .i64 c,.int .i64 i] L s fun v L' _=>v=.agg #[.int .i64 c,.int .i64 i]∧L=L':=by
 refine AC_enter (TT:=TT) (fn:=Tryz.f21) TT_ok Tryz.func21 V Z Tryz.ntmps21 Z (rs:=[.cell 4 33]) Z [(0,_),(1,_)] Z<|Sr<|JO_allocZ Z [_,_] Z Z ?_
 intro β1 s1 h1
 refine Nt<|Sr<|Zqm Z Z<|Zqm Z Z<|JO_q (QE_build [(_,_),(_,_)] [_,_] Z Z Z Z Z Z) Z<|Wt 0 [_,_] Y9<|Nt<|Zo<|?_
 refine retQ_mk [_] L (.inr Z) (.agg (us:=[_,_]) 0 Z Z Z Z Z (.nil)) Z h1 (fun sR hS2=>?_)
 exact ⟨rfl,rfl⟩
theorem run0_ac (D:Nat) (L:Hl) (s:World) (hG:GP s) (d:Nat) (p:Prg) (Ag Af:Option Addr) (ng cg nf cf:Nat) (hGl:Glos s Ag ng cg p.globals) (hFn:Fncs d s Af nf cf p.funcs) (Ai:Option Addr) (ni qi:Nat) (inp:Str) (hI:Bts s Ai ni qi inp) (steps:Int):AC Tryz.prog D 9 [.agg #[.slice Ag ng cg,.slice Af nf cf],.slice Ai ni qi,.int .i64 steps] L s fun v L' s'=>∃ M',L'=M'++L∧∀ s2,Le D s' s2→Pub M' s2→∃ w,v=.tuple #[w,.agg #[.int .i64 (runR p inp steps).2.1,.int .i64 (runR p inp steps).2.2]]∧OutV s2 (runR p inp steps).1 w:=by
 have hn1:=hGl.1
 have hn2:=hFn.1
 have hn3:=hI.1
 have hU:prU p:=⟨hGl.u,hFn.u⟩
 refine AC_enter (TT:=TT) (fn:=Tryz.f9) TT_ok Tryz.func9 V Z Tryz.ntmps9 Z (rs:=[.cell 6 31,.cell 7 33]) Z [(0,_),(1,_),(2,_)] Z<|Sr<|JO_boxA Z Z ?_
 intro β1 s1 h1
 refine JO_allocZ Z [_,_,_,_] Z Z ?_
 intro β2 s2 h2
 refine JO_allocZ Z [_,_] Z Z ?_
 intro β3 s3 h3
 refine Nt<|Zs<|Sr<|JO_q (QE_ldA 2 [_,_] Z Z Z Z Z) Z<|Jc Z Z Z (program_ac D _ _ (hG.le (h1.t h2|>.t h3)) d p Ag _ ng cg nf cf (hGl.le (h1.t h2|>.t h3)) (hFn.le (h1.t h2|>.t h3))) ?_
 rintro _ _ s4 h4 ⟨rfl,rfl⟩
 refine JO_allocZ Z [_,_] Z Z ?_
 intro β5 s5 h5
 refine Wt 0 [_,_] Y9<|Nt<|Sr<|JO_q (QE_ldA 0 [_,_] Z Z Z Z Z) Z<|JO_q (QE_build [] [_,_] Z Z Z Z Z Z) Z<|JO_q (QE_ane Z Z (eqFault _ _ _ _)) Z<|Nt<|?_
 refine JC_ifN Z (fun c6=>?_) (fun c6=>?_)
 ·
  have hb0:(chkF p).1≠0:=fun h=>c6 (by rw [chk_00 hU h];exact ⟨rfl,rfl⟩)
  have hE:runR p inp steps=_:=runR_bad hb0
  refine Zs<|JC_drawE drawsMixed 4 Z [2,1] (by intro x hx;exact eraseAll_mem hx) ?_
  intro s7 h7
  refine za 0 Z (QE_build [] [_,_,_,_] Z Z Z Z Z Z) Z<|za 1 Z (QE_ldA 0 [_,_] Z Z Z Z Z) Z<|JA_1 2 V<|Wu Z trivial 2 [_,_,_,_] Y9 (fun _ hx=>sub_mem (sbY (sbN (sbY (sbE _)))) hx)<|JA_1 3 V<|Wu Z trivial 1 [_,_] Y9 (fun _ hx=>sub_mem (sbY (sbN (sbY (sbE _)))) hx)<|JA_done V<|Zt<|Zo<|Zu<|?_
  refine retQ_mk [_,_,_,_] _ (.inr Z) (.agg (us:=[_,_,_,_]) 2 Z Z Z Z Z (.agg (us:=[_,_]) 1 Z Z Z Z Z (.nil))) Z (h1.t h2|>.t h3|>.t h4|>.t h5|>.t h7) (fun sR hS2=>?_)
  first
    | exact ⟨[],rfl,fun s2 hs2 hp=>⟨.agg #[.slice none 0 0,.int .i64 0,.int .u32 0,.int .i64 0],by rw [hE];rfl,none,0,0,by rw [hE];rfl,by rw [hE];exact Bts.nil _ _ _ O⟩⟩
    | (have hE:runR p inp (a:Int)=((m9.out,st9,cd9,a - m9.left),(0,0)):=by rw [hE0,runO_of hmf he9 (run_no p inp a mi0 O)]
       have hst:(a:Int) - (m9.left:Int)=((a - m9.left:Nat):Int):=by omega
       exact ⟨Mo9++K9,(List.append_assoc ..).symm,fun s2 hs2 hp=>⟨_,by rw [hE];rfl,Ao,_,co,by rw [hE,hst],by rw [hE];exact Own.bts hO9 fun b zs t hm=>hp b zs t (List.mem_append_left _ hm)⟩⟩)
 have g4:=c6
 have g14:¬ (chkF p).1≠0:=fun h=>h g4.1
 obtain ⟨hOK,hz0⟩:=OKP.of hU g4.1
 have hV:=hOK.1
 have hV1:=hV.1
 have hV2:=hV.2.1
 have hVf:=hV.2.2.2.1
 have hND:=(name_nd (p:=p) (by rw [hOK.2.1])).1
 refine Zk<|Zt<|Zs<|Sr<|Zqm Z Z<|Ws Y4<|Zqgt Z Z Z<|Nt<|?_
 refine JC_ifD Z (fun c8=>?_) (fun c8=>?_)
 ·
  have hE:runR p inp steps=_:=run_long g14 O
  refine Sr<|JO_q (QE_build [] [_,_,_,_] Z Z Z Z Z Z) Z<|Jc Z Z Z (ifault_ac D _ _ _ _) ?_
  rintro _ _ s9 h9 ⟨rfl,rfl⟩
  refine Wt 2 [_,_,_,_] Y9<|Wt 1 [_,_] Y9<|Nt<|Zo<|Zu<|?_
  refine retQ_mk [_,_,_,_] _ (.inr Z) (.agg (us:=[_,_,_,_]) 2 Z Z Z Z Z (.agg (us:=[_,_]) 1 Z Z Z Z Z (.nil))) Z (h1.t h2|>.t h3|>.t h4|>.t h5|>.t h9) (fun sR hS2=>?_)
  first
    | exact ⟨[],rfl,fun s2 hs2 hp=>⟨.agg #[.slice none 0 0,.int .i64 0,.int .u32 0,.int .i64 0],by rw [hE];rfl,none,0,0,by rw [hE];rfl,by rw [hE];exact Bts.nil _ _ _ O⟩⟩
    | (have hE:runR p inp (a:Int)=((m9.out,st9,cd9,a - m9.left),(0,0)):=by rw [hE0,runO_of hmf he9 (run_no p inp a mi0 O)]
       have hst:(a:Int) - (m9.left:Int)=((a - m9.left:Nat):Int):=by omega
       exact ⟨Mo9++K9,(List.append_assoc ..).symm,fun s2 hs2 hp=>⟨_,by rw [hE];rfl,Ao,_,co,by rw [hE,hst],by rw [hE];exact Own.bts hO9 fun b zs t hm=>hp b zs t (List.mem_append_left _ hm)⟩⟩)
 have g25:¬ 400000 < inp.length:=by omega
 refine Zk<|Zt<|Zs<|?_
 refine JC_cutB 33 (steps < 0∨50000000 < steps) ?_ ?_
 ·
  refine Zr<|Zqm Z Z<|Zqlt Z Z Z<|Zqm Z Z<|?_
  refine JO_caseD (t:=30) Z (fun c11=>?_) (fun c11=>?_)
  ·
   refine Wf Y4<|Wf Y4<|ZqT Z Z Z<|Zn<|?_
   refine thenQ_n (MidB.mk (Lr D) Sb Z ((decide_eq_true O).symm))
  refine Zg Z Z<|Zqm Z Z<|Zg Z Z<|Zqgt Z Z Z<|ZqF Z Z Z<|Zn<|?_
  refine thenQ_n (MidB.mk (Lr D) Sb Z (decide_eq_decide.2 O))
 intro s10 h10
 refine JC_ifD Z (fun c12=>?_) (fun c12=>?_)
 ·
  have hE:runR p inp steps=_:=run_far g14 g25 c12
  refine Sr<|JO_q (QE_build [] [_,_,_,_] Z Z Z Z Z Z) Z<|Jc Z Z Z (ifault_ac D _ _ _ _) ?_
  rintro _ _ s13 h13 ⟨rfl,rfl⟩
  refine Wt 2 [_,_,_,_] Y9<|Wt 1 [_,_] Y9<|Nt<|Zo<|Zu<|?_
  refine retQ_mk [_,_,_,_] _ (.inr Z) (.agg (us:=[_,_,_,_]) 2 Z Z Z Z Z (.agg (us:=[_,_]) 1 Z Z Z Z Z (.nil))) Z (h1.t h2|>.t h3|>.t h4|>.t h5|>.t h10|>.t h13) (fun sR hS2=>?_)
  first
    | exact ⟨[],rfl,fun s2 hs2 hp=>⟨.agg #[.slice none 0 0,.int .i64 0,.int .u32 0,.int .i64 0],by rw [hE];rfl,none,0,0,by rw [hE];rfl,by rw [hE];exact Bts.nil _ _ _ O⟩⟩
    | (have hE:runR p inp (a:Int)=((m9.out,st9,cd9,a - m9.left),(0,0)):=by rw [hE0,runO_of hmf he9 (run_no p inp a mi0 O)]
       have hst:(a:Int) - (m9.left:Int)=((a - m9.left:Nat):Int):=by omega
       exact ⟨Mo9++K9,(List.append_assoc ..).symm,fun s2 hs2 hp=>⟨_,by rw [hE];rfl,Ao,_,co,by rw [hE,hst],by rw [hE];exact Own.bts hO9 fun b zs t hm=>hp b zs t (List.mem_append_left _ hm)⟩⟩)
 obtain ⟨a,rfl⟩:=Int.eq_ofNat_of_zero_le (show 0≤steps by omega)
 have hE0:=run_good (p:=p) (inp:=inp) (a:=a) g14 g25 c12
 refine Zk<|Zt<|?_
 refine JC_cutN (γ:=Nat×Nat×Nat) (fun g=>[(9,.pointer (some ⟨g.1,0,none⟩))]) (fun g=>[(g.1,cb [SN,.slice (some ⟨g.2.1,0,none⟩) ng ng,.slice (some ⟨g.2.2,0,none⟩) ng ng,SN,.int .u32 0,.int .i64 0,.slice Ai ni qi,.int .i64 (a:Int),SN,.int .i64 0,.int .u32 0,.int .i64 0] 51),(g.2.1,cb (wv (List.replicate ng 0)) 29),(g.2.2,cb (List.replicate ng SN) 47)]) (fun g tw=>True) (fun _ _ _ h hl=>h) ?_ ?_
 ·
  refine JC_draw drawsMixed 13 Z _ (fun _ h=>h) ?_
  intro s15 h15
  refine za 0 Z (QE_mv Z) Z<|za 1 Z (QE_mv Z) Z<|za 2 Z (QE_fa0 Z Z Z Z) Z<|za 3 Z (Wd 3 Y5) Z<|za 4 Z (QE_lenS Z Z Z) Z<|za 6 Z (QE_fa0 Z Z Z Z) Z<|za 7 Z (Wd 3 Y5) Z<|za 8 Z (QE_lenS Z Z Z) Z ?_
  refine JA_2 5 9 V ?_ ?_
  ·
   refine JB_mk Z trivial Z Z Z Z Z (by simp [ti29];omega) O Z ?_
   intro βg s16 h16
   rw [← wv_rep]
   refine JA_1 9 V<|JB_mk Z trivial Z Z Z Z Z (by simp [ti47];omega) O Z ?_
   intro βa s17 h17
   refine za 10 Z (QE_build [(_,_),(_,_),(_,_),(_,_)] [_,_,_,_,_,_,_,_,_,_,_,_] Z Z Z Z Z Z) Z<|JA_1 11 V<|JB_boxA Z trivial Z Z ?_
   intro β18 s18 h18
   refine za 12 Z (QE_as Z) Z<|JA_done V ?_
   refine thenQ_n (MidN.mk (β18,βg,βa) [] (h15.t h16|>.t h17|>.t h18) (.cons Z sk) (List.Perm.trans (front_perm _ 1) (List.Perm.trans (front_perm _ 2) (front_perm _ 2))) trivial)
  refine JB_mk Z trivial Z Z Z Z Z (by simp [ti47];omega) O Z ?_
  intro βa s19 h19
  refine JA_1 5 V<|JB_mk Z trivial Z Z Z Z Z (by simp [ti29];omega) O Z ?_
  intro βg s20 h20
  rw [← wv_rep]
  refine za 10 Z (QE_build [(_,_),(_,_),(_,_),(_,_)] [_,_,_,_,_,_,_,_,_,_,_,_] Z Z Z Z Z Z) Z<|JA_1 11 V<|JB_boxA Z trivial Z Z ?_
  intro β21 s21 h21
  refine za 12 Z (QE_as Z) Z<|JA_done V ?_
  refine thenQ_n (MidN.mk (β21,βg,βa) [] (h15.t h19|>.t h20|>.t h21) (.cons Z sk) (List.Perm.trans (front_perm _ 2) (List.Perm.trans (front_perm _ 2) (front_perm _ 2))) trivial)
 intro g s14 h14 I14
 simp only [cQ9,nQ9]
 obtain ⟨bm,bg,ba⟩:=g
 dsimp only
 refine Zs<|Sr<|W0 Y5<|JO_q (Wd 6 Y5) Z<|Ws Y4<|Zqm Z Z<|Nt<|Zp<|?_
 refine JC_loop (γ:=Nat×List (Option Nat)) (fun g=>[(3,_),(6,_),(7,_),(9,_),(49,_),(50,_),(51,.int .i64 (g.1:Int))]) (fun g=>_::_::(ba,cb (avR p g.2 g.1 ng) 47)::_::_::_::_::(arrL g.2 ((arrs p).take g.1)++L)) (fun g tw=>Le D s14 tw∧(g.1≤ng∧g.2.length=g.1∧∀ (j:Nat) (y:Glo),j < g.1→p.globals[j]?=some y→y.kind=3→∃ b,g.2[j]?=some (some b))) (fun g=>ng - g.1) (fun _ _ _ h hl=>⟨h.1.trans hl,h.2⟩) (0,[]) (.cons Z (.cons Z (.cons Z (.cons Z (.cons Z (.cons Z (.cons Z (.nil _)))))))) Z ⟨Le.refl _,⟨Nat.zero_le _,Z,fun j y hj=>absurd hj (Nat.not_lt_zero _)⟩⟩ ?_
 intro g s22 I22
 obtain ⟨k,ab⟩:=g
 obtain ⟨hk0,hab,hak⟩:=I22.2
 simp only at hk0 hab hak
 dsimp only
 refine Sr<|Zqlt Z Z Z<|Nt<|Zs<|?_
 refine JC_ifD Z (fun c23=>?_) (fun c23=>?_)
 ·
  have hk:k < ng:=by omega
  obtain ⟨b,off,x,Aq,nq,cq,rfl,hx,hcx,hix,hux,hnl⟩:=Glos.at_ (hGl.le (h1.t h2|>.t h3|>.t h4|>.t h5|>.t h10|>.t h14|>.t I22.1)) hk
  have hn9:=hix.1
  subst hn9
  refine Zk<|Zt<|Zs<|Zp<|Sr<|Zqm Z Z<|JO_q (QE_iaN Z Z Z Z Z Z hk) Z<|JO_q (QE_ldsA Z Z Z (hcx.le (Lr D)) Z) Z<|JO_allocZ Z [_,_,_,_] Z Z ?_
  intro β24 s24 h24
  refine Zqa Z Z<|Wt 0 [_,_,_,_] Y9<|Nt<|Sr<|W0 Y5<|Wl 0 Y6<|Zqeq Z Z Z<|Nt<|?_
  refine JC_ifD Z (fun c25=>?_) (fun c25=>?_)
  ·
   have g3:x.kind=3:=c25
   have g4:=glo3 (hOK.1.2.2.1 x (List.mem_of_getElem? hx)).1 g3
   have g42:=g4.2
   refine Zs<|JC_drawE drawsMixed 10 Z [3] (by intro x hx;exact eraseAll_mem hx) ?_
   intro s26 h26
   refine za 0 Z (QE_mv Z) Z<|za 1 Z (QE_nil Z) Z<|za 2 Z (We Y4) Z<|za 3 Z (Wd 1 Y5) Z<|za 4 Z (QE_mv Z) Z<|za 5 Z (We Y4) Z<|za 6 Z (QE_cast (Wd 0 Y5) (congrArg (Value.int .u32) (Int.toNat_of_nonneg hux.1).symm)) Z<|JA_1 7 V<|JB_mk Z trivial Z Z Z Z Z (by simp [ti29];omega) O Z ?_
   intro βx s27 h27
   refine za 8 Z (QE_ia1 Z Z Z Z Z Z hk) Z<|JA_1 9 V<|JB_st Z trivial 4 _ Z Z Z Z Z (avR_ble hab hx hk) Z (avR_hit hab hx hk) Z (fun _ hx=>sub_mem (sbN (sbY (sbY (sbY (sbY (sbY (sbY (sbY (sbE _))))))))) hx)<|JA_done V<|Zt<|JC_drawE drawsMixed 10 Z [0] (by intro x hx;exact eraseAll_mem hx) ?_
   intro s29 h29
   refine za 0 Z (QE_mv Z) Z<|za 1 Z (QE_nil Z) Z<|za 2 Z (We Y4) Z<|za 3 Z (Wd 1 Y5) Z<|za 4 Z (QE_mv Z) Z<|za 5 Z (QE_ia1 Z Z Z Z Z Z hk) Z<|za 6 Z (QE_ld1 3 Z Z Z Z (avR_nth hab hx)) Z<|za 7 Z (We Y4) Z<|za 8 Z (Wd 0 Y5) Z<|JA_1 9 V<|JB_copy Z trivial 0 (L':=(βx,cb (wv (fitF x.num.toNat x.init)) 29)::_) Z Z Z Z Z Z Z (hix.row.le (h24.t h26|>.t h27|>.t h29)) g4.1 (by simp) (by rw [fit_eq g4.1];rfl) Z (fun x hx _=>List.mem_cons_of_mem _ hx)<|JA_done V<|Zb<|Zt<|JC_perm (pmA [_,_,_,_,_,_,_,_]) ?_
   simp only [cQ9,nQ9]
   rw [arl_hit hab hx g3]
   refine Zr<|Zqadd Z Z Z (w64 O O)<|Zqm Z Z<|Zn<|?_
   refine thenQ_n ⟨(k+1,ab++[some βx]),[_],kp,Z,⟨(I22.1.t h24|>.t h26|>.t h27|>.t h29),⟨by simp only;omega,by simp [hab],ab_snoc hab hx hak (fun h=>by first | exact ⟨_,Z⟩ | exact absurd h g3)⟩⟩,(by simp only;omega)⟩
  have g3:¬ x.kind=3:=c25
  refine Zk<|Zb<|Zt<|?_
  rw [avR_miss hab hx hk,arl_miss hab hx]
  refine Zr<|Zqadd Z Z Z (w64 O O)<|Zqm Z Z<|Zn<|?_
  refine thenQ_n ⟨(k+1,ab++[none]),[_],kp,Z,⟨(I22.1.t h24),⟨by simp only;omega,by simp [hab],ab_snoc hab hx hak (fun h=>by first | exact ⟨_,Z⟩ | exact absurd h g3)⟩⟩,(by simp only;omega)⟩
 obtain rfl:ng=k:=by omega
 rw [show (arrs p).take ng=arrs p from List.take_of_length_le (by rw [arrs,List.length_map];omega)]
 refine Zl<|Zv<|Zv<|Zd<|Zt<|Sr<|At Z Z<|Zs<|Sr<|Wb Y5<|JO_q (Wd 6 Y5) Z<|Ws Y4<|Zqm Z Z<|Nt<|Zp<|?_
 rw [← List.nil_append (arrL ab (arrs p)++L)]
 refine JC_loop (γ:=Nat×Int×Value×Hl) (fun g=>[(3,_),(6,_),(7,_),(9,_),(12,.int .i64 g.2.1),(80,_),(81,_),(82,.int .i64 (g.1:Int))]) (fun g=>(bm,cb [g.2.2.1,.slice (some ⟨bg,0,none⟩) ng ng,.slice (some ⟨ba,0,none⟩) ng ng,SN,.int .u32 0,.int .i64 0,.slice Ai ni qi,.int .i64 (a:Int),SN,.int .i64 0,.int .u32 0,.int .i64 0] 51)::_::_::_::_::_::_::(g.2.2.2++(arrL ab (arrs p)++L))) (fun g tw=>Le D s22 tw∧(g.1≤nf∧(∃ css,FL.Own 63 2 g.2.2.2 g.2.2.1 g.1 (List.flatten css)∧All2 (fun f cs=>cs.length=2∧FnV p tw f cs) (p.funcs.take g.1) css)∧∀ (j:Nat) (y:Fnc),j < g.1→p.funcs[j]?=some y→y.name=mainW→g.2.1=(j:Int))) (fun g=>nf - g.1) (fun _ _ _ h hl=>⟨h.1.trans hl,⟨h.2.1,(by obtain ⟨css,q1,q2⟩:=h.2.2.1;exact ⟨css,q1,q2.mono fun _ _ k=>⟨k.1,k.2.le hl⟩⟩),h.2.2.2⟩⟩) (0,0,SN,[]) (.cons Z (.cons Z (.cons Z (.cons Z (.cons Z (.cons Z (.cons Z (.cons Z (.nil _))))))))) Z ⟨Le.refl _,⟨Nat.zero_le _,⟨[],FL.Own.nil,.nil⟩,fun j y hj=>absurd hj (Nat.not_lt_zero _)⟩⟩ ?_
 intro g s31 I31
 obtain ⟨k,mi,vf,Mf⟩:=g
 obtain ⟨hk0,⟨css,hO,hA2⟩,hmi⟩:=I31.2
 simp only at hk0 hO hA2 hmi
 dsimp only
 obtain ⟨Af2,cf2,rfl,_,_⟩:=Own.slice hO
 refine Sr<|Zqlt Z Z Z<|Nt<|Zs<|?_
 refine JC_ifD Z (fun c32=>?_) (fun c32=>?_)
 ·
  have hk:k < nf:=by omega
  obtain ⟨b,off,x,B1,m1,d1,B2,m2,d2,B3,m3,d3,rfl,hx,hcx,hpx,hlx,hbx,hnl⟩:=Fncs.at_ (hFn.le (h1.t h2|>.t h3|>.t h4|>.t h5|>.t h10|>.t h14|>.t I22.1|>.t I31.1)) hk
  have hfx:=hVf x (List.mem_of_getElem? hx)
  have q83:=hOK.sz x (List.mem_of_getElem? hx)
  have qp83:=hpx.1
  have ql83:=hlx.1
  refine Zk<|Zt<|Zs<|Zp<|Sr<|Zqm Z Z<|JO_q (QE_iaN Z Z Z Z Z Z hk) Z<|JO_q (QE_ldsA Z Z Z (hcx.le (Lr D)) Z) Z<|JO_allocZ Z [_,_,_,_] Z Z ?_
  intro β33 s33 h33
  refine Zqa Z Z<|Wt 0 [_,_,_,_] Y9<|Nt<|?_
  refine JC_cutG (γ:=Int) (fun mj=>[(12,.int .i64 mj)]) [_,_,_,_,_,_,_,_] Z (fun mj=>Mf++(arrL ab (arrs p)++L)) (fun mj tw=>(x.name=mainW→mj=(k:Int))∧(¬ x.name=mainW→mj=mi)) (fun _ _ _ h hl=>h) ?_ ?_
  ·
   refine Sr<|W0 Y5<|Wl 0 Y6<|Zqse Z Z Z<|Nt<|?_
   refine JC_ifD Z (fun c35=>?_) (fun c35=>?_)
   ·
    have gmn:x.name=mainW:=c35
    refine Zr<|Zqm Z Z<|Zqa Z Z<|Zn<|?_
    refine thenQ_n (MidG.mk (k:Int) [] (Lr D) kp So (List.Perm.refl _) ⟨fun h=>(by first | rfl | exact absurd h gmn),fun h=>(by first | rfl | exact absurd gmn h)⟩)
   have gmn:¬ x.name=mainW:=c35
   refine Zk ?_
   refine thenQ_n (MidG.mk mi [] (Lr D) kp So (List.Perm.refl _) ⟨fun h=>(by first | rfl | exact absurd h gmn),fun h=>(by first | rfl | exact absurd gmn h)⟩)
  intro mj s34 h34 I34
  simp only [cQ9,nQ9]
  have hmj:=I34
  refine Sr<|JO_q (QE_ldA 7 [_,_] Z Z Z Z Z) Z<|JO_q (QE_ldA 0 [_,_,_,_] Z Z Z Z Z) Z<|JO_q (QE_build [(_,_),(_,_)] [_,_,_,_,_,_] Z Z Z Z Z Z) Z<|JO_allocZ Z [_,_,_,_,_,_] Z Z ?_
  intro β36 s36 h36
  refine Wt 0 [_,_,_,_,_,_] Y9<|Nt<|JC_drawT drawsMixed 22 Z 2 ?_
  intro s37 h37
  refine za 0 Z (QE_mv Z) Z<|za 1 Z (QE_mv Z) Z<|za 2 Z (QE_nil Z) Z<|za 3 Z (QE_fa0 Z Z Z Z) Z<|za 5 Z (We Y4) Z<|za 6 Z (Wd 1 Y5) Z<|za 7 Z (QE_lenS Z Z Z) Z<|za 8 Z (We Y4) Z<|za 9 Z (Wd 1 Y5) Z<|za 10 Z (QE_lenS Z Z Z) Z<|za 11 Z (QE_cast (QE_add' Z Z (w64 O O)) (congrArg (Value.int .i64) (show (m1:Int)+(m2:Int)=((x.params.length+x.locals.length:Nat):Int) by have:=hpx.1;have:=hlx.1;omega))) Z<|za 12 Z (QE_ldA 0 [_,_,_,_,_,_] Z Z Z Z Z) Z<|za 13 Z (We Y4) Z ?_
  refine za 14 Z (Wd 1 Y5) Z ?_
  refine JA_2 4 15 V ?_ ?_
  ·
   refine JB_q Z trivial (Wd 2 Y5) Z<|JA_1 15 V ?_
   refine Jb Z trivial Z Z Z (tsr D d _ _ d p Ag _ ng cg nf cf (hGl.le (h1.t h2|>.t h3|>.t h4|>.t h5|>.t h10|>.t h14|>.t I22.1|>.t I31.1|>.t h33|>.t h34|>.t h36|>.t h37)) (hFn.le (h1.t h2|>.t h3|>.t h4|>.t h5|>.t h10|>.t h14|>.t I22.1|>.t I31.1|>.t h33|>.t h34|>.t h36|>.t h37)) x B1 B2 B3 m1 d1 m2 d2 m3 d3 (hpx.le (h33.t h34|>.t h36|>.t h37)) (hlx.le (h33.t h34|>.t h36|>.t h37)) (hOK.sz x (List.mem_of_getElem? hx)) hOK.pok B3 m3 d3 x.body (hbx.le (h33.t h34|>.t h36|>.t h37)) (hOK.st (List.mem_of_getElem? hx)).1 (hOK.st (List.mem_of_getElem? hx)).2) ?_
   rintro _ _ s38 h38 ⟨rfl,A',n',c',rfl,hV⟩
   refine ⟨fun _ _ h=>h,?_⟩
   refine za 16 Z (QE_build [(_,_),(_,_)] [_,_] Z Z Z Z Z Z) Z<|JA_1 17 V<|JB_bs Z trivial [(_,_)] [_,_] Z Z Z Z Z Z Z Z Z ?_
   intro βn s39 h39 hcb
   refine JA_1 18 V<|JB_app Z trivial (sz:=2) [_,_,_,_,_,_,_,_,_] Mf _ Z Z Z Z Z Z Z hO (Row.of_cells (hcb.le (Lr D)) Z Z) ⟨by simp [ti63];omega,by omega⟩ Z (fun _ x hx _=>memT2 hx) ?_
   intro vq Mq s40 h40 oq
   obtain ⟨Avq,cvq,rfl,_,_⟩:=Own.slice oq
   simp only [cQ9,nQ9]
   refine za 19 Z (QE_nil Z) Z<|za 20 Z (QE_fa0 Z Z Z Z) Z<|JA_1 21 V<|Wu Z trivial 2 [_,_,_,_,_,_,_,_,_,_,_,_] Y9 (fun _ hx=>sub_mem (sbY (sbY (sb0 _))) hx)<|JA_done V<|Zb<|Zt<|Zr<|Zqadd Z Z Z (w64 O O)<|Zqm Z Z<|Zn<|?_
   refine thenQ_n ⟨(k+1,mj,.slice Avq (k+1) cvq,Mq),[_,_],kp,Z,⟨(I31.1.t h33|>.t h34|>.t h36|>.t h37|>.t h38|>.t h39|>.t h40),⟨by simp only;omega,⟨css++[[.int .i64 ((x.params.length+x.locals.length:Nat):Int),.slice A' n' c']],by simp only [List.flatten_append,List.flatten_cons,List.flatten_nil,List.append_nil];exact oq,by simp only;rw [take_snocE hx];exact all2_snoc' (hA2.mono fun _ _ k=>⟨k.1,k.2.le (h33.t h34|>.t h36|>.t h37|>.t h38|>.t h39|>.t h40)⟩) ⟨Z,d,A',n',c',Z,hV.le (h39.t h40)⟩⟩,mainx_snoc hND hx hmi hmj.1 hmj.2⟩⟩,(by simp only;omega)⟩
  refine Jb Z trivial Z Z Z (tsr D d _ _ d p Ag _ ng cg nf cf (hGl.le (h1.t h2|>.t h3|>.t h4|>.t h5|>.t h10|>.t h14|>.t I22.1|>.t I31.1|>.t h33|>.t h34|>.t h36|>.t h37)) (hFn.le (h1.t h2|>.t h3|>.t h4|>.t h5|>.t h10|>.t h14|>.t I22.1|>.t I31.1|>.t h33|>.t h34|>.t h36|>.t h37)) x B1 B2 B3 m1 d1 m2 d2 m3 d3 (hpx.le (h33.t h34|>.t h36|>.t h37)) (hlx.le (h33.t h34|>.t h36|>.t h37)) (hOK.sz x (List.mem_of_getElem? hx)) hOK.pok B3 m3 d3 x.body (hbx.le (h33.t h34|>.t h36|>.t h37)) (hOK.st (List.mem_of_getElem? hx)).1 (hOK.st (List.mem_of_getElem? hx)).2) ?_
  rintro _ _ s41 h41 ⟨rfl,A',n',c',rfl,hV⟩
  refine ⟨fun _ _ h=>h,?_⟩
  refine za 16 Z (QE_build [(_,_),(_,_)] [_,_] Z Z Z Z Z Z) Z ?_
  refine JA_2 4 17 V ?_ ?_
  ·
   refine JB_q Z trivial (Wd 2 Y5) Z<|JA_1 17 V<|JB_bs Z trivial [(_,_)] [_,_] Z Z Z Z Z Z Z Z Z ?_
   intro βn s42 h42 hcb
   refine JA_1 18 V<|JB_app Z trivial (sz:=2) [_,_,_,_,_,_,_,_,_] Mf _ Z Z Z Z Z Z Z hO (Row.of_cells (hcb.le (Lr D)) Z Z) ⟨by simp [ti63];omega,by omega⟩ Z (fun _ x hx _=>memT2 hx) ?_
   intro vq Mq s43 h43 oq
   obtain ⟨Avq,cvq,rfl,_,_⟩:=Own.slice oq
   simp only [cQ9,nQ9]
   refine za 19 Z (QE_nil Z) Z<|za 20 Z (QE_fa0 Z Z Z Z) Z<|JA_1 21 V<|Wu Z trivial 2 [_,_,_,_,_,_,_,_,_,_,_,_] Y9 (fun _ hx=>sub_mem (sbY (sbY (sb0 _))) hx)<|JA_done V<|Zb<|Zt<|Zr<|Zqadd Z Z Z (w64 O O)<|Zqm Z Z<|Zn<|?_
   refine thenQ_n ⟨(k+1,mj,.slice Avq (k+1) cvq,Mq),[_,_],kp,Z,⟨(I31.1.t h33|>.t h34|>.t h36|>.t h37|>.t h41|>.t h42|>.t h43),⟨by simp only;omega,⟨css++[[.int .i64 ((x.params.length+x.locals.length:Nat):Int),.slice A' n' c']],by simp only [List.flatten_append,List.flatten_cons,List.flatten_nil,List.append_nil];exact oq,by simp only;rw [take_snocE hx];exact all2_snoc' (hA2.mono fun _ _ k=>⟨k.1,k.2.le (h33.t h34|>.t h36|>.t h37|>.t h41|>.t h42|>.t h43)⟩) ⟨Z,d,A',n',c',Z,hV.le (h42.t h43)⟩⟩,mainx_snoc hND hx hmi hmj.1 hmj.2⟩⟩,(by simp only;omega)⟩
  refine JB_bs Z trivial [(_,_)] [_,_] Z Z Z Z Z Z Z Z Z ?_
  intro βn s44 h44 hcb
  refine JA_1 4 V<|JB_q Z trivial (Wd 2 Y5) Z<|JA_1 18 V<|JB_app Z trivial (sz:=2) [_,_,_,_,_,_,_,_,_] Mf _ Z Z Z Z Z Z Z hO (Row.of_cells (hcb.le (Lr D)) Z Z) ⟨by simp [ti63];omega,by omega⟩ Z (fun _ x hx _=>memT2 hx) ?_
  intro vq Mq s45 h45 oq
  obtain ⟨Avq,cvq,rfl,_,_⟩:=Own.slice oq
  simp only [cQ9,nQ9]
  refine za 19 Z (QE_nil Z) Z<|za 20 Z (QE_fa0 Z Z Z Z) Z<|JA_1 21 V<|Wu Z trivial 2 [_,_,_,_,_,_,_,_,_,_,_,_] Y9 (fun _ hx=>sub_mem (sbY (sbY (sb0 _))) hx)<|JA_done V<|Zb<|Zt<|Zr<|Zqadd Z Z Z (w64 O O)<|Zqm Z Z<|Zn<|?_
  refine thenQ_n ⟨(k+1,mj,.slice Avq (k+1) cvq,Mq),[_,_],kp,Z,⟨(I31.1.t h33|>.t h34|>.t h36|>.t h37|>.t h41|>.t h44|>.t h45),⟨by simp only;omega,⟨css++[[.int .i64 ((x.params.length+x.locals.length:Nat):Int),.slice A' n' c']],by simp only [List.flatten_append,List.flatten_cons,List.flatten_nil,List.append_nil];exact oq,by simp only;rw [take_snocE hx];exact all2_snoc' (hA2.mono fun _ _ k=>⟨k.1,k.2.le (h33.t h34|>.t h36|>.t h37|>.t h41|>.t h44|>.t h45)⟩) ⟨Z,d,A',n',c',Z,hV.le (h44.t h45)⟩⟩,mainx_snoc hND hx hmi hmj.1 hmj.2⟩⟩,(by simp only;omega)⟩
 obtain rfl:nf=k:=by omega
 rw [List.take_of_length_le O] at hA2
 obtain ⟨mi0,xm,hmf,hxm,hnm,hpm⟩:=nameF_main hOK.2.1
 obtain rfl:=hmi mi0 xm (by rw [hn2];exact (List.getElem?_eq_some_iff.1 hxm).1) hxm hnm
 refine Zl<|Zv<|Zv<|Zd<|Zt<|Zs<|JC_pubX [_,_,_,_,_,_,_] Mf _ ?_
 intro s46 h46 hpub46
 simp only [cQ9,nQ9]
 have hFV:Sl 2 (FnV p) s46 Af2 nf cf2 p.funcs:=Own.rows hO hpub46 (hA2.mono fun _ _ k=>⟨k.1,k.2.le h46⟩) hn2
 refine JC_pubX [_,_] [_] _ ?_
 intro s47 h47 hpub47
 simp only [cQ9,nQ9]
 have hca0:=hpub47 _ _ _ (List.mem_singleton.2 rfl)
 rw [avR,Nat.sub_self,List.replicate_zero,List.append_nil,List.take_of_length_le O] at hca0
 have hca:CellsAt s47 ba 0 (arrV ab p.globals):=hca0
 have hFV:=Sl.le (fun _ _ h=>FnV.le h47 h) hFV h47
 refine JC_perm (.cons _ (.cons _ (List.perm_append_comm_assoc [_,_,_,_] (arrL ab (arrs p)) L))) ?_
 simp only [cQ9,nQ9]
 rw [← mbv_beg p inp a ⟨bm,bg,0,ba,Af2,nf,cf2,ng,0,ab⟩ _,show List.replicate ng (0:Int)=(begM p inp a).glo from by rw [hn1];rfl]
 have hCT:CT p (⟨bm,bg,0,ba,Af2,nf,cf2,ng,0,ab⟩:MC) s47:=⟨hFV,hca,hOK.sz,fun g hg=>(hU.1 g hg).1⟩
 have hMG:MG p (⟨bm,bg,0,ba,Af2,nf,cf2,ng,0,ab⟩:MC) a (begM p inp a) (.slice Ai ni qi) SN (arrL ab (arrs p)) s47:=beg_ok (ng:=ng) hOK hU (hI.le (h1.t h2|>.t h3|>.t h4|>.t h5|>.t h10|>.t h14|>.t I22.1|>.t I31.1|>.t h46|>.t h47)) O hn1 rfl hab (fun j y hy h3=>hak j y (by rw [hn1];exact (List.getElem?_eq_some_iff.1 hy).1) hy h3)
 refine Zr<|Zqm Z Z<|Zqm Z Z<|Jc Z Z Z (start_ac p D fuX (all_ok p D fuX).2.2 _ _ (⟨bm,bg,0,ba,Af2,nf,cf2,ng,0,ab⟩:MC) a mi0 xm (begM p inp a) _ _ _ _ _ _ hCT hxm hpm hMG (run_no p inp a mi0 O)) ?_
 rintro _ _ s48 h48 ⟨rfl,m9,st9,cd9,Z9,rfl,hF9,he9⟩
 refine Nt<|Zs<|?_
 obtain ⟨u0,u1,u2,u3,u4,u5,u6,u7,ov9,Mo9,K9,hp9,hO9,hlo9,hll9⟩:=hF9
 obtain ⟨Ao,co,rfl,_,_⟩:=Own.slice hO9
 refine JC_perm (pm26 hp9)<|Zr<|Zqm Z Z<|Zqni Z Z<|Wb Y5<|JO_q (QE_ldA 0 [_,_,_,_] Z Z Z Z Z) Z<|JO_q (QE_build [] [_,_] Z Z Z Z Z Z) Z<|Wt 3 [_,_,_,_] Y9<|Wt 2 [_,_] Y9<|Nt<|Zo<|?_
 refine retQ_mk [_,_,_,_,_] _ (.inr Z) (.agg (us:=[_,_,_,_]) 3 Z Z Z Z Z (.agg (us:=[_,_]) 2 Z Z Z Z Z (.nil))) Z (h1.t h2|>.t h3|>.t h4|>.t h5|>.t h10|>.t h14|>.t I22.1|>.t I31.1|>.t h46|>.t h47|>.t h48) (fun sR hS2=>?_)
 first
   | exact ⟨[],rfl,fun s2 hs2 hp=>⟨.agg #[.slice none 0 0,.int .i64 0,.int .u32 0,.int .i64 0],by rw [hE];rfl,none,0,0,by rw [hE];rfl,by rw [hE];exact Bts.nil _ _ _ O⟩⟩
   | (have hE:runR p inp (a:Int)=((m9.out,st9,cd9,a - m9.left),(0,0)):=by rw [hE0,runO_of hmf he9 (run_no p inp a mi0 O)]
      have hst:(a:Int) - (m9.left:Int)=((a - m9.left:Nat):Int):=by omega
      exact ⟨Mo9++K9,(List.append_assoc ..).symm,fun s2 hs2 hp=>⟨_,by rw [hE];rfl,Ao,_,co,by rw [hE,hst],by rw [hE];exact Own.bts hO9 fun b zs t hm=>hp b zs t (List.mem_append_left _ hm)⟩⟩)
theorem sameStrs_ac (D:Nat) (L:Hl) (s:World) (A:Option Addr) (n c:Nat) (l:List Str) (hA:Strs s A n c l) (A1:Option Addr) (n1 c1:Nat) (l1:List Str) (hB:Strs s A1 n1 c1 l1):AC Tryz.prog D 64 [.slice A n c,.slice A1 n1 c1] L s fun v L' _=>v=.bool (decide (l=l1))∧L=L':=by
 have hn:=hA.1
 have hc1:=hA.2.1
 have hc2:=hA.2.2.1
 have hn1:=hB.1
 refine AC_enter (TT:=TT) (fn:=Tryz.f64) TT_ok Tryz.func64 V Z Tryz.ntmps64 Z (rs:=[.tmp 4]) Z [(0,_),(1,_)] Z<|Sr<|At Z Z<|Zs<|Sr<|Zqm Z Z<|Ws Y4<|Zqm Z Z<|Ws Y4<|Zqne Z Z Z<|Nt<|?_
 refine JC_ifN Z (fun c1=>?_) (fun c1=>?_)
 ·
  refine Sr<|At Z Z<|Zo<|Zu<|?_
  refine retQ_mk [] L (.inr Z) (.tmp Z (.nil)) Z (Lr D) (fun sR hS2=>?_)
  refine ⟨?_,Z⟩
  have h0:l≠l1:=fun e=>by subst e;omega
  simp [resV,h0];done
 refine Zk<|Zt<|Zs<|Sr<|At Z Z<|Zp<|JC_loop (γ:=Nat) (fun k=>[(0,_),(1,_),(4,_),(5,.int .i64 (k:Int))]) (fun _=>_) (fun k tw=>Le D s tw∧(k≤n∧∀ i x,i < k→l[i]?=some x→l1[i]?=some x)) (fun k=>n - k) (fun _ _ _ h hl=>⟨h.1.trans hl,h.2⟩) 0 (.cons Z (.cons Z (.cons Z (.cons Z (.nil _))))) Z ⟨Le.refl _,⟨Nat.zero_le _,fun i c hi=>by omega⟩⟩ ?_
 intro k s2 I2
 have hk0:=I2.2.1
 have hI:=I2.2.2
 refine Zs<|Sr<|Zqm Z Z<|Zqm Z Z<|Ws Y4<|Zqlt Z Z Z<|Nt<|?_
 refine JC_ifD Z (fun c3=>?_) (fun c3=>?_)
 ·
  have hk:k < n:=by omega
  obtain ⟨b,off,x,rfl,hx,hcx,_⟩:=Strs.at_ (hA.le I2.1) hk
  obtain ⟨b1,off1,y,rfl,hy,hcy,_⟩:=Strs.at_ (hB.le I2.1) (show k < n1 by omega)
  refine Zk<|Zt<|Zs<|Zp<|Zs<|JC_draw drawsMixed 9 Z _ (fun _ h=>h) ?_
  intro s4 h4
  refine za 0 Z (QE_mv Z) Z<|za 1 Z (QE_mv Z) Z<|za 2 Z (QE_ia1 Z Z Z Z Z Z hk) Z<|za 3 Z (QE_ldsR0 Z Z Z (hcx.le h4) Z) Z<|za 4 Z (QE_mv Z) Z<|za 5 Z (QE_mv Z) Z<|za 6 Z (QE_ia1 Z Z Z Z Z Z (show k < n1 by omega)) Z<|za 7 Z (QE_ldsR0 Z Z Z (hcy.le h4) Z) Z<|za 8 Z (QE_sne Z Z) Z<|JA_done V<|Zt ?_
  refine JC_ifN Z (fun c5=>?_) (fun c5=>?_)
  ·
   have hE:x≠y:=by assumption
   refine Sr<|At Z Z<|Zo<|Zc<|Zu<|Zu<|Zc<|Zu<|?_
   refine retQ_mk [] L (.inr Z) (.tmp Z (.nil)) Z (I2.1.t h4) (fun sR hS2=>?_)
   refine ⟨?_,Z⟩
   have h0:l≠l1:=diff_lists hx hy hE
   simp [resV,h0];done
  have hE:x=y:=by simpa using c5
  refine Zk<|Zb<|Zt<|Zr<|Zqm Z Z<|Zqadd Z Z Z (w64 O O)<|Zqa Z Z<|Zn<|?_
  refine thenQ_n ⟨(k+1),[],kp,Z,⟨(I2.1.t h4),⟨by omega,below_succ hI hx (hE▸hy)⟩⟩,O⟩
 refine Zl<|Zv<|Zv<|Zd<|Zt<|Sr<|At Z Z<|Zo<|?_
 refine retQ_mk [] L (.inr Z) (.tmp Z (.nil)) Z I2.1 (fun sR hS2=>?_)
 refine ⟨?_,Z⟩
 have h0:l=l1:=same_lists O (fun i x hi h=>hI i x O h)
 simp [resV,h0];done
def SEC (D d:Nat):Prop:=∀ (L:Hl) (s:World) (d2:Nat) (A B:Option Addr) (n m c c2:Nat) (l:List Ex),Exs d s A n c l→Exs d2 s B m c2 l→AC Tryz.prog D 37 [.slice A n c,.slice B m c2] L s fun v L' _=>v=.bool true∧L=L'
def SSC (D d:Nat):Prop:=∀ (L:Hl) (s:World) (d2:Nat) (A B:Option Addr) (n m c c2:Nat) (l:List Stm),Stms d s A n c l→Stms d2 s B m c2 l→AC Tryz.prog D 65 [.slice A n c,.slice B m c2] L s fun v L' _=>v=.bool true∧L=L'
theorem sameX_step (D d:Nat) (ih:∀ e,d=e+1→SEC D e) (L:Hl) (s:World) (d2:Nat) (A B:Option Addr) (n m c c2:Nat) (l:List Ex) (hA:Exs d s A n c l) (hB:Exs d2 s B m c2 l):AC Tryz.prog D 37 [.slice A n c,.slice B m c2] L s fun v L' _=>v=.bool true∧L=L':=by
 have hn:=hA.1
 have hq1:=hA.2.1
 have hq2:=hA.2.2.1
 have hm:=hB.1
 obtain rfl:n=m:=by omega
 refine AC_enter (TT:=TT) (fn:=Tryz.f37) TT_ok Tryz.func37 V Z Tryz.ntmps37 Z (rs:=[.tmp 4]) Z [(0,_),(1,_)] Z<|Sr<|At Z Z<|Zs<|Sr<|Zqm Z Z<|Ws Y4<|Zqm Z Z<|Ws Y4<|JO_q (QE_cast (v':=.bool false) (QE_ne Z Z) (bF Z)) Z<|Nt<|Zz Z<|Zk<|Zt<|Zs<|Sr<|At Z Z<|Zp<|?_
 refine JC_loop (γ:=Nat) (fun k=>[(0,_),(1,_),(4,_),(5,.int .i64 (k:Int))]) (fun _=>_) (fun k tw=>Le D s tw∧(k≤n)) (fun k=>n - k) (fun _ _ _ h hl=>⟨h.1.trans hl,h.2⟩) 0 (.cons Z (.cons Z (.cons Z (.cons Z (.nil _))))) Z ⟨Le.refl _,Nat.zero_le _⟩ ?_
 intro k s1 I1
 have hk0:=I1.2
 refine Zs<|Sr<|Zqm Z Z<|Zqm Z Z<|Ws Y4<|Zqlt Z Z Z<|Nt<|?_
 refine JC_ifD Z (fun c2=>?_) (fun c2=>?_)
 ·
  have hk:k < n:=by omega
  obtain ⟨e,b,off,x,A1,n1,p1,hd,rfl,hx,hcx,hax,hux,hnl⟩:=Exs.at_ (hA.le I1.1) hk
  obtain ⟨e2,b2,off2,y,B1,m1,p2,hd2,rfl,hy,hcy,hay,huy,hny⟩:=Exs.at_ (hB.le I1.1) hk
  obtain rfl:x=y:=Option.some.inj (hx.symm.trans hy)
  refine Zk<|Zt<|Zs<|Zp<|Sr<|Zqm Z Z<|Zqm Z Z<|JO_q (QE_iaN Z Z Z Z Z Z hk) Z<|JO_q (QE_ldsA Z Z Z (hcx.le (Lr D)) Z) Z<|JO_allocZ Z [_,_,_,_,_] Z Z ?_
  intro β3 s3 h3
  refine Wt 0 [_,_,_,_,_] Y9<|Nt<|Sr<|Zqm Z Z<|Zqm Z Z<|JO_q (QE_iaN Z Z Z Z Z Z hk) Z<|JO_q (QE_ldsA Z Z Z (hcy.le h3) Z) Z<|JO_allocZ Z [_,_,_,_,_] Z Z ?_
  intro β4 s4 h4
  refine Wt 0 [_,_,_,_,_] Y9<|Nt<|Sr<|W0 Y5<|Wl 1 Y6<|W0 Y5<|Wl 0 Y6<|JO_q (QE_cast (v':=.bool false) (QE_ne Z Z) (bF Z)) Z<|Zqm Z Z<|Zg Z Z<|Wb Y5<|Zg Z Z<|Wl 1 Y6<|Zg Z Z<|Wb Y5<|Zg Z Z<|Wl 0 Y6<|Zg Z Z<|JO_q (QE_cast (v':=.bool false) (QE_ne Z Z) (bF Z)) Z<|ZqF Z Z Z<|Zqm Z Z<|Zg Z Z<|Wb Y5<|Zg Z Z<|Wl 1 Y6<|Zg Z Z<|Wb Y5<|Zg Z Z<|Wl 0 Y6<|Zg Z Z<|?_
  refine JO_q (QE_cast (v':=.bool false) (QE_ne Z Z) (bF Z)) Z<|ZqF Z Z Z<|Zqm Z Z<|Zg Z Z<|Wb Y5<|Zg Z Z<|Wl 1 Y6<|Zg Z Z<|Wb Y5<|Zg Z Z<|Wl 0 Y6<|Zg Z Z<|JO_q (QE_cast (v':=.bool false) (QE_sne Z Z) (bF Z)) Z<|ZqF Z Z Z<|Zqm Z Z<|Zg Z Z<|Wb Y5<|Zg Z Z<|Wl 1 Y6<|Zg Z Z<|Wb Y5<|Zg Z Z<|Wl 0 Y6<|Zg Z Z<|Jc Z Z Z (ih e hd _ _ e2 A1 B1 n1 m1 p1 p2 x.args (hax.le (h3.t h4)) (hay.le (h3.t h4))) ?_
  rintro _ _ s5 h5 ⟨rfl,rfl⟩
  refine Zg Z Z<|ZqnT Z Z<|ZqF Z Z Z<|Nt<|Zz Z<|Zk<|Zb<|Zt<|Zr<|Zqm Z Z<|Zqadd Z Z Z (w64 O O)<|Zqa Z Z<|Zn<|?_
  refine thenQ_n ⟨(k+1),[_,_],kp,Z,⟨(I1.1.t h3|>.t h4|>.t h5),(show k+1≤n by omega)⟩,O⟩
 refine Zl<|Zv<|Zv<|Zd<|Zt<|Sr<|At Z Z<|Zo<|?_
 refine retQ_mk [] L (.inr Z) (.tmp Z (.nil)) Z I1.1 (fun sR hS2=>?_)
 exact ⟨rfl,rfl⟩
theorem sameX_ac (D:Nat):∀ d,SEC D d
  | 0=>fun L s d2 A B n m c c2 l hA hB=>sameX_step D 0 (fun e h=>by omega) L s d2 A B n m c c2 l hA hB
  | d+1=>fun L s d2 A B n m c c2 l hA hB=>sameX_step D (d+1) (fun e h=>(show d=e by omega)▸sameX_ac D d) L s d2 A B n m c c2 l hA hB
theorem sameS_step (D d:Nat) (ih:∀ e,d=e+1→SSC D e) (L:Hl) (s:World) (d2:Nat) (A B:Option Addr) (n m c c2:Nat) (l:List Stm) (hA:Stms d s A n c l) (hB:Stms d2 s B m c2 l):AC Tryz.prog D 65 [.slice A n c,.slice B m c2] L s fun v L' _=>v=.bool true∧L=L':=by
 have hn:=hA.1
 have hq1:=hA.2.1
 have hq2:=hA.2.2.1
 have hm:=hB.1
 obtain rfl:n=m:=by omega
 refine AC_enter (TT:=TT) (fn:=Tryz.f65) TT_ok Tryz.func65 V Z Tryz.ntmps65 Z (rs:=[.tmp 4]) Z [(0,_),(1,_)] Z<|Sr<|At Z Z<|Zs<|Sr<|Zqm Z Z<|Ws Y4<|Zqm Z Z<|Ws Y4<|JO_q (QE_cast (v':=.bool false) (QE_ne Z Z) (bF Z)) Z<|Nt<|Zz Z<|Zk<|Zt<|Zs<|Sr<|At Z Z<|Zp<|?_
 refine JC_loop (γ:=Nat) (fun k=>[(0,_),(1,_),(4,_),(5,.int .i64 (k:Int))]) (fun _=>_) (fun k tw=>Le D s tw∧(k≤n)) (fun k=>n - k) (fun _ _ _ h hl=>⟨h.1.trans hl,h.2⟩) 0 (.cons Z (.cons Z (.cons Z (.cons Z (.nil _))))) Z ⟨Le.refl _,Nat.zero_le _⟩ ?_
 intro k s1 I1
 have hk0:=I1.2
 refine Zs<|Sr<|Zqm Z Z<|Zqm Z Z<|Ws Y4<|Zqlt Z Z Z<|Nt<|?_
 refine JC_ifD Z (fun c2=>?_) (fun c2=>?_)
 ·
  have hk:k < n:=by omega
  obtain ⟨e,b,off,x,A1,n1,p1,A2,n2,p2,A3,n3,p3,hd,rfl,hx,hcx,ha1,ha2,ha3,hnl⟩:=Stms.at_ (hA.le I1.1) hk
  obtain ⟨e2,b2,off2,y,B1,m1,u1,B2,m2,u2,B3,m3,u3,hd2,rfl,hy,hcy,hb1,hb2,hb3,hny⟩:=Stms.at_ (hB.le I1.1) hk
  obtain rfl:x=y:=Option.some.inj (hx.symm.trans hy)
  refine Zk<|Zt<|Zs<|Zp<|Sr<|Zqm Z Z<|Zqm Z Z<|JO_q (QE_iaN Z Z Z Z Z Z hk) Z<|JO_q (QE_ldsA Z Z Z (hcx.le (Lr D)) Z) Z<|JO_allocZ Z [_,_,_,_,_] Z Z ?_
  intro β3 s3 h3
  refine Wt 0 [_,_,_,_,_] Y9<|Nt<|Sr<|Zqm Z Z<|Zqm Z Z<|JO_q (QE_iaN Z Z Z Z Z Z hk) Z<|JO_q (QE_ldsA Z Z Z (hcy.le h3) Z) Z<|JO_allocZ Z [_,_,_,_,_] Z Z ?_
  intro β4 s4 h4
  refine Wt 0 [_,_,_,_,_] Y9<|Nt<|Sr<|W0 Y5<|Wl 1 Y6<|W0 Y5<|Wl 0 Y6<|JO_q (QE_cast (v':=.bool false) (QE_ne Z Z) (bF Z)) Z<|Zqm Z Z<|Zg Z Z<|Wb Y5<|Zg Z Z<|Wl 1 Y6<|Zg Z Z<|Wb Y5<|Zg Z Z<|Wl 0 Y6<|Zg Z Z<|JO_q (QE_cast (v':=.bool false) (QE_sne Z Z) (bF Z)) Z<|ZqF Z Z Z<|Zqm Z Z<|Zg Z Z<|Wb Y5<|Zg Z Z<|Wl 1 Y6<|Zg Z Z<|Wb Y5<|Zg Z Z<|Wl 0 Y6<|Zg Z Z<|?_
  refine Jc Z Z Z (sameX_ac D e _ _ e2 A1 B1 n1 m1 p1 u1 x.exprs (ha1.le (h3.t h4)) (hb1.le (h3.t h4))) ?_
  rintro _ _ s5 h5 ⟨rfl,rfl⟩
  refine Zg Z Z<|ZqnT Z Z<|ZqF Z Z Z<|Zqm Z Z<|Zg Z Z<|Wb Y5<|Zg Z Z<|Wl 1 Y6<|Zg Z Z<|Wb Y5<|Zg Z Z<|Wl 0 Y6<|Zg Z Z<|Jc Z Z Z (ih e hd _ _ e2 A2 B2 n2 m2 p2 u2 x.body (ha2.le (h3.t h4|>.t h5)) (hb2.le (h3.t h4|>.t h5))) ?_
  rintro _ _ s6 h6 ⟨rfl,rfl⟩
  refine Zg Z Z<|ZqnT Z Z<|ZqF Z Z Z<|Zqm Z Z<|Zg Z Z<|Wb Y5<|Zg Z Z<|Wl 1 Y6<|Zg Z Z<|Wb Y5<|Zg Z Z<|Wl 0 Y6<|Zg Z Z<|Jc Z Z Z (ih e hd _ _ e2 A3 B3 n3 m3 p3 u3 x.els (ha3.le (h3.t h4|>.t h5|>.t h6)) (hb3.le (h3.t h4|>.t h5|>.t h6))) ?_
  rintro _ _ s7 h7 ⟨rfl,rfl⟩
  refine Zg Z Z<|ZqnT Z Z<|ZqF Z Z Z<|Nt<|Zz Z<|Zk<|Zb<|Zt<|Zr<|Zqm Z Z<|Zqadd Z Z Z (w64 O O)<|Zqa Z Z<|Zn<|?_
  refine thenQ_n ⟨(k+1),[_,_],kp,Z,⟨(I1.1.t h3|>.t h4|>.t h5|>.t h6|>.t h7),(show k+1≤n by omega)⟩,O⟩
 refine Zl<|Zv<|Zv<|Zd<|Zt<|Sr<|At Z Z<|Zo<|?_
 refine retQ_mk [] L (.inr Z) (.tmp Z (.nil)) Z I1.1 (fun sR hS2=>?_)
 exact ⟨rfl,rfl⟩
theorem sameS_ac (D:Nat):∀ d,SSC D d
  | 0=>fun L s d2 A B n m c c2 l hA hB=>sameS_step D 0 (fun e h=>by omega) L s d2 A B n m c c2 l hA hB
  | d+1=>fun L s d2 A B n m c c2 l hA hB=>sameS_step D (d+1) (fun e h=>(show d=e by omega)▸sameS_ac D d) L s d2 A B n m c c2 l hA hB
theorem sameP_ac (D:Nat) (L:Hl) (s:World) (d:Nat) (p:Prg) (Ag Af:Option Addr) (ng cg nf cf:Nat) (hGl:Glos s Ag ng cg p.globals) (hFn:Fncs d s Af nf cf p.funcs) (d2:Nat) (Bg Bf:Option Addr) (mg eg mf ef:Nat) (hGl2:Glos s Bg mg eg p.globals) (hFn2:Fncs d2 s Bf mf ef p.funcs):AC Tryz.prog D 36 [.agg #[.slice Ag ng cg,.slice Af nf cf],.agg #[.slice Bg mg eg,.slice Bf mf ef]] L s fun v L' _=>v=.bool true∧L=L':=by
 have hn:=hGl.1
 have hq1:=hGl.2.1
 have hq2:=hGl.2.2.1
 have hm:=hGl2.1
 obtain rfl:ng=mg:=by omega
 have hn3:=hFn.1
 have hq3:=hFn.2.1
 have hq4:=hFn.2.2.1
 have hm2:=hFn2.1
 obtain rfl:nf=mf:=by omega
 refine AC_enter (TT:=TT) (fn:=Tryz.f36) TT_ok Tryz.func36 V Z Tryz.ntmps36 Z (rs:=[.tmp 4]) Z [(0,_),(1,_)] Z<|Sr<|JO_boxA Z Z ?_
 intro β1 s1 h1
 refine JO_boxA Z Z ?_
 intro β2 s2 h2
 refine At Z Z<|Zs<|Sr<|W0 Y5<|Wl 1 Y6<|Ws Y4<|W0 Y5<|Wl 0 Y6<|Ws Y4<|JO_q (QE_cast (v':=.bool false) (QE_ne Z Z) (bF Z)) Z<|Zqm Z Z<|Zg Z Z<|Wb Y5<|Zg Z Z<|Wl 1 Y6<|Zg Z Z<|Ws Y4<|Zg Z Z<|Wb Y5<|Zg Z Z<|Wl 0 Y6<|Zg Z Z<|Ws Y4<|Zg Z Z<|JO_q (QE_cast (v':=.bool false) (QE_ne Z Z) (bF Z)) Z<|ZqF Z Z Z<|Nt<|Zz Z<|Zk<|Zt<|Zs<|Sr<|At Z Z<|Zp ?_
 refine JC_loop (γ:=Nat) (fun k=>[(2,_),(3,_),(4,_),(5,.int .i64 (k:Int))]) (fun _=>_) (fun k tw=>Le D s2 tw∧(k≤ng)) (fun k=>ng - k) (fun _ _ _ h hl=>⟨h.1.trans hl,h.2⟩) 0 (.cons Z (.cons Z (.cons Z (.cons Z (.nil _))))) Z ⟨Le.refl _,Nat.zero_le _⟩ ?_
 intro k s3 I3
 have hk0:=I3.2
 refine Zs<|Sr<|Zqm Z Z<|W0 Y5<|Wl 1 Y6<|Ws Y4<|Zqlt Z Z Z<|Nt<|?_
 refine JC_ifD Z (fun c4=>?_) (fun c4=>?_)
 ·
  have hk:k < ng:=by omega
  obtain ⟨b,off,x,A1,n1,p1,rfl,hx,hcx,hax,hux,hnl⟩:=Glos.at_ (hGl.le (h1.t h2|>.t I3.1)) hk
  obtain ⟨b2,off2,y,B1,m1,p2,rfl,hy,hcy,hay,huy,hny⟩:=Glos.at_ (hGl2.le (h1.t h2|>.t I3.1)) hk
  obtain rfl:x=y:=Option.some.inj (hx.symm.trans hy)
  refine Zk<|Zt<|Zs<|Zp<|Sr<|W0 Y5<|Wl 1 Y6<|Zqm Z Z<|JO_q (QE_iaN Z Z Z Z Z Z hk) Z<|JO_q (QE_ldsA Z Z Z (hcx.le (Lr D)) Z) Z<|JO_allocZ Z [_,_,_,_] Z Z ?_
  intro β5 s5 h5
  refine Wt 0 [_,_,_,_] Y9<|Nt<|Sr<|W0 Y5<|Wl 1 Y6<|Zqm Z Z<|JO_q (QE_iaN Z Z Z Z Z Z hk) Z<|JO_q (QE_ldsA Z Z Z (hcy.le h5) Z) Z<|JO_allocZ Z [_,_,_,_] Z Z ?_
  intro β6 s6 h6
  refine Wt 0 [_,_,_,_] Y9<|Nt<|Sr<|W0 Y5<|Wl 1 Y6<|W0 Y5<|Wl 0 Y6<|JO_q (QE_cast (v':=.bool false) (QE_ne Z Z) (bF Z)) Z<|Zqm Z Z<|Zg Z Z<|Wb Y5<|Zg Z Z<|Wl 1 Y6<|Zg Z Z<|Wb Y5<|Zg Z Z<|Wl 0 Y6<|Zg Z Z<|JO_q (QE_cast (v':=.bool false) (QE_sne Z Z) (bF Z)) Z<|ZqF Z Z Z<|Zqm Z Z<|Zg Z Z<|Wb Y5<|Zg Z Z<|Wl 1 Y6<|Zg Z Z<|Wb Y5<|Zg Z Z<|Wl 0 Y6<|Zg Z Z<|?_
  refine JO_q (QE_cast (v':=.bool false) (QE_ne Z Z) (bF Z)) Z<|ZqF Z Z Z<|Zqm Z Z<|Zg Z Z<|Wb Y5<|Zg Z Z<|Wl 1 Y6<|Zg Z Z<|Wb Y5<|Zg Z Z<|Wl 0 Y6<|Zg Z Z<|Jc Z Z Z (AC.isT (sameWords_ac D _ _ A1 n1 p1 x.init (hax.le (h5.t h6)) B1 m1 p2 x.init (hay.le (h5.t h6))) Z) ?_
  rintro _ _ s7 h7 ⟨rfl,rfl⟩
  refine Zg Z Z<|ZqnT Z Z<|ZqF Z Z Z<|Nt<|Zz Z<|Zk<|Zb<|Zt<|Zr<|Zqm Z Z<|Zqadd Z Z Z (w64 O O)<|Zqa Z Z<|Zn<|?_
  refine thenQ_n ⟨(k+1),[_,_],kp,Z,⟨(I3.1.t h5|>.t h6|>.t h7),(show k+1≤ng by omega)⟩,O⟩
 refine Zl<|Zv<|Zv<|Zd<|Zt<|Zs<|Sr<|At Z Z<|Zp<|JC_loop (γ:=Nat) (fun k=>[(2,_),(3,_),(4,_),(8,.int .i64 (k:Int))]) (fun _=>_) (fun k tw=>Le D s3 tw∧(k≤nf)) (fun k=>nf - k) (fun _ _ _ h hl=>⟨h.1.trans hl,h.2⟩) 0 (.cons Z (.cons Z (.cons Z (.cons Z (.nil _))))) Z ⟨Le.refl _,Nat.zero_le _⟩ ?_
 intro k s8 I8
 have hk0:=I8.2
 refine Zs<|Sr<|Zqm Z Z<|Wb Y5<|Wl 1 Y6<|Ws Y4<|Zqlt Z Z Z<|Nt<|?_
 refine JC_ifD Z (fun c9=>?_) (fun c9=>?_)
 ·
  have hk:k < nf:=by omega
  obtain ⟨b,off,x,A1,n1,p1,A2,n2,p2,A3,n3,p3,rfl,hx,hcx,ha1,ha2,ha3,hnl⟩:=Fncs.at_ (hFn.le (h1.t h2|>.t I3.1|>.t I8.1)) hk
  obtain ⟨b2,off2,y,B1,m1,u1,B2,m2,u2,B3,m3,u3,rfl,hy,hcy,hb1,hb2,hb3,hny⟩:=Fncs.at_ (hFn2.le (h1.t h2|>.t I3.1|>.t I8.1)) hk
  obtain rfl:x=y:=Option.some.inj (hx.symm.trans hy)
  refine Zk<|Zt<|Zs<|Zp<|Sr<|Wb Y5<|Wl 1 Y6<|Zqm Z Z<|JO_q (QE_iaN Z Z Z Z Z Z hk) Z<|JO_q (QE_ldsA Z Z Z (hcx.le (Lr D)) Z) Z<|JO_allocZ Z [_,_,_,_] Z Z ?_
  intro β10 s10 h10
  refine Wt 0 [_,_,_,_] Y9<|Nt<|Sr<|Wb Y5<|Wl 1 Y6<|Zqm Z Z<|JO_q (QE_iaN Z Z Z Z Z Z hk) Z<|JO_q (QE_ldsA Z Z Z (hcy.le h10) Z) Z<|JO_allocZ Z [_,_,_,_] Z Z ?_
  intro β11 s11 h11
  refine Wt 0 [_,_,_,_] Y9<|Nt<|Sr<|W0 Y5<|Wl 1 Y6<|W0 Y5<|Wl 0 Y6<|JO_q (QE_cast (v':=.bool false) (QE_sne Z Z) (bF Z)) Z<|Zqm Z Z<|Zg Z Z<|Wb Y5<|Zg Z Z<|Wl 1 Y6<|Zg Z Z<|Wb Y5<|Zg Z Z<|Wl 0 Y6<|Zg Z Z<|Jc Z Z Z (AC.isT (sameStrs_ac D _ _ A1 n1 p1 x.params (ha1.le (h10.t h11)) B1 m1 u1 x.params (hb1.le (h10.t h11))) Z) ?_
  rintro _ _ s12 h12 ⟨rfl,rfl⟩
  refine Zg Z Z<|ZqnT Z Z<|ZqF Z Z Z<|Zqm Z Z<|Zg Z Z<|Wb Y5<|Zg Z Z<|Wl 1 Y6<|Zg Z Z<|Wb Y5<|Zg Z Z<|Wl 0 Y6<|Zg Z Z<|Jc Z Z Z (AC.isT (sameStrs_ac D _ _ A2 n2 p2 x.locals (ha2.le (h10.t h11|>.t h12)) B2 m2 u2 x.locals (hb2.le (h10.t h11|>.t h12))) Z) ?_
  rintro _ _ s13 h13 ⟨rfl,rfl⟩
  refine Zg Z Z<|ZqnT Z Z<|ZqF Z Z Z<|Zqm Z Z<|Zg Z Z<|Wb Y5<|Zg Z Z<|Wl 1 Y6<|Zg Z Z<|Wb Y5<|Zg Z Z<|Wl 0 Y6<|Zg Z Z<|Jc Z Z Z (sameS_ac D d _ _ d2 A3 B3 n3 m3 p3 u3 x.body (ha3.le (h10.t h11|>.t h12|>.t h13)) (hb3.le (h10.t h11|>.t h12|>.t h13))) ?_
  rintro _ _ s14 h14 ⟨rfl,rfl⟩
  refine Zg Z Z<|ZqnT Z Z<|ZqF Z Z Z<|Nt<|Zz Z<|Zk<|Zb<|Zt<|Zr<|Zqm Z Z<|Zqadd Z Z Z (w64 O O)<|Zqa Z Z<|Zn<|?_
  refine thenQ_n ⟨(k+1),[_,_],kp,Z,⟨(I8.1.t h10|>.t h11|>.t h12|>.t h13|>.t h14),(show k+1≤nf by omega)⟩,O⟩
 refine Zl<|Zv<|Zv<|Zd<|Zt<|Sr<|At Z Z<|Zo<|?_
 refine retQ_mk [_,_] L (.inr Z) (.tmp Z (.nil)) Z (h1.t h2|>.t I3.1|>.t I8.1) (fun sR hS2=>?_)
 exact ⟨rfl,rfl⟩
theorem exs_nil (d:Nat) (s:World):Exs d s none 0 0 []:=⟨rfl,Nat.le_refl _,by omega,fun i x h=>by cases h⟩
theorem stms_nil (d:Nat) (s:World):Stms d s none 0 0 []:=⟨rfl,Nat.le_refl _,by omega,fun i x h=>by cases h⟩
theorem strs_nil (s:World):Strs s none 0 0 []:=⟨rfl,Nat.le_refl _,by omega,fun i x h=>by cases h⟩
theorem wds_nil (s:World):Wds s none 0 0 []:=⟨rfl,Nat.le_refl _,by omega,fun i x h=>by cases h⟩
def getX:Ex:=.mk 5 0 0 [] []
def nX:Ex:=.mk 2 0 0 [110] []
def mulX:Ex:=.mk 7 4 0 [] [nX,.mk 1 0 2 [] []]
def sumX:Ex:=.mk 7 10 0 [] [getX,mulX]
def sumD:Ex:=.mk 7 10 0 [] [getX,.mk 1 0 6 [] []]
def smallQ:Prg:=⟨smallP.globals,smallP.funcs++[⟨[102],[],[],[]⟩]⟩
def smallM:Fnc:=⟨mainW,[],[],[.mk 7 [] [sumX] [] []]⟩
theorem ex_row {d:Nat} {s:World} {k o n:Int} {nm:Str} {A:Option Addr} {m c:Nat} {l:List Ex} (h:Exs d s A m c l) (hn:U32 n) (hl:nm.length≤1000):([.int .i64 k,.int .i64 o,.int .u32 n,St nm,.slice A m c]:List Value).length=5∧ExR (d+1) s (.mk k o n nm l) [.int .i64 k,.int .i64 o,.int .u32 n,St nm,.slice A m c]:=⟨rfl,A,m,c,rfl,h,hn,show nm.length≤9223372036854775807 by omega⟩
theorem small_of {s:World} {b1 b2 b3 b4 b5 b6:Nat} (h1:CellsAt s b1 0 [.int .i64 2,.int .i64 0,.int .u32 0,St [110],.slice none 0 0,.int .i64 1,.int .i64 0,.int .u32 2,St [],.slice none 0 0])
    (h2:CellsAt s b2 0 [.int .i64 5,.int .i64 0,.int .u32 0,St [],.slice none 0 0,.int .i64 7,.int .i64 4,.int .u32 0,St [],.slice (some ⟨b1,0,none⟩) 2 2])
    (h3:CellsAt s b3 0 [.int .i64 1,St [110],.int .u32 3,.slice none 0 0]) (h4:CellsAt s b4 0 [.int .i64 7,.int .i64 10,.int .u32 0,St [],.slice (some ⟨b2,0,none⟩) 2 2])
    (h5:CellsAt s b5 0 [.int .i64 7,St [],.slice (some ⟨b4,0,none⟩) 1 1,.slice none 0 0,.slice none 0 0]) (h6:CellsAt s b6 0 [St mainW,.slice none 0 0,.slice none 0 0,.slice (some ⟨b5,0,none⟩) 1 1]) :
    Glos s (some ⟨b3,0,none⟩) 1 1 smallP.globals∧Fncs 5 s (some ⟨b6,0,none⟩) 1 1 smallP.funcs:=by
  have z:U32 0:=⟨by decide,by decide⟩
  have e1:Exs 2 s (some ⟨b1,0,none⟩) 2 2 [nX,.mk 1 0 2 [] []]:=Sl.lit [[_,_,_,_,_],[_,_,_,_,_]] h1 rfl (.cons (ex_row (exs_nil 1 s) z (by decide)) (.cons (ex_row (exs_nil 1 s) ⟨by decide,by decide⟩ (by decide)) .nil)) 2 rfl O
  have e2:Exs 3 s (some ⟨b2,0,none⟩) 2 2 [getX,mulX]:=Sl.lit [[_,_,_,_,_],[_,_,_,_,_]] h2 rfl (.cons (ex_row (exs_nil 2 s) z (by decide)) (.cons (ex_row e1 z (by decide)) .nil)) 2 rfl O
  have e3:Exs 4 s (some ⟨b4,0,none⟩) 1 1 [sumX]:=Sl.lit [[_,_,_,_,_]] h4 rfl (.cons (ex_row e2 z (by decide)) .nil) 1 rfl O
  have e4:Stms 5 s (some ⟨b5,0,none⟩) 1 1 [.mk 7 [] [sumX] [] []]:=Sl.lit [[_,_,_,_,_]] h5 rfl (.cons ⟨rfl,_,_,_,_,_,_,_,_,_,rfl,e3,stms_nil 4 s,stms_nil 4 s,by decide⟩ .nil) 1 rfl O
  exact ⟨Sl.lit [[_,_,_,_]] h3 rfl (.cons ⟨rfl,_,_,_,rfl,wds_nil s,⟨by decide,by decide⟩,by decide⟩ .nil) 1 rfl O,
    Sl.lit [[_,_,_,_]] h6 rfl (.cons ⟨rfl,_,_,_,_,_,_,_,_,_,rfl,strs_nil s,strs_nil s,e4,by decide⟩ .nil) 1 rfl O⟩
theorem sumD_of {s:World} {b1 b2:Nat} (h1:CellsAt s b1 0 [.int .i64 5,.int .i64 0,.int .u32 0,St [],.slice none 0 0,.int .i64 1,.int .i64 0,.int .u32 6,St [],.slice none 0 0]) (h2:CellsAt s b2 0 [.int .i64 7,.int .i64 10,.int .u32 0,St [],.slice (some ⟨b1,0,none⟩) 2 2]):Exs 3 s (some ⟨b2,0,none⟩) 1 1 [sumD]:=by
  have e1:Exs 2 s (some ⟨b1,0,none⟩) 2 2 [getX,.mk 1 0 6 [] []]:=Sl.lit [[_,_,_,_,_],[_,_,_,_,_]] h1 rfl (.cons (ex_row (exs_nil 1 s) ⟨by decide,by decide⟩ (by decide)) (.cons (ex_row (exs_nil 1 s) ⟨by decide,by decide⟩ (by decide)) .nil)) 2 rfl O
  exact Sl.lit [[_,_,_,_,_]] h2 rfl (.cons (ex_row e1 ⟨by decide,by decide⟩ (by decide)) .nil) 1 rfl O
theorem smallQ_of {s:World} {g c:Nat} {A1 A2 A3:Option Addr} {n1 c1 n2 c2 n3 c3:Nat} (h:CellsAt s g 0 [St mainW,.slice A1 n1 c1,.slice A2 n2 c2,.slice A3 n3 c3,St [102],.slice none 0 0,.slice none 0 0,.slice none 0 0]) (h1:Strs s A1 n1 c1 []) (h2:Strs s A2 n2 c2 []) (h3:Stms 5 s A3 n3 c3 smallM.body) (hc:2≤c) (hc2:c≤9223372036854775807):Fncs 5 s (some ⟨g,0,none⟩) 2 c smallQ.funcs:=by
  have:=(Sl.lit (sz:=4) (R:=FnR 5) (l:=smallQ.funcs) [[_,_,_,_],[_,_,_,_]] h rfl (.cons ⟨rfl,_,_,_,_,_,_,_,_,_,rfl,h1,h2,h3,by decide⟩ (.cons ⟨rfl,_,_,_,_,_,_,_,_,_,rfl,strs_nil s,strs_nil s,stms_nil 5 s,by decide⟩ .nil)) 2 rfl O)
  exact ⟨this.1,hc,hc2,this.2.2.2⟩
theorem sm_K:chkF smallP=(0,0):=by decide +kernel
theorem sm_KQ:chkF smallQ=(0,0):=by decide +kernel
theorem sm_R:resP smallP 0 [110]=((3,0),(0,0)):=by decide +kernel
theorem sm_C:callsP smallP=[smallM]:=if_neg (by rw [sm_K];decide)
theorem sm_M4:msP smallP smallM 4=[]:=by
  refine List.eq_nil_iff_forall_not_mem.2 fun i hi=>?_
  obtain ⟨nd,h1,h2⟩:=((msP_spec smallP smallM 4).2 i).1 hi
  have:∀ nd∈ndSs smallM.body 0,mnI smallP smallM 4 nd=[]:=by decide +kernel
  rw [this nd h1] at h2;cases h2
theorem sm_F:(foldR smallP).2=(0,0):=by decide +kernel
theorem sm_F1:(foldR smallP).1.funcs=[⟨mainW,[],[],[.mk 7 [] [sumD] [] []]⟩]:=by kernel_rfl
theorem sm_O:(oprF 11 2).1=0∧(oprF 11 2).2=0∧opP 11 1 2=4294967295:=by decide +kernel
theorem sm_Z:(oprF 6 0).1=26∧(oprF 6 0).2=-3:=by decide +kernel
theorem sm_T {q:Prg} (h:TrimR smallQ q):q=smallP:=by
  rcases h with ⟨h1,_⟩ | ⟨_,F,G,⟨hF,hG,mi,hm,hmi,hj,hg⟩,rfl⟩
  · rw [sm_KQ] at h1;exact absurd rfl h1
  have h0:mainF smallQ.funcs=0:=by decide +kernel
  obtain rfl:0=mi:=by omega
  obtain ⟨a,b,rfl⟩:∃ a b,F=[a,b]:=by match F,hF with | [a,b],_=>exact ⟨a,b,rfl⟩
  obtain ⟨c,rfl⟩:∃ c,G=[c]:=by match G,hG with | [c],_=>exact ⟨c,rfl⟩
  have ha:a=true:=by simpa using (hj 0).2 (.refl 0)
  have hb:b=false:=by
    cases hb:b with
    | false=>rfl
    | true=>
      have:=(hj 1).1 (by rw [hb];rfl)
      cases this with
      | step hc _=>
        obtain ⟨x,hx,hk⟩:=hc
        obtain ⟨nd,h1,h2⟩:=((msP_spec smallQ x 4).2 _).1 hk
        obtain rfl:smallM=x:=Option.some.inj hx
        have:∀ nd∈ndSs smallM.body 0,mnI smallQ smallM 4 nd=[]:=by decide +kernel
        rw [this nd h1] at h2;cases h2
  have hc:c=true:=by
    have:∃ nd∈ndSs smallM.body 0,(0:Int)∈mnI smallQ smallM 3 nd:=by decide +kernel
    simpa using (hg 0).2 ⟨0,by rw [ha];rfl,smallM,rfl,((msP_spec smallQ smallM 3).2 _).2 this⟩
  subst ha hb hc
  rfl
theorem fold_at {s:World} {A:Option Addr} {n c:Nat} (h:Fncs 5 s A n c [⟨mainW,[],[],[.mk 7 [] [sumD] [] []]⟩]):n=1∧∃ b off A1 n1 c1 A2 n2 c2 b2 o2 c3,A=some ⟨b,off,none⟩∧CellsAt s b (off+0 * 4) [St mainW,.slice A1 n1 c1,.slice A2 n2 c2,.slice (some ⟨b2,o2,none⟩) 1 c3] ∧
    ∃ A4 n4 c4 A5 n5 c5 A6 n6 c6,CellsAt s b2 (o2+0 * 5) [.int .i64 7,St [],.slice A4 n4 c4,.slice A5 n5 c5,.slice A6 n6 c6]∧Exs 4 s A4 n4 c4 [sumD]:=by
  have hn:n=1:=h.1
  subst hn
  obtain ⟨b,off,x,A1,n1,c1,A2,n2,c2,A3,n3,c3,rfl,hx,hc,_,_,hB,_⟩:=Fncs.at_ h (show 0 < 1 by decide)
  obtain rfl:=Option.some.inj hx
  have hn3:n3=1:=hB.1
  subst hn3
  obtain ⟨e,b2,o2,y,A4,n4,c4,A5,n5,c5,A6,n6,c6,he,rfl,hy,hc2,hE,_,_,_⟩:=Stms.at_ hB (show 0 < 1 by decide)
  obtain rfl:=Option.some.inj hy
  obtain rfl:4=e:=by omega
  exact ⟨rfl,b,off,A1,n1,c1,A2,n2,c2,b2,o2,c3,rfl,hc,A4,n4,c4,A5,n5,c5,A6,n6,c6,hc2,hE⟩
theorem num9_ac (D:Nat) (L:Hl) (s:World) (n:Int):AC Tryz.prog D 35 [.int .u32 n] L s fun v L' _=>v=.agg #[.int .i64 1,.int .i64 0,.int .u32 n,St [],.slice none 0 0]∧L=L':=by
 refine AC_enter (TT:=TT) (fn:=Tryz.f35) TT_ok Tryz.func35 V Z Tryz.ntmps35 Z (rs:=[.cell 2 89]) Z [(0,_)] Z<|Sr<|JO_allocZ Z [_,_,_,_,_] Z Z ?_
 intro β1 s1 h1
 refine Nt<|Sr<|Zqm Z Z<|JO_q (QE_build [(_,_),(_,_)] [_,_,_,_,_] Z Z Z Z Z Z) Z<|Wt 0 [_,_,_,_,_] Y9<|Nt<|Zo<|?_
 refine retQ_mk [_] L (.inr Z) (.agg (us:=[_,_,_,_,_]) 0 Z Z Z Z Z (.nil)) Z h1 (fun sR hS2=>?_)
 exact ⟨rfl,rfl⟩
theorem smallO_ac (D:Nat) (L:Hl) (s:World):AC Tryz.prog D 19 [] L s fun v L' s'=>∃ M',L'=M'++L∧∀ s2,Le D s' s2→Pub M' s2→∃ bg bf,v=.agg #[.slice (some ⟨bg,0,none⟩) 1 1,.slice (some ⟨bf,0,none⟩) 1 1]∧Glos s2 (some ⟨bg,0,none⟩) 1 1 smallP.globals∧Fncs 5 s2 (some ⟨bf,0,none⟩) 1 1 smallP.funcs:=by
 refine AC_enter (TT:=TT) (fn:=Tryz.f19) TT_ok Tryz.func19 V Z Tryz.ntmps19 Z (rs:=[.cell 0 25]) Z [] Z<|Sr<|JO_allocZ Z [_,_] Z Z ?_
 intro β1 s1 h1
 refine Nt<|Sr<|JO_q (QE_build [(_,_),(_,_)] [_,_,_,_,_] Z Z Z Z Z Z) Z<|Jc Z Z Z (num9_ac D _ _ 2) ?_
 rintro _ _ s2 h2 ⟨rfl,rfl⟩
 refine JO_bs [(_,_),(_,_)] [_,_,_,_,_,_,_,_,_,_] Z Z Z Z Z Z Z Z Z ?_
 intro βa s3 h3 hca
 refine JO_q (QE_build [(_,_),(_,_),(_,_)] [_,_,_,_,_] Z Z Z Z Z Z) Z<|JO_allocZ Z [_,_,_,_,_] Z Z ?_
 intro β4 s4 h4
 refine Wt 0 [_,_,_,_,_] Y9<|Nt<|Sr<|JO_q (QE_build [(_,_)] [_,_,_,_,_] Z Z Z Z Z Z) Z<|JO_q (QE_ldA 0 [_,_,_,_,_] Z Z Z Z Z) Z<|JO_bs [(_,_),(_,_)] [_,_,_,_,_,_,_,_,_,_] Z Z Z Z Z Z Z Z Z ?_
 intro βb s5 h5 hcb
 refine JO_q (QE_build [(_,_),(_,_),(_,_)] [_,_,_,_,_] Z Z Z Z Z Z) Z<|JO_allocZ Z [_,_,_,_,_] Z Z ?_
 intro β6 s6 h6
 refine Wt 0 [_,_,_,_,_] Y9<|Nt<|Sr<|JO_q (QE_build [(_,_),(_,_),(_,_)] [_,_,_,_] Z Z Z Z Z Z) Z<|JO_bs [(_,_)] [_,_,_,_] Z Z Z Z Z Z Z Z Z ?_
 intro βc s7 h7 hcc
 refine JO_q (QE_ldA 0 [_,_,_,_,_] Z Z Z Z Z) Z<|JO_bs [(_,_)] [_,_,_,_,_] Z Z Z Z Z Z Z Z Z ?_
 intro βd s8 h8 hcd
 refine JO_q (QE_build [(_,_),(_,_)] [_,_,_,_,_] Z Z Z Z Z Z) Z<|JO_bs [(_,_)] [_,_,_,_,_] Z Z Z Z Z Z Z Z Z ?_
 intro βe s9 h9 hce
 refine JO_q (QE_build [(_,_),(_,_)] [_,_,_,_] Z Z Z Z Z Z) Z<|JO_bs [(_,_)] [_,_,_,_] Z Z Z Z Z Z Z Z Z ?_
 intro βf s10 h10 hcf
 refine JO_q (QE_build [(_,_),(_,_)] [_,_] Z Z Z Z Z Z) Z<|Wt 2 [_,_] Y9<|Nt<|Zo<|?_
 refine retQ_mk [_,_,_] _ (.inr Z) (.agg (us:=[_,_]) 2 Z Z Z Z Z (.nil)) Z (h1.t h2|>.t h3|>.t h4|>.t h5|>.t h6|>.t h7|>.t h8|>.t h9|>.t h10) (fun sR hS2=>?_)
 exact ⟨[],rfl,fun s2 hs2 hp=>⟨_,_,rfl,small_of (hca.le (h4.t h5|>.t h6|>.t h7|>.t h8|>.t h9|>.t h10|>.t (hS2.t hs2))) (hcb.le (h6.t h7|>.t h8|>.t h9|>.t h10|>.t (hS2.t hs2))) (hcc.le (h8.t h9|>.t h10|>.t (hS2.t hs2))) (hcd.le (h9.t h10|>.t (hS2.t hs2))) (hce.le (h10.t (hS2.t hs2))) (hcf.le ((Lr D).t (hS2.t hs2)))⟩⟩
theorem smallP_ac (D:Nat) (L:Hl) (s:World):AC Tryz.prog D 19 [] L s fun v L' s'=>L=L'∧∃ bg bf,v=.agg #[.slice (some ⟨bg,0,none⟩) 1 1,.slice (some ⟨bf,0,none⟩) 1 1]∧Glos s' (some ⟨bg,0,none⟩) 1 1 smallP.globals∧Fncs 5 s' (some ⟨bf,0,none⟩) 1 1 smallP.funcs:=AC.pubW (smallO_ac D L s)
theorem sameBytes_ac (D:Nat) (L:Hl) (s:World) (A:Option Addr) (n c:Nat) (l:List UInt8) (hA:Bts s A n c l) (A1:Option Addr) (n1 c1:Nat) (l1:List UInt8) (hB:Bts s A1 n1 c1 l1):AC Tryz.prog D 18 [.slice A n c,.slice A1 n1 c1] L s fun v L' _=>v=.bool (decide (l=l1))∧L=L':=by
 refine AC_enter (TT:=TT) (fn:=Tryz.f18) TT_ok Tryz.func18 V Z Tryz.ntmps18 Z (rs:=[.tmp 4]) Z [(0,_),(1,_)] Z<|Sr<|At Z Z<|Sr<|Zqm Z Z<|JO_q (QE_b2s Z Z Z Z Z Z Z (hA.le (Lr D))) Z<|Zqm Z Z<|JO_q (QE_b2s Z Z Z Z Z Z Z (hB.le (Lr D))) Z<|Zqse Z Z Z<|At Z Z<|Zo<|?_
 refine retQ_mk [] L (.inr Z) (.tmp Z (.nil)) Z (Lr D) (fun sR hS2=>?_)
 exact ⟨rfl,rfl⟩
theorem sameOutcome_ac (D:Nat) (L:Hl) (s:World) (A:Option Addr) (n c:Nat) (l:List UInt8) (hA:Bts s A n c l) (A1:Option Addr) (n1 c1:Nat) (l1:List UInt8) (hB:Bts s A1 n1 c1 l1) (p q r p1 q1 r1:Int):AC Tryz.prog D 13 [.agg #[.slice A n c,.int .i64 p,.int .u32 q,.int .i64 r],.agg #[.slice A1 n1 c1,.int .i64 p1,.int .u32 q1,.int .i64 r1]] L s fun v L' _=>v=.bool (decide (l=l1∧p=p1∧q=q1∧r=r1))∧L=L':=by
 refine AC_enter (TT:=TT) (fn:=Tryz.f13) TT_ok Tryz.func13 V Z Tryz.ntmps13 Z (rs:=[.tmp 4]) Z [(0,_),(1,_)] Z<|Sr<|JO_boxA Z Z ?_
 intro β1 s1 h1
 refine JO_boxA Z Z ?_
 intro β2 s2 h2
 refine At Z Z<|Sr<|W0 Y5<|Wl 1 Y6<|W0 Y5<|Wl 0 Y6<|Jc Z Z Z (sameBytes_ac D _ _ _ _ _ _ (hA.le (h1.t h2)) _ _ _ _ (hB.le (h1.t h2))) ?_
 rintro _ _ s3 h3 ⟨rfl,rfl⟩
 refine Zqm Z Z ?_
 refine JO_caseD (t:=10) Z (fun c4=>?_) (fun c4=>?_)
 ·
  refine Zg Z Z<|Wb Y5<|Zg Z Z<|Wl 1 Y6<|Zg Z Z<|Wb Y5<|Zg Z Z<|Wl 0 Y6<|Zg Z Z<|Zqeq Z Z Z<|ZqT Z Z Z<|Zqm Z Z<|?_
  refine JO_caseD (t:=17) Z (fun c5=>?_) (fun c5=>?_)
  ·
   refine Zg Z Z<|Wb Y5<|Zg Z Z<|Wl 1 Y6<|Zg Z Z<|Wb Y5<|Zg Z Z<|Wl 0 Y6<|Zg Z Z<|Zqeq Z Z Z<|ZqT Z Z Z<|Zqm Z Z<|?_
   refine JO_caseD (t:=24) Z (fun c6=>?_) (fun c6=>?_)
   ·
    refine Zg Z Z<|Wb Y5<|Zg Z Z<|Wl 1 Y6<|Zg Z Z<|Wb Y5<|Zg Z Z<|Wl 0 Y6<|Zg Z Z<|Zqeq Z Z Z<|ZqT Z Z Z<|At Z Z<|Zo<|?_
    refine retQ_mk [_,_] L (.inr Z) (.tmp Z (.nil)) Z (h1.t h2|>.t h3) (fun sR hS2=>?_)
    exact ⟨by simp_all [resV],rfl⟩
   refine Wf Y4<|Wf Y4<|Wf Y4<|Wf Y4<|Wf Y4<|ZqF Z Z Z<|At Z Z<|Zo<|?_
   refine retQ_mk [_,_] L (.inr Z) (.tmp Z (.nil)) Z (h1.t h2|>.t h3) (fun sR hS2=>?_)
   exact ⟨by simp_all [resV],rfl⟩
  refine Wf Y4<|Wf Y4<|Wf Y4<|Wf Y4<|Wf Y4<|ZqF Z Z Z<|Zqm Z Z<|Wf Y4<|Wf Y4<|Wf Y4<|Wf Y4<|Wf Y4<|ZqF Z Z Z<|At Z Z<|Zo<|?_
  refine retQ_mk [_,_] L (.inr Z) (.tmp Z (.nil)) Z (h1.t h2|>.t h3) (fun sR hS2=>?_)
  exact ⟨by simp_all [resV],rfl⟩
 refine Wf Y4<|Wf Y4<|Wf Y4<|Wf Y4<|Wf Y4<|ZqF Z Z Z<|Zqm Z Z<|Wf Y4<|Wf Y4<|Wf Y4<|Wf Y4<|Wf Y4<|ZqF Z Z Z<|Zqm Z Z<|Wf Y4<|Wf Y4<|Wf Y4<|Wf Y4<|Wf Y4<|ZqF Z Z Z<|At Z Z<|Zo<|?_
 refine retQ_mk [_,_] L (.inr Z) (.tmp Z (.nil)) Z (h1.t h2|>.t h3) (fun sR hS2=>?_)
 exact ⟨by simp_all [resV],rfl⟩
theorem bts_take {s:World} {A:Option Addr} {n c k:Nat} {l:List UInt8} (h:Bts s A n c l) (hk:k≤n):Bts s A k c (l.take k):=by
  rcases Nat.lt_or_eq_of_le hk with hk | rfl
  · exact Sl.take h hk
  · rw [List.take_of_length_le (by have:=h.1;omega)];exact h
theorem beg_yes {l l1:List UInt8} {k:Nat} (hk:k=l1.length):decide (l1 <+: l)=decide (l.take k=l1):=by
  subst hk
  rw [decide_eq_decide,List.prefix_iff_eq_take]
  exact eq_comm
theorem beg_no {l l1:List UInt8} (h:l.length < l1.length):decide (l1 <+: l)=false:=decide_eq_false fun h1=>by have:=h1.length_le;omega
theorem bts_one {s:World} {b:Nat} {x:Int} {c:UInt8} (h:CellsAt s b 0 [.int .u8 x]) (hx:x=(c.toNat:Int)):Bts s (some ⟨b,0,none⟩) 1 1 [c]:=by
  subst hx
  exact ⟨rfl,Nat.le_refl _,by omega,fun i x hi=>by
    cases i with
    | zero=>simp at hi;subst hi;exact ⟨b,0,_,rfl,h,rfl,rfl⟩
    | succ i=>cases hi⟩
theorem soT (D:Nat) (L:Hl) (s:World) (A:Option Addr) (n c:Nat) (l:List UInt8) (hA:Bts s A n c l) (A1:Option Addr) (n1 c1:Nat) (l1:List UInt8) (hB:Bts s A1 n1 c1 l1) (p q r p1 q1 r1:Int) (h:l=l1∧p=p1∧q=q1∧r=r1):AC Tryz.prog D 13 [.agg #[.slice A n c,.int .i64 p,.int .u32 q,.int .i64 r],.agg #[.slice A1 n1 c1,.int .i64 p1,.int .u32 q1,.int .i64 r1]] L s fun v L' _=>v=.bool true∧L=L':=
  (sameOutcome_ac D L s A n c l hA A1 n1 c1 l1 hB p q r p1 q1 r1).mono fun v L' s' _ hv=>⟨hv.1.trans (by rw [decide_eq_true h]),hv.2⟩
theorem begins_ac (D:Nat) (L:Hl) (s:World) (A:Option Addr) (n c:Nat) (l:List UInt8) (hA:Bts s A n c l) (A1:Option Addr) (n1 c1:Nat) (l1:List UInt8) (hB:Bts s A1 n1 c1 l1):AC Tryz.prog D 14 [.slice A n c,.slice A1 n1 c1] L s fun v L' _=>v=.bool (decide (l1 <+: l))∧L=L':=by
 have hn:=hA.1
 have hn1:=hB.1
 have gc1:=hA.2.1
 have gc2:=hA.2.2.1
 refine AC_enter (TT:=TT) (fn:=Tryz.f14) TT_ok Tryz.func14 V Z Tryz.ntmps14 Z (rs:=[.tmp 4]) Z [(0,_),(1,_)] Z<|Sr<|At Z Z<|Zs<|JC_draw drawsMixed 16 Z _ (fun _ h=>h) ?_
 intro s1 h1
 refine za 0 Z (QE_mv Z) Z<|za 1 Z (QE_lenS Z Z Z) Z<|za 2 Z (QE_mv Z) Z<|za 3 Z (QE_lenS Z Z Z) Z<|za 4 Z (QE_le Z Z) Z<|za 5 Z (QE_mv Z) Z ?_
 refine JA_caseD (t:=10) Z (fun c2=>?_) (fun c2=>?_)
 ·
  refine zg 6 Z ⟨_,Z,Z⟩ (QE_mv Z) Z<|zg 7 Z ⟨_,Z,Z⟩ (QE_mv Z) Z<|zg 8 Z ⟨_,Z,Z⟩ (QE_lenS Z Z Z) Z<|zg 9 Z ⟨_,Z,Z⟩ (QE_slH Z Z Z Z Z O) Z<|zg 10 Z ⟨_,Z,Z⟩ (QE_b2s Z Z Z Z Z Z Z (bts_take (k:=n1) (hA.le h1) O)) Z<|zg 11 Z ⟨_,Z,Z⟩ (QE_mv Z) Z<|zg 12 Z ⟨_,Z,Z⟩ (QE_b2s Z Z Z Z Z Z Z (hB.le h1)) Z<|zg 13 Z ⟨_,Z,Z⟩ (QE_seq Z Z) Z<|za 14 Z (QE_pickT Z Z) Z<|za 15 Z (QE_as Z) Z<|JA_done V<|Zt<|Zo<|?_
  refine retQ_mk [] L (.inr Z) (.tmp Z (.nil)) Z h1 (fun sR hS2=>?_)
  refine ⟨?_,Z⟩
  first
    | (rw [beg_yes hn1];rfl)
    | (rw [beg_no O];rfl)
 refine zn 6 Z Z Z Z Z<|zn 7 Z Z Z Z Z<|zn 8 Z Z Z Z Z<|zn 9 Z Z Z Z Z<|zn 10 Z Z Z Z Z<|zn 11 Z Z Z Z Z<|zn 12 Z Z Z Z Z<|zn 13 Z Z Z Z Z<|za 14 Z (QE_pickF Z Z) Z<|za 15 Z (QE_as Z) Z<|JA_done V<|Zt<|Zo<|?_
 refine retQ_mk [] L (.inr Z) (.tmp Z (.nil)) Z h1 (fun sR hS2=>?_)
 refine ⟨?_,Z⟩
 first
   | (rw [beg_yes hn1];rfl)
   | (rw [beg_no O];rfl)
theorem begT (D:Nat) (L:Hl) (s:World) (A:Option Addr) (n c:Nat) (l:List UInt8) (hA:Bts s A n c l) (A1:Option Addr) (n1 c1:Nat) (l1:List UInt8) (hB:Bts s A1 n1 c1 l1) (h:l1 <+: l):AC Tryz.prog D 14 [.slice A n c,.slice A1 n1 c1] L s fun v L' _=>v=.bool true∧L=L':=
  (begins_ac D L s A n c l hA A1 n1 c1 l1 hB).mono fun v L' s' _ hv=>⟨hv.1.trans (by rw [decide_eq_true h]),hv.2⟩
theorem run_ac (D:Nat) (L:Hl) (s:World) (hG:GP s) (d:Nat) (p:Prg) (Ag Af:Option Addr) (ng cg nf cf:Nat) (hGl:Glos s Ag ng cg p.globals) (hFn:Fncs d s Af nf cf p.funcs) (Ai:Option Addr) (ni qi:Nat) (inp:Str) (hI:Bts s Ai ni qi inp) (steps:Int):AC Tryz.prog D 9 [.agg #[.slice Ag ng cg,.slice Af nf cf],.slice Ai ni qi,.int .i64 steps] L s fun v L' s'=>L=L'∧∃ w,v=.tuple #[w,.agg #[.int .i64 (runR p inp steps).2.1,.int .i64 (runR p inp steps).2.2]]∧OutV s' (runR p inp steps).1 w:=AC.pubW (run0_ac D L s hG d p Ag Af ng cg nf cf hGl hFn Ai ni qi inp hI steps)
theorem sm_g6 (n:Nat):outM 6 (runP smallP OPp (n+20+1) 0 [65] 6)=([71],1,0,6):=by kernel_rfl
theorem sm_g5 (n:Nat):outM 5 (runP smallP OPp (n+20+1) 0 [65] 5)=([],0,0,5):=by kernel_rfl
theorem sm_m0:(mainF smallP.funcs).toNat=0:=by decide +kernel
theorem sm_k0:¬ (chkF smallP).1≠0:=by rw [sm_K];decide
theorem sm_r6:runR smallP [65] 6=(([71],1,0,6),(0,0)):=by
  rw [show (6:Int)=((6:Nat):Int) from rfl,run_good sm_k0 (by decide) (by decide),runO,sm_m0,fuX_eq,sm_g6]
theorem sm_r5:runR smallP [65] 5=(([],0,0,5),(0,0)):=by
  rw [show (5:Int)=((5:Nat):Int) from rfl,run_good sm_k0 (by decide) (by decide),runO,sm_m0,fuX_eq,sm_g5]
theorem meant_ac (D:Nat) (L:Hl) (s:World) (hG:GP s):AC Tryz.prog D 7 [] L s fun v L' _=>v=.bool true∧L=L':=by
 refine AC_enter (TT:=TT) (fn:=Tryz.f7) TT_ok Tryz.func7 V Z Tryz.ntmps7 Z (rs:=[.tmp 0]) Z [] Z<|Sr<|At Z Z<|Sr<|Jc Z Z Z (smallP_ac D _ _) ?_
 rintro _ _ s1 h1 ⟨rfl,bg1,bf1,rfl,hg1,hf1⟩
 refine JO_bs [(_,_)] [_] Z Z Z Z Z Z Z Z Z ?_
 intro βu s2 h2 hcu
 refine Jc Z Z Z (run_ac D _ _ (hG.le (h1.t h2)) 5 smallP _ _ _ _ _ _ (hg1.le h2) (hf1.le h2) _ _ _ [65] (bts_one (c:=65) (hcu.le (Lr D)) Z) 6) ?_
 rintro _ _ s3 h3 ⟨rfl,_,rfl,Ao,no,qo,rfl,hBo⟩
 
 refine Zqm Z Z<|Zqx Z Z Z<|Zqx Z Z Z<|JO_allocZ Z [_,_,_,_] Z Z ?_
 intro β4 s4 h4
 refine JO_allocZ Z [_,_] Z Z ?_
 intro β5 s5 h5
 refine Wt 1 [_,_,_,_] Y9<|Wt 0 [_,_] Y9<|Nt<|Sr<|Jc Z Z Z (smallP_ac D _ _) ?_
 rintro _ _ s6 h6 ⟨rfl,bg2,bf2,rfl,hg2,hf2⟩
 refine JO_bs [(_,_)] [_] Z Z Z Z Z Z Z Z Z ?_
 intro βv s7 h7 hcv
 refine Jc Z Z Z (run_ac D _ _ (hG.le (h1.t h2|>.t h3|>.t h4|>.t h5|>.t h6|>.t h7)) 5 smallP _ _ _ _ _ _ (hg2.le h7) (hf2.le h7) _ _ _ [65] (bts_one (c:=65) (hcv.le (Lr D)) Z) 5) ?_
 rintro _ _ s8 h8 ⟨rfl,_,rfl,Ap,np,qp,rfl,hBp⟩
 
 refine Zqm Z Z<|Zqx Z Z Z<|Zqx Z Z Z<|JO_allocZ Z [_,_,_,_] Z Z ?_
 intro β9 s9 h9
 refine JO_allocZ Z [_,_] Z Z ?_
 intro β10 s10 h10
 refine Wt 1 [_,_,_,_] Y9<|Wt 0 [_,_] Y9<|Nt<|Zs<|Sr<|W0 Y5<|Wl 2 Y6<|JO_q (QE_cast (v':=.bool false) (QE_ne Z Z) (bF (by rw [sm_r6]))) Z<|Zqm Z Z<|Zg Z Z<|W0 Y5<|Zg Z Z<|Wl 0 Y6<|Zg Z Z<|JO_q (QE_cast (v':=.bool false) (QE_ne Z Z) (bF (by rw [sm_r5]))) Z<|ZqF Z Z Z<|Nt<|Zz Z<|Zk<|Zt<|Sr<|JO_q (QE_ldA 3 [_,_,_,_] Z Z Z Z Z) Z<|JO_bs [(_,_)] [_] Z Z Z Z Z Z Z Z Z ?_
 intro βw s11 h11 hcw
 refine JO_q (QE_build [(_,_),(_,_),(_,_)] [_,_,_,_] Z Z Z Z Z Z) Z<|Jc Z Z Z (soT D _ _ _ _ _ _ (hBo.le (h4.t h5|>.t h6|>.t h7|>.t h8|>.t h9|>.t h10|>.t h11)) _ _ _ [71] (bts_one (c:=71) (hcw.le (Lr D)) Z) _ _ _ _ _ _ (by rw [sm_r6];exact ⟨Z,Z,Z,Z⟩)) ?_
 rintro _ _ s12 h12 ⟨rfl,rfl⟩
 refine Zqm Z Z<|Zg Z Z<|JO_q (QE_ldA 1 [_,_,_,_] Z Z Z Z Z) Z<|Zg Z Z<|JO_q (QE_build [(_,_)] [_,_,_,_] Z Z Z Z Z Z) Z<|Zg Z Z<|Jc Z Z Z (soT D _ _ _ _ _ _ (hBp.le (h9.t h10|>.t h11|>.t h12)) _ _ _ [] (Bts.nil _ _ _ O) _ _ _ _ _ _ (by rw [sm_r5];exact ⟨Z,Z,Z,Z⟩)) ?_
 rintro _ _ s13 h13 ⟨rfl,rfl⟩
 refine ZqT Z Z Z<|At Z Z<|Zo<|?_
 refine retQ_mk [_,_,_,_] L (.inr Z) (.tmp Z (.nil)) Z (h1.t h2|>.t h3|>.t h4|>.t h5|>.t h6|>.t h7|>.t h8|>.t h9|>.t h10|>.t h11|>.t h12|>.t h13) (fun sR hS2=>?_)
 exact ⟨rfl,rfl⟩
theorem checked_ac (D:Nat) (L:Hl) (s:World) (hG:GP s):AC Tryz.prog D 15 [] L s fun v L' _=>v=.bool true∧L=L':=by
 refine AC_enter (TT:=TT) (fn:=Tryz.f15) TT_ok Tryz.func15 V Z Tryz.ntmps15 Z (rs:=[.tmp 0]) Z [] Z<|Sr<|At Z Z<|Sr<|Jc Z Z Z (smallP_ac D _ _) ?_
 rintro _ _ s1 h1 ⟨rfl,bg1,bf1,rfl,hg1,hf1⟩
 refine Jc Z Z Z (resolve_ac D _ _ (hG.le h1) 5 smallP _ _ _ _ _ _ (hg1.le (Lr D)) (hf1.le (Lr D)) 0 [110]) ?_
 rintro _ _ s2 h2 ⟨rfl,rfl⟩
 refine Zqm Z Z<|Zqx Z Z Z<|Zqx Z Z Z<|JO_allocZ Z [_,_] Z Z ?_
 intro β3 s3 h3
 refine JO_allocZ Z [_,_] Z Z ?_
 intro β4 s4 h4
 refine Wt 1 [_,_] Y9<|Wt 0 [_,_] Y9<|Nt<|Sr<|Jc Z Z Z (smallP_ac D _ _) ?_
 rintro _ _ s5 h5 ⟨rfl,bg2,bf2,rfl,hg2,hf2⟩
 refine Jc Z Z Z (calls_ac D _ _ (hG.le (h1.t h2|>.t h3|>.t h4|>.t h5)) 5 smallP _ _ _ _ _ _ (hg2.le (Lr D)) (hf2.le (Lr D))) ?_
 rintro _ _ s6 h6 ⟨rfl,Ac,nc,cc,rfl,hCl⟩
 rw [sm_C] at hCl
 have hnc:nc=1:=hCl.1
 subst hnc
 obtain ⟨bq,oq,xq,Aq,nq,cq,rfl,hxq,hcq,hIq⟩:=ClsR.at_ hCl (show 0 < 1 by decide)
 obtain rfl:=Option.some.inj hxq
 rw [sm_M4] at hIq
 have hnq:nq=0:=hIq.1
 subst hnq
 refine Zqm Z Z<|Zqx Z Z Z<|Zqx Z Z Z<|JO_allocZ Z [_,_] Z Z ?_
 intro β7 s7 h7
 refine Zqa Z Z<|Wt 0 [_,_] Y9<|Nt<|Sr<|Jc Z Z Z (smallP_ac D _ _) ?_
 rintro _ _ s8 h8 ⟨rfl,bg3,bf3,rfl,hg3,hf3⟩
 refine JO_q (QE_field Z Z Z Z Z Z Z Z Z) Z<|Jc Z Z Z (smallP_ac D _ _) ?_
 rintro _ _ s9 h9 ⟨rfl,bg4,bf4,rfl,hg4,hf4⟩
 obtain ⟨b4,off4,x4,B1,m1,d1,B2,m2,d2,B3,m3,d3,hA4,hx4,hc4,hp4,hl4,hb4,_⟩:=Fncs.at_ hf4 (show 0 < 1 by decide)
 cases hA4
 obtain rfl:=Option.some.inj hx4
 refine JO_q (QE_field Z Z Z Z Z Z Z Z Z) Z<|JO_q (QE_build [(_,_)] [_,_,_,_] Z Z Z Z Z Z) Z<|JO_bs [(_,_)] [_,_,_,_] Z Z Z Z Z Z Z Z Z ?_
 intro βs s10 h10 hcs
 refine JO_appN (sz:=4) Z Z Z Z Z Z (hc4.le h10) Z (Row.of_cells (hcs.le (Lr D)) Z Z) (by decide) ⟨by decide +kernel,by decide⟩ Z ?_
 intro βv cv s11 h11 hcv hv1 hv2
 refine JO_q (QE_build [(_,_),(_,_)] [_,_] Z Z Z Z Z Z) Z<|Jc Z Z Z (trim_ac D _ _ (hG.le (h1.t h2|>.t h3|>.t h4|>.t h5|>.t h6|>.t h7|>.t h8|>.t h9|>.t h10|>.t h11)) 5 smallQ _ _ _ _ _ _ (hg3.le (h9.t h10|>.t h11)) (smallQ_of (hcv.le (Lr D)) (hp4.le (h10.t h11)) (hl4.le (h10.t h11)) (hb4.le (h10.t h11)) hv1 hv2)) ?_
 rintro _ _ s12 h12 ⟨rfl,qt,hTq,Dg,kg,jg,Df,kf,jf,rfl,hgt,hft⟩
 obtain rfl:=sm_T hTq
 refine Zqm Z Z<|Zqx Z Z Z<|Zqx Z Z Z<|JO_allocZ Z [_,_] Z Z ?_
 intro β13 s13 h13
 refine JO_allocZ Z [_,_] Z Z ?_
 intro β14 s14 h14
 refine Wt 1 [_,_] Y9<|Wt 0 [_,_] Y9<|Nt<|Sr<|Jc Z Z Z (smallP_ac D _ _) ?_
 rintro _ _ s15 h15 ⟨rfl,bg5,bf5,rfl,hg5,hf5⟩
 refine Jc Z Z Z (fold_ac D _ _ (hG.le (h1.t h2|>.t h3|>.t h4|>.t h5|>.t h6|>.t h7|>.t h8|>.t h9|>.t h10|>.t h11|>.t h12|>.t h13|>.t h14|>.t h15)) 5 smallP _ _ _ _ _ _ (hg5.le (Lr D)) (hf5.le (Lr D))) ?_
 rintro _ _ s16 h16 ⟨rfl,Eg,ug,wg,Ef,uf,wf,rfl,hgo,hfo⟩
 rw [sm_F1] at hfo
 obtain ⟨rfl,bo,oo,C1,r1,e1,C2,r2,e2,bo2,oo2,e3,rfl,hco,C4,r4,e4,C5,r5,e5,C6,r6,e6,hco2,hxo⟩:=fold_at hfo
 refine Zqm Z Z<|Zqx Z Z Z<|Zqx Z Z Z<|JO_allocZ Z [_,_] Z Z ?_
 intro β17 s17 h17
 refine JO_allocZ Z [_,_] Z Z ?_
 intro β18 s18 h18
 refine Wt 1 [_,_] Y9<|Wt 0 [_,_] Y9<|Nt<|Sr<|Jc Z Z Z (operate_ac D _ _ 11 1 2 ⟨by decide,by decide⟩ ⟨by decide,by decide⟩) ?_
 rintro _ _ s19 h19 ⟨rfl,rfl⟩
 refine Zqm Z Z<|Zqx Z Z Z<|Zqx Z Z Z<|JO_allocZ Z [_,_] Z Z ?_
 intro β20 s20 h20
 refine Zqa Z Z<|Wt 0 [_,_] Y9<|Nt<|Sr<|Jc Z Z Z (operate_ac D _ _ 6 1 0 ⟨by decide,by decide⟩ ⟨by decide,by decide⟩) ?_
 rintro _ _ s21 h21 ⟨rfl,rfl⟩
 refine Zqm Z Z<|Zqx Z Z Z<|Zqx Z Z Z<|JO_allocZ Z [_,_] Z Z ?_
 intro β22 s22 h22
 refine Zqa Z Z<|Wt 0 [_,_] Y9<|Nt<|Zs<|Sr<|W0 Y5<|JO_q (Wd 7 Y5) Z<|JO_q (QE_cast (v':=.bool false) (QE_ne Z Z) (bF (by rw [sm_R]))) Z<|Zqm Z Z<|Zg Z Z<|W0 Y5<|Zg Z Z<|JO_q (Wd 6 Y5) Z<|Zg Z Z<|JO_q (QE_cast (v':=.bool false) (QE_ne Z Z) (bF (by rw [sm_K]))) Z<|ZqF Z Z Z<|Zqm Z Z<|Zg Z Z<|W0 Y5<|Zg Z Z<|Wl 4 Y6<|Zg Z Z<|JO_q (QE_cast (v':=.bool false) (QE_ne Z Z) (bF (by rw [sm_KQ]))) Z ?_
 refine ZqF Z Z Z<|Zqm Z Z<|Zg Z Z<|W0 Y5<|Zg Z Z<|Wl 2 Y6<|Zg Z Z<|JO_q (QE_cast (v':=.bool false) (QE_ne Z Z) (bF (by rw [sm_F]))) Z<|ZqF Z Z Z<|Zqm Z Z<|Zg Z Z<|W0 Y5<|Zg Z Z<|Wl 1 Y6<|Zg Z Z<|JO_q (QE_cast (v':=.bool false) (QE_ne Z Z) (bF (by exact sm_O.1))) Z<|ZqF Z Z Z<|Zqm Z Z<|Zg Z Z<|Zqm Z Z<|Zg Z Z<|Ws Y4<|Zg Z Z<|JO_q (QE_cast (v':=.bool false) (QE_ne Z Z) (bF (by rfl))) Z ?_
 refine ZqF Z Z Z<|Zqm Z Z<|Zg Z Z<|Wb Y5<|Zg Z Z<|Wl 3 Y6<|Zg Z Z<|Ws Y4<|Zg Z Z<|JO_q (QE_cast (v':=.bool false) (QE_ne Z Z) (bF (by rfl))) Z<|ZqF Z Z Z<|Zqm Z Z<|Zg Z Z<|Wb Y5<|Zg Z Z<|Wl 3 Y6<|Zg Z Z<|JO_q (QE_iaN (j:=0) Z Z Z Z Z Z (by decide)) Z<|Zg Z Z<|JO_q (QE_fa Z Z Z Z) Z<|Zg Z Z<|JO_q (QE_ldsR 3 Z Z Z (hco.le (h17.t h18|>.t h19|>.t h20|>.t h21|>.t h22)) Z) Z<|Zg Z Z<|Ws Y4<|Zg Z Z<|JO_q (QE_cast (v':=.bool false) (QE_ne Z Z) (bF (by rfl))) Z ?_
 refine ZqF Z Z Z<|Nt<|Zz Z<|Zk<|Zt<|Sr<|JO_q (QE_build [(_,_)] [_,_,_,_,_] Z Z Z Z Z Z) Z<|Jc Z Z Z (num9_ac D _ _ 6) ?_
 rintro _ _ s23 h23 ⟨rfl,rfl⟩
 refine JO_bs [(_,_),(_,_)] [_,_,_,_,_,_,_,_,_,_] Z Z Z Z Z Z Z Z Z ?_
 intro βg s24 h24 hcg
 refine JO_q (QE_build [(_,_),(_,_),(_,_)] [_,_,_,_,_] Z Z Z Z Z Z) Z<|JO_allocZ Z [_,_,_,_,_] Z Z ?_
 intro β25 s25 h25
 refine Wt 0 [_,_,_,_,_] Y9<|Nt<|Zs<|JC_draw drawsMixed 44 Z _ (fun _ h=>h) ?_
 intro s26 h26
 refine JA_1 0 V<|Jb Z trivial Z Z Z (smallP_ac D _ _) ?_
 rintro _ _ s27 h27 ⟨rfl,bg6,bf6,rfl,hg6,hf6⟩
 refine ⟨fun _ _ h=>h,?_⟩
 refine JA_1 1 V<|Jb Z trivial Z Z Z (program_ac D _ _ (hG.le (h1.t h2|>.t h3|>.t h4|>.t h5|>.t h6|>.t h7|>.t h8|>.t h9|>.t h10|>.t h11|>.t h12|>.t h13|>.t h14|>.t h15|>.t h16|>.t h17|>.t h18|>.t h19|>.t h20|>.t h21|>.t h22|>.t h23|>.t h24|>.t h25|>.t h26|>.t h27)) 5 smallP _ _ _ _ _ _ (hg6.le (Lr D)) (hf6.le (Lr D))) ?_
 rintro _ _ s28 h28 ⟨rfl,rfl⟩
 refine ⟨fun _ _ h=>h,?_⟩
 refine za 2 Z (QE_field Z Z Z Z Z Z Z Z Z) Z<|za 3 Z (QE_cast (v':=.bool true) (QE_eq Z Z) (bT (by rw [sm_K]))) Z<|za 4 Z (QE_mv Z) Z<|zg 5 Z ⟨_,Z,Z⟩ (QE_ldA 9 [_,_] Z Z Z Z Z) Z<|zg 6 Z ⟨_,Z,Z⟩ (QE_build [(_,_)] [_,_] Z Z Z Z Z Z) Z<|zg 7 Z ⟨_,Z,Z⟩ (QE_cast (v':=.bool true) (QE_aeq Z Z (eqMean _ _ _ _)) (bT ⟨by rw [sm_R],by rw [sm_R]⟩)) Z<|za 8 Z (QE_pickT Z Z) Z<|za 9 Z (QE_mv Z) Z<|zg 10 Z ⟨_,Z,Z⟩ (QE_mv Z) Z<|zg 11 Z ⟨_,Z,Z⟩ (QE_iaN (j:=0) Z Z Z Z Z Z (by decide)) Z ?_
 refine zg 12 Z ⟨_,Z,Z⟩ (QE_ldsR0 Z Z Z (hcq.le (h7.t h8|>.t h9|>.t h10|>.t h11|>.t h12|>.t h13|>.t h14|>.t h15|>.t h16|>.t h17|>.t h18|>.t h19|>.t h20|>.t h21|>.t h22|>.t h23|>.t h24|>.t h25|>.t h26)) Z) Z<|zg 13 Z ⟨_,Z,Z⟩ (QE_lenS Z Z Z) Z<|zg 14 Z ⟨_,Z,Z⟩ (QE_cast (v':=.bool true) (QE_eq Z Z) (bT (by rfl))) Z<|za 15 Z (QE_pickT Z Z) Z<|za 16 Z (QE_mv Z) Z<|zg 17 Z ⟨_,Z,Z⟩ (QE_ldA 6 [_,_] Z Z Z Z Z) Z<|JA_1 18 V<|Jb Z ⟨_,Z,Z⟩ Z Z Z (smallP_ac D _ _) ?_
 rintro _ _ s29 h29 ⟨rfl,bg7,bf7,rfl,hg7,hf7⟩
 refine ⟨fun _ _ h=>h,?_⟩
 refine JA_1 19 V<|Jb Z ⟨_,Z,Z⟩ Z Z Z (sameP_ac D _ _ 5 smallP _ _ _ _ _ _ (hgt.le (h13.t h14|>.t h15|>.t h16|>.t h17|>.t h18|>.t h19|>.t h20|>.t h21|>.t h22|>.t h23|>.t h24|>.t h25|>.t h26|>.t h27|>.t h28|>.t h29)) (hft.le (h13.t h14|>.t h15|>.t h16|>.t h17|>.t h18|>.t h19|>.t h20|>.t h21|>.t h22|>.t h23|>.t h24|>.t h25|>.t h26|>.t h27|>.t h28|>.t h29)) 5 _ _ _ _ _ _ (hg7.le (Lr D)) (hf7.le (Lr D))) ?_
 rintro _ _ s30 h30 ⟨rfl,rfl⟩
 refine ⟨fun _ _ h=>h,?_⟩
 refine za 20 Z (QE_pickT Z Z) Z<|za 21 Z (QE_mv Z) Z<|zg 22 Z ⟨_,Z,Z⟩ (We Y4) Z<|zg 23 Z ⟨_,Z,Z⟩ (Wd 4 Y5) Z<|zg 24 Z ⟨_,Z,Z⟩ (QE_iaN (j:=0) Z Z Z Z Z Z (by decide)) Z<|zg 25 Z ⟨_,Z,Z⟩ (QE_fa Z Z Z Z) Z<|zg 26 Z ⟨_,Z,Z⟩ (QE_ldsR 3 Z Z Z (hco.le (h17.t h18|>.t h19|>.t h20|>.t h21|>.t h22|>.t h23|>.t h24|>.t h25|>.t h26)) Z) Z<|zg 27 Z ⟨_,Z,Z⟩ (QE_iaN (j:=0) Z Z Z Z Z Z (by decide)) Z<|zg 28 Z ⟨_,Z,Z⟩ (QE_fa Z Z Z Z) Z ?_
 refine zg 29 Z ⟨_,Z,Z⟩ (QE_ldsR 2 Z Z Z (hco2.le (h17.t h18|>.t h19|>.t h20|>.t h21|>.t h22|>.t h23|>.t h24|>.t h25|>.t h26)) Z) Z<|zg 30 Z ⟨_,Z,Z⟩ (QE_ldA 0 [_,_,_,_,_] Z Z Z Z Z) Z<|JA_1 31 V<|JB_bs Z ⟨_,Z,Z⟩ [(_,_)] [_,_,_,_,_] Z Z Z Z Z Z Z Z Z ?_
 intro βh s31 h31 hch
 refine JA_1 32 V<|Jb Z ⟨_,Z,Z⟩ Z Z Z (sameX_ac D 4 _ _ 3 _ _ _ _ _ _ [sumD] (hxo.le (h17.t h18|>.t h19|>.t h20|>.t h21|>.t h22|>.t h23|>.t h24|>.t h25|>.t h26|>.t h27|>.t h28|>.t h29|>.t h30|>.t h31)) (sumD_of (hcg.le (h25.t h26|>.t h27|>.t h28|>.t h29|>.t h30|>.t h31)) (hch.le (Lr D)))) ?_
 rintro _ _ s32 h32 ⟨rfl,rfl⟩
 refine ⟨fun _ _ h=>h,?_⟩
 refine za 33 Z (QE_pickT Z Z) Z<|za 34 Z (QE_mv Z) Z<|zg 35 Z ⟨_,Z,Z⟩ (QE_mv Z) Z<|zg 36 Z ⟨_,Z,Z⟩ (QE_cast (v':=.bool true) (QE_eq Z Z) (bT (by rw [if_pos sm_O.1];exact sm_O.2.2))) Z<|za 37 Z (QE_pickT Z Z) Z<|za 38 Z (QE_mv Z) Z<|zg 39 Z ⟨_,Z,Z⟩ (QE_ldA 1 [_,_] Z Z Z Z Z) Z<|JA_1 40 V<|Jb Z ⟨_,Z,Z⟩ Z Z Z (at_ac D _ _ _ _) ?_
 rintro _ _ s33 h33 ⟨rfl,rfl⟩
 refine ⟨fun _ _ h=>h,?_⟩
 refine zg 41 Z ⟨_,Z,Z⟩ (QE_cast (v':=.bool true) (QE_aeq Z Z (eqFault _ _ _ _)) (bT sm_Z)) Z<|za 42 Z (QE_pickT Z Z) Z<|za 43 Z (QE_as Z) Z<|JA_done V<|Zt<|Zo<|?_
 refine retQ_mk [_,_,_,_,_,_,_,_,_,_] L (.inr Z) (.tmp Z (.nil)) Z (h1.t h2|>.t h3|>.t h4|>.t h5|>.t h6|>.t h7|>.t h8|>.t h9|>.t h10|>.t h11|>.t h12|>.t h13|>.t h14|>.t h15|>.t h16|>.t h17|>.t h18|>.t h19|>.t h20|>.t h21|>.t h22|>.t h23|>.t h24|>.t h25|>.t h26|>.t h27|>.t h28|>.t h29|>.t h30|>.t h31|>.t h32|>.t h33) (fun sR hS2=>?_)
 exact ⟨rfl,rfl⟩
end Go.Proofs.YtpdnijphccdiiaaGreatDoor
namespace Go.Proofs.YtpdnijphccdiiaaGreatDoor
open Go Go.FL
section
variable {p:Prg}
theorem ents_fold:ents (foldP p)=ents p:=by
  show (p.globals.mapIdx _)++((p.funcs.map (fdF p)).mapIdx _)=_
  rw [ents]
  congr 1
  refine List.ext_getElem (by simp) fun i h1 h2=>?_
  simp [fdF]
theorem useE_len {k o u:Int} {nm:Str} {l l':List Ex} (h:l'.length=l.length):useE (.mk k o u nm l')=useE (.mk k o u nm l):=by
  show (if k=2 then (nm,2,0) else if k=3 then (nm,3,0) else if k=4 then (nm,4,(l'.length:Int)) else ([],0,0))=(if k=2 then (nm,2,0) else if k=3 then (nm,3,0) else if k=4 then (nm,4,(l.length:Int)) else ([],0,0))
  rw [h]
theorem useS_len {k:Int} {nm:Str} {l l':List Ex} {b e b' e':List Stm} (h:l'.length=l.length):useS (.mk k nm l' b' e')=useS (.mk k nm l b e):=by
  show (if k=1 then (nm,1,0) else if k=2 then (nm,3,0) else if k=5 then (nm,4,(l'.length:Int)) else ([],0,0))=(if k=1 then (nm,1,0) else if k=2 then (nm,3,0) else if k=5 then (nm,4,(l.length:Int)) else ([],0,0))
  rw [h]
theorem mean_fold (x:Fnc) (nm:Str):meanP (foldP p) (fdF p x) nm=meanP p x nm:=by
  unfold meanP;rw [ents_fold];rfl
theorem parN_fold (i:Int):parN (foldP p) i=parN p i:=by
  unfold parN
  show (match (p.funcs.map (fdF p))[i.toNat]? with | some x=>x.params.length | none=>0)=_
  rw [List.getElem?_map]
  cases p.funcs[i.toNat]? <;> rfl
theorem useC_fold (x:Fnc) (u:Use):useC (foldP p) (fdF p x) u=useC p x u:=by
  unfold useC;rw [mean_fold,parN_fold];rfl
mutual
theorem ndX_fold (f:Fnc):∀ (x:Ex) (lp:Nat),(∀ nd∈ndX x lp,ndC p f nd=0)→∀ nd∈ndX (fdX p f x) lp,ndC (foldP p) (fdF p f) nd=0
  | .mk k o u nm ar,lp,h,nd,hn=>by
    cases hq:numP p f ((Ex.mk k o u nm ar).withA (fdXs p f ar)) with
    | some v=>
      rw [fdX_some (x:=.mk k o u nm ar) hq] at hn
      simp only [ndX,ndXs,List.mem_singleton] at hn
      subst hn
      rfl
    | none=>
      rw [fdX_none (x:=.mk k o u nm ar) hq] at hn
      simp only [Ex.withA,Ex.kind,Ex.op,Ex.num,Ex.name,Ex.args,ndX,List.mem_cons] at hn
      rcases hn with rfl | hn
      · have h1:=h (.ex (.mk k o u nm ar) lp) (by rw [ndX];exact List.mem_cons_self ..)
        simp only [ndC] at h1 ⊢
        rw [useC_fold]
        rw [useE_len (fdXs_len ..)];exact h1
      · exact ndXs_fold f ar lp (fun nd hn=>h nd (by rw [ndX];exact List.mem_cons_of_mem _ hn)) nd hn
theorem ndXs_fold (f:Fnc):∀ (l:List Ex) (lp:Nat),(∀ nd∈ndXs l lp,ndC p f nd=0)→∀ nd∈ndXs (fdXs p f l) lp,ndC (foldP p) (fdF p f) nd=0
  | [],_,_,nd,hn=>by simp only [fdXs,ndXs] at hn;cases hn
  | x::r,lp,h,nd,hn=>by
    simp only [fdXs,ndXs,List.mem_append] at hn
    rcases hn with hn | hn
    · exact ndX_fold f x lp (fun nd hn=>h nd (by rw [ndXs];exact List.mem_append_left _ hn)) nd hn
    · exact ndXs_fold f r lp (fun nd hn=>h nd (by rw [ndXs];exact List.mem_append_right _ hn)) nd hn
end
mutual
theorem ndS_fold (f:Fnc):∀ (x:Stm) (lp:Nat),(∀ nd∈ndS x lp,ndC p f nd=0)→∀ nd∈ndS (fdS p f x) lp,ndC (foldP p) (fdF p f) nd=0
  | .mk k nm es b e,lp,h,nd,hn=>by
    simp only [fdS,ndS,List.mem_cons,List.mem_append] at hn
    simp only [ndS] at h
    rcases hn with rfl | hn | hn | hn
    · have h1:=h _ (List.mem_cons_self ..)
      simp only [ndC] at h1 ⊢
      rw [useC_fold]
      rw [useS_len (b:=b) (e:=e) (fdXs_len ..)];exact h1
    · exact ndXs_fold f es lp (fun nd hn=>h nd (List.mem_cons_of_mem _ (List.mem_append_left _ hn))) nd hn
    · exact ndSs_fold f b _ (fun nd hn=>h nd (List.mem_cons_of_mem _ (List.mem_append_right _ (List.mem_append_left _ hn)))) nd hn
    · exact ndSs_fold f e _ (fun nd hn=>h nd (List.mem_cons_of_mem _ (List.mem_append_right _ (List.mem_append_right _ hn)))) nd hn
theorem ndSs_fold (f:Fnc):∀ (l:List Stm) (lp:Nat),(∀ nd∈ndSs l lp,ndC p f nd=0)→∀ nd∈ndSs (fdSs p f l) lp,ndC (foldP p) (fdF p f) nd=0
  | [],_,_,nd,hn=>by simp only [fdSs,ndSs] at hn;cases hn
  | x::r,lp,h,nd,hn=>by
    simp only [fdSs,ndSs,List.mem_append] at hn
    rcases hn with hn | hn
    · exact ndS_fold f x lp (fun nd hn=>h nd (by rw [ndSs];exact List.mem_append_left _ hn)) nd hn
    · exact ndSs_fold f r lp (fun nd hn=>h nd (by rw [ndSs];exact List.mem_append_right _ hn)) nd hn
end
theorem namF_fold:∀ (l:List Fnc) (seen:List Str) (i:Nat),namF (l.map (fdF p)) seen i=namF l seen i
  | [],_,_=>rfl
  | x::r,seen,i=>by
    rw [List.map_cons,namF,namF,namF_fold r];rfl
theorem idx_fold (q:Str→Bool):∀ (l:List Fnc) (k:Nat),idxOf (fun x:Fnc=>q x.name) (l.map (fdF p)) k=idxOf (fun x:Fnc=>q x.name) l k
  | [],_=>rfl
  | x::r,k=>by rw [List.map_cons,idxOf,idxOf,idx_fold q r];rfl
theorem nameF_fold:nameF (foldP p)=nameF p:=by
  unfold nameF
  have e:mainF (foldP p).funcs=mainF p.funcs:=idx_fold (p:=p) (fun nm=>decide (nm=mainW)) p.funcs 0
  have e2:namF (foldP p).funcs ((foldP p).globals.map Glo.name) (foldP p).globals.length=namF p.funcs (p.globals.map Glo.name) p.globals.length:=namF_fold ..
  rw [e,e2]
  show (if (namG p.globals [] 0).1≠0 then namG p.globals [] 0 else _)=_
  split
  · rfl
  split
  · rfl
  split
  · rfl
  · rw [show (foldP p).funcs[(mainF p.funcs).toNat]?=(p.funcs[(mainF p.funcs).toNat]?).map (fdF p) from List.getElem?_map ..]
    cases p.funcs[(mainF p.funcs).toNat]? <;> rfl
theorem fold_good (hu:prU p) (h0:(chkF p).1=0) (h1:(prgF (foldP p)).1=0):chkF (foldP p)=(0,0):=by
  obtain ⟨⟨_,hn,hnd⟩,_⟩:=OKP.of hu h0
  refine chkF_of (prgF_00 h1) (by rw [nameF_fold,hn]) ?_
  intro x hx nd hm
  obtain ⟨y,hy,rfl⟩:=List.mem_map.1 (show x∈p.funcs.map (fdF p) from hx)
  exact ndSs_fold y y.body 0 (hnd y hy) nd hm
end
open Go.FL
attribute [local irreducible] JC JO JA JB thenQ blockQ retQ AC fill CellsAt QE Ev Mid
theorem run_ok {p:Prg} {inp:Str} {a:Int} (h:(chkF p).1=0) (ha:0≤a∧a≤200000) (hi:inp.length≤2000):∃ x:Nat,a=(x:Int)∧x≤200000∧runR p inp a=(runO p inp x,(0,0)):=by
  obtain ⟨x,rfl⟩:=Int.eq_ofNat_of_zero_le ha.1
  exact ⟨x,rfl,by omega,run_good (fun h1=>h1 h) O O⟩
theorem fold_law {p:Prg} {inp:Str} {a:Int} (hu:prU p) (ha:0≤a∧a≤200000) (hi:inp.length≤2000):((foldR p).2.1≠0→(foldR p).1.funcs=[])∧((foldR p).2.1=0→(runR p inp a).2.1=0∧(runR (foldR p).1 inp a).2.1=0 ∧
    ((runR p inp a).1.2.1=0→(runR p inp a).1.1 <+: (runR (foldR p).1 inp a).1.1) ∧
    (¬ (runR p inp a).1.2.1=0→(runR p inp a).1.2.1=(runR (foldR p).1 inp a).1.2.1∧(runR p inp a).1.2.2.1=(runR (foldR p).1 inp a).1.2.2.1∧(runR p inp a).1.1=(runR (foldR p).1 inp a).1.1∧((runR (foldR p).1 inp a).1.2.2.2:Int)≤((runR p inp a).1.2.2.2:Int))):=by
  by_cases h0:(chkF p).1≠0
  · rw [show foldR p=(⟨[],[]⟩,chkF p) from if_pos h0]
    exact ⟨fun _=>rfl,fun h=>absurd h h0⟩
  by_cases h1:(prgF (foldP p)).1≠0
  · rw [show foldR p=(⟨[],[]⟩,prgF (foldP p)) from (if_neg h0).trans (if_pos h1)]
    exact ⟨fun _=>rfl,fun h=>absurd h h1⟩
  rw [show foldR p=(foldP p,(0,0)) from (if_neg h0).trans (if_neg h1)]
  refine ⟨fun h=>absurd Z h,fun _=>?_⟩
  have k0:=Decidable.not_not.1 h0
  obtain ⟨x,rfl,hx,e1⟩:=run_ok k0 ha hi
  obtain ⟨y,h3,_,e2⟩:=run_ok (p:=foldP p) (by rw [fold_good hu k0 (Decidable.not_not.1 h1)]) ha hi
  obtain rfl:x=y:=by omega
  rw [e1,e2]
  have hm:mainF (foldP p).funcs=mainF p.funcs:=idx_fold (p:=p) (fun nm=>decide (nm=mainW)) p.funcs 0
  have hr:=fold_run (p:=p) (n:=fuX+1) (main:=(mainF p.funcs).toNat) (a:=x) (inp:=inp) (by rw [fuX_eq];omega) rfl rfl
  have hf:runO (foldP p) inp x=outM x (runP (foldP p) OPp (fuX+1) (mainF p.funcs).toNat inp x):=by rw [runO,hm]
  refine ⟨Z,Z,fun h=>?_,fun h=>?_⟩
  · show (runO p inp x).1 <+: (runO (foldP p) inp x).1
    rw [hf]
    obtain ⟨w,e⟩:=hr.2 h
    exact ⟨w,e.symm⟩
  · show (runO p inp x).2.1=(runO (foldP p) inp x).2.1∧(runO p inp x).2.2.1=(runO (foldP p) inp x).2.2.1∧(runO p inp x).1=(runO (foldP p) inp x).1∧((runO (foldP p) inp x).2.2.2:Int)≤((runO p inp x).2.2.2:Int)
    rw [hf]
    obtain ⟨q1,q2,q3,q4⟩:=hr.1 h
    exact ⟨q2.symm,q3.symm,q1.symm,Int.ofNat_le.2 q4⟩
theorem sbT (D:Nat) (L:Hl) (s:World) (A:Option Addr) (n c:Nat) (l:List UInt8) (hA:Bts s A n c l) (A1:Option Addr) (n1 c1:Nat) (l1:List UInt8) (hB:Bts s A1 n1 c1 l1) (h:l=l1):AC Tryz.prog D 18 [.slice A n c,.slice A1 n1 c1] L s fun v L' _=>v=.bool true∧L=L':=
  (sameBytes_ac D L s A n c l hA A1 n1 c1 l1 hB).mono fun v L' s' _ hv=>⟨hv.1.trans (by rw [decide_eq_true h]),hv.2⟩
theorem lawFolded_ac (D:Nat) (L:Hl) (s:World) (hG:GP s) (d:Nat) (p:Prg) (Ag Af:Option Addr) (ng cg nf cf:Nat) (hGl:Glos s Ag ng cg p.globals) (hFn:Fncs d s Af nf cf p.funcs) (Ai:Option Addr) (ni qi:Nat) (inp:Str) (hI:Bts s Ai ni qi inp) (a:Int):AC Tryz.prog D 6 [.agg #[.slice Ag ng cg,.slice Af nf cf],.slice Ai ni qi,.int .i64 a] L s fun v L' _=>v=.bool true∧L=L':=by
 have hn1:=hGl.1
 have hn2:=hFn.1
 have hU:prU p:=⟨hGl.u,hFn.u⟩
 have hni:=hI.1
 refine AC_enter (TT:=TT) (fn:=Tryz.f6) TT_ok Tryz.func6 V Z Tryz.ntmps6 Z (rs:=[.tmp 6]) Z [(0,_),(1,_),(2,_)] Z<|Sr<|JO_boxA Z Z ?_
 intro β1 s1 h1
 refine At Z Z<|Zs<|Sr<|Jc Z Z Z (meant_ac D _ _ (hG.le h1)) ?_
 rintro _ _ s2 h2 ⟨rfl,rfl⟩
 refine ZqnT Z Z<|Zqm Z Z<|Zg Z Z<|Jc Z Z Z (checked_ac D _ _ (hG.le (h1.t h2))) ?_
 rintro _ _ s3 h3 ⟨rfl,rfl⟩
 refine Zg Z Z<|ZqnT Z Z<|ZqF Z Z Z<|Nt<|Zz Z<|Zk<|Zt<|Zs<|?_
 refine JC_cutB 26 (¬ (0≤a∧a≤200000)∨2000 < (ni:Int)) ?_ ?_
 ·
  refine Zr<|Zqm Z Z<|Jc Z Z Z (in_ac D _ _ _ _ _) ?_
  rintro _ _ s5 h5 ⟨rfl,rfl⟩
  refine Zqno Z Z<|Zqm Z Z<|?_
  refine JO_caseN (t:=22) Z (fun c6=>?_) (fun c6=>?_)
  ·
   refine Wf Y4<|Wf Y4<|Wf Y4<|ZqT Z Z Z<|Zn<|?_
   refine thenQ_n (MidB.mk h5 Sb Z ((decide_eq_true O).symm))
  refine Zg Z Z<|Zqm Z Z<|Zg Z Z<|Ws Y4<|Zg Z Z<|Zqgt Z Z Z<|ZqF Z Z Z<|Zn<|?_
  refine thenQ_n (MidB.mk h5 Sb Z (decide_eq_decide.2 O))
 intro s4 h4
 refine JC_ifD Z (fun c7=>?_) (fun c7=>?_)
 ·
  refine Sr<|At Z Z<|Zo<|Zu<|?_
  refine retQ_mk [_] L (.inr Z) (.tmp Z (.nil)) Z (h1.t h2|>.t h3|>.t h4) (fun sR hS2=>?_)
  exact ⟨rfl,rfl⟩
 have g26:=c7
 have gl:=fold_law (inp:=inp) (a:=a) hU O O
 refine Zk<|Zt<|Sr<|JO_q (QE_ldA 0 [_,_] Z Z Z Z Z) Z<|Jc Z Z Z (fold_ac D _ _ (hG.le (h1.t h2|>.t h3|>.t h4)) d p Ag Af ng cg nf cf (hGl.le (h1.t h2|>.t h3|>.t h4)) (hFn.le (h1.t h2|>.t h3|>.t h4))) ?_
 rintro _ _ s8 h8 ⟨rfl,Eg,ug,wg,Ef,uf,wf,rfl,hgo,hfo⟩
 refine Zqm Z Z<|Zqx Z Z Z<|Zqx Z Z Z<|JO_allocZ Z [_,_] Z Z ?_
 intro β9 s9 h9
 refine JO_allocZ Z [_,_] Z Z ?_
 intro β10 s10 h10
 refine Wt 1 [_,_] Y9<|Wt 0 [_,_] Y9<|Nt<|Zs<|Sr<|W0 Y5<|Wl 0 Y6<|Zqne Z Z Z<|Nt<|?_
 refine JC_ifN Z (fun c11=>?_) (fun c11=>?_)
 ·
  have g34:=c11
  rw [gl.1 g34] at hfo
  have huf:uf=0:=hfo.1
  subst huf
  refine Sr<|Wb Y5<|Wl 1 Y6<|Ws Y4<|JO_q (QE_cast (v':=.bool true) (QE_eq Z Z) (bT (by rfl))) Z<|At Z Z<|Zo<|Zu<|?_
  refine retQ_mk [_,_,_] L (.inr Z) (.tmp Z (.nil)) Z (h1.t h2|>.t h3|>.t h4|>.t h8|>.t h9|>.t h10) (fun sR hS2=>?_)
  exact ⟨rfl,rfl⟩
 have gk:=gl.2 (by have:=c11;omega)
 refine Zk<|Zt<|Sr<|JO_q (QE_ldA 2 [_,_] Z Z Z Z Z) Z<|Zqm Z Z<|Zqm Z Z<|Jc Z Z Z (run_ac D _ _ (hG.le (h1.t h2|>.t h3|>.t h4|>.t h8|>.t h9|>.t h10)) d p Ag Af ng cg nf cf (hGl.le (h1.t h2|>.t h3|>.t h4|>.t h8|>.t h9|>.t h10)) (hFn.le (h1.t h2|>.t h3|>.t h4|>.t h8|>.t h9|>.t h10)) _ _ _ inp (hI.le (h1.t h2|>.t h3|>.t h4|>.t h8|>.t h9|>.t h10)) _) ?_
 rintro _ _ s12 h12 ⟨rfl,_,rfl,Ax,nx,qx,rfl,hBx⟩
    
 refine Zqm Z Z<|Zqx Z Z Z<|Zqx Z Z Z<|JO_allocZ Z [_,_,_,_] Z Z ?_
 intro β13 s13 h13
 refine JO_allocZ Z [_,_] Z Z ?_
 intro β14 s14 h14
 refine Wt 1 [_,_,_,_] Y9<|Wt 0 [_,_] Y9<|Nt<|Sr<|JO_q (QE_ldA 3 [_,_] Z Z Z Z Z) Z<|Zqm Z Z<|Zqm Z Z<|Jc Z Z Z (run_ac D _ _ (hG.le (h1.t h2|>.t h3|>.t h4|>.t h8|>.t h9|>.t h10|>.t h12|>.t h13|>.t h14)) d (foldR p).1 _ _ _ _ _ _ (hgo.le (h9.t h10|>.t h12|>.t h13|>.t h14)) (hfo.le (h9.t h10|>.t h12|>.t h13|>.t h14)) _ _ _ inp (hI.le (h1.t h2|>.t h3|>.t h4|>.t h8|>.t h9|>.t h10|>.t h12|>.t h13|>.t h14)) _) ?_
 rintro _ _ s15 h15 ⟨rfl,_,rfl,Ay,ny,qy,rfl,hBy⟩
    
 refine Zqm Z Z<|Zqx Z Z Z<|Zqx Z Z Z<|JO_allocZ Z [_,_,_,_] Z Z ?_
 intro β16 s16 h16
 refine JO_allocZ Z [_,_] Z Z ?_
 intro β17 s17 h17
 refine Wt 1 [_,_,_,_] Y9<|Wt 0 [_,_] Y9<|Nt<|Zs<|Sr<|W0 Y5<|Wl 2 Y6<|JO_q (QE_cast (v':=.bool false) (QE_ne Z Z) (bF gk.1)) Z<|Zqm Z Z<|Zg Z Z<|W0 Y5<|Zg Z Z<|Wl 0 Y6<|Zg Z Z<|JO_q (QE_cast (v':=.bool false) (QE_ne Z Z) (bF gk.2.1)) Z<|ZqF Z Z Z<|Nt<|Zz Z<|Zk<|Zt<|Zs<|Sr<|Wb Y5<|Wl 3 Y6<|Zqeq Z Z Z<|Nt<|?_
 refine JC_ifD Z (fun c18=>?_) (fun c18=>?_)
 ·
  have g63:=c18
  refine Sr<|W0 Y5<|Wl 1 Y6<|W0 Y5<|Wl 3 Y6<|Jc Z Z Z (begT D _ _ _ _ _ _ (hBy.le (h16.t h17)) _ _ _ _ (hBx.le (h13.t h14|>.t h15|>.t h16|>.t h17)) (gk.2.2.1 g63)) ?_
  rintro _ _ s19 h19 ⟨rfl,rfl⟩
  refine At Z Z<|Zo<|Zu<|?_
  refine retQ_mk [_,_,_,_,_,_,_] L (.inr Z) (.tmp Z (.nil)) Z (h1.t h2|>.t h3|>.t h4|>.t h8|>.t h9|>.t h10|>.t h12|>.t h13|>.t h14|>.t h15|>.t h16|>.t h17|>.t h19) (fun sR hS2=>?_)
  exact ⟨rfl,rfl⟩
 have ge:=gk.2.2.2 c18
 refine Zk<|Zt<|Sr<|Wb Y5<|Wl 3 Y6<|Wb Y5<|Wl 1 Y6<|JO_q (QE_cast (v':=.bool true) (QE_eq Z Z) (bT ge.1)) Z<|Zqm Z Z<|Zg Z Z<|Wb Y5<|Zg Z Z<|Wl 3 Y6<|Zg Z Z<|Wb Y5<|Zg Z Z<|Wl 1 Y6<|Zg Z Z<|JO_q (QE_cast (v':=.bool true) (QE_eq Z Z) (bT ge.2.1)) Z<|ZqT Z Z Z<|Zqm Z Z<|Zg Z Z<|W0 Y5<|Zg Z Z<|Wl 3 Y6<|Zg Z Z<|W0 Y5<|Zg Z Z<|Wl 1 Y6<|Zg Z Z<|?_
 refine Jc Z Z Z (sbT D _ _ _ _ _ _ (hBx.le (h13.t h14|>.t h15|>.t h16|>.t h17)) _ _ _ _ (hBy.le (h16.t h17)) ge.2.2.1) ?_
 rintro _ _ s20 h20 ⟨rfl,rfl⟩
 refine ZqT Z Z Z<|Zqm Z Z<|Zg Z Z<|Wb Y5<|Zg Z Z<|Wl 1 Y6<|Zg Z Z<|Wb Y5<|Zg Z Z<|Wl 3 Y6<|Zg Z Z<|JO_q (QE_cast (v':=.bool true) (QE_le Z Z) (bT ge.2.2.2)) Z<|ZqT Z Z Z<|At Z Z<|Zo<|?_
 refine retQ_mk [_,_,_,_,_,_,_] L (.inr Z) (.tmp Z (.nil)) Z (h1.t h2|>.t h3|>.t h4|>.t h8|>.t h9|>.t h10|>.t h12|>.t h13|>.t h14|>.t h15|>.t h16|>.t h17|>.t h20) (fun sR hS2=>?_)
 exact ⟨rfl,rfl⟩
end Go.Proofs.YtpdnijphccdiiaaGreatDoor
namespace Go.Proofs.YtpdnijphccdiiaaGreatDoor
open Go Go.FL Go.ChangeShapes Go.WideShapes Go.ChangeAt Go.RowKit Go.Deep
theorem own_knob:ownKnob Tryz.prog.godebug=none:=by kernel_rfl
theorem laid_out:laidOutB Tryz.prog=true:=by kernel_rfl
theorem mark_free (l:List Obj):∃ D,∀ E,D≤E→∀ o∈l,o≠dum E:=by
  induction l with
  | nil=>exact ⟨0,fun _ _ _ h=>by cases h⟩
  | cons x l ih=>
    obtain ⟨D,hD⟩:=ih
    have hx:∃ B,∀ E,B≤E→x≠dum E:=by
      cases x with
      | mapIter a n b c=>exact ⟨n+1,fun E hE h=>by simp only [dum,Obj.mapIter.injEq] at h;omega⟩
      | _=>exact ⟨0,fun E _ h=>by simp [dum] at h⟩
    obtain ⟨B,hB⟩:=hx
    refine ⟨max D B,fun E hE o ho=>?_⟩
    rcases List.mem_cons.1 ho with rfl | ho
    · exact hB E O
    · exact hD E O o ho
theorem mark_world (W:World):∃ D,∀ k:Nat,W.heap[k]?≠some (dum D):=by
  obtain ⟨D,hD⟩:=mark_free W.heap.toList
  refine ⟨D,fun k hk=>hD D (Nat.le_refl _) (dum D) ?_ Z⟩
  rw [← Array.getElem?_toList] at hk
  exact List.mem_of_getElem? hk
theorem below_of {D:Nat} {W W':World} (hD:∀ k:Nat,W.heap[k]?≠some (dum D)) (h:Le D W W'):Below W.heap.size W W':=
  ⟨h.os,h.tape,h.output,h.size,fun k hk=>(h.block k hk).resolve_left (hD k)⟩
theorem law_calls {P:Program} {f:FuncId} {args:List Value} {W:World} (h:∀ D,AC P D f args [] W fun v L' _=>v=.bool true∧[]=L') :
    Calls P f args.toArray W fun e W'=>e=.returned (.bool true)∧Below W.heap.size W W':=by
  obtain ⟨D,hD⟩:=mark_world W
  refine ((h D).2 ⟨by simp,fun x hx=>by cases hx⟩).mono ?_
  rintro e w' ⟨v,L',s',h1,rfl,h3,h4,rfl,rfl⟩
  exact ⟨h1,below_of hD h4⟩
section
variable {H:Type} {enc:TypeId×Value→H} {P:Program}
theorem trodAll_stays {W W':World} (hl:laidOutB P=true) (hb:Below W.heap.size W W'):∀ {ts:List TypeId} {vs:List Value} {ds:List (DataW H)} {ps:List MemPlace},(∀ t∈ts,P.readableRec t=true∧t < P.types.size)→(∀ x∈ps,x.block < W.heap.size) →
    DataW.TrodAll enc P W 0 (fun _=>true) true ts vs ds ps→DataW.TrodAll enc P W' 0 (fun b=>decide (b < W.heap.size)) true ts vs ds ps
  | [],_,_,_,_,_,h=>by
    obtain ⟨rfl,rfl,rfl⟩:=trodAll_nil h
    exact trodAll_mk0
  | t::ts,_,_,_,hts,hp,h=>by
    obtain ⟨v,vs,d,ds,a,b,rfl,rfl,rfl,h1,h2⟩:=trodAll_cons h
    have ht:=hts t (List.mem_cons_self ..)
    exact trodAll_cons_mk (Below.trod hl ht.1 ht.2 h1 hb fun x hx=>hp x (List.mem_append_left _ hx)) (trodAll_stays hl hb (fun t' h'=>hts t' (List.mem_cons_of_mem _ h')) (fun x hx=>hp x (List.mem_append_right _ hx)) h2)
theorem law_post {fn:Func} {s:ChangeSpec} {W W':World} {args:Array Value} {ds gs:List (DataW H)} {before:List MemPlace} {tb:TypeId} (hl:laidOutB P=true) (hts:∀ t∈fn.params.toList,P.readableRec t=true∧t < P.types.size) (hr:fn.resultTypes=#[tb]) (hb:P.underlying tb=some .bool)
    (hv:s.vars=[]) (hW:DataW.Whole enc P fn.params.toList s.vars false W args.toList ds gs before) (hfn:s.fn H ds={ results:=[.lit (.bool true)],args:=ds }) (hB:Below W.heap.size W W'):s.post enc P fn false true false false W args (.bool true) W':=by
  have hlt:∀ x∈before,x.block < W.heap.size:=fun x hx=>hW.lt x hx
  have hW':=hW
  obtain ⟨p,q,hA,hV,rfl,_,_⟩:=hW
  rw [hv] at hV
  obtain ⟨rfl,rfl⟩:=trodVars_none hV
  refine ⟨ds,[],p++[],[],p,[],hW',?_,?_,?_,hB.frame _,fun h=>by cases h⟩
  · rw [List.append_nil,hfn,hr];exact trodAll_cons_mk (shut_bool hb _) trodAll_mk0
  · rw [List.append_nil,hfn];exact trodAll_stays hl hB hts (fun x hx=>hlt x (List.mem_append_left _ hx)) hA
  · rw [List.append_nil,hfn,hv];rfl
end
def Rd (W:World) (t:TypeId) (cs:List Value):Prop:=∃ (H:Type) (enc:TypeId×Value→H) (n:Nat) (x:DataW H×List MemPlace),DataW.trod enc Tryz.prog W 0 (fun _=>true) true n t cs=some x
section
variable {W:World} {t e:TypeId} {cs:List Value}
theorem rd_int {k:IntKind} (ht:Tryz.prog.underlying t=some (.int k)) (h:Rd W t cs):∃ n,cs=[.int k n]∧(Lit.int k n).wf=true:=by
  obtain ⟨H,enc,n,x,h⟩:=h
  obtain ⟨i,h1,_,h2⟩:=DataW.trod_int ht h
  exact ⟨i,h1,h2⟩
theorem rd_str (ht:Tryz.prog.underlying t=some .string) (h:Rd W t cs):∃ l:List UInt8,cs=[St l]∧l.length≤9223372036854775807:=by
  obtain ⟨H,enc,n,x,h⟩:=h
  obtain ⟨s,h1,_,h2⟩:=DataW.trod_string ht h
  refine ⟨s.data.toList,by rw [h1],?_⟩
  have:s.data.toList.length=s.size:=by rw [Array.length_toList];rfl
  simp only [maxLen] at h2
  omega
theorem rd_field {fs:Array Field} (ht:Tryz.prog.underlying t=some (.struct fs)) (h:Rd W t cs) {sz:Nat} (hc:Tryz.prog.cellsOf t=sz):cs.length=sz∧∀ (i:Nat) (f:Field),fs[i]?=some f→∀ (ty off n:Nat),f.type=ty→f.offset=off→Tryz.prog.cellsOf ty=n→Rd W ty ((cs.drop off).take n):=by
  obtain ⟨H,enc,n,x,h⟩:=h
  obtain ⟨xs,m,_,_,h1,h2,h3⟩:=DataW.trod_struct ht h
  refine ⟨h1.trans hc,fun i f hf ty off k e1 e2 e3=>?_⟩
  have hi:i < xs.length:=by rw [h2];exact (Array.getElem?_eq_some_iff.1 hf).1
  have:=h3 i f hf
  rw [List.getElem?_eq_getElem hi,e1,e2,e3] at this
  exact ⟨H,enc,m,_,this⟩
theorem rd_slice {sz:Nat} (ht:Tryz.prog.underlying t=some (.slice e)) (hc:Tryz.prog.cellsOf e=sz) (hp:0 < sz) (h:Rd W t cs):∃ A n c,cs=[.slice A n c]∧n≤c∧c≤9223372036854775807 ∧
    ∀ i,i < n→∃ b off ds,A=some ⟨b,off,none⟩∧CellsAt W b (off+i * sz) ds∧ds.length=sz∧Rd W e ds:=by
  obtain ⟨H,enc,q,x,h⟩:=h
  rcases open_slice ht h with ⟨rfl,_⟩ | ⟨a,len,cap,m,k,D,Pl,rfl,_,h1,h2,h3,_,h4⟩
  · exact ⟨none,0,0,rfl,Nat.le_refl _,by omega,fun i hi=>by omega⟩
  · simp only [maxLen] at h2
    refine ⟨some a,len,cap,Z,h1,by omega,fun i hi=>?_⟩
    obtain ⟨ds,k1,k2⟩:=h4 i (by simp at h3;omega)
    rw [hc] at k1
    obtain ⟨_,k3,k4⟩:=World.cells?_some k1
    obtain ⟨b,off,spot⟩:=a
    have hs:spot=none:=by
      obtain ⟨ds0,j1,_⟩:=h4 0 (by simp at h3;omega)
      rw [hc,Nat.zero_mul] at j1
      obtain ⟨_,j3,j4⟩:=World.cells?_some j1
      have:=j4 0 hp
      rw [List.getElem?_eq_getElem O] at this
      simpa [Addr.add] using World.cell?_spot this
    subst hs
    refine ⟨b,off,ds,Z,fun j v hj=>?_,k3,H,enc,k,_,k2⟩
    have hl:j < sz:=by rw [← k3];exact (List.getElem?_eq_some_iff.1 hj).1
    have:=k4 j hl
    rw [hj,add_lit,add_lit] at this
    exact this
theorem sl_of {α:Type} [Inhabited α] {R:World→α→List Value→Prop} {sz:Nat} (ht:Tryz.prog.underlying t=some (.slice e)) (hc:Tryz.prog.cellsOf e=sz) (hp:0 < sz) (h:Rd W t cs) (hel:∀ ds,Rd W e ds→∃ x:α,R W x ds):∃ A n c l,cs=[.slice A n c]∧Sl sz R W A n c l:=by
  obtain ⟨A,n,c,h1,h2,h3,h4⟩:=rd_slice ht hc hp h
  obtain ⟨f,hf⟩:=choose_lt (α:=α) (p:=fun i x=>∃ b off ds,A=some ⟨b,off,none⟩∧CellsAt W b (off+i * sz) ds∧ds.length=sz∧R W x ds) (n:=n) (fun i hi=>by
    obtain ⟨b,off,ds,k1,k2,k3,k4⟩:=h4 i hi
    obtain ⟨x,hx⟩:=hel ds k4
    exact ⟨x,b,off,ds,k1,k2,k3,hx⟩)
  refine ⟨A,n,c,(List.range n).map f,h1,by simp,h2,h3,fun i x hi=>?_⟩
  rw [List.getElem?_map] at hi
  cases hr:(List.range n)[i]? with
  | none=>simp [hr] at hi
  | some j=>
    simp [hr] at hi
    obtain ⟨hi1,hi2⟩:=List.getElem?_eq_some_iff.1 hr
    simp at hi1 hi2
    subst hi2;subst hi
    exact hf i hi1
theorem len2 {l:List Value} (h:l.length=2):∃ a b,l=[a,b]:=by match l,h with | [a,b],_=>exact ⟨a,b,rfl⟩
theorem len4 {l:List Value} (h:l.length=4):∃ a b c d,l=[a,b,c,d]:=by match l,h with | [a,b,c,d],_=>exact ⟨a,b,c,d,rfl⟩
theorem one_eq {a b:Value} (h:[a]=[b]):a=b:=by injection h
theorem u32_wf {n:Int} (h:(Lit.int .u32 n).wf=true):U32 n:=by have:=bounds_u32 h;exact ⟨by omega,by omega⟩
end
set_option maxRecDepth 100000
instance:Inhabited Ex:=⟨.mk 0 0 0 [] []⟩
instance:Inhabited Stm:=⟨.mk 0 [] [] [] []⟩
instance:Inhabited Fnc:=⟨⟨[],[],[],[]⟩⟩
instance:Inhabited Glo:=⟨⟨0,[],0,[]⟩⟩
theorem c_int:Tryz.prog.cellsOf 3=1:=by kernel_rfl
theorem c_u32:Tryz.prog.cellsOf 29=1:=by kernel_rfl
theorem c_str:Tryz.prog.cellsOf 9=1:=by kernel_rfl
theorem c_strs:Tryz.prog.cellsOf 54=1:=by kernel_rfl
theorem c_words:Tryz.prog.cellsOf 47=1:=by kernel_rfl
theorem c_ex:Tryz.prog.cellsOf 89=5:=by kernel_rfl
theorem c_exs:Tryz.prog.cellsOf 87=1:=by kernel_rfl
theorem c_st:Tryz.prog.cellsOf 95=5:=by kernel_rfl
theorem c_sts:Tryz.prog.cellsOf 55=1:=by kernel_rfl
theorem c_fn:Tryz.prog.cellsOf 57=4:=by kernel_rfl
theorem c_fns:Tryz.prog.cellsOf 23=1:=by kernel_rfl
theorem c_gl:Tryz.prog.cellsOf 53=4:=by kernel_rfl
theorem c_gls:Tryz.prog.cellsOf 22=1:=by kernel_rfl
theorem c_prg:Tryz.prog.cellsOf 25=2:=by kernel_rfl
theorem len5 {l:List Value} (h:l.length=5):∃ a b c d e,l=[a,b,c,d,e]:=by match l,h with | [a,b,c,d,e],_=>exact ⟨a,b,c,d,e,rfl⟩
def RdN (n:Nat) (W:World) (t:TypeId) (cs:List Value):Prop:=∃ (H:Type) (enc:TypeId×Value→H) (x:DataW H×List MemPlace),DataW.trod enc Tryz.prog W 0 (fun _=>true) true n t cs=some x
section
variable {W:World} {t e:TypeId} {cs:List Value}
theorem RdN.rd {n:Nat} (h:RdN n W t cs):Rd W t cs:=by
  obtain ⟨H,enc,x,h⟩:=h
  exact ⟨H,enc,n,x,h⟩
theorem rdn_field {n:Nat} {fs:Array Field} (ht:Tryz.prog.underlying t=some (.struct fs)) (h:RdN n W t cs) {sz:Nat} (hc:Tryz.prog.cellsOf t=sz):cs.length=sz∧∃ m,n=m+1∧∀ (i:Nat) (f:Field),fs[i]?=some f→∀ (ty off k:Nat),f.type=ty→f.offset=off→Tryz.prog.cellsOf ty=k→RdN m W ty ((cs.drop off).take k):=by
  obtain ⟨H,enc,x,h⟩:=h
  obtain ⟨xs,m,hm,_,h1,h2,h3⟩:=DataW.trod_struct ht h
  refine ⟨h1.trans hc,m,hm,fun i f hf ty off k e1 e2 e3=>?_⟩
  have hi:i < xs.length:=by rw [h2];exact (Array.getElem?_eq_some_iff.1 hf).1
  have:=h3 i f hf
  rw [List.getElem?_eq_getElem hi,e1,e2,e3] at this
  exact ⟨H,enc,_,this⟩
theorem rdn_slice {n sz:Nat} (ht:Tryz.prog.underlying t=some (.slice e)) (hc:Tryz.prog.cellsOf e=sz) (hp:0 < sz) (h:RdN n W t cs):∃ A m c,cs=[.slice A m c]∧m≤c∧c≤9223372036854775807 ∧
    ∀ i,i < m→∃ b off ds q,A=some ⟨b,off,none⟩∧CellsAt W b (off+i * sz) ds∧ds.length=sz∧n=q+1∧RdN q W e ds:=by
  obtain ⟨H,enc,x,h⟩:=h
  rcases DataW.trod_slice ht h with ⟨rfl,_⟩ | ⟨a,len,cap,elems,rest,q,hq,rfl,_,_,h1,h2,hlen,hel,_,_⟩
  · exact ⟨none,0,0,rfl,Nat.le_refl _,by omega,fun i hi=>by omega⟩
  · simp only [maxLen] at h2
    have h4:∀ i,i < len→∃ ds x,W.cells? 0 (a.add (i * sz)) sz=some ds∧DataW.trod enc Tryz.prog W 0 (fun _=>true) true q e ds=some x:=by
      intro i hi
      have:=hel i hi
      rw [List.getElem?_eq_getElem O,hc] at this
      obtain ⟨ds,k1,k2⟩:=Option.bind_eq_some_iff.1 this
      exact ⟨ds,_,k1,k2⟩
    refine ⟨some a,len,cap,Z,h1,by omega,fun i hi=>?_⟩
    obtain ⟨ds,y,k1,k2⟩:=h4 i hi
    obtain ⟨_,k3,k4⟩:=World.cells?_some k1
    obtain ⟨b,off,spot⟩:=a
    have hs:spot=none:=by
      obtain ⟨ds0,_,j1,_⟩:=h4 0 O
      rw [Nat.zero_mul] at j1
      obtain ⟨_,j3,j4⟩:=World.cells?_some j1
      have:=j4 0 hp
      rw [List.getElem?_eq_getElem O] at this
      simpa [Addr.add] using World.cell?_spot this
    subst hs
    refine ⟨b,off,ds,q,Z,fun j v hj=>?_,k3,hq,H,enc,_,k2⟩
    have hl:j < sz:=by rw [← k3];exact (List.getElem?_eq_some_iff.1 hj).1
    have:=k4 j hl
    rw [hj,add_lit,add_lit] at this
    exact this
theorem sln_of {α:Type} [Inhabited α] {R:World→α→List Value→Prop} {n sz:Nat} (ht:Tryz.prog.underlying t=some (.slice e)) (hc:Tryz.prog.cellsOf e=sz) (hp:0 < sz) (h:RdN n W t cs) (hel:∀ q,n=q+1→∀ ds,RdN q W e ds→∃ x:α,R W x ds):∃ A m c l,cs=[.slice A m c]∧Sl sz R W A m c l:=by
  obtain ⟨A,m,c,h1,h2,h3,h4⟩:=rdn_slice ht hc hp h
  obtain ⟨f,hf⟩:=choose_lt (α:=α) (p:=fun i x=>∃ b off ds,A=some ⟨b,off,none⟩∧CellsAt W b (off+i * sz) ds∧ds.length=sz∧R W x ds) (n:=m) (fun i hi=>by
    obtain ⟨b,off,ds,q,k1,k2,k3,k5,k4⟩:=h4 i hi
    obtain ⟨x,hx⟩:=hel q k5 ds k4
    exact ⟨x,b,off,ds,k1,k2,k3,hx⟩)
  refine ⟨A,m,c,(List.range m).map f,h1,by simp,h2,h3,fun i x hi=>?_⟩
  rw [List.getElem?_map] at hi
  cases hr:(List.range m)[i]? with
  | none=>simp [hr] at hi
  | some j=>
    simp [hr] at hi
    obtain ⟨hi1,hi2⟩:=List.getElem?_eq_some_iff.1 hr
    simp at hi1 hi2
    subst hi2;subst hi
    exact hf i hi1
theorem rd_words (h:Rd W 47 cs):∃ A n c l,cs=[.slice A n c]∧Wds W A n c l:=sl_of Tryz.underlying47 c_u32 (by decide) h fun _ hd=>by
  obtain ⟨n,h1,h2⟩:=rd_int Tryz.underlying29 hd
  exact ⟨n,h1,u32_wf h2⟩
theorem rd_strs (h:Rd W 54 cs):∃ A n c l,cs=[.slice A n c]∧Strs W A n c l:=
  sl_of (α:=List UInt8) (R:=fun _ x cs=>cs=[St x]∧x.length≤9223372036854775807) Tryz.underlying54 c_str (by decide) h (fun _ hd=>rd_str Tryz.underlying9 hd)
theorem rd_ex (n:Nat):∀ cs,RdN n W 89 cs→∃ x:Ex,ExR n W x cs:=by
  refine Nat.strongRecOn n ?_
  intro n ih cs h
  obtain ⟨h1,m,rfl,h2⟩:=rdn_field Tryz.underlying89 h c_ex
  obtain ⟨a,b,c,d,e,rfl⟩:=len5 h1
  obtain ⟨k,e1,_⟩:=rd_int Tryz.underlying3 (h2 0 _ rfl _ _ _ rfl rfl c_int).rd
  obtain ⟨o,e2,_⟩:=rd_int Tryz.underlying3 (h2 1 _ rfl _ _ _ rfl rfl c_int).rd
  obtain ⟨u,e3,w3⟩:=rd_int Tryz.underlying29 (h2 2 _ rfl _ _ _ rfl rfl c_u32).rd
  obtain ⟨w,e4,w4⟩:=rd_str Tryz.underlying9 (h2 3 _ rfl _ _ _ rfl rfl c_str).rd
  obtain ⟨A,p,q,l,e5,w5⟩:=sln_of (R:=ExR m) Tryz.underlying87 c_ex (by decide) (h2 4 _ rfl _ _ _ rfl rfl c_exs) fun q hq ds hd=>by
    obtain ⟨x,hx⟩:=ih q O ds hd
    exact ⟨x,hx.up O⟩
  have z1:a=.int .i64 k:=one_eq e1
  have z2:b=.int .i64 o:=one_eq e2
  have z3:c=.int .u32 u:=one_eq e3
  have z4:d=St w:=one_eq e4
  have z5:e=.slice A p q:=one_eq e5
  subst z1;subst z2;subst z3;subst z4;subst z5
  exact ⟨.mk k o u w l,A,p,q,rfl,w5,u32_wf w3,w4⟩
theorem rd_exs {n:Nat} (h:RdN n W 87 cs):∃ A m c l,cs=[.slice A m c]∧Exs n W A m c l:=
  sln_of (R:=ExR n) Tryz.underlying87 c_ex (by decide) h fun q hq ds hd=>by
    obtain ⟨x,hx⟩:=rd_ex q ds hd
    exact ⟨x,hx.up O⟩
theorem rd_st (n:Nat):∀ cs,RdN n W 95 cs→∃ x:Stm,StR n W x cs:=by
  refine Nat.strongRecOn n ?_
  intro n ih cs h
  obtain ⟨h1,m,rfl,h2⟩:=rdn_field Tryz.underlying95 h c_st
  obtain ⟨a,b,c,d,e,rfl⟩:=len5 h1
  have hB:∀ {cs},RdN m W 55 cs→∃ A p q l,cs=[.slice A p q]∧Sl 5 (StR m) W A p q l:=fun h=>sln_of (R:=StR m) Tryz.underlying55 c_st (by decide) h fun q hq ds hd=>by
    obtain ⟨x,hx⟩:=ih q O ds hd
    exact ⟨x,hx.up O⟩
  obtain ⟨k,e1,_⟩:=rd_int Tryz.underlying3 (h2 0 _ rfl _ _ _ rfl rfl c_int).rd
  obtain ⟨w,e2,w2⟩:=rd_str Tryz.underlying9 (h2 1 _ rfl _ _ _ rfl rfl c_str).rd
  obtain ⟨A1,p1,q1,l1,e3,w3⟩:=rd_exs (h2 2 _ rfl _ _ _ rfl rfl c_exs)
  obtain ⟨A2,p2,q2,l2,e4,w4⟩:=hB (h2 3 _ rfl _ _ _ rfl rfl c_sts)
  obtain ⟨A3,p3,q3,l3,e5,w5⟩:=hB (h2 4 _ rfl _ _ _ rfl rfl c_sts)
  have z1:a=.int .i64 k:=one_eq e1
  have z2:b=St w:=one_eq e2
  have z3:c=.slice A1 p1 q1:=one_eq e3
  have z4:d=.slice A2 p2 q2:=one_eq e4
  have z5:e=.slice A3 p3 q3:=one_eq e5
  subst z1;subst z2;subst z3;subst z4;subst z5
  exact ⟨.mk k w l1 l2 l3,A1,p1,q1,A2,p2,q2,A3,p3,q3,rfl,w3,w4,w5,w2⟩
theorem rd_sts {n:Nat} (h:RdN n W 55 cs):∃ A m c l,cs=[.slice A m c]∧Stms n W A m c l:=
  sln_of (R:=StR n) Tryz.underlying55 c_st (by decide) h fun q hq ds hd=>by
    obtain ⟨x,hx⟩:=rd_st q ds hd
    exact ⟨x,hx.up O⟩
theorem FnR.up {d e:Nat} {s:World} {x:Fnc} {cs:List Value} (h:FnR d s x cs) (he:d≤e):FnR e s x cs:=by
  obtain ⟨A1,n1,c1,A2,n2,c2,A3,n3,c3,h1,h2,h3,h4,h5⟩:=h
  exact ⟨A1,n1,c1,A2,n2,c2,A3,n3,c3,h1,h2,h3,Stms.up h4 he,h5⟩
theorem rd_fn {n:Nat} {cs:List Value} (h:RdN n W 57 cs):∃ x:Fnc,FnR n W x cs:=by
  obtain ⟨h1,m,rfl,h2⟩:=rdn_field Tryz.underlying57 h c_fn
  obtain ⟨a,b,c,d,rfl⟩:=len4 h1
  obtain ⟨w,e1,w1⟩:=rd_str Tryz.underlying9 (h2 0 _ rfl _ _ _ rfl rfl c_str).rd
  obtain ⟨A1,p1,q1,l1,e2,w2⟩:=rd_strs (h2 1 _ rfl _ _ _ rfl rfl c_strs).rd
  obtain ⟨A2,p2,q2,l2,e3,w3⟩:=rd_strs (h2 2 _ rfl _ _ _ rfl rfl c_strs).rd
  obtain ⟨A3,p3,q3,l3,e4,w4⟩:=rd_sts (h2 3 _ rfl _ _ _ rfl rfl c_sts)
  have z1:a=St w:=one_eq e1
  have z2:b=.slice A1 p1 q1:=one_eq e2
  have z3:c=.slice A2 p2 q2:=one_eq e3
  have z4:d=.slice A3 p3 q3:=one_eq e4
  subst z1;subst z2;subst z3;subst z4
  exact ⟨⟨w,l1,l2,l3⟩,A1,p1,q1,A2,p2,q2,A3,p3,q3,rfl,w2,w3,Stms.up w4 O,w1⟩
theorem rd_gl {cs:List Value} (h:Rd W 53 cs):∃ x:Glo,GlR W x cs:=by
  obtain ⟨h1,h2⟩:=rd_field Tryz.underlying53 h c_gl
  obtain ⟨a,b,c,d,rfl⟩:=len4 h1
  obtain ⟨k,e1,_⟩:=rd_int Tryz.underlying3 (h2 0 _ rfl _ _ _ rfl rfl c_int)
  obtain ⟨w,e2,w2⟩:=rd_str Tryz.underlying9 (h2 1 _ rfl _ _ _ rfl rfl c_str)
  obtain ⟨u,e3,w3⟩:=rd_int Tryz.underlying29 (h2 2 _ rfl _ _ _ rfl rfl c_u32)
  obtain ⟨A,p,q,l,e4,w4⟩:=rd_words (h2 3 _ rfl _ _ _ rfl rfl c_words)
  have z1:a=.int .i64 k:=one_eq e1
  have z2:b=St w:=one_eq e2
  have z3:c=.int .u32 u:=one_eq e3
  have z4:d=.slice A p q:=one_eq e4
  subst z1;subst z2;subst z3;subst z4
  exact ⟨⟨k,w,u,l⟩,A,p,q,rfl,w4,u32_wf w3,w2⟩
theorem rd_prg {n:Nat} {cs:List Value} (h:RdN n W 25 cs):∃ (p:Prg) (Ag Af:Option Addr) (ng cg nf cf:Nat),cs=[.slice Ag ng cg,.slice Af nf cf]∧Glos W Ag ng cg p.globals∧Fncs n W Af nf cf p.funcs:=by
  obtain ⟨h1,m,rfl,h2⟩:=rdn_field Tryz.underlying25 h c_prg
  obtain ⟨a,b,rfl⟩:=len2 h1
  obtain ⟨Ag,ng,cg,lg,e1,w1⟩:=sl_of (R:=GlR) Tryz.underlying22 c_gl (by decide) (h2 0 _ rfl _ _ _ rfl rfl c_gls).rd fun _ hd=>rd_gl hd
  obtain ⟨Af,nf,cf,lf,e2,w2⟩:=sln_of (R:=FnR (m+1)) Tryz.underlying23 c_fn (by decide) (h2 1 _ rfl _ _ _ rfl rfl c_fns) fun q hq ds hd=>by
    obtain ⟨x,hx⟩:=rd_fn hd
    exact ⟨x,hx.up O⟩
  have z1:a=.slice Ag ng cg:=one_eq e1
  have z2:b=.slice Af nf cf:=one_eq e2
  subst z1;subst z2
  exact ⟨⟨lg,lf⟩,Ag,Af,ng,cg,nf,cf,rfl,w1,w2⟩
end
section
variable {H:Type} {enc:TypeId×Value→H} {W:World} {base:Nat} {v:Value} {d:DataW H} {ps:List MemPlace}
theorem rd_of {t:TypeId} (hd:DataW.Trod enc Tryz.prog W 0 (fun _=>true) true t v d ps):Rd W t v.cells.toList:=by
  obtain ⟨n,h⟩:=hd
  exact ⟨H,enc,n,_,h⟩
theorem agg_of {t:TypeId} {fs:Array Field} (ht:Tryz.prog.underlying t=some (.struct fs)) (hv:Value.okWide Tryz.prog W .any base t v):∃ cs,v=.agg cs:=by
  unfold Value.okWide at hv
  rw [ht] at hv
  obtain ⟨cs,h,_⟩:=hv
  exact ⟨cs,h⟩
theorem arg_prg (hv:Value.okWide Tryz.prog W .any base 25 v) (hd:DataW.Trod enc Tryz.prog W 0 (fun _=>true) true 25 v d ps):∃ (m:Nat) (p:Prg) (Ag Af:Option Addr) (ng cg nf cf:Nat),v=.agg #[.slice Ag ng cg,.slice Af nf cf]∧Glos W Ag ng cg p.globals∧Fncs m W Af nf cf p.funcs:=by
  obtain ⟨cs,rfl⟩:=agg_of Tryz.underlying25 hv
  obtain ⟨n,h⟩:=hd
  obtain ⟨p,Ag,Af,ng,cg,nf,cf,h1,h2,h3⟩:=rd_prg (n:=n) ⟨H,enc,_,h⟩
  refine ⟨n,p,Ag,Af,ng,cg,nf,cf,?_,h2,h3⟩
  simp only [Value.cells] at h1
  rw [← h1]
end
theorem gw_var {W:World} {nm:String} {g:Nat} {cs:Array Value} (hg:Tryz.prog.globalNamed nm=some g) (h:W.var? Tryz.prog nm=some cs):∃ ty fz,W.heap[g]?=some (.cells cs ty fz):=by
  unfold World.var? at h
  rw [hg] at h
  simp only [Option.bind_some] at h
  split at h
  · rename_i c t f hb
    injection h with h
    subst h
    exact ⟨t,f,hb⟩
  · cases h
theorem gp_of {W:World} (h:laidMetH Tryz.prog Rows.interpRunMatchesSpecRow.laid W):GP W:=by
  rw [MakeChecks.laidMetH_plain _ _ _ V] at h
  have h2:=h.tail.tail
  have hpow:=Lib.tabIs_of_head (zs:=Lib.pow10Tab) (k:=.u64) (g:=2) V V Tryz.underlying281 Tryz.underlying195 V V h2
  have hasc:=Lib.tabIs_of_head (zs:=Lib.asciiSpaceTab) (k:=.u8) (g:=0) V V Tryz.underlying254 Tryz.underlying5 V V h2.tail.tail
  exact ⟨⟨gw_var (g:=2) V hpow⟩,gw_var (g:=0) V hasc⟩
set_option maxRecDepth 100000
section
variable {H:Type} {enc:TypeId×Value→H} {W:World} {base:Nat} {v:Value} {d:DataW H} {ps:List MemPlace} {cs:List Value}
theorem c_u8:Tryz.prog.cellsOf 5=1:=by kernel_rfl
theorem rd_bytes (h:Rd W 26 cs):∃ A n c l,cs=[.slice A n c]∧Bts W A n c l:=sl_of Tryz.underlying26 c_u8 (by decide) h fun _ hd=>by
  obtain ⟨n,h1,h2⟩:=rd_int Tryz.underlying5 hd
  have:=bounds_u8 h2
  refine ⟨UInt8.ofNat n.toNat,h1.trans ?_⟩
  have e:((UInt8.ofNat n.toNat).toNat:Int)=n:=by simp [UInt8.toNat_ofNat'];omega
  rw [e]
theorem cell_sl {t e:TypeId} (ht:Tryz.prog.underlying t=some (.slice e)) (hv:Value.okWide Tryz.prog W .any base t v):v.cells.toList=[v]:=by
  unfold Value.okWide at hv
  rw [ht] at hv
  simp only [Cell.okWide] at hv
  cases v <;> simp_all [Value.cells,Cell.ok]
theorem arg_bytes (hv:Value.okWide Tryz.prog W .any base 26 v) (hd:DataW.Trod enc Tryz.prog W 0 (fun _=>true) true 26 v d ps):∃ A n c l,v=.slice A n c∧Bts W A n c l:=by
  obtain ⟨A,n,c,l,h1,h2⟩:=rd_bytes (rd_of hd)
  rw [cell_sl Tryz.underlying26 hv] at h1
  exact ⟨A,n,c,l,one_eq h1,h2⟩
end
open Go Go.FL Go.ChangeShapes Go.WideShapes Go.ChangeAt Go.RowKit
theorem interpFoldedProgramsRunAlike_reads:∀ t∈Tryz.f6.params.toList,Tryz.prog.readableRec t=true∧t < Tryz.prog.types.size:=by
  rw [Tryz.params6]
  intro t ht
  simp only [List.mem_cons,List.not_mem_nil,or_false] at ht
  rcases ht with rfl | rfl | rfl <;> exact ⟨by kernel_rfl,of_decide_eq_true V⟩
theorem interpFoldedProgramsRunAlike_contract (H:Type) (enc:TypeId×Value→H) (W:World) (base:Nat) (args:Array Value) (ds gs:List (DataW H)) (before:List MemPlace)
    (hval:∀ (j:Nat) t v,Tryz.f6.params[j]?=some t→args[j]?=some v→Value.okWide Tryz.prog W .any base t v)
    (hW:DataW.Whole enc Tryz.prog Tryz.f6.params.toList Rows.interpFoldedProgramsRunAlikeSpec.vars false W args.toList ds gs before) (hL:laidMetH Tryz.prog Rows.interpFoldedProgramsRunAlikeRow.laid W) :
    Calls Tryz.prog 6 args W fun e W'=>∃ v,e=.returned v∧Rows.interpFoldedProgramsRunAlikeSpec.post enc Tryz.prog Tryz.f6 false true false false W args v W':=by
  have hW':=hW
  obtain ⟨p,q,hA0,hV,rfl,hfz,hnd⟩:=hW'
  have hA:DataW.TrodAll enc Tryz.prog W 0 (fun _=>true) true Tryz.f6.params.toList args.toList ds p:=hA0
  rw [Tryz.params6] at hA hval
  obtain ⟨v0,vs0,d0,ds0,p0,q0,hargs0,rfl,rfl,h0,r0⟩:=trodAll_cons hA
  obtain ⟨v1,vs1,d1,ds1,p1,q1,hargs1,rfl,rfl,h1,r1⟩:=trodAll_cons r0
  obtain ⟨v2,vs2,d2,ds2,p2,q2,hargs2,rfl,rfl,h2,r2⟩:=trodAll_cons r1
  obtain ⟨rfl,rfl,rfl⟩:=trodAll_nil r2
  obtain rfl:args=#[v0,v1,v2]:=by cases args;simp_all
  obtain ⟨rfl,rfl⟩:=trodVars_none hV
  obtain ⟨m0,p0,Ag0,Af0,ng0,cg0,nf0,cf0,rfl,hGl0,hFn0⟩:=arg_prg (hval 0 25 v0 rfl rfl) h0
  obtain ⟨A1,n1,c1,l1,rfl,hB1⟩:=arg_bytes (hval 1 26 v1 rfl rfl) h1
  obtain ⟨k2,rfl,rfl,rfl,wk2⟩:=open_int Tryz.underlying3 (hval 2 3 v2 rfl rfl) h2
  refine (law_calls (args:=[_,_,_]) fun D=>lawFolded_ac D [] W (gp_of hL) m0 p0 Ag0 Af0 ng0 cg0 nf0 cf0 hGl0 hFn0 A1 n1 c1 l1 hB1 k2).mono fun e W' ⟨he,hg⟩=>?_
  subst he
  exact ⟨_,rfl,law_post laid_out interpFoldedProgramsRunAlike_reads V Tryz.underlying4 rfl hW rfl hg⟩
theorem interpFoldedProgramsRunAlike_lifted (os:Os) (started:os.Started) (H:Type) (enc:TypeId×Value→H) :
    ReturnsInHanded {} Tryz.checked os 6 .any (fun w args=>(Rows.interpFoldedProgramsRunAlikeSpec.pre enc Tryz.prog Tryz.f6 [] false w args∧laidMetH Tryz.prog Rows.interpFoldedProgramsRunAlikeRow.laid w)∧sizedMet enc Tryz.prog Tryz.f6 (OpenSpec.ofChange Rows.interpFoldedProgramsRunAlikeSpec) false w args) (Rows.interpFoldedProgramsRunAlikeSpec.post enc Tryz.prog Tryz.f6 false true false false):=by
  refine returnsInHanded_of_change_and (C:=Tryz.checked) (X:=fun w _=>laidMetH Tryz.prog Rows.interpFoldedProgramsRunAlikeRow.laid w) (fun _ _ _ hh h=>h.of_heap hh) own_knob started V Tryz.func6
    (ChangeSpec.witness_shaped (enc:=enc) (C:=Tryz.checked) (os:=os) (X:=fun w _=>laidMetH Tryz.prog Rows.interpFoldedProgramsRunAlikeRow.laid w) false (World.laidAll Tryz.prog os Rows.interpFoldedProgramsRunAlikeRow.laid) #[.agg #[.slice none 0 0,.slice none 0 0],.slice none 0 0,.int .i64 0] 8 (World.laidAll_os _ _ _)
      (World.shaped_of_ZipB V V) V V V
      (by rw [MakeChecks.laidMetH_plain _ _ _ V];exact laidMet_laidAll _ V V)) ?_
  intro W base args ds gs before hval hW _ _ hL _
  exact interpFoldedProgramsRunAlike_contract H enc W base args ds gs before hval hW hL
theorem interpFoldedProgramsRunAlike_said:Rows.InterpFoldedProgramsRunAlikeSaid:=
  OpenClaim.holds_of_wide 6 Tryz.f6 rfl rfl rfl rfl rfl rfl rfl ⟨rfl,rfl,rfl,rfl,rfl⟩ rfl rfl rfl rfl rfl V Tryz.func6 V
    (of_decide_eq_true V) (by unfold Func.isWrapper;first | (rw [if_pos (by decide +kernel)];kernel_rfl) | (rw [if_neg (by decide +kernel)];exact ⟨rfl,rfl⟩))
    (fun os started H enc _=>interpFoldedProgramsRunAlike_lifted os started H enc)
theorem interpFoldedProgramsRunAlike_plain (f:FuncId) (fn:Func) (hf:Tryz.pinned.checked.prog.funcNamed Rows.interpFoldedProgramsRunAlikeRow.func=some f) (hfn:Tryz.pinned.checked.prog.funcs[f]?=some fn):true=Tryz.pinned.checked.prog.looks []∧∀ (j:Nat) t,fn.params[j]?=some t→Tryz.pinned.checked.prog.wantsStandIn t=false:=by
  obtain rfl:f=6:=Option.some.inj ((show Tryz.prog.funcNamed Rows.interpFoldedProgramsRunAlikeRow.func=some 6 by kernel_rfl).symm.trans hf) |>.symm
  obtain rfl:fn=Tryz.f6:=(Option.some.inj (Tryz.func6.symm.trans hfn)).symm
  exact ⟨by kernel_rfl,fun j t ht=>by
    rw [Tryz.params6] at ht
    have hm:t∈[25,26,3]:=by simpa using Array.mem_of_getElem? ht
    have hall:([25,26,3].all fun u=>!Tryz.prog.wantsStandIn u)=true:=by kernel_rfl
    exact (show Tryz.prog.wantsStandIn t=false by simpa using List.all_eq_true.1 hall t hm)⟩
theorem interpFoldedProgramsRunAlike_holds : Rows.InterpFoldedProgramsRunAlikeCardSaid :=
  Claim7.holds_tied_plain_at .later [] _ _ _ _ interpFoldedProgramsRunAlike_said (fun _ h=>by cases h) V (fun _ h=>by cases h) interpFoldedProgramsRunAlike_row_tie rfl ⟨rfl,rfl⟩ V rfl interpFoldedProgramsRunAlike_plain V
end Go.Proofs.YtpdnijphccdiiaaGreatDoor
