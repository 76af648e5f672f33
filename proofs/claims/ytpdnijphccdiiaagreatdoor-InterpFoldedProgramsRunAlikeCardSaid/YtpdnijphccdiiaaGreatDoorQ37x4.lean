/- Part 4 of the proof of interpFoldedProgramsRunAlike_holds: texts C7, C8, Tk, Db, C9, FlV, C10, FlX, C11, C12, C13, FlR, FlY, C14, C15, C16, FlW. -/
import Derived.Test.YtpdnijphccdiiaaGreatDoorQ37x3
import Derived.RangeFuncIn
import Derived.RangeFuncLeaves
import Derived.RangeFuncCalls
import Derived.RangeFuncRecord
import Derived.TacticsIn
import Derived.Sort.LoopGhostIn
import Derived.OrdersIn
set_option linter.unusedVariables false
set_option linter.unusedSimpArgs false
set_option linter.unnecessarySimpa false
set_option maxRecDepth 100000
set_option maxHeartbeats 8000000
namespace Go.Proofs.YtpdnijphccdiiaaGreatDoor
open Go.FL
attribute [local irreducible] JC JO JA JB thenQ blockQ retQ AC fill CellsAt QE Ev Mid
theorem fault_ac (D:Nat) (L:Hl) (s:World) (c i:Int):AC Tryz.prog D 73 [.int .i64 c,.int .i64 i] L s fun v L' _=>v=.agg #[.int .i64 c,.int .i64 i]∧L=L':=by
 refine AC_enter (TT:=TT) (fn:=Tryz.f73) TT_ok Tryz.func73 V Z Tryz.ntmps73 Z (rs:=[.cell 4 33]) Z [(0,_),(1,_)] Z<|Sr<|JO_allocZ Z [_,_] Z Z ?_
 intro β1 s1 h1
 refine Nt<|Sr<|Zqm Z Z<|Zqm Z Z<|JO_q (QE_build [(_,_),(_,_)] [_,_] Z Z Z Z Z Z) Z<|Wt 0 [_,_] Y9<|Nt<|Zo<|?_
 refine retQ_mk [_] L (.inr Z) (.agg (us:=[_,_]) 0 Z Z Z Z Z (.nil)) Z h1 (fun sR hS2=>?_)
 exact ⟨rfl,rfl⟩
theorem bstrWX_ac (D:Nat) (X L:Hl) (s:World) (bb:Nat) (M:Hl) (l:List UInt8) (hW:Wr bb M l):AC Tryz.prog D 119 [.pointer (some ⟨bb,0,none⟩)] (X++(M++L)) s fun u L' _=>u=St l∧L'=X++L:=
  AC.perm (List.perm_append_comm_assoc ..) (bstrW_ac D (X++L) s bb M l hW) fun u L1 s1 ⟨g0,g1⟩=>⟨_,List.Perm.refl _,g0,g1.symm⟩
theorem cfunc_swap (D:Nat) (y:Nat×Obj) (L:Hl) (s:World) (hG:GP s) (bc c d:Nat) (x:Fnc) (A1 A2 A3:Option Addr) (n1 q1 n2 q2 n3 q3:Nat) (hs1:Strs s A1 n1 q1 x.params) (hs2:Strs s A2 n2 q2 x.locals) (hs3:Stms d s A3 n3 q3 x.body) (hc:c≤2000):AC Tryz.prog D 75 [.pointer (some ⟨bc,0,none⟩),.agg #[St x.name,.slice A1 n1 q1,.slice A2 n2 q2,.slice A3 n3 q3]] (y::(bc,cb [.int .i64 (c:Int)] 146)::L) s fun v L' _=>v=.int .i64 (fnC x c).2∧L'=y::(bc,cb [.int .i64 ((fnC x c).1:Int)] 146)::L:=
  AC.perm (List.Perm.swap ..) (cfunc_ac D (y::L) s hG bc c d x A1 A2 A3 n1 q1 n2 q2 n3 q3 hs1 hs2 hs3 hc) fun v L1 s1 ⟨g0,h1⟩=>⟨_,by rw [h1];exact List.Perm.swap ..,g0,rfl⟩
theorem text_ac (D:Nat) (L:Hl) (s:World) (hG:GP s) (d:Nat) (p:Prg) (Ag Af:Option Addr) (ng cg nf cf:Nat) (hGl:Glos s Ag ng cg p.globals) (hFn:Fncs d s Af nf cf p.funcs) (hV:PV p):AC Tryz.prog D 76 [.agg #[.slice Ag ng cg,.slice Af nf cf]] L s fun v L' _=>v=St (prgT p)∧L=L':=by
 have hn1:=hGl.1
 have hn2:=hFn.1
 have hU:=hGl.u
 have hUf:=hFn.u
 obtain ⟨hV1,hV2,hVg,hVf,hVl⟩:=hV
 have hpl:((p.globals.map gloT).flatten).length+((p.funcs.map fncT).flatten).length≤1000000:=by rw [prgT,List.length_append] at hVl;exact hVl
 refine AC_enter (TT:=TT) (fn:=Tryz.f76) TT_ok Tryz.func76 V Z Tryz.ntmps76 Z (rs:=[.tmp 2]) Z [(0,_)] Z<|Sr<|JO_boxA Z Z ?_
 intro β1 s1 h1
 refine At Z Z<|Sr<|JO_q (QE_build [] [_,_] Z Z Z Z Z Z) Z<|JO_boxA Z Z ?_
 intro β2 s2 h2
 refine At Z Z<|Zs<|Zs<|JC_front 1 ?_
 
 refine Zr<|W0 Y5<|Wl 0 Y6<|Ws Y4<|Zqm Z Z<|Nt<|Zp<|?_
 refine JC_loop (γ:=Nat×Hl×List UInt8) (fun g=>[(1,_),(2,_),(3,_),(11,_),(12,_),(13,.int .i64 (g.1:Int))]) (fun g=>(β1,cb [.slice Ag ng cg,.slice Af nf cf] 25)::(g.2.1++L)) (fun g tw=>Le D s2 tw∧(g.1≤ng∧Wr β2 g.2.1 g.2.2∧g.2.2++((p.globals.drop g.1).map gloT).flatten=(p.globals.map gloT).flatten)) (fun g=>ng - g.1) (fun _ _ _ h hl=>⟨h.1.trans hl,h.2⟩) (0,[(β2,cb [.pointer none,.slice none 0 0] 183)],[]) (.cons Z (.cons Z (.cons Z (.cons Z (.cons Z (.cons Z (.nil _))))))) Z ⟨Le.refl _,⟨Nat.zero_le _,Wr.mk (.inl Z) BV.nil,Z⟩⟩ ?_
 intro g s3 I3
 obtain ⟨k,Mo,lo⟩:=g
 obtain ⟨hk0,hWo,hS⟩:=I3.2
 simp only at hk0 hWo hS
 dsimp only
 have hle:=congrArg List.length hS
 simp only [List.length_append] at hle
 refine Sr<|Zqlt Z Z Z<|Nt<|Zs<|?_
 refine JC_ifD Z (fun c4=>?_) (fun c4=>?_)
 ·
  have hk:k < ng:=by omega
  obtain ⟨b,off,x,Ai,ni,ci,rfl,hx,hcx,hix,hux,hnl⟩:=Glos.at_ (hGl.le (h1.t h2|>.t I3.1)) hk
  have hgx:=hVg x (List.mem_of_getElem? hx)
  have hg0:=gloC_zero hgx.1
  have hil:=ident_len hg0.2.2.1
  have hdl:=decS_len hux
  have hni:=hix.1
  have hci:=comma_len (x.init.map decS)
  have hct:=totW_dec x.init hix.u32
  refine Zk<|Zt<|Zs<|Zp<|Sr<|JO_q (QE_iaN Z Z Z Z Z Z hk) Z<|JO_q (QE_ldsA Z Z Z (hcx.le (Lr D)) Z) Z<|JO_allocZ Z [_,_,_,_] Z Z ?_
  intro β5 s5 h5
  refine Wt 0 [_,_,_,_] Y9<|Nt<|Zp<|Sr<|W0 Y5<|Wl 0 Y6<|Zqeq Z Z Z<|At Z Z<|?_
  refine JC_ifD Z (fun c6=>?_) (fun c6=>?_)
  ·
   have hT:=gloT_1 c6
   refine JC_drawT drawsMixed 11 Z 2 ?_
   intro s7 h7
   refine za 0 Z (QE_mv Z) Z<|za 1 Z (We Y4) Z<|za 2 Z (Wd 0 Y5) Z<|za 3 Z (QE_sadd Z Z Uo) Z<|za 4 Z (QE_sadd Z Z Uo) Z<|za 5 Z (We Y4) Z<|za 6 Z (Wd 0 Y5) Z<|JA_1 7 V<|Jb Z trivial Z Z Z (number_ac D _ _ (hG.le (h1.t h2|>.t I3.1|>.t h5|>.t h7)) _ hux) ?_
   rintro _ _ s8 h8 ⟨rfl,rfl⟩
   refine ⟨fun _ _ h=>h,?_⟩
   refine za 8 Z (QE_sadd Z Z Uo) Z<|za 9 Z (QE_sadd Z Z Uo) Z<|JA_1 10 V<|Jb Z trivial Z Z Z (AC.mid [_,_] Mo L (line_ac D _ _ β2 Mo lo hWo 0 O _ (by (try simp only [List.length_append,List.length_cons,List.length_nil,margin]);omega))) ?_
   rintro _ _ s9 h9 ⟨M1,rfl,rfl,hW1⟩
   refine ⟨(fun x hx _=>memK2 hx),?_⟩
   simp only [cQ9,nQ9]
   have hWx:Wr β2 M1 (lo++gloT x):=by rw [hT];exact hW1
   refine JA_done V<|Zb<|Zb<|Zt<|Zr<|Zqadd Z Z Z (w64 O O)<|Zqm Z Z<|Zn<|?_
   refine thenQ_n ⟨(k+1,M1,lo++gloT x),[_],kp,Z,⟨(I3.1.t h5|>.t h7|>.t h8|>.t h9),⟨by simp only;omega,hWx,by simp only;rw [← hS,tflat_at hx,List.append_assoc]⟩⟩,(by simp only;omega)⟩
  have g1:=c6
  refine Sr<|W0 Y5<|Wl 0 Y6<|Zqeq Z Z Z<|At Z Z<|?_
  refine JC_ifD Z (fun c10=>?_) (fun c10=>?_)
  ·
   have hT:=gloT_2 c10
   refine Zr<|Zqm Z Z<|Wb Y5<|Wl 0 Y6<|JO_q (QE_sadd Z Z Uo) Z<|JO_q (QE_sadd Z Z Uo) Z<|Jc Z Z Z (AC.mid [_,_] Mo L (line_ac D _ _ β2 Mo lo hWo 0 O _ (by (try simp only [List.length_append,List.length_cons,List.length_nil,margin]);omega))) ?_
   rintro _ _ s11 h11 ⟨M1,rfl,rfl,hW1⟩
   simp only [cQ9,nQ9]
   have hWx:Wr β2 M1 (lo++gloT x):=by rw [hT];exact hW1
   refine Zn<|Zb<|Zb<|Zt<|Zr<|Zqadd Z Z Z (w64 O O)<|Zqm Z Z<|Zn<|?_
   refine thenQ_n ⟨(k+1,M1,lo++gloT x),[_],kp,Z,⟨(I3.1.t h5|>.t h11),⟨by simp only;omega,hWx,by simp only;rw [← hS,tflat_at hx,List.append_assoc]⟩⟩,(by simp only;omega)⟩
  have g2:=c10
  refine Sr<|Wb Y5<|Wl 0 Y6<|Ws Y4<|Zqeq Z Z Z<|At Z Z<|?_
  refine JC_ifD Z (fun c12=>?_) (fun c12=>?_)
  ·
   have hT:=gloT_3 g1 g2 (List.eq_nil_of_length_eq_zero O)
   refine JC_drawT drawsMixed 11 Z 2 ?_
   intro s13 h13
   refine za 0 Z (QE_mv Z) Z<|za 1 Z (We Y4) Z<|za 2 Z (Wd 0 Y5) Z<|za 3 Z (QE_sadd Z Z Uo) Z<|za 4 Z (QE_sadd Z Z Uo) Z<|za 5 Z (We Y4) Z<|za 6 Z (Wd 0 Y5) Z<|JA_1 7 V<|Jb Z trivial Z Z Z (number_ac D _ _ (hG.le (h1.t h2|>.t I3.1|>.t h5|>.t h13)) _ hux) ?_
   rintro _ _ s14 h14 ⟨rfl,rfl⟩
   refine ⟨fun _ _ h=>h,?_⟩
   refine za 8 Z (QE_sadd Z Z Uo) Z<|za 9 Z (QE_sadd Z Z Uo) Z<|JA_1 10 V<|Jb Z trivial Z Z Z (AC.mid [_,_] Mo L (line_ac D _ _ β2 Mo lo hWo 0 O _ (by (try simp only [List.length_append,List.length_cons,List.length_nil,margin]);omega))) ?_
   rintro _ _ s15 h15 ⟨M1,rfl,rfl,hW1⟩
   refine ⟨(fun x hx _=>memK2 hx),?_⟩
   simp only [cQ9,nQ9]
   have hWx:Wr β2 M1 (lo++gloT x):=by rw [hT];exact hW1
   refine JA_done V<|Zb<|Zb<|Zt<|Zr<|Zqadd Z Z Z (w64 O O)<|Zqm Z Z<|Zn<|?_
   refine thenQ_n ⟨(k+1,M1,lo++gloT x),[_],kp,Z,⟨(I3.1.t h5|>.t h13|>.t h14|>.t h15),⟨by simp only;omega,hWx,by simp only;rw [← hS,tflat_at hx,List.append_assoc]⟩⟩,(by simp only;omega)⟩
  have hT:=gloT_4 g1 g2 (fun h=>by rw [h] at hni;simp at hni;omega)
  refine JC_drawT drawsMixed 16 Z 2 ?_
  intro s16 h16
  refine za 0 Z (QE_mv Z) Z<|za 1 Z (We Y4) Z<|za 2 Z (Wd 0 Y5) Z<|za 3 Z (QE_sadd Z Z Uo) Z<|za 4 Z (QE_sadd Z Z Uo) Z<|za 5 Z (We Y4) Z<|za 6 Z (Wd 0 Y5) Z<|za 10 Z (We Y4) Z<|za 11 Z (Wd 0 Y5) Z<|JA_1 7 V<|Jb Z trivial Z Z Z (number_ac D _ _ (hG.le (h1.t h2|>.t I3.1|>.t h5|>.t h16)) _ hux) ?_
  rintro _ _ s17 h17 ⟨rfl,rfl⟩
  refine ⟨fun _ _ h=>h,?_⟩
  refine za 8 Z (QE_sadd Z Z Uo) Z<|za 9 Z (QE_sadd Z Z Uo) Z<|JA_1 12 V<|Jb Z trivial Z Z Z (numbers_ac D _ _ (hG.le (h1.t h2|>.t I3.1|>.t h5|>.t h16|>.t h17)) Ai ni ci x.init (hix.le (h5.t h16|>.t h17)) O) ?_
  rintro _ _ s18 h18 ⟨rfl,rfl⟩
  refine ⟨fun _ _ h=>h,?_⟩
  refine za 13 Z (QE_sadd Z Z Uo) Z<|za 14 Z (QE_sadd Z Z Uo) Z<|JA_1 15 V<|Jb Z trivial Z Z Z (AC.mid [_,_] Mo L (line_ac D _ _ β2 Mo lo hWo 0 O _ (by (try simp only [List.length_append,List.length_cons,List.length_nil,margin]);omega))) ?_
  rintro _ _ s19 h19 ⟨M1,rfl,rfl,hW1⟩
  refine ⟨(fun x hx _=>memK2 hx),?_⟩
  simp only [cQ9,nQ9]
  have hWx:Wr β2 M1 (lo++gloT x):=by rw [hT];exact hW1
  refine JA_done V<|Zb<|Zb<|Zt<|Zr<|Zqadd Z Z Z (w64 O O)<|Zqm Z Z<|Zn<|?_
  refine thenQ_n ⟨(k+1,M1,lo++gloT x),[_],kp,Z,⟨(I3.1.t h5|>.t h16|>.t h17|>.t h18|>.t h19),⟨by simp only;omega,hWx,by simp only;rw [← hS,tflat_at hx,List.append_assoc]⟩⟩,(by simp only;omega)⟩
 rw [List.drop_eq_nil_of_le O,List.map_nil,List.flatten_nil,List.append_nil] at hS
 refine Zl<|Zv<|Zv<|Zd<|Zt<|Zs<|Sr<|Wb Y5<|Wl 0 Y6<|Ws Y4<|Zqm Z Z<|Nt<|Zp<|?_
 refine JC_loop (γ:=Nat×Hl×List UInt8) (fun g=>[(2,_),(3,_),(76,_),(77,_),(78,.int .i64 (g.1:Int))]) (fun g=>(β1,cb [.slice Ag ng cg,.slice Af nf cf] 25)::(g.2.1++L)) (fun g tw=>Le D s3 tw∧(g.1≤nf∧Wr β2 g.2.1 g.2.2∧g.2.2++((p.funcs.drop g.1).map fncT).flatten=prgT p)) (fun g=>nf - g.1) (fun _ _ _ h hl=>⟨h.1.trans hl,h.2⟩) (0,Mo,lo) (.cons Z (.cons Z (.cons Z (.cons Z (.cons Z (.nil _)))))) Z ⟨Le.refl _,⟨Nat.zero_le _,hWo,by simp only [List.drop_zero];rw [hS,prgT]⟩⟩ ?_
 intro g s20 I20
 obtain ⟨k,Mo,lo⟩:=g
 obtain ⟨hk0,hWo,hS⟩:=I20.2
 simp only at hk0 hWo hS
 dsimp only
 have hle:=congrArg List.length hS
 simp only [List.length_append] at hle
 refine Sr<|Zqlt Z Z Z<|Nt<|Zs<|?_
 refine JC_ifD Z (fun c21=>?_) (fun c21=>?_)
 ·
  have hk:k < nf:=by omega
  obtain ⟨b,off,x,B1,m1,d1,B2,m2,d2,B3,m3,d3,rfl,hx,hcx,hpx,hlx,hbx,hnl⟩:=Fncs.at_ (hFn.le (h1.t h2|>.t I3.1|>.t I20.1)) hk
  obtain ⟨hi1,hi2,hi3,hi4,hi5,hi6⟩:=hVf x (List.mem_of_getElem? hx)
  have hil:=ident_len hi1
  have hp1:=comma_len x.params
  have hp2:=totW_ids x.params fun w hw=>hi4 w (List.mem_append_left _ hw)
  have hl1:=comma_len x.locals
  have hl2:=totW_ids x.locals fun w hw=>hi4 w (List.mem_append_right _ hw)
  have hln:=hlx.1
  have hbl:=stTs_len x.body 1 hi5 (hUf x (List.mem_of_getElem? hx))
  refine Zk<|Zt<|Zs<|Zp<|Sr<|JO_q (QE_iaN Z Z Z Z Z Z hk) Z<|JO_q (QE_ldsA Z Z Z (hcx.le (Lr D)) Z) Z<|JO_allocZ Z [_,_,_,_] Z Z ?_
  intro β22 s22 h22
  refine Wt 0 [_,_,_,_] Y9<|Nt<|Zs<|JC_drawT drawsMixed 11 Z 2 ?_
  intro s23 h23
  refine za 0 Z (QE_mv Z) Z<|za 1 Z (QE_fa0 Z Z Z Z) Z<|za 2 Z (Wd 0 Y5) Z<|za 3 Z (QE_sadd Z Z Uo) Z<|za 4 Z (QE_sadd Z Z Uo) Z<|za 5 Z (We Y4) Z<|za 6 Z (Wd 0 Y5) Z<|JA_1 7 V<|Jb Z trivial Z Z Z (joinC_ac D _ _ B1 m1 d1 x.params (hpx.le (h22.t h23)) O) ?_
  rintro _ _ s24 h24 ⟨rfl,rfl⟩
  refine ⟨fun _ _ h=>h,?_⟩
  refine za 8 Z (QE_sadd Z Z Uo) Z<|za 9 Z (QE_sadd Z Z Uo) Z<|JA_1 10 V<|Jb Z trivial Z Z Z (AC.mid [_,_] Mo L (line_ac D _ _ β2 Mo lo hWo 0 O _ (by (try simp only [List.length_append,List.length_cons,List.length_nil,margin]);omega))) ?_
  rintro _ _ s25 h25 ⟨M1,rfl,rfl,hW1⟩
  refine ⟨(fun x hx _=>memK2 hx),?_⟩
  simp only [cQ9,nQ9]
  refine JA_done V<|Zt<|Zs<|Sr<|Wb Y5<|Wl 0 Y6<|Ws Y4<|Zqgt Z Z Z<|Nt<|?_
  refine JC_ifD Z (fun c26=>?_) (fun c26=>?_)
  ·
   have hlc:x.locals≠[]:=fun h=>by rw [h] at hln;simp at hln;omega
   refine Zr<|Zqm Z Z<|Wb Y5<|Wl 0 Y6<|Jc Z Z Z (joinC_ac D _ _ B2 m2 d2 x.locals (hlx.le (h22.t h23|>.t h24|>.t h25)) O) ?_
   rintro _ _ s27 h27 ⟨rfl,rfl⟩
   refine JO_q (QE_sadd Z Z Uo) Z<|JO_q (QE_sadd Z Z Uo) Z<|Jc Z Z Z (AC.mid [_,_] M1 L (line_ac D _ _ β2 M1 _ hW1 1 O _ (by (try simp only [List.length_append,List.length_cons,List.length_nil,margin]);omega))) ?_
   rintro _ _ s28 h28 ⟨M2,rfl,rfl,hW2⟩
   simp only [cQ9,nQ9]
   refine Nt<|Sr<|Zqm Z Z<|Wb Y5<|Wl 0 Y6<|Jc Z Z Z (AC.mid [_,_] M2 L ((alls D d).1 _ _ (hG.le (h1.t h2|>.t I3.1|>.t I20.1|>.t h22|>.t h23|>.t h24|>.t h25|>.t h27|>.t h28)) β2 M2 _ hW2 B3 m3 d3 x.body 1 (hbx.le (h22.t h23|>.t h24|>.t h25|>.t h27|>.t h28)) hi5 hi6 O (by simp only [List.length_append,List.length_cons,List.length_nil,margin];omega))) ?_
   rintro _ _ s29 h29 ⟨M3,rfl,rfl,hW3⟩
   simp only [cQ9,nQ9]
   refine Nt<|Zr<|Zqm Z Z<|Jc Z Z Z (AC.mid [_,_] M3 L (line_ac D _ _ β2 M3 _ hW3 0 O [125] (by (try simp only [List.length_append,List.length_cons,List.length_nil,margin]);omega))) ?_
   rintro _ _ s30 h30 ⟨M4,rfl,rfl,hW4⟩
   simp only [cQ9,nQ9]
   have hWx:Wr β2 M4 (lo++fncT x):=by simpa [fncT,hlc,margin,List.append_assoc] using hW4
   refine Zn<|Zb<|Zt<|Zr<|Zqadd Z Z Z (w64 O O)<|Zqm Z Z<|Zn<|?_
   refine thenQ_n ⟨(k+1,M4,lo++fncT x),[_],kp,Z,⟨(I20.1.t h22|>.t h23|>.t h24|>.t h25|>.t h27|>.t h28|>.t h29|>.t h30),⟨by simp only;omega,hWx,by simp only;rw [← hS,tflat_at hx,List.append_assoc]⟩⟩,(by simp only;omega)⟩
  have hlc:x.locals=[]:=List.eq_nil_of_length_eq_zero O
  refine Zk<|Zt<|Sr<|Zqm Z Z<|Wb Y5<|Wl 0 Y6<|Jc Z Z Z (AC.mid [_,_] M1 L ((alls D d).1 _ _ (hG.le (h1.t h2|>.t I3.1|>.t I20.1|>.t h22|>.t h23|>.t h24|>.t h25)) β2 M1 _ hW1 B3 m3 d3 x.body 1 (hbx.le (h22.t h23|>.t h24|>.t h25)) hi5 hi6 O (by simp only [List.length_append,List.length_cons,List.length_nil,margin];omega))) ?_
  rintro _ _ s31 h31 ⟨M3,rfl,rfl,hW3⟩
  simp only [cQ9,nQ9]
  refine Nt<|Zr<|Zqm Z Z<|Jc Z Z Z (AC.mid [_,_] M3 L (line_ac D _ _ β2 M3 _ hW3 0 O [125] (by (try simp only [List.length_append,List.length_cons,List.length_nil,margin]);omega))) ?_
  rintro _ _ s32 h32 ⟨M4,rfl,rfl,hW4⟩
  simp only [cQ9,nQ9]
  have hWx:Wr β2 M4 (lo++fncT x):=by simpa [fncT,hlc,margin,List.append_assoc] using hW4
  refine Zn<|Zb<|Zt<|Zr<|Zqadd Z Z Z (w64 O O)<|Zqm Z Z<|Zn<|?_
  refine thenQ_n ⟨(k+1,M4,lo++fncT x),[_],kp,Z,⟨(I20.1.t h22|>.t h23|>.t h24|>.t h25|>.t h31|>.t h32),⟨by simp only;omega,hWx,by simp only;rw [← hS,tflat_at hx,List.append_assoc]⟩⟩,(by simp only;omega)⟩
 rw [List.drop_eq_nil_of_le O,List.map_nil,List.flatten_nil,List.append_nil] at hS
 refine Zl<|Zv<|Zv<|Zd<|Zt<|Sr<|Zqm Z Z<|Zqni Z Z<|W0 Y5<|Jc Z Z Z (bstrWX_ac D [_] L _ β2 Mo lo hWo) ?_
 rintro _ _ s33 h33 ⟨rfl,rfl⟩
 simp only [cQ9,nQ9]
 refine At Z Z<|Zo<|?_
 refine retQ_mk [_] L (.inr Z) (.tmp Z (.nil)) Z (h1.t h2|>.t I3.1|>.t I20.1|>.t h33) (fun sR hS2=>?_)
 exact ⟨by rw [← hS];rfl,rfl⟩
theorem bT {p:Prop} [Decidable p] (h:p):Value.bool (decide p)=.bool true:=by rw [decide_eq_true h]
theorem bF {p:Prop} [Decidable p] (h:p):Value.bool (!decide p)=.bool false:=by rw [decide_eq_true h];rfl
theorem bN {p:Prop} [Decidable p] (h:¬ p):Value.bool (!decide p)=.bool true:=by rw [decide_eq_false h];rfl
theorem bZ {p:Prop} [Decidable p] (h:¬ p):Value.bool (decide p)=.bool false:=by rw [decide_eq_false h]
theorem AC.isT {P:Program} {D:Nat} {f:FuncId} {args:List Value} {L:Hl} {s:World} {p:Prop} [Decidable p] (h:AC P D f args L s fun v L' _=>v=.bool (decide p)∧L=L') (hp:p):AC P D f args L s fun v L' _=>v=.bool true∧L=L':=
  h.mono fun v L' _ _ ⟨h1,h2⟩=>⟨by rw [h1,decide_eq_true hp],h2⟩
theorem validate_ac (D:Nat) (L:Hl) (s:World) (hG:GP s) (d:Nat) (p:Prg) (Ag Af:Option Addr) (ng cg nf cf:Nat) (hGl:Glos s Ag ng cg p.globals) (hFn:Fncs d s Af nf cf p.funcs):AC Tryz.prog D 43 [.agg #[.slice Ag ng cg,.slice Af nf cf]] L s fun v L' _=>v=.agg #[.int .i64 (prgF p).1,.int .i64 (prgF p).2]∧L=L':=by
 have hn1:=hGl.1
 have hn2:=hFn.1
 have hU:prU p:=⟨hGl.u,hFn.u⟩
 refine AC_enter (TT:=TT) (fn:=Tryz.f43) TT_ok Tryz.func43 V Z Tryz.ntmps43 Z (rs:=[.cell 2 33]) Z [(0,_)] Z<|Sr<|JO_boxA Z Z ?_
 intro β1 s1 h1
 refine JO_allocZ Z [_,_] Z Z ?_
 intro β2 s2 h2
 refine Nt<|Zs<|?_
 refine JC_cutB 20 (64 < ng∨64 < nf) ?_ ?_
 ·
  refine Zr<|W0 Y5<|Wl 1 Y6<|Ws Y4<|Zqgt Z Z Z<|Zqm Z Z<|?_
  refine JO_caseD (t:=15) Z (fun c4=>?_) (fun c4=>?_)
  ·
   refine Wf Y4<|Wf Y4<|Wf Y4<|Wf Y4<|ZqT Z Z Z<|Zn<|?_
   refine thenQ_n (MidB.mk (Lr D) Sb Z ((decide_eq_true O).symm))
  refine Zg Z Z<|Wb Y5<|Zg Z Z<|Wl 1 Y6<|Zg Z Z<|Ws Y4<|Zg Z Z<|Zqgt Z Z Z<|ZqF Z Z Z<|Zn<|?_
  refine thenQ_n (MidB.mk (Lr D) Sb Z (decide_eq_decide.2 O))
 intro s3 h3
 refine JC_ifD Z (fun c5=>?_) (fun c5=>?_)
 ·
  have hE:prgF p=(2,-1):=by rw [pr_sh (by rw [sh_many O];simp),sh_many O]
  refine Sr<|Jc Z Z Z (fault_ac D _ _ _ _) ?_
  rintro _ _ s6 h6 ⟨rfl,rfl⟩
  refine Wt 0 [_,_] Y9<|Nt<|Zo<|Zu<|?_
  refine retQ_mk [_,_] L (.inr Z) (.agg (us:=[_,_]) 0 Z Z Z Z Z (.nil)) Z (h1.t h2|>.t h3|>.t h6) (fun sR hS2=>?_)
  exact ⟨by rw [hE];rfl,rfl⟩
 have g20:¬ (64 < p.globals.length∨64 < p.funcs.length):=by omega
 refine Zk<|Zt<|Sr<|At Z Z<|Zs<|Sr<|W0 Y5<|Wl 1 Y6<|Ws Y4<|Zqm Z Z<|Nt<|Zp<|?_
 refine JC_loopX [_,_] (γ:=Nat×Nat) (fun g=>[(1,_),(2,_),(3,.int .i64 (g.2:Int)),(23,_),(24,_),(25,.int .i64 (g.1:Int))]) (fun g=>L) (fun g tw=>Le D s3 tw∧(g.1≤ng∧glF p.globals 0=glF (p.globals.drop g.1) g.1∧g.2=((p.globals.take g.1).map fun g=>g.init.length).sum∧g.2≤g.1 * 40000)) (fun g=>ng - g.1) (fun _ _ _ h hl=>⟨h.1.trans hl,h.2⟩) (0,0) (.cons Z (.cons Z (.cons Z (.cons Z (.cons Z (.cons Z (.nil _))))))) Z ⟨Le.refl _,⟨Nat.zero_le _,Z,Z,Nat.zero_le _⟩⟩ ?_
 intro g s7 I7
 simp only [cQ9,nQ9]
 obtain ⟨k,z⟩:=g
 obtain ⟨hk0,hS,hz,hz4⟩:=I7.2
 simp only at hk0 hS hz hz4
 dsimp only
 refine Sr<|Zqlt Z Z Z<|Nt<|Zs<|?_
 refine JC_ifD Z (fun c8=>?_) (fun c8=>?_)
 ·
  have hk:k < ng:=by omega
  obtain ⟨b,off,x,Ai,ni,ci,rfl,hx,hcx,hix,hux,hnl⟩:=Glos.at_ (hGl.le (h1.t h2|>.t h3|>.t I7.1)) hk
  have hni:=hix.1
  refine Zk<|Zt<|Zs<|Zp<|Sr<|Zqm Z Z<|JO_q (QE_iaN Z Z Z Z Z Z hk) Z<|JO_q (QE_ldsA Z Z Z (hcx.le (Lr D)) Z) Z<|JO_allocZ Z [_,_,_,_] Z Z ?_
  intro β9 s9 h9
  refine Zqa Z Z<|Wt 0 [_,_,_,_] Y9<|Nt<|Zs<|Sr<|JO_q (QE_ldA 0 [_,_,_,_] Z Z Z Z Z) Z<|Jc Z Z Z (chkGlo_ac D _ _ (hG.le (h1.t h2|>.t h3|>.t I7.1|>.t h9)) x Ai ni ci (hix.le h9) hux) ?_
  rintro _ _ s10 h10 ⟨rfl,rfl⟩
  refine At Z Z<|Sr<|Zqm Z Z<|Zqne Z Z Z<|Nt<|?_
  refine JC_ifN Z (fun c11=>?_) (fun c11=>?_)
  ·
   have hE:prgF p=(gloC x,(k:Int)):=by
     have h9:glF p.globals 0=(gloC x,(k:Int)):=by rw [hS,glF_at hx,if_pos c11]
     have h8:shapeF p=(gloC x,(k:Int)):=by rw [sh_glo g20 (by rw [h9];exact c11),h9]
     rw [pr_sh (by rw [h8];exact c11),h8]
   refine Sr<|Zqm Z Z<|Zqm Z Z<|Jc Z Z Z (fault_ac D _ _ _ _) ?_
   rintro _ _ s12 h12 ⟨rfl,rfl⟩
   refine Wt 1 [_,_] Y9<|Nt<|Zo<|Zu<|Zc<|Zu<|Zu<|Zc<|Zu<|?_
   refine retQ_mk [_,_,_] L (.inr Z) (.agg (us:=[_,_]) 1 Z Z Z Z Z (.nil)) Z (h1.t h2|>.t h3|>.t I7.1|>.t h9|>.t h10|>.t h12) (fun sR hS2=>?_)
   exact ⟨by rw [hE];rfl,rfl⟩
  have g33:¬ gloC x≠0:=fun h=>h c11
  have hg4:=(gloC_zero (show gloC x=0 by simpa using g33)).2.2.2.2.2
  refine Zk<|Zt<|Zr<|Zqm Z Z<|Wb Y5<|Wl 0 Y6<|Ws Y4<|JO_q (QE_add' Z Z (show IntKind.i64.wrap ((z:Int)+(ni:Int))=((z+ni:Nat):Int) by rw [w64 O O];simp)) Z<|Zqa Z Z<|Zn<|Zb<|Zt<|Zr<|Zqadd Z Z Z (w64 O O)<|Zqm Z Z<|Zn<|?_
  refine thenQ_n ⟨(k+1,z+ni),[_],kp,Z,⟨(I7.1.t h9|>.t h10),⟨by simp only;omega,by simp only;rw [hS,glF_at hx,if_neg g33],by simp only;rw [tsum_at hx,← hz,hni],by simp only;omega⟩⟩,(by simp only;omega)⟩
 rw [List.drop_eq_nil_of_le O] at hS
 rw [List.take_of_length_le O] at hz
 refine Zl<|Zv<|Zv<|Zd<|Zt<|Zs<|Sr<|Zqm Z Z<|Zqgt Z Z Z<|Nt<|?_
 refine JC_ifD Z (fun c13=>?_) (fun c13=>?_)
 ·
  have hE:prgF p=(2,-1):=by rw [pr_sh (by rw [sh_cells g20 hS O];simp),sh_cells g20 hS O]
  refine Sr<|Jc Z Z Z (fault_ac D _ _ _ _) ?_
  rintro _ _ s14 h14 ⟨rfl,rfl⟩
  refine Wt 0 [_,_] Y9<|Nt<|Zo<|Zu<|?_
  refine retQ_mk [_,_] L (.inr Z) (.agg (us:=[_,_]) 0 Z Z Z Z Z (.nil)) Z (h1.t h2|>.t h3|>.t I7.1|>.t h14) (fun sR hS2=>?_)
  exact ⟨by rw [hE];rfl,rfl⟩
 have g44:=sh_fn g20 hS O
 refine Zk<|Zt<|Sr<|JO_q (QE_build [] [_] Z Z Z Z Z Z) Z<|JO_boxA Z Z ?_
 intro β15 s15 h15
 refine At Z Z<|Zs<|Sr<|Wb Y5<|Wl 2 Y6<|Ws Y4<|Zqm Z Z<|Nt<|Zp ?_
 refine JC_loop (γ:=Nat×Nat) (fun g=>[(1,_),(2,_),(7,_),(49,_),(50,_),(51,.int .i64 (g.1:Int))]) (fun g=>(β15,cb [.int .i64 (g.2:Int)] 146)::_::_::L) (fun g tw=>Le D s15 tw∧(g.1≤nf∧g.2≤2000∧fnF p.funcs p.globals.length 0=fnF (p.funcs.drop g.1) (p.globals.length+g.1) g.2)) (fun g=>nf - g.1) (fun _ _ _ h hl=>⟨h.1.trans hl,h.2⟩) (0,0) (.cons Z (.cons Z (.cons Z (.cons Z (.cons Z (.cons Z (.nil _))))))) Z ⟨Le.refl _,⟨Nat.zero_le _,Nat.zero_le _,Z⟩⟩ ?_
 intro g s16 I16
 obtain ⟨k,ck⟩:=g
 obtain ⟨hk0,hck,hS2⟩:=I16.2
 simp only at hk0 hck hS2
 dsimp only
 refine Sr<|Zqlt Z Z Z<|Nt<|Zs<|?_
 refine JC_ifD Z (fun c17=>?_) (fun c17=>?_)
 ·
  have hk:k < nf:=by omega
  obtain ⟨b,off,x,B1,m1,d1,B2,m2,d2,B3,m3,d3,rfl,hx,hcx,hpx,hlx,hbx,hnl⟩:=Fncs.at_ (hFn.le (h1.t h2|>.t h3|>.t I7.1|>.t h15|>.t I16.1)) hk
  refine Zk<|Zt<|Zs<|Zp<|Sr<|Zqm Z Z<|JO_q (QE_iaN Z Z Z Z Z Z hk) Z<|JO_q (QE_ldsA Z Z Z (hcx.le (Lr D)) Z) Z<|JO_allocZ Z [_,_,_,_] Z Z ?_
  intro β18 s18 h18
  refine Zqa Z Z<|Wt 0 [_,_,_,_] Y9<|Nt<|Sr<|Zqm Z Z<|JO_q (QE_ldA 0 [_,_,_,_] Z Z Z Z Z) Z<|Jc Z Z Z (cfunc_swap D _ _ _ (hG.le (h1.t h2|>.t h3|>.t I7.1|>.t h15|>.t I16.1|>.t h18)) _ ck d x B1 B2 B3 m1 d1 m2 d2 m3 d3 (hpx.le h18) (hlx.le h18) (hbx.le h18) hck) ?_
  rintro _ _ s19 h19 ⟨rfl,rfl⟩
  refine At Z Z<|Sr<|Zqm Z Z<|Zqne Z Z Z<|Nt<|?_
  refine JC_ifN Z (fun c20=>?_) (fun c20=>?_)
  ·
   have hE:prgF p=((fnC x ck).2,((ng+k:Nat):Int)):=by
     have h8:shapeF p=((fnC x ck).2,((ng+k:Nat):Int)):=by rw [g44,hS2,fnF_at hx,if_pos c20,hn1]
     rw [pr_sh (by rw [h8];exact c20),h8]
   refine Sr<|Zqm Z Z<|W0 Y5<|Wl 3 Y6<|Ws Y4<|Zqm Z Z<|JO_q (QE_add' Z Z (show IntKind.i64.wrap ((ng:Int)+(k:Int))=((ng+k:Nat):Int) by rw [w64 O O];simp)) Z<|Jc Z Z Z (fault_ac D _ _ _ _) ?_
   rintro _ _ s21 h21 ⟨rfl,rfl⟩
   refine Wt 2 [_,_] Y9<|Nt<|Zo<|Zc<|Zu<|Zu<|Zc<|Zu<|?_
   refine retQ_mk [_,_,_,_] L (.inr Z) (.agg (us:=[_,_]) 2 Z Z Z Z Z (.nil)) Z (h1.t h2|>.t h3|>.t I7.1|>.t h15|>.t I16.1|>.t h18|>.t h19|>.t h21) (fun sR hS2=>?_)
   exact ⟨by rw [hE];rfl,rfl⟩
  have g60:¬ (fnC x ck).2≠0:=fun h=>h c20
  refine Zk<|Zb<|Zt<|Zr<|Zqadd Z Z Z (w64 O O)<|Zqm Z Z<|Zn<|?_
  refine thenQ_n ⟨(k+1,(fnC x ck).1),[_],kp,Z,⟨(I16.1.t h18|>.t h19),⟨by simp only;omega,by simp only;have hw:=fnC_zero (show (fnC x ck).2=0 by simpa using g60);omega,by simp only;rw [hS2,fnF_at hx,if_neg g60];rfl⟩⟩,(by simp only;omega)⟩
 rw [List.drop_eq_nil_of_le O] at hS2
 have hsh:shapeF p=(0,0):=by rw [g44,hS2];rfl
 have hV:=PV.of hU (by rw [hsh])
 refine Zl<|Zv<|Zv<|Zd<|Zt<|Zs<|Sr<|JO_q (QE_ldA 2 [_,_] Z Z Z Z Z) Z<|Jc Z Z Z (text_ac D _ _ (hG.le (h1.t h2|>.t h3|>.t I7.1|>.t h15|>.t I16.1)) d p Ag Af ng cg nf cf (hGl.le (h1.t h2|>.t h3|>.t I7.1|>.t h15|>.t I16.1)) (hFn.le (h1.t h2|>.t h3|>.t I7.1|>.t h15|>.t I16.1)) hV) ?_
 rintro _ _ s22 h22 ⟨rfl,rfl⟩
 refine Zqlt2 Z Z Z Z<|Zqgt Z Z Z<|Nt<|?_
 refine JC_ifD Z (fun c23=>?_) (fun c23=>?_)
 ·
  have hE:=pr_long hsh O
  refine Sr<|Jc Z Z Z (fault_ac D _ _ _ _) ?_
  rintro _ _ s24 h24 ⟨rfl,rfl⟩
  refine Wt 1 [_,_] Y9<|Nt<|Zo<|Zu<|?_
  refine retQ_mk [_,_,_] L (.inr Z) (.agg (us:=[_,_]) 1 Z Z Z Z Z (.nil)) Z (h1.t h2|>.t h3|>.t I7.1|>.t h15|>.t I16.1|>.t h22|>.t h24) (fun sR hS2=>?_)
  exact ⟨by rw [hE];rfl,rfl⟩
 have hE:=pr_ok hsh O
 refine Zk<|Zt<|Sr<|JO_q (QE_build [] [_,_] Z Z Z Z Z Z) Z<|Wt 1 [_,_] Y9<|Nt<|Zo<|?_
 refine retQ_mk [_,_,_] L (.inr Z) (.agg (us:=[_,_]) 1 Z Z Z Z Z (.nil)) Z (h1.t h2|>.t h3|>.t I7.1|>.t h15|>.t I16.1|>.t h22) (fun sR hS2=>?_)
 exact ⟨by rw [hE];rfl,rfl⟩
end Go.Proofs.YtpdnijphccdiiaaGreatDoor
namespace Go.Proofs.YtpdnijphccdiiaaGreatDoor
open Go Go.FL
abbrev Use:=Str×Int×Int
def useS (x:Stm):Use:=if x.kind=1 then (x.name,1,0) else if x.kind=2 then (x.name,3,0) else if x.kind=5 then (x.name,4,(x.exprs.length:Int)) else ([],0,0)
def useE (x:Ex):Use:=if x.kind=2 then (x.name,2,0) else if x.kind=3 then (x.name,3,0) else if x.kind=4 then (x.name,4,(x.args.length:Int)) else ([],0,0)
inductive Nd where
  | st (x:Stm) (loops:Nat)
  | ex (x:Ex) (loops:Nat)
def Nd.use:Nd→Use
  | .st x _=>useS x
  | .ex x _=>useE x
mutual
def ndX:Ex→Nat→List Nd
  | .mk k o n nm az,lp=>.ex (.mk k o n nm az) lp::ndXs az lp
def ndXs:List Ex→Nat→List Nd
  | [],_=>[]
  | x::r,lp=>ndX x lp++ndXs r lp
end
mutual
def ndS:Stm→Nat→List Nd
  | .mk k nm es b e,lp=>.st (.mk k nm es b e) lp::(ndXs es lp++(ndSs b (if k=4 then lp+1 else lp)++ndSs e (if k=4 then lp+1 else lp)))
def ndSs:List Stm→Nat→List Nd
  | [],_=>[]
  | x::r,lp=>ndS x lp++ndSs r lp
end
def namG:List Glo→List Str→Nat→Int×Int
  | [],_,_=>(0,0)
  | g::r,seen,i=>if g.name∈seen then (8,(i:Int)) else namG r (seen++[g.name]) (i+1)
def namF:List Fnc→List Str→Nat→Int×Int
  | [],_,_=>(0,0)
  | x::r,seen,i=>if x.name∈seen∨¬ (x.params++x.locals).Nodup then (8,(i:Int)) else namF r (seen++[x.name]) (i+1)
def mainW:Str:=[109,97,105,110]
def mainF (l:List Fnc):Int:=idxOf (fun x=>decide (x.name=mainW)) l 0
def nameF (p:Prg):Int×Int:=if (namG p.globals [] 0).1≠0 then namG p.globals [] 0 else if (namF p.funcs (p.globals.map Glo.name) p.globals.length).1≠0 then namF p.funcs (p.globals.map Glo.name) p.globals.length
  else if mainF p.funcs < 0 then (12,-1) else match p.funcs[(mainF p.funcs).toNat]? with
    | some x=>if x.params=[] then (0,0) else (9,-1)
    | none=>(0,0)
theorem idxOf_mem {w:Str}:∀ {l:List Str} {k:Nat},(0≤idxOf (fun x=>decide (w=x)) l k)↔w∈l
  | [],k=>by simp [idxOf]
  | x::r,k=>by
    rw [idxOf]
    by_cases h:w=x
    · simp [h]
    · rw [if_neg (by simpa using h),idxOf_mem];simp [h]
theorem idxOf_snoc {α:Type} {p:α→Bool} {x:α}:∀ {l:List α} {k:Nat},idxOf p (l++[x]) k=if 0≤idxOf p l k then idxOf p l k else if p x=true then ((k+l.length:Nat):Int) else -1
  | [],k=>by simp [idxOf]
  | y::r,k=>by
    rw [List.cons_append,idxOf,idxOf]
    by_cases h:p y=true
    · rw [if_pos h,if_pos h,if_pos O]
    · rw [if_neg h,if_neg h,idxOf_snoc,List.length_cons,show k+1+r.length=k+(r.length+1) by omega]
theorem idxOf_lt {α:Type} {p:α→Bool}:∀ {l:List α} {k:Nat},idxOf p l k < ((k+l.length:Nat):Int)
  | [],k=>by simp [idxOf];omega
  | y::r,k=>by
    rw [idxOf]
    split
    · rw [List.length_cons];omega
    · have:=idxOf_lt (p:=p) (l:=r) (k:=k+1);rw [List.length_cons];omega
theorem namG_at {l:List Glo} {k i:Nat} {x:Glo} {seen:List Str} (h:l[k]?=some x):namG (l.drop k) seen i=if x.name∈seen then (8,(i:Int)) else namG (l.drop (k+1)) (seen++[x.name]) (i+1):=by
  obtain ⟨hk,rfl⟩:=List.getElem?_eq_some_iff.1 h
  rw [List.drop_eq_getElem_cons hk,namG]
theorem namF_at {l:List Fnc} {k i:Nat} {x:Fnc} {seen:List Str} (h:l[k]?=some x):namF (l.drop k) seen i=if x.name∈seen∨¬ (x.params++x.locals).Nodup then (8,(i:Int)) else namF (l.drop (k+1)) (seen++[x.name]) (i+1):=by
  obtain ⟨hk,rfl⟩:=List.getElem?_eq_some_iff.1 h
  rw [List.drop_eq_getElem_cons hk,namF]
theorem nodup_take {l:List Str} {k:Nat} {x:Str} (h:l[k]?=some x) (hn:(l.take k).Nodup) (hx:x ∉ l.take k):(l.take (k+1)).Nodup:=by
  obtain ⟨hk,rfl⟩:=List.getElem?_eq_some_iff.1 h
  rw [List.take_succ_eq_append_getElem hk,List.nodup_append]
  refine ⟨hn,by simp,fun a ha b hb=>?_⟩
  rw [List.mem_singleton] at hb;subst hb
  intro e;subst e;exact hx ha
theorem not_nodup_take {l:List Str} {k:Nat} {x:Str} (h:l[k]?=some x) (hx:x∈l.take k):¬ l.Nodup:=by
  obtain ⟨hk,rfl⟩:=List.getElem?_eq_some_iff.1 h
  intro hn
  have h2:(l.take k++l.drop k).Nodup:=by rw [List.take_append_drop];exact hn
  rw [List.nodup_append] at h2
  exact h2.2.2 _ hx _ (by rw [List.drop_eq_getElem_cons hk];exact List.mem_cons_self ..) rfl
end Go.Proofs.YtpdnijphccdiiaaGreatDoor
namespace Go.FL
open Go Go.RowKit Go.Proofs.YtpdnijphccdiiaaGreatDoor
theorem QE_cast {P:Program} {TT:TyTab} {D:Nat} {fr:Fr} {ty:Nat} {op:Op} {K:Hl} {s0:World} {v v':Value} (h:QE P TT D fr op ty K s0 v) (e:v=v'):QE P TT D fr op ty K s0 v':=e▸h
theorem notEq_and:(BinOp.and≠.eql∧BinOp.and≠.neq):=⟨(by intro h;cases h),(by intro h;cases h)⟩
theorem notEq_or:(BinOp.or≠.eql∧BinOp.or≠.neq):=⟨(by intro h;cases h),(by intro h;cases h)⟩
theorem notEq_xor:(BinOp.xor≠.eql∧BinOp.xor≠.neq):=⟨(by intro h;cases h),(by intro h;cases h)⟩
theorem notEq_shl:(BinOp.shl≠.eql∧BinOp.shl≠.neq):=⟨(by intro h;cases h),(by intro h;cases h)⟩
theorem notEq_shr:(BinOp.shr≠.eql∧BinOp.shr≠.neq):=⟨(by intro h;cases h),(by intro h;cases h)⟩
theorem ofInt32 {x:Int} (h:U32 x):(BitVec.ofInt 32 x).toNat=x.toNat:=by
  obtain ⟨h1,h2⟩:=h
  rw [BitVec.toNat_ofInt]
  omega
theorem wrap32 {n:Nat} (h:n < 4294967296):IntKind.u32.wrap (n:Int)=(n:Int):=by rw [IntKind.wrap_u32];omega
section
variable {P:Program} {t:Nat} {x y:Int}
theorem run_and32 (hx:U32 x) (hy:U32 y) (w:World):(binOp .and t (.int .u32 x) (.int .u32 y)).run P w=.ok (.int .u32 ((x.toNat &&& y.toNat:Nat):Int)) w:=by
  have h:(BitVec.ofInt 32 x &&& BitVec.ofInt 32 y).toNat=x.toNat &&& y.toNat:=by rw [BitVec.toNat_and,ofInt32 hx,ofInt32 hy]
  have h2:x.toNat &&& y.toNat < 4294967296:=h▸(BitVec.ofInt 32 x &&& BitVec.ofInt 32 y).isLt
  have h3:Op.intBits .and .u32 x y=pure (.int .u32 (IntKind.u32.wrap ((BitVec.ofInt 32 x &&& BitVec.ofInt 32 y).toNat:Int))):=rfl
  simp only [binOp,h3,h,wrap32 h2]
  rfl
theorem run_or32 (hx:U32 x) (hy:U32 y) (w:World):(binOp .or t (.int .u32 x) (.int .u32 y)).run P w=.ok (.int .u32 ((x.toNat ||| y.toNat:Nat):Int)) w:=by
  have h:(BitVec.ofInt 32 x ||| BitVec.ofInt 32 y).toNat=x.toNat ||| y.toNat:=by rw [BitVec.toNat_or,ofInt32 hx,ofInt32 hy]
  have h2:x.toNat ||| y.toNat < 4294967296:=h▸(BitVec.ofInt 32 x ||| BitVec.ofInt 32 y).isLt
  have h3:Op.intBits .or .u32 x y=pure (.int .u32 (IntKind.u32.wrap ((BitVec.ofInt 32 x ||| BitVec.ofInt 32 y).toNat:Int))):=rfl
  simp only [binOp,h3,h,wrap32 h2]
  rfl
theorem run_xor32 (hx:U32 x) (hy:U32 y) (w:World):(binOp .xor t (.int .u32 x) (.int .u32 y)).run P w=.ok (.int .u32 ((x.toNat ^^^ y.toNat:Nat):Int)) w:=by
  have h:(BitVec.ofInt 32 x ^^^ BitVec.ofInt 32 y).toNat=x.toNat ^^^ y.toNat:=by rw [BitVec.toNat_xor,ofInt32 hx,ofInt32 hy]
  have h2:x.toNat ^^^ y.toNat < 4294967296:=h▸(BitVec.ofInt 32 x ^^^ BitVec.ofInt 32 y).isLt
  have h3:Op.intBits .xor .u32 x y=pure (.int .u32 (IntKind.u32.wrap ((BitVec.ofInt 32 x ^^^ BitVec.ofInt 32 y).toNat:Int))):=rfl
  simp only [binOp,h3,h,wrap32 h2]
  rfl
theorem two_pow_split {n:Nat} (h:32≤n):(2:Nat) ^ n=4294967296 * 2 ^ (n - 32):=by
  rw [show n=32+(n - 32) by omega,Nat.pow_add];simp
theorem shl_nat (X Y:Nat):(X * 2 ^ min Y 32) % 4294967296=(X <<< Y) % 4294967296:=by
  rw [Nat.shiftLeft_eq]
  rcases Nat.le_total Y 32 with h | h
  · rw [Nat.min_eq_left h]
  · rw [Nat.min_eq_right h,two_pow_split h]
    rw [show X * (4294967296 * 2 ^ (Y - 32))=4294967296 * (X * 2 ^ (Y - 32)) by rw [Nat.mul_left_comm]]
    omega
theorem shr_nat {X:Nat} (hX:X < 4294967296) (Y:Nat):X / 2 ^ min Y 32=X >>> Y:=by
  rw [Nat.shiftRight_eq_div_pow]
  rcases Nat.le_total Y 32 with h | h
  · rw [Nat.min_eq_left h]
  · rw [Nat.min_eq_right h,Nat.div_eq_of_lt O,Nat.div_eq_of_lt]
    have:(2:Nat) ^ 32≤2 ^ Y:=Nat.pow_le_pow_right O h
    omega
theorem run_shl32 (hx:U32 x) (hy:U32 y) (w:World):(binOp .shl t (.int .u32 x) (.int .u32 y)).run P w=.ok (.int .u32 (((x.toNat <<< y.toNat) % 4294967296:Nat):Int)) w:=by
  obtain ⟨X,rfl⟩:=Int.eq_ofNat_of_zero_le hx.1
  obtain ⟨Y,rfl⟩:=Int.eq_ofNat_of_zero_le hy.1
  have h3:Op.shift .shl .u32 (X:Int) .u32 (Y:Int)=pure (.int .u32 (IntKind.u32.wrap ((X:Int) * 2 ^ min Y 32))):=by
    unfold Op.shift
    rw [if_neg O]
    rfl
  have h4:IntKind.u32.wrap ((X:Int) * 2 ^ min Y 32)=(((X <<< Y) % 4294967296:Nat):Int):=by
    rw [IntKind.wrap_u32,← shl_nat]
    have:((X * 2 ^ min Y 32:Nat):Int)=(X:Int) * 2 ^ min Y 32:=by push_cast;rfl
    rw [← this];omega
  simp only [binOp,h3,h4,Int.toNat_natCast]
  rfl
theorem run_shr32 (hx:U32 x) (hy:U32 y) (w:World):(binOp .shr t (.int .u32 x) (.int .u32 y)).run P w=.ok (.int .u32 ((x.toNat >>> y.toNat:Nat):Int)) w:=by
  obtain ⟨X,rfl⟩:=Int.eq_ofNat_of_zero_le hx.1
  obtain ⟨Y,rfl⟩:=Int.eq_ofNat_of_zero_le hy.1
  have h3:Op.shift .shr .u32 (X:Int) .u32 (Y:Int)=pure (.int .u32 ((X:Int).fdiv (2 ^ min Y 32))):=by
    unfold Op.shift
    rw [if_neg O]
    rfl
  have h4:(X:Int).fdiv (2 ^ min Y 32)=((X >>> Y:Nat):Int):=by
    rw [← shr_nat (by have:=hx.2;omega)]
    have:((2 ^ min Y 32:Nat):Int)=(2:Int) ^ min Y 32:=by push_cast;rfl
    rw [← this,Int.fdiv_eq_ediv_of_nonneg _ (Int.natCast_nonneg _)]
    rfl
  simp only [binOp,h3,h4,Int.toNat_natCast]
  rfl
end
end Go.FL
namespace Go.Proofs.YtpdnijphccdiiaaGreatDoor
open Go Go.FL
open Go.FL
attribute [local irreducible] JC JO JA JB thenQ blockQ retQ AC fill CellsAt QE Ev Mid
theorem kfault_ac (D:Nat) (L:Hl) (s:World) (c i:Int):AC Tryz.prog D 47 [.int .i64 c,.int .i64 i] L s fun v L' _=>v=.agg #[.int .i64 c,.int .i64 i]∧L=L':=by
 refine AC_enter (TT:=TT) (fn:=Tryz.f47) TT_ok Tryz.func47 V Z Tryz.ntmps47 Z (rs:=[.cell 4 33]) Z [(0,_),(1,_)] Z<|Sr<|JO_allocZ Z [_,_] Z Z ?_
 intro β1 s1 h1
 refine Nt<|Sr<|Zqm Z Z<|Zqm Z Z<|JO_q (QE_build [(_,_),(_,_)] [_,_] Z Z Z Z Z Z) Z<|Wt 0 [_,_] Y9<|Nt<|Zo<|?_
 refine retQ_mk [_] L (.inr Z) (.agg (us:=[_,_]) 0 Z Z Z Z Z (.nil)) Z h1 (fun sR hS2=>?_)
 exact ⟨rfl,rfl⟩
theorem use_s (D:Nat) (L:Hl) (s:World) (x:Stm) (b o:Nat) (A1 A2 A3:Option Addr) (n1 q1 n2 q2 n3 q3:Nat) (hx:CellsAt s b o [.int .i64 x.kind,St x.name,.slice A1 n1 q1,.slice A2 n2 q2,.slice A3 n3 q3]) (hn:n1=x.exprs.length) (lp:Int):AC Tryz.prog D 66 [.agg #[.pointer (some ⟨b,o,none⟩),.pointer none,.int .i64 lp]] L s fun v L' _=>v=.agg #[St (useS x).1,.int .i64 (useS x).2.1,.int .i64 (useS x).2.2]∧L=L':=by
 refine AC_enter (TT:=TT) (fn:=Tryz.f66) TT_ok Tryz.func66 V Z Tryz.ntmps66 Z (rs:=[.cell 2 135]) Z [(0,_)] Z<|Sr<|JO_boxA Z Z ?_
 intro β1 s1 h1
 refine JO_allocZ Z [_,_,_] Z Z ?_
 intro β2 s2 h2
 refine Nt<|Zs<|Sr<|W0 Y5<|Wl 1 Y6<|JO_q (QE_cast (v':=.bool true) (QE_pne Tryz.underlying108 Z) Z) Z<|Nt<|Zy Z<|Zs<|Sr<|W0 Y5<|Wl 1 Y6<|At Z Z<|Sr<|Zqm Z Z<|Zqni Z Z<|W0 Y5<|JO_q (QE_ldsR0 Z Z Z (hx.le (h1.t h2)) Z) Z<|Nt<|Zp<|Sr<|Zqeq Z Z Z<|At Z Z<|?_
 refine JC_ifD Z (fun c3=>?_) (fun c3=>?_)
 ·
  refine Sr<|Zqm Z Z<|Zqni Z Z<|JO_q (QE_fa Z Z Z Z) Z<|JO_q (QE_ldsR 1 Z Z Z (hx.le (h1.t h2)) Z) Z<|JO_q (QE_build [(_,_),(_,_),(_,_)] [_,_,_] Z Z Z Z Z Z) Z<|Wt 0 [_,_,_] Y9<|Nt<|Zo<|Zc<|Zu<|Zu<|?_
  refine retQ_mk [_,_] L (.inr Z) (.agg (us:=[_,_,_]) 0 Z Z Z Z Z (.nil)) Z (h1.t h2) (fun sR hS2=>?_)
  subst hn
  refine ⟨?_,Z⟩
  simp only [resV];unfold useS
  repeat' split
  all_goals (first | rfl | (exfalso;omega) | (exfalso;simp_all;done))
 refine Sr<|Zqeq Z Z Z<|At Z Z<|?_
 refine JC_ifD Z (fun c4=>?_) (fun c4=>?_)
 ·
  refine Sr<|Zqm Z Z<|Zqni Z Z<|JO_q (QE_fa Z Z Z Z) Z<|JO_q (QE_ldsR 1 Z Z Z (hx.le (h1.t h2)) Z) Z<|JO_q (QE_build [(_,_),(_,_),(_,_)] [_,_,_] Z Z Z Z Z Z) Z<|Wt 0 [_,_,_] Y9<|Nt<|Zo<|Zc<|Zu<|Zu<|?_
  refine retQ_mk [_,_] L (.inr Z) (.agg (us:=[_,_,_]) 0 Z Z Z Z Z (.nil)) Z (h1.t h2) (fun sR hS2=>?_)
  subst hn
  refine ⟨?_,Z⟩
  simp only [resV];unfold useS
  repeat' split
  all_goals (first | rfl | (exfalso;omega) | (exfalso;simp_all;done))
 refine Sr<|Zqeq Z Z Z<|At Z Z<|?_
 refine JC_ifD Z (fun c5=>?_) (fun c5=>?_)
 ·
  refine Zs<|JC_drawE drawsMixed 11 Z [0] (by intro x hx;exact eraseAll_mem hx) ?_
  intro s6 h6
  refine za 0 Z (QE_mv Z) Z<|za 1 Z (QE_nil Z) Z<|za 2 Z (QE_fa Z Z Z Z) Z<|za 3 Z (QE_ldsR 1 Z Z Z (hx.le (h1.t h2|>.t h6)) Z) Z<|za 4 Z (QE_mv Z) Z<|za 5 Z (QE_nil Z) Z<|za 6 Z (QE_fa Z Z Z Z) Z<|za 7 Z (QE_ldsR 2 Z Z Z (hx.le (h1.t h2|>.t h6)) Z) Z<|za 8 Z (QE_lenS Z Z Z) Z<|za 9 Z (QE_build [(_,_),(_,_),(_,_)] [_,_,_] Z Z Z Z Z Z) Z<|JA_1 10 V<|Wu Z trivial 0 [_,_,_] Y9 (fun _ hx=>sub_mem (sbY (sbE _)) hx)<|JA_done V<|Zt<|Zo<|Zc<|Zu<|Zu<|?_
  refine retQ_mk [_,_] L (.inr Z) (.agg (us:=[_,_,_]) 0 Z Z Z Z Z (.nil)) Z (h1.t h2|>.t h6) (fun sR hS2=>?_)
  subst hn
  refine ⟨?_,Z⟩
  simp only [resV];unfold useS
  repeat' split
  all_goals (first | rfl | (exfalso;omega) | (exfalso;simp_all;done))
 refine Zk<|Zb<|Zt<|Sr<|JO_q (QE_build [] [_,_,_] Z Z Z Z Z Z) Z<|Wt 0 [_,_,_] Y9<|Nt<|Zo<|Zu<|?_
 refine retQ_mk [_,_] L (.inr Z) (.agg (us:=[_,_,_]) 0 Z Z Z Z Z (.nil)) Z (h1.t h2) (fun sR hS2=>?_)
 subst hn
 refine ⟨?_,Z⟩
 simp only [resV];unfold useS
 repeat' split
 all_goals (first | rfl | (exfalso;omega) | (exfalso;simp_all;done))
theorem use_e (D:Nat) (L:Hl) (s:World) (x:Ex) (b o:Nat) (A:Option Addr) (n c:Nat) (hx:CellsAt s b o [.int .i64 x.kind,.int .i64 x.op,.int .u32 x.num,St x.name,.slice A n c]) (hn:n=x.args.length) (lp:Int):AC Tryz.prog D 66 [.agg #[.pointer none,.pointer (some ⟨b,o,none⟩),.int .i64 lp]] L s fun v L' _=>v=.agg #[St (useE x).1,.int .i64 (useE x).2.1,.int .i64 (useE x).2.2]∧L=L':=by
 refine AC_enter (TT:=TT) (fn:=Tryz.f66) TT_ok Tryz.func66 V Z Tryz.ntmps66 Z (rs:=[.cell 2 135]) Z [(0,_)] Z<|Sr<|JO_boxA Z Z ?_
 intro β1 s1 h1
 refine JO_allocZ Z [_,_,_] Z Z ?_
 intro β2 s2 h2
 refine Nt<|Zs<|Sr<|W0 Y5<|Wl 1 Y6<|JO_q (QE_cast (v':=.bool false) (QE_pne Tryz.underlying108 Z) Z) Z<|Nt<|Zz Z<|Zk<|Zt<|Zs<|Sr<|Wb Y5<|Wl 1 Y6<|At Z Z<|Sr<|Zqm Z Z<|Zqni Z Z<|W0 Y5<|JO_q (QE_ldsR0 Z Z Z (hx.le (h1.t h2)) Z) Z<|Nt<|Zp<|Sr<|Zqeq Z Z Z<|At Z Z<|?_
 refine JC_ifD Z (fun c3=>?_) (fun c3=>?_)
 ·
  refine Sr<|Zqm Z Z<|Zqni Z Z<|JO_q (QE_fa Z Z Z Z) Z<|JO_q (QE_ldsR 3 Z Z Z (hx.le (h1.t h2)) Z) Z<|JO_q (QE_build [(_,_),(_,_),(_,_)] [_,_,_] Z Z Z Z Z Z) Z<|Wt 0 [_,_,_] Y9<|Nt<|Zo<|Zc<|Zu<|?_
  refine retQ_mk [_,_] L (.inr Z) (.agg (us:=[_,_,_]) 0 Z Z Z Z Z (.nil)) Z (h1.t h2) (fun sR hS2=>?_)
  subst hn
  refine ⟨?_,Z⟩
  simp only [resV];unfold useE
  repeat' split
  all_goals (first | rfl | (exfalso;omega) | (exfalso;simp_all;done))
 refine Sr<|Zqeq Z Z Z<|At Z Z<|?_
 refine JC_ifD Z (fun c4=>?_) (fun c4=>?_)
 ·
  refine Sr<|Zqm Z Z<|Zqni Z Z<|JO_q (QE_fa Z Z Z Z) Z<|JO_q (QE_ldsR 3 Z Z Z (hx.le (h1.t h2)) Z) Z<|JO_q (QE_build [(_,_),(_,_),(_,_)] [_,_,_] Z Z Z Z Z Z) Z<|Wt 0 [_,_,_] Y9<|Nt<|Zo<|Zc<|Zu<|?_
  refine retQ_mk [_,_] L (.inr Z) (.agg (us:=[_,_,_]) 0 Z Z Z Z Z (.nil)) Z (h1.t h2) (fun sR hS2=>?_)
  subst hn
  refine ⟨?_,Z⟩
  simp only [resV];unfold useE
  repeat' split
  all_goals (first | rfl | (exfalso;omega) | (exfalso;simp_all;done))
 refine Sr<|Zqeq Z Z Z<|At Z Z<|?_
 refine JC_ifD Z (fun c5=>?_) (fun c5=>?_)
 ·
  refine Zs<|JC_drawE drawsMixed 11 Z [0] (by intro x hx;exact eraseAll_mem hx) ?_
  intro s6 h6
  refine za 0 Z (QE_mv Z) Z<|za 1 Z (QE_nil Z) Z<|za 2 Z (QE_fa Z Z Z Z) Z<|za 3 Z (QE_ldsR 3 Z Z Z (hx.le (h1.t h2|>.t h6)) Z) Z<|za 4 Z (QE_mv Z) Z<|za 5 Z (QE_nil Z) Z<|za 6 Z (QE_fa Z Z Z Z) Z<|za 7 Z (QE_ldsR 4 Z Z Z (hx.le (h1.t h2|>.t h6)) Z) Z<|za 8 Z (QE_lenS Z Z Z) Z<|za 9 Z (QE_build [(_,_),(_,_),(_,_)] [_,_,_] Z Z Z Z Z Z) Z<|JA_1 10 V<|Wu Z trivial 0 [_,_,_] Y9 (fun _ hx=>sub_mem (sbY (sbE _)) hx)<|JA_done V<|Zt<|Zo<|Zc<|Zu<|?_
  refine retQ_mk [_,_] L (.inr Z) (.agg (us:=[_,_,_]) 0 Z Z Z Z Z (.nil)) Z (h1.t h2|>.t h6) (fun sR hS2=>?_)
  subst hn
  refine ⟨?_,Z⟩
  simp only [resV];unfold useE
  repeat' split
  all_goals (first | rfl | (exfalso;omega) | (exfalso;simp_all;done))
 refine Zk<|Zb<|Zt<|Sr<|JO_q (QE_build [] [_,_,_] Z Z Z Z Z Z) Z<|Wt 0 [_,_,_] Y9<|Nt<|Zo<|?_
 refine retQ_mk [_,_] L (.inr Z) (.agg (us:=[_,_,_]) 0 Z Z Z Z Z (.nil)) Z (h1.t h2) (fun sR hS2=>?_)
 subst hn
 refine ⟨?_,Z⟩
 simp only [resV];unfold useE
 repeat' split
 all_goals (first | rfl | (exfalso;omega) | (exfalso;simp_all;done))
end Go.Proofs.YtpdnijphccdiiaaGreatDoor
namespace Go.FL
open Go Go.RowKit
theorem fill_get {L:Hl} {s:World} (nd:(L.map (·.1)).Nodup) {b:Nat} {o:Obj} (hb:b < s.heap.size) (hx:(b,o)∈L):(fill L s).heap[b]?=some o:=by
  induction L with
  | nil=>cases hx
  | cons x L ih=>
    simp only [List.map_cons,List.nodup_cons] at nd
    rcases List.mem_cons.1 hx with rfl | hx
    · rw [fill];exact setBlk_same _ (by rw [fill_size];exact hb)
    · rw [fill,setBlk_other]
      · exact ih nd.2 hx
      · intro e;exact nd.1 (by rw [e];exact List.mem_map.2 ⟨_,hx,rfl⟩)
theorem AC.lend {P:Program} {D:Nat} {f:FuncId} {args:List Value} {L:Hl} {s:World} {R:Value→Prop} (M:Hl) (hM:∀ x∈M,x.2≠dum D) (hf:FnOK P f) (h:OKL D M s→AC P D f args L (fill M s) (fun v L' _=>R v∧L=L')) :
    AC P D f args (M++L) s (fun v L' _=>R v∧M++L=L'):=by
  refine ⟨hf,fun ho=>?_⟩
  have hoM:OKL D M s:=ho.left
  have hp:(M++L).Perm (L++M):=List.perm_append_comm
  have hnd:=ho.nd
  rw [List.map_append,List.nodup_append] at hnd
  have hdis:∀ x∈L,x.1 ∉ M.map (·.1):=fun x hx hm=>hnd.2.2 _ hm _ (List.mem_map.2 ⟨x,hx,rfl⟩) rfl
  have e:fill (M++L) s=fill L (fill M s):=by rw [fill_perm hp _ ho,fill_append]
  have ho3:OKL D L (fill M s):=⟨ho.right.nd,fun x hx=>by rw [fill_other (hdis x hx)];exact ho.right.dm x hx⟩
  rw [e]
  refine ((h hoM).2 ho3).mono ?_
  rintro en w' ⟨v,L1,s1,h1,rfl,h3,h4,h6,rfl⟩
  have hlt:∀ x∈M,x.1 < s.heap.size:=fun x hx=>hoM.lt hx
  have hsz:s.heap.size≤s1.heap.size:=by have:=h4.size;rwa [fill_size] at this
  have hs1:∀ x∈M,s1.heap[x.1]?=some x.2:=fun x hx=>by
    have hm:=fill_mem hoM (b:=x.1) (o:=x.2) hx
    rcases h4.block x.1 (by rw [fill_size];exact hlt x hx) with hd | hd
    · rw [hm] at hd;exact absurd (Option.some.inj hd) (hM x hx)
    · rw [hd,hm]
  have hk:(M.map fun x=>(x.1,dum D)).map (·.1)=M.map (·.1):=by rw [List.map_map];rfl
  have ho4:OKL D (M++L) (fill (M.map fun x=>(x.1,dum D)) s1):=⟨ho.nd,fun x hx=>by
    rcases List.mem_append.1 hx with hx | hx
    · exact fill_get (by rw [hk];exact hnd.1) (Nat.lt_of_lt_of_le (hlt x hx) hsz) (List.mem_map.2 ⟨x,hx,rfl⟩)
    · rw [fill_other (by rw [hk];exact hdis x hx)];exact h3.dm x hx⟩
  have hw:fill M (fill (M.map fun x=>(x.1,dum D)) s1)=s1:=by
    refine world_eq (heap_ext fun k=>?_) ?_ ?_ ?_ ?_
    · by_cases hm:k∈M.map (·.1)
      · obtain ⟨x,hx,rfl⟩:=List.mem_map.1 hm
        rw [fill_get (o:=x.2) hnd.1 (by rw [fill_size];exact Nat.lt_of_lt_of_le (hlt x hx) hsz) hx,hs1 x hx]
      · rw [fill_other hm,fill_other (by rw [hk];exact hm)]
    · rw [fill_tape,fill_tape]
    · rw [fill_drawn,fill_drawn]
    · rw [fill_os,fill_os]
    · rw [fill_output,fill_output]
  refine ⟨v,M++L,fill (M.map fun x=>(x.1,dum D)) s1,h1,?_,ho4,?_,h6,Z⟩
  · rw [fill_perm hp _ ho4,fill_append,hw]
  · refine ⟨?_,?_,?_,?_,fun k hk1=>?_⟩
    · rw [fill_os,h4.os,fill_os]
    · rw [fill_tape,h4.tape,fill_tape]
    · rw [fill_output,h4.output,fill_output]
    · rw [fill_size];exact hsz
    · by_cases hm:k∈M.map (·.1)
      · obtain ⟨x,hx,rfl⟩:=List.mem_map.1 hm
        exact .inl (hoM.dm x hx)
      · rw [fill_other (by rw [hk];exact hm)]
        have:=h4.block k (by rw [fill_size];exact hk1)
        rw [fill_other hm] at this;exact this
theorem AC.ok {P:Program} {D:Nat} {f:FuncId} {args:List Value} {L:Hl} {s:World} {R:Value→Hl→World→Prop} (h:AC P D f args L s R):FnOK P f:=h.1
theorem pub_own {D:Nat} {M:Hl} {s:World} (h:OKL D M s):Pub M (fill M s):=fun b zs t hm j u hj=>by
  rw [mem_cell h hm,Nat.zero_add];exact hj
theorem own_cb {e sz:Nat} {M:Hl} {v:Value} {n:Nat} {xs:List Value} (h:FL.Own e sz M v n xs) {D:Nat}:∀ x∈M,x.2≠dum D:=by
  cases h with
  | nil=>intro x hx;cases hx
  | blk b cap n xs ys _ _ _ _=>
    intro x hx
    rw [List.mem_singleton] at hx;subst hx
    intro e;cases e
end Go.FL
namespace Go.Proofs.YtpdnijphccdiiaaGreatDoor
open Go.FL
attribute [local irreducible] JC JO JA JB thenQ blockQ retQ AC fill CellsAt QE Ev Mid
theorem scontM_ac (D:Nat) (L:Hl) (s:World) (A:Option Addr) (n c:Nat) (l:List Str) (hA:Strs s A n c l) (w:Str):AC Tryz.prog D 77 [.slice A n c,St w] L s fun v L' _=>v=.bool (decide (w∈l))∧L=L':=by
  have h:=scont_ac D L s A n c l hA w
  rwa [show decide (0≤idxOf (fun x=>decide (w=x)) l 0)=decide (w∈l) from decide_eq_decide.2 idxOf_mem] at h
theorem scont_ok:FnOK Tryz.prog 77:=by
  have h:=scontM_ac 0 [] (default:World) none 0 0 [] ⟨rfl,Nat.zero_le _,by omega,fun i x h=>by cases h⟩ []
  exact AC.ok h
theorem scontO_ac (D:Nat) (X L:Hl) (s:World) (M:Hl) (A:Option Addr) (n c:Nat) (l:List Str) (hO:FL.Own 9 1 M (.slice A n c) n (sb l)) (hu:∀ x∈l,x.length≤9223372036854775807) (hn:n=l.length) (w:Str):AC Tryz.prog D 77 [.slice A n c,St w] (X++(M++L)) s fun v L' _=>v=.bool (decide (w∈l))∧L'=X++(M++L):=
  AC.perm (List.perm_append_comm_assoc ..) (AC.lend M (own_cb hO) scont_ok fun ho=>scontM_ac D (X++L) _ A n c l (Own.strs hO hu (pub_own ho) hn) w) fun v L1 s1 ⟨g0,g1⟩=>⟨_,by rw [← g1];exact List.perm_append_comm_assoc ..,g0,rfl⟩
theorem repd_ac (D:Nat) (L:Hl) (s:World) (A:Option Addr) (n c:Nat) (l:List Str) (hA:Strs s A n c l):AC Tryz.prog D 78 [.slice A n c] L s fun v L' _=>v=.bool (decide (¬ l.Nodup))∧L=L':=by
 have hn:=hA.1
 have hq1:=hA.2.1
 have hq2:=hA.2.2.1
 refine AC_enter (TT:=TT) (fn:=Tryz.f78) TT_ok Tryz.func78 V Z Tryz.ntmps78 Z (rs:=[.tmp 2]) Z [(0,_)] Z<|Sr<|At Z Z<|Zs<|Sr<|Zqm Z Z<|Ws Y4<|Zqm Z Z<|Nt<|Zp<|JC_loop (γ:=Nat) (fun k=>[(0,_),(2,_),(5,_),(6,_),(7,.int .i64 (k:Int))]) (fun _=>_) (fun k tw=>Le D s tw∧(k≤n∧(l.take k).Nodup)) (fun k=>n - k) (fun _ _ _ h hl=>⟨h.1.trans hl,h.2⟩) 0 (.cons Z (.cons Z (.cons Z (.cons Z (.cons Z (.nil _)))))) Z ⟨Le.refl _,⟨Nat.zero_le _,by simp⟩⟩ ?_
 intro k s1 I1
 have hk0:=I1.2.1
 have hI:=I1.2.2
 refine Sr<|Zqlt Z Z Z<|Nt<|Zs<|?_
 refine JC_ifD Z (fun c2=>?_) (fun c2=>?_)
 ·
  have hk:k < n:=by omega
  obtain ⟨b,off,x,rfl,hx,hcx,hxl⟩:=Strs.at_ (hA.le I1.1) hk
  refine Zk<|Zt<|Zs<|Zp<|Sr<|Zqm Z Z<|JO_q (QE_ia1 Z Z Z Z Z Z hk) Z<|JO_q (QE_ldsR0 Z Z Z (hcx.le (Lr D)) Z) Z<|Zqa Z Z<|At Z Z<|Sr<|Zqm Z Z<|Zqm Z Z<|JO_q (QE_slH (j:=k) Z Z Z Z Z O) Z<|Zqm Z Z<|Jc Z Z Z (scontM_ac D _ _ _ k c (l.take k) (Sl.take (hA.le I1.1) hk) x) ?_
  rintro _ _ s3 h3 ⟨rfl,rfl⟩
  refine Nt<|?_
  refine JC_ifD Z (fun c4=>?_) (fun c4=>?_)
  ·
   have hz:=c4
   refine Sr<|At Z Z<|Zo<|Zc<|Zu<|Zu<|Zc<|Zu<|?_
   refine retQ_mk [] L (.inr Z) (.tmp Z (.nil)) Z (I1.1.t h3) (fun sR hS2=>?_)
   exact ⟨by rw [decide_eq_true (not_nodup_take hx hz)];rfl,rfl⟩
  have hz:=c4
  refine Zk<|Zb<|Zt<|Zr<|Zqadd Z Z Z (w64 O O)<|Zqm Z Z<|Zn<|?_
  refine thenQ_n ⟨(k+1),[],kp,Z,⟨(I1.1.t h3),⟨by omega,nodup_take hx hI hz⟩⟩,O⟩
 rw [List.take_of_length_le O] at hI
 refine Zl<|Zv<|Zv<|Zd<|Zt<|Sr<|At Z Z<|Zo<|?_
 refine retQ_mk [] L (.inr Z) (.tmp Z (.nil)) Z I1.1 (fun sR hS2=>?_)
 exact ⟨by rw [decide_eq_false (fun h=>h hI)];rfl,rfl⟩
theorem nm_zero {p:Prg}:(∀ {l:List Glo} {seen:List Str} {i:Nat},(namG l seen i).1=0→namG l seen i=(0,0))∧∀ {l:List Fnc} {seen:List Str} {i:Nat},(namF l seen i).1=0→namF l seen i=(0,0):=by
  constructor
  · intro l
    induction l with
    | nil=>intros;rfl
    | cons x r ih=>
      intro seen i h
      rw [namG] at h ⊢
      split at h
      · cases h
      · rename_i h1;rw [if_neg h1];exact ih h
  · intro l
    induction l with
    | nil=>intros;rfl
    | cons x r ih=>
      intro seen i h
      rw [namF] at h ⊢
      split at h
      · cases h
      · rename_i h1;rw [if_neg h1];exact ih h
theorem nF_g {p:Prg} (h:(namG p.globals [] 0).1≠0):nameF p=namG p.globals [] 0:=by rw [nameF,if_pos h]
theorem nF_f {p:Prg} (h0:namG p.globals [] 0=(0,0)) (h:(namF p.funcs (p.globals.map Glo.name) p.globals.length).1≠0):nameF p=namF p.funcs (p.globals.map Glo.name) p.globals.length:=by rw [nameF,h0,if_neg (by simp),if_pos h]
theorem nF_m {p:Prg} (h0:namG p.globals [] 0=(0,0)) (h1:namF p.funcs (p.globals.map Glo.name) p.globals.length=(0,0)) (h:mainF p.funcs < 0):nameF p=(12,-1):=by rw [nameF,h0,if_neg (by simp),h1,if_neg (by simp),if_pos h]
theorem nF_p {p:Prg} {x:Fnc} {j:Nat} (h0:namG p.globals [] 0=(0,0)) (h1:namF p.funcs (p.globals.map Glo.name) p.globals.length=(0,0)) (h:mainF p.funcs=(j:Int)) (hx:p.funcs[j]?=some x):nameF p=if x.params=[] then (0,0) else (9,-1):=by
  rw [nameF,h0,if_neg (by simp),h1,if_neg (by simp),h,if_neg O,Int.toNat_natCast,hx]
theorem names_ok {p:Prg} (hV:PV p):(∀ w∈p.globals.map Glo.name,w.length≤9223372036854775807)∧∀ w∈p.funcs.map Fnc.name,w.length≤9223372036854775807:=by
  obtain ⟨_,_,hg,hf,_⟩:=hV
  constructor
  · intro w hw
    obtain ⟨x,hx,rfl⟩:=List.mem_map.1 hw
    have:=ident_len (gloC_zero (hg x hx).1).2.2.1;omega
  · intro w hw
    obtain ⟨x,hx,rfl⟩:=List.mem_map.1 hw
    have:=ident_len (hf x hx).1;omega
theorem idxOf_ex {α:Type} {p:α→Bool}:∀ {l:List α} {k:Nat},(0≤idxOf p l k→∃ y∈l,p y=true)∧(idxOf p l k < 0→idxOf p l k=-1)
  | [],k=>⟨fun h=>by simp [idxOf] at h,fun _=>rfl⟩
  | y::r,k=>by
    rw [idxOf]
    by_cases h:p y=true
    · rw [if_pos h];exact ⟨fun _=>⟨y,List.mem_cons_self ..,h⟩,fun h=>by omega⟩
    · rw [if_neg h]
      have ih:=idxOf_ex (p:=p) (l:=r) (k:=k+1)
      exact ⟨fun h=>by obtain ⟨z,h1,h2⟩:=ih.1 h;exact ⟨z,List.mem_cons_of_mem _ h1,h2⟩,ih.2⟩
theorem main_snoc {l:List Fnc} {k:Nat} {x:Fnc} (hx:l[k]?=some x) (hz:x.name ∉ (l.take k).map Fnc.name):idxOf (fun x:Fnc=>decide (x.name=mainW)) (l.take (k+1)) 0=if x.name=mainW then (k:Int) else idxOf (fun x:Fnc=>decide (x.name=mainW)) (l.take k) 0:=by
  obtain ⟨hk,rfl⟩:=List.getElem?_eq_some_iff.1 hx
  rw [List.take_succ_eq_append_getElem hk,idxOf_snoc,List.length_take]
  have he:=idxOf_ex (p:=fun x:Fnc=>decide (x.name=mainW)) (l:=l.take k) (k:=0)
  by_cases hm:l[k].name=mainW
  · rw [if_pos hm,if_neg,if_pos (by simpa using hm),show min k l.length=k by omega,Nat.zero_add]
    intro h0
    obtain ⟨y,hy,e⟩:=he.1 h0
    exact hz (List.mem_map.2 ⟨y,hy,by rw [hm];simpa using e⟩)
  · rw [if_neg hm]
    split
    · rfl
    · rename_i h0
      rw [if_neg (by simpa using hm)]
      exact (he.2 O).symm
theorem chkN_ac (D:Nat) (L:Hl) (s:World) (d:Nat) (p:Prg) (Ag Af:Option Addr) (ng cg nf cf:Nat) (hGl:Glos s Ag ng cg p.globals) (hFn:Fncs d s Af nf cf p.funcs) (hV:PV p):AC Tryz.prog D 44 [.agg #[.slice Ag ng cg,.slice Af nf cf]] L s fun v L' _=>v=.agg #[.int .i64 (nameF p).1,.int .i64 (nameF p).2]∧L=L':=by
 have hn1:=hGl.1
 have hn2:=hFn.1
 obtain ⟨hN1,hN2⟩:=names_ok hV
 have hV1:=hV.1
 have hV2:=hV.2.1
 have hVf:=hV.2.2.2.1
 refine AC_enter (TT:=TT) (fn:=Tryz.f44) TT_ok Tryz.func44 V Z Tryz.ntmps44 Z (rs:=[.cell 2 33]) Z [(0,_)] Z<|Sr<|JO_boxA Z Z ?_
 intro β1 s1 h1
 refine JO_allocZ Z [_,_] Z Z ?_
 intro β2 s2 h2
 refine Nt<|Sr<|At Z Z<|Zs<|Sr<|W0 Y5<|Wl 1 Y6<|Ws Y4<|Zqm Z Z<|Nt<|Zp<|?_
 refine JC_loop (γ:=Nat×Value×Hl) (fun g=>[(1,_),(2,_),(3,g.2.1),(10,_),(11,_),(12,.int .i64 (g.1:Int))]) (fun g=>_::_::(g.2.2++L)) (fun g tw=>Le D s2 tw∧(g.1≤ng∧FL.Own 9 1 g.2.2 g.2.1 g.1 (sb ((p.globals.take g.1).map Glo.name))∧namG p.globals [] 0=namG (p.globals.drop g.1) ((p.globals.take g.1).map Glo.name) g.1)) (fun g=>ng - g.1) (fun _ _ _ h hl=>⟨h.1.trans hl,h.2⟩) (0,.slice none 0 0,[]) (.cons Z (.cons Z (.cons Z (.cons Z (.cons Z (.cons Z (.nil _))))))) Z ⟨Le.refl _,⟨Nat.zero_le _,Own.nil,Z⟩⟩ ?_
 intro g s3 I3
 obtain ⟨k,vo,Mo⟩:=g
 obtain ⟨hk0,hO,hS⟩:=I3.2
 simp only at hk0 hO hS
 dsimp only
 obtain ⟨Av,cv,rfl,hv1,hv2⟩:=Own.slice hO
 refine Sr<|Zqlt Z Z Z<|Nt<|Zs<|?_
 refine JC_ifD Z (fun c4=>?_) (fun c4=>?_)
 ·
  have hk:k < ng:=by omega
  obtain ⟨b,off,x,Ai,ni,ci,rfl,hx,hcx,hix,hux,hnl⟩:=Glos.at_ (hGl.le (h1.t h2|>.t I3.1)) hk
  refine Zk<|Zt<|Zs<|Zp<|Sr<|Zqm Z Z<|JO_q (QE_iaN Z Z Z Z Z Z hk) Z<|JO_q (QE_ldsA Z Z Z (hcx.le (Lr D)) Z) Z<|JO_allocZ Z [_,_,_,_] Z Z ?_
  intro β5 s5 h5
  refine Zqa Z Z<|Wt 0 [_,_,_,_] Y9<|Nt<|Zs<|Sr<|Zqm Z Z<|Wb Y5<|Wl 0 Y6<|Jc Z Z Z (scontO_ac D [_,_,_] L _ Mo Av k cv _ hO (fun w hw=>hN1 w (by rw [List.map_take] at hw;exact List.mem_of_mem_take hw)) (by rw [List.length_map,List.length_take];omega) x.name) ?_
  rintro _ _ s6 h6 ⟨rfl,rfl⟩
  simp only [cQ9,nQ9]
  refine Nt<|?_
  refine JC_ifD Z (fun c7=>?_) (fun c7=>?_)
  ·
   have hE:nameF p=(8,(k:Int)):=by
     have h9:namG p.globals [] 0=(8,(k:Int)):=by rw [hS,namG_at hx,if_pos c7]
     rw [nF_g (by rw [h9];simp),h9]
   refine Sr<|Zqm Z Z<|Jc Z Z Z (kfault_ac D _ _ _ _) ?_
   rintro _ _ s8 h8 ⟨rfl,rfl⟩
   refine Wt 1 [_,_] Y9<|Nt<|Zo<|Zu<|Zc<|Zu<|Zu<|Zc<|Zu<|?_
   refine retQ_mk (_::_::_::Mo) L (.inr Z) (.agg (us:=[_,_]) 1 Z Z Z Z Z (.nil)) Z (h1.t h2|>.t I3.1|>.t h5|>.t h6|>.t h8) (fun sR hS2=>?_)
   exact ⟨by rw [hE];rfl,rfl⟩
  have hz:=c7
  refine Zk<|Zt<|Zr<|Zqm Z Z<|Wb Y5<|Wl 0 Y6<|JO_bs [(_,_)] [_] Z Z Z Z Z Z Z Z Z ?_
  intro βn s9 h9 hcb
  refine JO_app (sz:=1) [_,_,_] Mo L Z Z Z Z Z Z Z hO (Row.of_cells (hcb.le (Lr D)) Z Z) ⟨by simp [ti9];omega,by omega⟩ Z ?_
  intro vq Mq s10 h10 oq
  obtain ⟨Avq,cvq,rfl,_,_⟩:=Own.slice oq
  simp only [cQ9,nQ9]
  refine Zqa Z Z<|Zn<|Zb<|Zt<|Zr<|Zqadd Z Z Z (w64 O O)<|Zqm Z Z<|Zn<|?_
  refine thenQ_n ⟨(k+1,.slice Avq (k+1) cvq,Mq),[_],kp,Z,⟨(I3.1.t h5|>.t h6|>.t h9|>.t h10),⟨by simp only;omega,by rw [take_map_next Glo.name hx,sb_app];exact oq,by simp only;rw [hS,namG_at hx,if_neg hz,take_map_next Glo.name hx]⟩⟩,(by simp only;omega)⟩
 obtain rfl:ng=k:=by omega
 rw [List.drop_eq_nil_of_le O,namG] at hS
 rw [List.take_of_length_le O] at hO
 refine Zl<|Zv<|Zv<|Zd<|Zt<|Sr<|At Z Z<|Zs<|Sr<|Wb Y5<|Wl 1 Y6<|Ws Y4<|Zqm Z Z<|Nt<|Zp<|?_
 refine JC_loop (γ:=Nat×Value×Hl) (fun g=>[(1,_),(2,_),(3,g.2.1),(6,.int .i64 (idxOf (fun x=>decide (x.name=mainW)) (p.funcs.take g.1) 0)),(30,_),(31,_),(32,.int .i64 (g.1:Int))]) (fun g=>_::_::(g.2.2++L)) (fun g tw=>Le D s3 tw∧(g.1≤nf∧FL.Own 9 1 g.2.2 g.2.1 (ng+g.1) (sb (p.globals.map Glo.name++(p.funcs.take g.1).map Fnc.name))∧namF p.funcs (p.globals.map Glo.name) p.globals.length=namF (p.funcs.drop g.1) (p.globals.map Glo.name++(p.funcs.take g.1).map Fnc.name) (p.globals.length+g.1))) (fun g=>nf - g.1) (fun _ _ _ h hl=>⟨h.1.trans hl,h.2⟩) (0,.slice Av ng cv,Mo) (.cons Z (.cons Z (.cons Z (.cons Z (.cons Z (.cons Z (.cons Z (.nil _)))))))) Z ⟨Le.refl _,⟨Nat.zero_le _,by simpa using hO,by simp⟩⟩ ?_
 intro g s11 I11
 obtain ⟨k,vo,Mo⟩:=g
 obtain ⟨hk0,hO,hS2⟩:=I11.2
 simp only at hk0 hO hS2
 dsimp only
 obtain ⟨Av,cv,rfl,hv1,hv2⟩:=Own.slice hO
 refine Sr<|Zqlt Z Z Z<|Nt<|Zs<|?_
 refine JC_ifD Z (fun c12=>?_) (fun c12=>?_)
 ·
  have hk:k < nf:=by omega
  obtain ⟨b,off,x,B1,m1,d1,B2,m2,d2,B3,m3,d3,rfl,hx,hcx,hpx,hlx,hbx,hnl⟩:=Fncs.at_ (hFn.le (h1.t h2|>.t I3.1|>.t I11.1)) hk
  obtain ⟨hi1,hi2,hi3,hi4,hi5,hi6⟩:=hVf x (List.mem_of_getElem? hx)
  have hp9:=hpx.1
  have hl9:=hlx.1
  refine Zk<|Zt<|Zs<|Zp<|Sr<|Zqm Z Z<|JO_q (QE_iaN Z Z Z Z Z Z hk) Z<|JO_q (QE_ldsA Z Z Z (hcx.le (Lr D)) Z) Z<|JO_allocZ Z [_,_,_,_] Z Z ?_
  intro β13 s13 h13
  refine Zqa Z Z<|Wt 0 [_,_,_,_] Y9<|Nt<|Zs<|?_
  refine JC_cutB 49 (x.name∈(p.globals.map Glo.name++(p.funcs.take k).map Fnc.name)∨¬ (x.params++x.locals).Nodup) ?_ ?_
  ·
   refine Zr<|Zqm Z Z<|W0 Y5<|Wl 0 Y6<|Jc Z Z Z (scontO_ac D [_,_,_] L _ Mo Av (ng+k) cv _ hO (fun w hw=>(List.mem_append.1 hw).elim (hN1 w) (fun hw=>hN2 w (by rw [List.map_take] at hw;exact List.mem_of_mem_take hw))) (by rw [List.length_append,List.length_map,List.length_map,List.length_take];omega) x.name) ?_
   rintro _ _ s15 h15 ⟨rfl,rfl⟩
   simp only [cQ9,nQ9]
   refine Zqm Z Z ?_
   refine JO_caseD (t:=41) Z (fun c16=>?_) (fun c16=>?_)
   ·
    refine Wf Y4<|Wf Y4<|Wf Y4<|Wf Y4<|Wf Y4<|Wf Y4<|Wf Y4<|ZqT Z Z Z<|Zn<|?_
    refine thenQ_n (MidB.mk h15 Sb Z ((decide_eq_true (.inl As)).symm))
   refine Zg Z Z<|Wb Y5<|Zg Z Z<|Wl 0 Y6<|Zg Z Z<|Wb Y5<|Zg Z Z<|Wl 0 Y6<|Zg Z Z<|JO_bs [(_,_),(_,_)] [_,_] Z Z Z Z Z Z Z Z Z ?_
   intro βp s17 h17 hcp
   refine Zg Z Z<|Jc Z Z Z (concat_ac D _ _ _ B1 B2 m1 d1 m2 d2 x.params x.locals (hpx.le (h13.t h15|>.t h17)) (hlx.le (h13.t h15|>.t h17)) (hcp.le (Lr D)) O O) ?_
   rintro _ _ s18 h18 ⟨rfl,Aq,nq,cq,rfl,hQ⟩
   refine Zg Z Z<|Jc Z Z Z (repd_ac D _ _ Aq nq cq _ (hQ.le (Lr D))) ?_
   rintro _ _ s19 h19 ⟨rfl,rfl⟩
   refine ZqF Z Z Z<|Zn<|?_
   refine thenQ_n (MidB.mk (h15.t h17|>.t h18|>.t h19) Sb Z (decide_eq_decide.2 (⟨fun h=>.inr h,fun h=>h.resolve_left As⟩)))
  intro s14 h14
  refine JC_ifD Z (fun c20=>?_) (fun c20=>?_)
  ·
   have hE:nameF p=(8,((ng+k:Nat):Int)):=by
     have h9:namF p.funcs (p.globals.map Glo.name) p.globals.length=(8,((ng+k:Nat):Int)):=by rw [hS2,namF_at hx,if_pos c20,hn1]
     rw [nF_f hS (by rw [h9];simp),h9]
   refine Sr<|W0 Y5<|Wl 2 Y6<|Ws Y4<|Zqm Z Z<|JO_q (QE_add' Z Z (show IntKind.i64.wrap ((ng:Int)+(k:Int))=((ng+k:Nat):Int) by rw [w64 O O];simp)) Z<|Jc Z Z Z (kfault_ac D _ _ _ _) ?_
   rintro _ _ s21 h21 ⟨rfl,rfl⟩
   refine Wt 1 [_,_] Y9<|Nt<|Zo<|Zu<|Zc<|Zu<|Zu<|Zc<|Zu<|?_
   refine retQ_mk (_::_::_::Mo) L (.inr Z) (.agg (us:=[_,_]) 1 Z Z Z Z Z (.nil)) Z (h1.t h2|>.t I3.1|>.t I11.1|>.t h13|>.t h14|>.t h21) (fun sR hS2=>?_)
   exact ⟨by rw [hE];rfl,rfl⟩
  have hz:=c20
  refine Zk<|Zt<|Sr<|Zqm Z Z<|W0 Y5<|Wl 0 Y6<|JO_bs [(_,_)] [_] Z Z Z Z Z Z Z Z Z ?_
  intro βn s22 h22 hcb
  refine JO_app (sz:=1) [_,_,_] Mo L Z Z Z Z Z Z Z hO (Row.of_cells (hcb.le (Lr D)) Z Z) ⟨by simp [ti9];omega,by omega⟩ Z ?_
  intro vq Mq s23 h23 oq
  obtain ⟨Avq,cvq,rfl,_,_⟩:=Own.slice oq
  simp only [cQ9,nQ9]
  refine At Z Z<|Sr<|W0 Y5<|Wl 0 Y6<|Zqse Z Z Z<|Nt<|?_
  refine JC_ifD Z (fun c24=>?_) (fun c24=>?_)
  ·
   have hmn:x.name=mainW:=c24
   refine Zr<|Zqm Z Z<|Zqa Z Z<|Zn<|Zb<|Zt<|Zr<|Zqadd Z Z Z (w64 O O)<|Zqm Z Z<|Zn<|?_
   refine thenQ_n ⟨(k+1,.slice Avq (ng+k+1) cvq,Mq),[_],(.cons Z (.cons Z (.cons Z (.cons (congrArg (fun i=>some (Value.int .i64 i)) (by rw [main_snoc hx (fun h=>hz (.inl (List.mem_append_right _ h)))];first | rw [if_pos hmn] | rw [if_neg hmn])) kp)))),Z,⟨(I11.1.t h13|>.t h14|>.t h22|>.t h23),⟨by simp only;omega,by rw [take_map_next Fnc.name hx,← List.append_assoc,sb_app];exact oq,by simp only;rw [hS2,namF_at hx,if_neg hz,take_map_next Fnc.name hx,List.append_assoc];rfl⟩⟩,(by simp only;omega)⟩
  have hmn:¬ x.name=mainW:=c24
  refine Zk<|Zb<|Zt<|Zr<|Zqadd Z Z Z (w64 O O)<|Zqm Z Z<|Zn<|?_
  refine thenQ_n ⟨(k+1,.slice Avq (ng+k+1) cvq,Mq),[_],(.cons Z (.cons Z (.cons Z (.cons (congrArg (fun i=>some (Value.int .i64 i)) (by rw [main_snoc hx (fun h=>hz (.inl (List.mem_append_right _ h)))];first | rw [if_pos hmn] | rw [if_neg hmn])) kp)))),Z,⟨(I11.1.t h13|>.t h14|>.t h22|>.t h23),⟨by simp only;omega,by rw [take_map_next Fnc.name hx,← List.append_assoc,sb_app];exact oq,by simp only;rw [hS2,namF_at hx,if_neg hz,take_map_next Fnc.name hx,List.append_assoc];rfl⟩⟩,(by simp only;omega)⟩
 rw [List.drop_eq_nil_of_le O,namF] at hS2
 rw [List.take_of_length_le (show p.funcs.length≤k by omega)]
 refine Zl<|Zv<|Zv<|Zd<|Zt<|Zs<|Sr<|Zqm Z Z<|Zqlt Z Z Z<|Nt<|?_
 refine JC_ifD Z (fun c25=>?_) (fun c25=>?_)
 ·
  have hE:=nF_m hS hS2 (show mainF p.funcs < 0 from c25)
  refine Sr<|Jc Z Z Z (kfault_ac D _ _ _ _) ?_
  rintro _ _ s26 h26 ⟨rfl,rfl⟩
  refine Wt 0 [_,_] Y9<|Nt<|Zo<|Zu<|?_
  refine retQ_mk (_::_::Mo) L (.inr Z) (.agg (us:=[_,_]) 0 Z Z Z Z Z (.nil)) Z (h1.t h2|>.t I3.1|>.t I11.1|>.t h26) (fun sR hS2=>?_)
  exact ⟨by rw [hE];rfl,rfl⟩
 obtain ⟨j,hj⟩:=Int.eq_ofNat_of_zero_le (show 0≤mainF p.funcs by unfold mainF;omega)
 have hjl:=idxOf_lt (p:=fun x:Fnc=>decide (x.name=mainW)) (l:=p.funcs) (k:=0)
 have hjl2:j < nf:=by unfold mainF at hj;omega
 obtain ⟨b,off,x,B1,m1,d1,B2,m2,d2,B3,m3,d3,rfl,hx,hcx,hpx,hlx,hbx,hnl⟩:=Fncs.at_ (hFn.le (h1.t h2|>.t I3.1|>.t I11.1)) hjl2
 have hp9:=hpx.1
 have hE:=nF_p hS hS2 hj hx
 rw [show idxOf (fun x:Fnc=>decide (x.name=mainW)) p.funcs 0=(j:Int) from hj]
 refine Zk<|Zt<|Zs<|Sr<|Wb Y5<|Wl 1 Y6<|Zqm Z Z<|JO_q (QE_iaN (j:=j) Z Z Z Z Z Z hjl2) Z<|JO_q (QE_fa Z Z Z Z) Z<|JO_q (QE_ldsR 1 Z Z Z (hcx.le (Lr D)) Z) Z<|Ws Y4<|Zqgt Z Z Z<|Nt<|?_
 refine JC_ifD Z (fun c27=>?_) (fun c27=>?_)
 ·
  rw [if_neg (fun h=>by rw [h] at hp9;simp at hp9;omega)] at hE
  refine Sr<|Jc Z Z Z (kfault_ac D _ _ _ _) ?_
  rintro _ _ s28 h28 ⟨rfl,rfl⟩
  refine Wt 0 [_,_] Y9<|Nt<|Zo<|Zu<|?_
  refine retQ_mk (_::_::Mo) L (.inr Z) (.agg (us:=[_,_]) 0 Z Z Z Z Z (.nil)) Z (h1.t h2|>.t I3.1|>.t I11.1|>.t h28) (fun sR hS2=>?_)
  exact ⟨by rw [hE];rfl,rfl⟩
 rw [if_pos (List.eq_nil_of_length_eq_zero O)] at hE
 refine Zk<|Zt<|Sr<|JO_q (QE_build [] [_,_] Z Z Z Z Z Z) Z<|Wt 0 [_,_] Y9<|Nt<|Zo<|?_
 refine retQ_mk (_::_::Mo) L (.inr Z) (.agg (us:=[_,_]) 0 Z Z Z Z Z (.nil)) Z (h1.t h2|>.t I3.1|>.t I11.1) (fun sR hS2=>?_)
 exact ⟨by rw [hE];rfl,rfl⟩
end Go.Proofs.YtpdnijphccdiiaaGreatDoor
namespace Go.FL
open Go Go.RowKit
def MapS {κ:Type} (s:World) (kf:κ→Value) (b:Nat) (es:List (κ×Value×Nat)):Prop:=∃ ck,s.heap[b]?=some (mp kf es ck)
theorem MapS.le {κ:Type} {D:Nat} {s s':World} {kf:κ→Value} {b:Nat} {es:List (κ×Value×Nat)} (h:MapS s kf b es) (hl:Le D s s'):MapS s' kf b es:=by
  obtain ⟨ck,h⟩:=h
  refine ⟨ck,?_⟩
  have hb:b < s.heap.size:=by
    rcases Nat.lt_or_ge b s.heap.size with h1 | h1
    · exact h1
    · rw [Array.getElem?_eq_none h1] at h;cases h
  rcases hl.block b hb with h1 | h1
  · rw [h] at h1;cases h1
  · rw [h1,h]
theorem QE_lookupS {P:Program} {TT:TyTab} {D:Nat} {fr:Fr} {ty:Nat} {K:Hl} {s0:World} {κ:Type} [DecidableEq κ] {dk:TypeDesc} {kf:κ→Value} (KK:KeyK κ dk kf) {t b:Nat} {x y:Operand} {z:Value} (hm:MapTy P t dk z) {es:List (κ×Value×Nat)} {k:κ} (hx:lk fr x=some (.map (some b))) (hy:lk fr y=some (kf k)) (hi:MapS s0 kf b es) :
    QE P TT D fr (.lookup t x y true) ty K s0 (.tuple #[(assoc es k).getD z,.bool (assoc es k).isSome]):=fun hT dst pos af g ρ hρ L s ho hl hK=>by
  obtain ⟨ck,hb⟩:=hi.le (hl.trans (fill_le ho))
  simp only [execOp,hρ x _ hx,hρ y _ hy,Sem.run_bind,run_lookup' KK hm hb,Result.andThen_ok,Sem.run_pure]
  rfl
theorem AC.pubO {P:Program} {D:Nat} {f:FuncId} {args:List Value} {L:Hl} {s:World} {R:Value→Hl→World→Prop} (h:AC P D f args L s (fun v L' s'=>∃ M',L'=M'++L∧R v M' s')) :
    AC P D f args L s (fun v L' s'=>L=L'∧∃ M' s1,R v M' s1∧Le D s1 s'∧∀ b o,(b,o)∈M'→s'.heap[b]?=some o):=by
  refine ⟨h.1,fun ho=>(h.2 ho).mono ?_⟩
  rintro e w' ⟨v,L',s',h1,rfl,h3,h4,M',rfl,h6⟩
  obtain ⟨d1,d2,d3⟩:=drop_own h3
  exact ⟨v,L,fill M' s',h1,d1,d2,h4.trans d3,rfl,M',s',h6,d3,fun b o hm=>fill_mem h3.left hm⟩
end Go.FL
namespace Go.Proofs.YtpdnijphccdiiaaGreatDoor
open Go.FL
attribute [local irreducible] JC JO JA JB thenQ blockQ retQ AC fill CellsAt QE Ev Mid
theorem mapTyM:MapTy Tryz.prog 96 .string (.agg #[.int .i64 0,.int .i64 0]):=⟨_,_,Tryz.underlying96,Tryz.underlying9,fun w=>by rw [run_zero' ti79_ok];rfl⟩
def MV (m:Int×Int):Value:=.agg #[.int .i64 m.1,.int .i64 m.2]
def ents (p:Prg):List (Str×(Int×Int)):=(p.globals.mapIdx fun i g=>(g.name,((3:Int),(i:Int))))++(p.funcs.mapIdx fun i x=>(x.name,((4:Int),(i:Int))))
def meanP (p:Prg) (x:Fnc) (nm:Str):(Int×Int)×Bool:=if 0≤idxOf (fun y=>decide (nm=y)) x.params 0 then ((1,idxOf (fun y=>decide (nm=y)) x.params 0),true) else if 0≤idxOf (fun y=>decide (nm=y)) x.locals 0 then ((2,idxOf (fun y=>decide (nm=y)) x.locals 0),true)
  else match (ents p).find? fun e=>decide (e.1=nm) with
    | some e=>(e.2,true)
    | none=>((0,0),false)
def NmOK (s:World) (b:Nat) (p:Prg):Prop:=∃ es:List (Str×Value×Nat),MapS s (fun l=>St l) b es∧∀ nm,assoc es nm=((ents p).find? fun e=>decide (e.1=nm)).map fun e=>MV e.2
theorem NmOK.le {D:Nat} {s s':World} {b:Nat} {p:Prg} (h:NmOK s b p) (hl:Le D s s'):NmOK s' b p:=by
  obtain ⟨es,h1,h2⟩:=h
  exact ⟨es,h1.le hl,h2⟩
theorem mean_ac (D:Nat) (L:Hl) (s:World) (p:Prg) (Ag Af:Option Addr) (ng cg nf cf bm:Nat) (hM:NmOK s bm p) (x:Fnc) (A1 A2 A3:Option Addr) (n1 q1 n2 q2 n3 q3:Nat) (hs1:Strs s A1 n1 q1 x.params) (hs2:Strs s A2 n2 q2 x.locals) (nm:List UInt8):AC Tryz.prog D 60 [.agg #[.slice Ag ng cg,.slice Af nf cf,.map (some bm)],.agg #[St x.name,.slice A1 n1 q1,.slice A2 n2 q2,.slice A3 n3 q3],St nm] L s fun v L' _=>v=.tuple #[.agg #[.int .i64 (meanP p x nm).1.1,.int .i64 (meanP p x nm).1.2],.bool (meanP p x nm).2]∧L=L':=by
 obtain ⟨es,hMs,hes⟩:=hM
 refine AC_enter (TT:=TT) (fn:=Tryz.f60) TT_ok Tryz.func60 V Z Tryz.ntmps60 Z (rs:=[.cell 6 79,.tmp 7]) Z [(0,_),(1,_),(2,_)] Z<|Sr<|JO_boxA Z Z ?_
 intro β1 s1 h1
 refine JO_boxA Z Z ?_
 intro β2 s2 h2
 refine JO_allocZ Z [_,_] Z Z ?_
 intro β3 s3 h3
 refine At Z Z<|Zs<|Sr<|Wb Y5<|Wl 1 Y6<|Zqm Z Z<|Jc Z Z Z (sidx_ac D _ _ A1 n1 q1 x.params (hs1.le (h1.t h2|>.t h3)) nm) ?_
 rintro _ _ s4 h4 ⟨rfl,rfl⟩
 refine At Z Z<|Sr<|Zqm Z Z<|Zqge Z Z Z<|Nt<|?_
 refine JC_ifD Z (fun c5=>?_) (fun c5=>?_)
 ·
  have hE:meanP p x nm=_:=if_pos c5
  refine Sr<|Zqm Z Z<|JO_q (QE_build [(_,_),(_,_)] [_,_] Z Z Z Z Z Z) Z<|Wt 0 [_,_] Y9<|At Z Z<|Zo<|Zu<|?_
  refine retQ_mk [_,_,_] L (.inr Z) (.agg (us:=[_,_]) 0 Z Z Z Z Z (.tmp Z (.nil))) Z (h1.t h2|>.t h3|>.t h4) (fun sR hS2=>?_)
  exact ⟨by rw [hE];rfl,rfl⟩
 have g17:=c5
 refine Zk<|Zt<|Zs<|Sr<|Wb Y5<|Wl 1 Y6<|Zqm Z Z<|Jc Z Z Z (sidx_ac D _ _ A2 n2 q2 x.locals (hs2.le (h1.t h2|>.t h3|>.t h4)) nm) ?_
 rintro _ _ s6 h6 ⟨rfl,rfl⟩
 refine At Z Z<|Sr<|Zqm Z Z<|Zqge Z Z Z<|Nt<|?_
 refine JC_ifD Z (fun c7=>?_) (fun c7=>?_)
 ·
  have hE:meanP p x nm=_:=(if_neg g17).trans (if_pos c7)
  refine Sr<|Zqm Z Z<|JO_q (QE_build [(_,_),(_,_)] [_,_] Z Z Z Z Z Z) Z<|Wt 0 [_,_] Y9<|At Z Z<|Zo<|Zu<|?_
  refine retQ_mk [_,_,_] L (.inr Z) (.agg (us:=[_,_]) 0 Z Z Z Z Z (.tmp Z (.nil))) Z (h1.t h2|>.t h3|>.t h4|>.t h6) (fun sR hS2=>?_)
  exact ⟨by rw [hE];rfl,rfl⟩
 have g25:=c7
 obtain ⟨mm,bb,hmm,hE⟩:∃ (mm:Int×Int) (bb:Bool),(assoc es nm).getD (.agg #[.int .i64 0,.int .i64 0])=MV mm∧(assoc es nm).isSome=bb∧meanP p x nm=(mm,bb):=by
   rw [hes nm,meanP,if_neg g17,if_neg g25]
   cases (ents p).find? fun e=>decide (e.1=nm) with
   | none=>exact ⟨(0,0),false,rfl,rfl,rfl⟩
   | some e=>exact ⟨e.2,true,rfl,rfl,rfl⟩
 obtain ⟨hbb,hE⟩:=hE
 refine Zk<|Zt<|Sr<|Wb Y5<|Wl 2 Y6<|Zqm Z Z<|JO_q (QE_cast (QE_lookupS KeyK.str mapTyM Z Z (hMs.le (h1.t h2|>.t h3|>.t h4|>.t h6))) (show Value.tuple #[(assoc es nm).getD (.agg #[.int .i64 0,.int .i64 0]),.bool (assoc es nm).isSome]=.tuple #[.agg #[.int .i64 mm.1,.int .i64 mm.2],.bool bb] by rw [hmm,hbb];rfl)) Z<|Zqm Z Z<|Zqx Z Z Z<|Zqx Z Z Z<|JO_allocZ Z [_,_] Z Z ?_
 intro β8 s8 h8
 refine Wt 0 [_,_] Y9<|At Z Z<|Sr<|JO_q (QE_ldA 0 [_,_] Z Z Z Z Z) Z<|Zqm Z Z<|Wt 1 [_,_] Y9<|At Z Z<|Zo<|?_
 refine retQ_mk [_,_,_,_] L (.inr Z) (.agg (us:=[_,_]) 1 Z Z Z Z Z (.tmp Z (.nil))) Z (h1.t h2|>.t h3|>.t h4|>.t h6|>.t h8) (fun sR hS2=>?_)
 exact ⟨by rw [hE];rfl,rfl⟩
theorem ents_step {l:List (Str×(Int×Int))} {k ck:Nat} {e:Str×(Int×Int)} {es:List (Str×Value×Nat)} (hk:l[k]?=some e) (hnd:(l.map (·.1)).Nodup) (h:∀ nm,assoc es nm=((l.take k).find? fun e=>decide (e.1=nm)).map fun e=>MV e.2) (nm:Str):assoc (mset es e.1 (MV e.2) ck) nm=((l.take (k+1)).find? fun e=>decide (e.1=nm)).map fun e=>MV e.2:=by
  obtain ⟨hl,rfl⟩:=List.getElem?_eq_some_iff.1 hk
  rw [assoc_mset,List.take_succ_eq_append_getElem hl,List.find?_append,h nm]
  by_cases hn:nm=l[k].1
  · subst hn
    rw [if_pos rfl]
    have h0:(l.take k).find? (fun e=>decide (e.1=l[k].1))=none:=by
      rw [List.find?_eq_none]
      intro y hy hd
      have h2:((l.take k++l.drop k).map (·.1)).Nodup:=by rw [List.take_append_drop];exact hnd
      rw [List.map_append,List.nodup_append] at h2
      exact h2.2.2 _ (List.mem_map.2 ⟨y,hy,rfl⟩) _ (List.mem_map.2 ⟨l[k],by rw [List.drop_eq_getElem_cons hl];exact List.mem_cons_self ..,rfl⟩) (by simpa using hd)
    rw [h0];simp
  · rw [if_neg hn]
    have h1:[l[k]].find? (fun e=>decide (e.1=nm))=none:=by simp [List.find?,Ne.symm hn,show ¬ l[k].1=nm from fun h=>hn h.symm]
    rw [h1,Option.or_none]
theorem ents_g {p:Prg} {k:Nat} {x:Glo} (h:p.globals[k]?=some x):(ents p)[k]?=some (x.name,((3:Int),(k:Int))):=by
  obtain ⟨hl,rfl⟩:=List.getElem?_eq_some_iff.1 h
  rw [ents,List.getElem?_append_left (by simpa using hl)];simp [hl]
theorem ents_f {p:Prg} {k:Nat} {x:Fnc} (h:p.funcs[k]?=some x):(ents p)[p.globals.length+k]?=some (x.name,((4:Int),(k:Int))):=by
  obtain ⟨hl,rfl⟩:=List.getElem?_eq_some_iff.1 h
  rw [ents,List.getElem?_append_right (by simp)];simp [hl]
theorem openO_ac (D:Nat) (L:Hl) (s:World) (d:Nat) (p:Prg) (Ag Af:Option Addr) (ng cg nf cf:Nat) (hGl:Glos s Ag ng cg p.globals) (hFn:Fncs d s Af nf cf p.funcs) (hD:((ents p).map (·.1)).Nodup):AC Tryz.prog D 38 [.agg #[.slice Ag ng cg,.slice Af nf cf]] L s fun v L' _=>∃ M',L'=M'++L∧∃ bm es ck,M'=[(bm,mp (fun l=>St l) es ck)]∧v=.agg #[.slice Ag ng cg,.slice Af nf cf,.map (some bm)]∧∀ nm,assoc es nm=((ents p).find? fun e=>decide (e.1=nm)).map fun e=>MV e.2:=by
 have hn1:=hGl.1
 have hn2:=hFn.1
 have hq1:=hGl.2.1
 have hq2:=hGl.2.2.1
 have hq3:=hFn.2.1
 have hq4:=hFn.2.2.1
 refine AC_enter (TT:=TT) (fn:=Tryz.f38) TT_ok Tryz.func38 V Z Tryz.ntmps38 Z (rs:=[.cell 2 98]) Z [(0,_)] Z<|Sr<|JO_boxA Z Z ?_
 intro β1 s1 h1
 refine JO_allocZ Z [_,_,_] Z Z ?_
 intro β2 s2 h2
 refine Nt<|Sr<|JO_q (QE_ldA 1 [_,_] Z Z Z Z Z) Z<|JO_mkmap (fun l=>St l) Z ?_
 intro βm s3 h3
 refine JO_q (QE_build [(_,_),(_,_)] [_,_,_] Z Z Z Z Z Z) Z<|JO_allocZ Z [_,_,_] Z Z ?_
 intro β4 s4 h4
 refine Wt 0 [_,_,_] Y9<|Nt<|Zs<|Sr<|W0 Y5<|Wl 3 Y6<|Ws Y4<|Zqm Z Z<|Nt<|Zp<|?_
 refine JC_loop (γ:=Nat×List (Str×Value×Nat)×Nat) (fun g=>[(1,_),(2,_),(3,_),(12,_),(13,_),(14,.int .i64 (g.1:Int))]) (fun g=>_::(βm,mp (fun l=>St l) g.2.1 g.2.2)::_::_::L) (fun g tw=>Le D s4 tw∧(g.1≤ng∧∀ nm,assoc g.2.1 nm=(((ents p).take g.1).find? fun e=>decide (e.1=nm)).map fun e=>MV e.2)) (fun g=>ng - g.1) (fun _ _ _ h hl=>⟨h.1.trans hl,h.2⟩) (0,[],0) (.cons Z (.cons Z (.cons Z (.cons Z (.cons Z (.cons Z (.nil _))))))) Z ⟨Le.refl _,⟨Nat.zero_le _,fun nm=>rfl⟩⟩ ?_
 intro g s5 I5
 obtain ⟨k,es,ck⟩:=g
 obtain ⟨hk0,hS⟩:=I5.2
 simp only at hk0 hS
 dsimp only
 refine Sr<|Zqlt Z Z Z<|Nt<|Zs<|?_
 refine JC_ifD Z (fun c6=>?_) (fun c6=>?_)
 ·
  have hk:k < ng:=by omega
  obtain ⟨b,off,x,Ai,ni,ci,rfl,hx,hcx,hix,hux,hnl⟩:=Glos.at_ (hGl.le (h1.t h2|>.t h3|>.t h4|>.t I5.1)) hk
  refine Zk<|Zt<|Zs<|Zp<|Sr<|Zqm Z Z<|JO_q (QE_iaN Z Z Z Z Z Z hk) Z<|JO_q (QE_ldsA Z Z Z (hcx.le (Lr D)) Z) Z<|JO_allocZ Z [_,_,_,_] Z Z ?_
  intro β7 s7 h7
  refine Zqa Z Z<|Wt 0 [_,_,_,_] Y9<|Nt<|Zr<|Wb Y5<|Wl 1 Y6<|Wb Y5<|Wl 0 Y6<|Zqm Z Z<|JO_q (QE_build [(_,_),(_,_)] [_,_] Z Z Z Z Z Z) Z<|JO_mupd KeyK.str 2 mapTyM Z Z Z Z ?_
  intro ck1
  simp only [setL]
  refine Zn<|Zb<|Zt<|Zr<|Zqadd Z Z Z (w64 O O)<|Zqm Z Z<|Zn<|?_
  refine thenQ_n ⟨(k+1,_,ck1),[_],kp,Z,⟨(I5.1.t h7),⟨by simp only;omega,ents_step (ents_g hx) hD hS⟩⟩,(by simp only;omega)⟩
 obtain rfl:p.globals.length=k:=by omega
 refine Zl<|Zv<|Zv<|Zd<|Zt<|Zs<|Sr<|Wb Y5<|Wl 3 Y6<|Ws Y4<|Zqm Z Z<|Nt<|Zp<|?_
 refine JC_loop (γ:=Nat×List (Str×Value×Nat)×Nat) (fun g=>[(2,_),(3,_),(27,_),(28,_),(29,.int .i64 (g.1:Int))]) (fun g=>_::(βm,mp (fun l=>St l) g.2.1 g.2.2)::_::_::L) (fun g tw=>Le D s5 tw∧(g.1≤nf∧∀ nm,assoc g.2.1 nm=(((ents p).take (p.globals.length+g.1)).find? fun e=>decide (e.1=nm)).map fun e=>MV e.2)) (fun g=>nf - g.1) (fun _ _ _ h hl=>⟨h.1.trans hl,h.2⟩) (0,es,ck) (.cons Z (.cons Z (.cons Z (.cons Z (.cons Z (.nil _)))))) Z ⟨Le.refl _,⟨Nat.zero_le _,hS⟩⟩ ?_
 intro g s9 I9
 obtain ⟨k,es,ck⟩:=g
 obtain ⟨hk0,hSq⟩:=I9.2
 simp only at hk0 hSq
 dsimp only
 refine Sr<|Zqlt Z Z Z<|Nt<|Zs<|?_
 refine JC_ifD Z (fun c10=>?_) (fun c10=>?_)
 ·
  have hk:k < nf:=by omega
  obtain ⟨b,off,x,B1,m1,d1,B2,m2,d2,B3,m3,d3,rfl,hx,hcx,hpx,hlx,hbx,hnl⟩:=Fncs.at_ (hFn.le (h1.t h2|>.t h3|>.t h4|>.t I5.1|>.t I9.1)) hk
  refine Zk<|Zt<|Zs<|Zp<|Sr<|Zqm Z Z<|JO_q (QE_iaN Z Z Z Z Z Z hk) Z<|JO_q (QE_ldsA Z Z Z (hcx.le (Lr D)) Z) Z<|JO_allocZ Z [_,_,_,_] Z Z ?_
  intro β11 s11 h11
  refine Zqa Z Z<|Wt 0 [_,_,_,_] Y9<|Nt<|Zr<|Wb Y5<|Wl 1 Y6<|W0 Y5<|Wl 0 Y6<|Zqm Z Z<|JO_q (QE_build [(_,_),(_,_)] [_,_] Z Z Z Z Z Z) Z<|JO_mupd KeyK.str 2 mapTyM Z Z Z Z ?_
  intro ck1
  simp only [setL]
  refine Zn<|Zb<|Zt<|Zr<|Zqadd Z Z Z (w64 O O)<|Zqm Z Z<|Zn<|?_
  refine thenQ_n ⟨(k+1,_,ck1),[_],kp,Z,⟨(I9.1.t h11),⟨by simp only;omega,ents_step (ents_f hx) hD hSq⟩⟩,(by simp only;omega)⟩
 rw [List.take_of_length_le (show (ents p).length≤p.globals.length+k by rw [ents,List.length_append,List.length_mapIdx,List.length_mapIdx];omega)] at hSq
 refine Zl<|Zv<|Zv<|Zd<|Zt<|Zs<|JC_front 2<|JC_front 3<|Zr<|JO_q (QE_ldA 2 [_,_,_] Z Z Z Z Z) Z<|Wt 1 [_,_,_] Y9<|Nt<|Zo<|?_
 refine retQ_mk [_,_,_] _ (.inr Z) (.agg (us:=[_,_,_]) 1 Z Z Z Z Z (.nil)) Z (h1.t h2|>.t h3|>.t h4|>.t I5.1|>.t I9.1) (fun sR hS2=>?_)
 exact ⟨[_],rfl,_,es,ck,rfl,rfl,hSq⟩
theorem open_ac (D:Nat) (L:Hl) (s:World) (d:Nat) (p:Prg) (Ag Af:Option Addr) (ng cg nf cf:Nat) (hGl:Glos s Ag ng cg p.globals) (hFn:Fncs d s Af nf cf p.funcs) (hD:((ents p).map (·.1)).Nodup):AC Tryz.prog D 38 [.agg #[.slice Ag ng cg,.slice Af nf cf]] L s fun v L' s'=>L=L'∧∃ bm,v=.agg #[.slice Ag ng cg,.slice Af nf cf,.map (some bm)]∧NmOK s' bm p:=by
  refine (AC.pubO (openO_ac D L s d p Ag Af ng cg nf cf hGl hFn hD)).mono ?_
  rintro v L1 s1 _ ⟨h1,M1,s2,⟨bm,es,ck,rfl,h3,h4⟩,_,h5⟩
  exact ⟨h1,bm,h3,es,⟨ck,h5 _ _ (List.mem_cons_self ..)⟩,h4⟩
def gkOf (p:Prg) (i:Int):Int:=match p.globals[i.toNat]? with
  | some g=>g.kind
  | none=>0
theorem gkOf_at {p:Prg} {k:Nat} {x:Glo} (h:p.globals[k]?=some x):gkOf p (k:Int)=x.kind:=by rw [gkOf,Int.toNat_natCast,h]
abbrev permP (gk uk mk:Int):Prop:=((mk=1∨mk=2)∧(uk=1∨uk=2))∨(mk=4∧uk=4)∨((¬ (mk=1∨mk=2)∧mk≠4)∧((gk=1∧uk=2)∨(gk=2∧(uk=1∨uk=2))∨(gk≠1∧gk≠2∧uk=3)))
theorem perm_ac (D:Nat) (L:Hl) (s:World) (p:Prg) (Ag Af:Option Addr) (ng cg nf cf bm:Nat) (hGl:Glos s Ag ng cg p.globals) (u:Use) (mk mi:Int) (hm:¬ (mk=1∨mk=2)→mk≠4→∃ k:Nat,mi=(k:Int)∧k < ng):AC Tryz.prog D 82 [.agg #[.slice Ag ng cg,.slice Af nf cf,.map (some bm)],.agg #[St (u).1,.int .i64 (u).2.1,.int .i64 (u).2.2],.agg #[.int .i64 mk,.int .i64 mi]] L s fun v L' _=>v=.bool (decide (permP (gkOf p mi) u.2.1 mk))∧L=L':=by
 refine AC_enter (TT:=TT) (fn:=Tryz.f82) TT_ok Tryz.func82 V Z Tryz.ntmps82 Z (rs:=[.tmp 6]) Z [(0,_),(1,_),(2,_)] Z<|Sr<|JO_boxA Z Z ?_
 intro β1 s1 h1
 refine JO_boxA Z Z ?_
 intro β2 s2 h2
 refine JO_boxA Z Z ?_
 intro β3 s3 h3
 refine At Z Z<|Zs<|Sr<|W0 Y5<|Wl 0 Y6<|Nt<|Zp<|Zs<|Sr<|Zqeq Z Z Z<|At Z Z<|?_
 refine JC_ifD Z (fun c4=>?_) (fun c4=>?_)
 ·
  refine Zk<|Zt<|?_
  refine JC_ifD Z (fun c5=>?_) (fun c5=>?_)
  ·
   refine Sr<|Wb Y5<|Wl 1 Y6<|Zqeq Z Z Z<|Zqm Z Z<|?_
   refine JO_caseD (t:=15) Z (fun c6=>?_) (fun c6=>?_)
   ·
    refine Wf Y4<|Wf Y4<|Wf Y4<|ZqT Z Z Z<|At Z Z<|Zo<|Zc<|Zu<|?_
    refine retQ_mk [_,_,_] L (.inr Z) (.tmp Z (.nil)) Z (h1.t h2|>.t h3) (fun sR hS2=>?_)
    refine ⟨?_,Z⟩
    simp only [resV,permP]
    clear hm
    try rw [hgk]
    exact congrArg Value.bool (decide_eq_true O).symm
   refine Zg Z Z<|Wb Y5<|Zg Z Z<|Wl 1 Y6<|Zg Z Z<|Zqeq Z Z Z<|ZqF Z Z Z<|At Z Z<|Zo<|Zc<|Zu ?_
   refine retQ_mk [_,_,_] L (.inr Z) (.tmp Z (.nil)) Z (h1.t h2|>.t h3) (fun sR hS2=>?_)
   refine ⟨?_,Z⟩
   simp only [resV,permP]
   clear hm
   try rw [hgk]
   exact congrArg Value.bool (decide_eq_decide.2 O)
  refine Sr<|Zqeq Z Z Z<|At Z Z<|?_
  refine JC_ifD Z (fun c7=>?_) (fun c7=>?_)
  ·
   refine Sr<|Wb Y5<|Wl 1 Y6<|Zqeq Z Z Z<|At Z Z<|Zo<|Zc<|Zu<|?_
   refine retQ_mk [_,_,_] L (.inr Z) (.tmp Z (.nil)) Z (h1.t h2|>.t h3) (fun sR hS2=>?_)
   refine ⟨?_,Z⟩
   simp only [resV,permP]
   clear hm
   try rw [hgk]
   exact congrArg Value.bool (decide_eq_decide.2 O)
  obtain ⟨k,rfl,hk⟩:=hm O O
  obtain ⟨b,off,x,Ai,ni,ci,rfl,hx,hcx,hix,hux,hnl⟩:=Glos.at_ (hGl.le (h1.t h2|>.t h3)) hk
  have hgk:=gkOf_at hx
  refine Zk<|Zb<|Zt<|Zs<|Sr<|W0 Y5<|W0 Y5<|Wl 2 Y6<|Wb Y5<|Wl 0 Y6<|JO_q (QE_iaN Z Z Z Z Z Z hk) Z<|W0 Y5<|JO_q (QE_ldsR0 Z Z Z (hcx.le (Lr D)) Z) Z<|Nt<|Zp<|Sr<|Zqeq Z Z Z<|At Z Z<|?_
  refine JC_ifD Z (fun c8=>?_) (fun c8=>?_)
  ·
   refine Sr<|Wb Y5<|Wl 1 Y6<|Zqeq Z Z Z<|At Z Z<|Zo<|Zc<|Zu<|?_
   refine retQ_mk [_,_,_] L (.inr Z) (.tmp Z (.nil)) Z (h1.t h2|>.t h3) (fun sR hS2=>?_)
   refine ⟨?_,Z⟩
   simp only [resV,permP]
   clear hm
   try rw [hgk]
   exact congrArg Value.bool (decide_eq_decide.2 O)
  refine Sr<|Zqeq Z Z Z<|At Z Z<|?_
  refine JC_ifD Z (fun c9=>?_) (fun c9=>?_)
  ·
   refine Sr<|Wb Y5<|Wl 1 Y6<|Zqeq Z Z Z<|Zqm Z Z<|?_
   refine JO_caseD (t:=43) Z (fun c10=>?_) (fun c10=>?_)
   ·
    refine Wf Y4<|Wf Y4<|Wf Y4<|ZqT Z Z Z<|At Z Z<|Zo<|Zc<|Zu<|?_
    refine retQ_mk [_,_,_] L (.inr Z) (.tmp Z (.nil)) Z (h1.t h2|>.t h3) (fun sR hS2=>?_)
    refine ⟨?_,Z⟩
    simp only [resV,permP]
    clear hm
    try rw [hgk]
    exact congrArg Value.bool (decide_eq_true O).symm
   refine Zg Z Z<|Wb Y5<|Zg Z Z<|Wl 1 Y6<|Zg Z Z<|Zqeq Z Z Z<|ZqF Z Z Z<|At Z Z<|Zo<|Zc<|Zu ?_
   refine retQ_mk [_,_,_] L (.inr Z) (.tmp Z (.nil)) Z (h1.t h2|>.t h3) (fun sR hS2=>?_)
   refine ⟨?_,Z⟩
   simp only [resV,permP]
   clear hm
   try rw [hgk]
   exact congrArg Value.bool (decide_eq_decide.2 O)
  refine Zk<|Zb<|Zt<|Sr<|Wb Y5<|Wl 1 Y6<|Zqeq Z Z Z<|At Z Z<|Zo<|?_
  refine retQ_mk [_,_,_] L (.inr Z) (.tmp Z (.nil)) Z (h1.t h2|>.t h3) (fun sR hS2=>?_)
  refine ⟨?_,Z⟩
  simp only [resV,permP]
  clear hm
  try rw [hgk]
  exact congrArg Value.bool (decide_eq_decide.2 O)
 refine Zr<|Zqeq Z Z Z<|At Z Z<|?_
 refine JC_ifD Z (fun c11=>?_) (fun c11=>?_)
 ·
  refine Sr<|Wb Y5<|Wl 1 Y6<|Zqeq Z Z Z<|Zqm Z Z<|?_
  refine JO_caseD (t:=15) Z (fun c12=>?_) (fun c12=>?_)
  ·
   refine Wf Y4<|Wf Y4<|Wf Y4<|ZqT Z Z Z<|At Z Z<|Zo<|Zc<|Zu<|?_
   refine retQ_mk [_,_,_] L (.inr Z) (.tmp Z (.nil)) Z (h1.t h2|>.t h3) (fun sR hS2=>?_)
   refine ⟨?_,Z⟩
   simp only [resV,permP]
   clear hm
   try rw [hgk]
   exact congrArg Value.bool (decide_eq_true O).symm
  refine Zg Z Z<|Wb Y5<|Zg Z Z<|Wl 1 Y6<|Zg Z Z<|Zqeq Z Z Z<|ZqF Z Z Z<|At Z Z<|Zo<|Zc<|Zu ?_
  refine retQ_mk [_,_,_] L (.inr Z) (.tmp Z (.nil)) Z (h1.t h2|>.t h3) (fun sR hS2=>?_)
  refine ⟨?_,Z⟩
  simp only [resV,permP]
  clear hm
  try rw [hgk]
  exact congrArg Value.bool (decide_eq_decide.2 O)
 refine Sr<|Zqeq Z Z Z<|At Z Z<|?_
 refine JC_ifD Z (fun c13=>?_) (fun c13=>?_)
 ·
  refine Sr<|Wb Y5<|Wl 1 Y6<|Zqeq Z Z Z<|At Z Z<|Zo<|Zc<|Zu<|?_
  refine retQ_mk [_,_,_] L (.inr Z) (.tmp Z (.nil)) Z (h1.t h2|>.t h3) (fun sR hS2=>?_)
  refine ⟨?_,Z⟩
  simp only [resV,permP]
  clear hm
  try rw [hgk]
  exact congrArg Value.bool (decide_eq_decide.2 O)
 obtain ⟨k,rfl,hk⟩:=hm O O
 obtain ⟨b,off,x,Ai,ni,ci,rfl,hx,hcx,hix,hux,hnl⟩:=Glos.at_ (hGl.le (h1.t h2|>.t h3)) hk
 have hgk:=gkOf_at hx
 refine Zk<|Zb<|Zt<|Zs<|Sr<|W0 Y5<|W0 Y5<|Wl 2 Y6<|Wb Y5<|Wl 0 Y6<|JO_q (QE_iaN Z Z Z Z Z Z hk) Z<|W0 Y5<|JO_q (QE_ldsR0 Z Z Z (hcx.le (Lr D)) Z) Z<|Nt<|Zp<|Sr<|Zqeq Z Z Z<|At Z Z<|?_
 refine JC_ifD Z (fun c14=>?_) (fun c14=>?_)
 ·
  refine Sr<|Wb Y5<|Wl 1 Y6<|Zqeq Z Z Z<|At Z Z<|Zo<|Zc<|Zu<|?_
  refine retQ_mk [_,_,_] L (.inr Z) (.tmp Z (.nil)) Z (h1.t h2|>.t h3) (fun sR hS2=>?_)
  refine ⟨?_,Z⟩
  simp only [resV,permP]
  clear hm
  try rw [hgk]
  exact congrArg Value.bool (decide_eq_decide.2 O)
 refine Sr<|Zqeq Z Z Z<|At Z Z<|?_
 refine JC_ifD Z (fun c15=>?_) (fun c15=>?_)
 ·
  refine Sr<|Wb Y5<|Wl 1 Y6<|Zqeq Z Z Z<|Zqm Z Z<|?_
  refine JO_caseD (t:=43) Z (fun c16=>?_) (fun c16=>?_)
  ·
   refine Wf Y4<|Wf Y4<|Wf Y4<|ZqT Z Z Z<|At Z Z<|Zo<|Zc<|Zu<|?_
   refine retQ_mk [_,_,_] L (.inr Z) (.tmp Z (.nil)) Z (h1.t h2|>.t h3) (fun sR hS2=>?_)
   refine ⟨?_,Z⟩
   simp only [resV,permP]
   clear hm
   try rw [hgk]
   exact congrArg Value.bool (decide_eq_true O).symm
  refine Zg Z Z<|Wb Y5<|Zg Z Z<|Wl 1 Y6<|Zg Z Z<|Zqeq Z Z Z<|ZqF Z Z Z<|At Z Z<|Zo<|Zc<|Zu ?_
  refine retQ_mk [_,_,_] L (.inr Z) (.tmp Z (.nil)) Z (h1.t h2|>.t h3) (fun sR hS2=>?_)
  refine ⟨?_,Z⟩
  simp only [resV,permP]
  clear hm
  try rw [hgk]
  exact congrArg Value.bool (decide_eq_decide.2 O)
 refine Zk<|Zb<|Zt<|Sr<|Wb Y5<|Wl 1 Y6<|Zqeq Z Z Z<|At Z Z<|Zo<|?_
 refine retQ_mk [_,_,_] L (.inr Z) (.tmp Z (.nil)) Z (h1.t h2|>.t h3) (fun sR hS2=>?_)
 refine ⟨?_,Z⟩
 simp only [resV,permP]
 clear hm
 try rw [hgk]
 exact congrArg Value.bool (decide_eq_decide.2 O)
theorem mean_kind {p:Prg} {x:Fnc} {nm:Str} (h:(meanP p x nm).2=true):((meanP p x nm).1.1=1∨(meanP p x nm).1.1=2)∨((meanP p x nm).1.1=3∧∃ k:Nat,(meanP p x nm).1.2=(k:Int)∧k < p.globals.length)∨((meanP p x nm).1.1=4∧∃ k:Nat,(meanP p x nm).1.2=(k:Int)∧k < p.funcs.length):=by
  unfold meanP at h ⊢
  split
  · exact .inl (.inl rfl)
  split
  · exact .inl (.inr rfl)
  rename_i h1 h2
  rw [if_neg h1,if_neg h2] at h
  cases hf:(ents p).find? fun e=>decide (e.1=nm) with
  | none=>rw [hf] at h;cases h
  | some e=>
    have hm:=List.mem_of_find?_eq_some hf
    rw [ents,List.mem_append] at hm
    rcases hm with hm | hm
    · obtain ⟨i,hi⟩:=List.getElem?_of_mem hm
      rw [List.getElem?_mapIdx] at hi
      cases hg:p.globals[i]? with
      | none=>rw [hg] at hi;cases hi
      | some g=>rw [hg] at hi;simp at hi;subst hi;exact .inr (.inl ⟨rfl,i,rfl,(List.getElem?_eq_some_iff.1 hg).1⟩)
    · obtain ⟨i,hi⟩:=List.getElem?_of_mem hm
      rw [List.getElem?_mapIdx] at hi
      cases hg:p.funcs[i]? with
      | none=>rw [hg] at hi;cases hi
      | some g=>rw [hg] at hi;simp at hi;subst hi;exact .inr (.inr ⟨rfl,i,rfl,(List.getElem?_eq_some_iff.1 hg).1⟩)
def parN (p:Prg) (i:Int):Nat:=match p.funcs[i.toNat]? with
  | some x=>x.params.length
  | none=>0
theorem parN_at {p:Prg} {k:Nat} {x:Fnc} {i:Int} (hi:i=(k:Int)) (h:p.funcs[k]?=some x):parN p i=x.params.length:=by rw [hi,parN,Int.toNat_natCast,h]
def useC (p:Prg) (x:Fnc) (u:Use):Int:=if u.2.1=0 then 0 else if (meanP p x u.1).2=false then 12 else if ¬ permP (gkOf p (meanP p x u.1).1.2) u.2.1 (meanP p x u.1).1.1 then 13 else if u.2.1=4∧u.2.2≠(parN p (meanP p x u.1).1.2:Int) then 9 else 0
def ndC (p:Prg) (x:Fnc):Nd→Int
  | .st y lp=>if (y.kind=9∨y.kind=10)∧lp=0 then 24 else useC p x (useS y)
  | .ex y _=>useC p x (useE y)
theorem chkNd_s (D:Nat) (L:Hl) (s:World) (d:Nat) (p:Prg) (Ag Af:Option Addr) (ng cg nf cf:Nat) (hGl:Glos s Ag ng cg p.globals) (hFn:Fncs d s Af nf cf p.funcs) (bm:Nat) (hM:NmOK s bm p) (x:Fnc) (A1 A2 A3:Option Addr) (n1 q1 n2 q2 n3 q3:Nat) (hs1:Strs s A1 n1 q1 x.params) (hs2:Strs s A2 n2 q2 x.locals) (y:Stm) (b o:Nat) (C1 C2 C3:Option Addr) (r1 e1 r2 e2 r3 e3:Nat) (hy:CellsAt s b o [.int .i64 y.kind,St y.name,.slice C1 r1 e1,.slice C2 r2 e2,.slice C3 r3 e3]) (hr:r1=y.exprs.length) (lp:Nat):AC Tryz.prog D 46 [.agg #[.slice Ag ng cg,.slice Af nf cf,.map (some bm)],.agg #[St x.name,.slice A1 n1 q1,.slice A2 n2 q2,.slice A3 n3 q3],.agg #[.pointer (some ⟨b,o,none⟩),.pointer none,.int .i64 (lp:Int)]] L s fun v L' _=>v=.int .i64 (ndC p x (.st y lp))∧L=L':=by
 have hn1:=hGl.1
 have hn2:=hFn.1
 refine AC_enter (TT:=TT) (fn:=Tryz.f46) TT_ok Tryz.func46 V Z Tryz.ntmps46 Z (rs:=[.tmp 6]) Z [(0,_),(1,_),(2,_)] Z<|Sr<|JO_boxA Z Z ?_
 intro β1 s1 h1
 refine JO_boxA Z Z ?_
 intro β2 s2 h2
 refine JO_boxA Z Z ?_
 intro β3 s3 h3
 refine At Z Z<|Zs<|Sr<|W0 Y5<|Wl 0 Y6<|At Z Z<|?_
 refine JC_cutB 33 ((y.kind=9∨y.kind=10)∧lp=0) ?_ ?_
 ·
  refine Zr<|Zqm Z Z<|JO_q (QE_cast (v':=.bool true) (QE_pne Tryz.underlying108 Z) Z) Z<|Zqm Z Z<|Zg Z Z<|Zqm Z Z<|Zg Z Z<|Zqni Z Z<|Zg Z Z<|W0 Y5<|Zg Z Z<|JO_q (QE_ldsR0 Z Z Z (hy.le (h1.t h2|>.t h3)) Z) Z<|Zg Z Z<|Zqeq Z Z Z<|Zg Z Z<|Zqm Z Z<|?_
  refine JO_caseD (t:=21) Z (fun c5=>?_) (fun c5=>?_)
  ·
   refine Wf Y4<|Wf Y4<|Wf Y4<|Wf Y4<|Wf Y4<|Zg Z Z<|ZqT Z Z Z<|ZqT Z Z Z<|Zqm Z Z<|Zg Z Z<|Wb Y5<|Zg Z Z<|Wl 0 Y6<|Zg Z Z<|Zqeq Z Z Z<|ZqT Z Z Z<|Zn<|?_
   refine thenQ_n (MidB.mk (Lr D) Sb Z (decide_eq_decide.2 O))
  refine Zg Z Z<|Zqm Z Z<|Zg Z Z<|Zqni Z Z<|Zg Z Z<|W0 Y5<|Zg Z Z<|JO_q (QE_ldsR0 Z Z Z (hy.le (h1.t h2|>.t h3)) Z) Z<|Zg Z Z<|Zqeq Z Z Z<|Zg Z Z<|ZqF Z Z Z<|ZqT Z Z Z<|Zqm Z Z<|?_
  refine JO_caseD (t:=29) Z (fun c6=>?_) (fun c6=>?_)
  ·
   refine Zg Z Z<|Wb Y5<|Zg Z Z<|Wl 0 Y6<|Zg Z Z<|Zqeq Z Z Z<|ZqT Z Z Z<|Zn<|?_
   refine thenQ_n (MidB.mk (Lr D) Sb Z (decide_eq_decide.2 O))
  refine Wf Y4<|Wf Y4<|Wf Y4<|ZqF Z Z Z<|Zn<|?_
  refine thenQ_n (MidB.mk (Lr D) Sb Z ((decide_eq_false O).symm))
 intro s4 h4
 refine JC_ifD Z (fun c7=>?_) (fun c7=>?_)
 ·
  have g33:=c7
  refine Sr<|At Z Z<|Zo<|Zu<|?_
  refine retQ_mk [_,_,_] L (.inr Z) (.tmp Z (.nil)) Z (h1.t h2|>.t h3|>.t h4) (fun sR hS2=>?_)
  exact ⟨by rw [ndC,if_pos g33];rfl,rfl⟩
 have g33:=c7
 refine Zk<|Zt<|Sr<|JO_q (QE_ldA 0 [_,_,_] Z Z Z Z Z) Z<|Jc Z Z Z (use_s D _ _ y b o C1 C2 C3 r1 e1 r2 e2 r3 e3 (hy.le (h1.t h2|>.t h3|>.t h4)) hr _) ?_
 rintro _ _ s8 h8 ⟨rfl,rfl⟩
 refine JO_allocZ Z [_,_,_] Z Z ?_
 intro β9 s9 h9
 refine Wt 0 [_,_,_] Y9<|Nt<|Zs<|Sr<|Wb Y5<|Wl 0 Y6<|Zqeq Z Z Z<|Nt<|?_
 refine JC_ifD Z (fun c10=>?_) (fun c10=>?_)
 ·
  have hE:useC p x (useS y)=0:=if_pos c10
  refine Sr<|At Z Z<|Zo<|Zu<|?_
  refine retQ_mk [_,_,_,_] L (.inr Z) (.tmp Z (.nil)) Z (h1.t h2|>.t h3|>.t h4|>.t h8|>.t h9) (fun sR hS2=>?_)
  exact ⟨by rw [ndC,if_neg g33,hE];rfl,rfl⟩
 have g38:¬ (useS y).2.1=0:=c10
 refine Zk<|Zt<|Sr<|JO_q (QE_ldA 3 [_,_,_] Z Z Z Z Z) Z<|JO_q (QE_ldA 2 [_,_,_,_] Z Z Z Z Z) Z<|W0 Y5<|Wl 0 Y6<|Jc Z Z Z (mean_ac D _ _ p Ag Af ng cg nf cf bm (hM.le (h1.t h2|>.t h3|>.t h4|>.t h8|>.t h9)) x A1 A2 A3 n1 q1 n2 q2 n3 q3 (hs1.le (h1.t h2|>.t h3|>.t h4|>.t h8|>.t h9)) (hs2.le (h1.t h2|>.t h3|>.t h4|>.t h8|>.t h9)) _) ?_
 rintro _ _ s11 h11 ⟨rfl,rfl⟩
 refine Zqm Z Z<|Zqx Z Z Z<|Zqx Z Z Z<|JO_allocZ Z [_,_] Z Z ?_
 intro β12 s12 h12
 refine Wt 0 [_,_] Y9<|At Z Z<|Zs<|Zp<|Sr<|Zqm Z Z<|Zqno Z Z<|At Z Z<|?_
 refine JC_ifM Z (fun c13=>?_) (fun c13=>?_)
 ·
  have hE:useC p x (useS y)=12:=(if_neg g38).trans (if_pos c13)
  refine Sr<|At Z Z<|Zo<|Zc<|Zu<|?_
  refine retQ_mk [_,_,_,_,_] L (.inr Z) (.tmp Z (.nil)) Z (h1.t h2|>.t h3|>.t h4|>.t h8|>.t h9|>.t h11|>.t h12) (fun sR hS2=>?_)
  exact ⟨by rw [ndC,if_neg g33,hE];rfl,rfl⟩
 have g47:¬ (meanP p x (useS y).1).2=false:=by rw [c13];decide
 have hmk:=mean_kind c13
 refine Sr<|JO_q (QE_ldA 4 [_,_,_] Z Z Z Z Z) Z<|JO_q (QE_ldA 1 [_,_,_] Z Z Z Z Z) Z<|JO_q (QE_ldA 0 [_,_] Z Z Z Z Z) Z<|Jc Z Z Z (perm_ac D _ _ p Ag Af ng cg nf cf bm (hGl.le (h1.t h2|>.t h3|>.t h4|>.t h8|>.t h9|>.t h11|>.t h12)) (useS y) (meanP p x (useS y).1).1.1 (meanP p x (useS y).1).1.2 (fun h1 h2=>hmk.elim (fun h=>absurd h h1) (fun h=>h.elim (fun h=>by obtain ⟨k,e1,e2⟩:=h.2;exact ⟨k,e1,by omega⟩) (fun h=>absurd h.1 h2)))) ?_
 rintro _ _ s14 h14 ⟨rfl,rfl⟩
 refine Zqno Z Z<|At Z Z<|?_
 refine JC_ifN Z (fun c15=>?_) (fun c15=>?_)
 ·
  have hE:useC p x (useS y)=13:=(if_neg g38).trans ((if_neg g47).trans (if_pos c15))
  refine Sr<|At Z Z<|Zo<|Zc<|Zu<|?_
  refine retQ_mk [_,_,_,_,_] L (.inr Z) (.tmp Z (.nil)) Z (h1.t h2|>.t h3|>.t h4|>.t h8|>.t h9|>.t h11|>.t h12|>.t h14) (fun sR hS2=>?_)
  exact ⟨by rw [ndC,if_neg g33,hE];rfl,rfl⟩
 have g50:¬ ¬ permP (gkOf p (meanP p x (useS y).1).1.2) (useS y).2.1 (meanP p x (useS y).1).1.1:=fun h=>h c15
 have g51:=c15
 refine Zs ?_
 rcases Classical.em ((useS y).2.1=4) with g4 | g4
 ·
  obtain ⟨hk4,j,hj,hjn⟩:=hmk.elim (fun h=>absurd g51 (fun k=>by omega)) (fun h=>h.elim (fun h=>absurd g51 (fun k=>by omega)) id)
  obtain ⟨b,off,z,B1,m1,d1,B2,m2,d2,B3,m3,d3,rfl,hz,hcz,hpz,hlz,hbz,hzl⟩:=Fncs.at_ (hFn.le (h1.t h2|>.t h3|>.t h4|>.t h8|>.t h9|>.t h11|>.t h12|>.t h14)) (show j < nf by omega)
  have hm9:=hpz.1
  have hpar:=parN_at hj hz
  refine JC_draw drawsMixed 18 Z _ (fun _ h=>h) ?_
  intro s16 h16
  refine za 0 Z (We Y4) Z<|za 1 Z (Wd 1 Y5) Z<|za 2 Z (QE_cast (v':=.bool true) (QE_eq Z Z) (bT g4)) Z<|za 3 Z (QE_mv Z) Z<|zg 4 Z ⟨_,Z,Z⟩ (We Y4) Z<|zg 5 Z ⟨_,Z,Z⟩ (Wd 1 Y5) Z<|zg 6 Z ⟨_,Z,Z⟩ (QE_fa0 Z Z Z Z) Z<|zg 7 Z ⟨_,Z,Z⟩ (We Y4) Z<|zg 8 Z ⟨_,Z,Z⟩ (Wd 4 Y5) Z<|zg 9 Z ⟨_,Z,Z⟩ (We Y4) Z<|zg 10 Z ⟨_,Z,Z⟩ (Wd 0 Y5) Z<|zg 11 Z ⟨_,Z,Z⟩ (QE_iaN (j:=j) Z (show lk _ _=some (.int .i64 (j:Int)) from by rw [← hj];rfl) Z Z Z Z (show j < nf by omega)) Z ?_
  refine zg 12 Z ⟨_,Z,Z⟩ (QE_fa Z Z Z Z) Z<|zg 13 Z ⟨_,Z,Z⟩ (QE_ldsR 1 Z Z Z (hcz.le h16) Z) Z<|zg 14 Z ⟨_,Z,Z⟩ (QE_lenS Z Z Z) Z<|zg 15 Z ⟨_,Z,Z⟩ (QE_ne Z Z) Z<|za 16 Z (QE_pickT Z Z) Z<|za 17 Z (QE_as Z) Z<|JA_done V<|Zt ?_
  refine JC_ifN Z (fun c17=>?_) (fun c17=>?_)
  ·
   have hE:useC p x (useS y)=9:=(if_neg g38).trans ((if_neg g47).trans ((if_neg g50).trans (if_pos ⟨g4,by rw [hpar];have:=c17;omega⟩)))
   refine Sr<|At Z Z<|Zo<|Zc<|Zu<|?_
   refine retQ_mk [_,_,_,_,_] L (.inr Z) (.tmp Z (.nil)) Z (h1.t h2|>.t h3|>.t h4|>.t h8|>.t h9|>.t h11|>.t h12|>.t h14|>.t h16) (fun sR hS2=>?_)
   exact ⟨by rw [ndC,if_neg g33,hE];rfl,rfl⟩
  have hE:useC p x (useS y)=0:=(if_neg g38).trans ((if_neg g47).trans ((if_neg g50).trans (if_neg (fun h=>h.2 (by rw [hpar];have:=c17;omega)))))
  refine Zk<|Zb<|Zt<|Sr<|At Z Z<|Zo<|?_
  refine retQ_mk [_,_,_,_,_] L (.inr Z) (.tmp Z (.nil)) Z (h1.t h2|>.t h3|>.t h4|>.t h8|>.t h9|>.t h11|>.t h12|>.t h14|>.t h16) (fun sR hS2=>?_)
  exact ⟨by rw [ndC,if_neg g33,hE];rfl,rfl⟩
 refine JC_draw drawsMixed 18 Z _ (fun _ h=>h) ?_
 intro s18 h18
 refine za 0 Z (We Y4) Z<|za 1 Z (Wd 1 Y5) Z<|za 2 Z (QE_cast (v':=.bool false) (QE_eq Z Z) (bZ g4)) Z<|za 3 Z (QE_mv Z) Z<|zn 4 Z Z Z Z Z<|zn 5 Z Z Z Z Z<|zn 6 Z Z Z Z Z<|zn 7 Z Z Z Z Z<|zn 8 Z Z Z Z Z<|zn 9 Z Z Z Z Z<|zn 10 Z Z Z Z Z<|zn 11 Z Z Z Z Z<|zn 12 Z Z Z Z Z<|zn 13 Z Z Z Z Z<|zn 14 Z Z Z Z Z<|zn 15 Z Z Z Z Z<|za 16 Z (QE_pickF Z Z) Z<|za 17 Z (QE_as Z) Z<|JA_done V<|Zt<|Zz Z<|?_
 have hE:useC p x (useS y)=0:=(if_neg g38).trans ((if_neg g47).trans ((if_neg g50).trans (if_neg (fun h=>g4 h.1))))
 refine Zk<|Zb<|Zt<|Sr<|At Z Z<|Zo<|?_
 refine retQ_mk [_,_,_,_,_] L (.inr Z) (.tmp Z (.nil)) Z (h1.t h2|>.t h3|>.t h4|>.t h8|>.t h9|>.t h11|>.t h12|>.t h14|>.t h18) (fun sR hS2=>?_)
 exact ⟨by rw [ndC,if_neg g33,hE];rfl,rfl⟩
theorem chkNd_e (D:Nat) (L:Hl) (s:World) (d:Nat) (p:Prg) (Ag Af:Option Addr) (ng cg nf cf:Nat) (hGl:Glos s Ag ng cg p.globals) (hFn:Fncs d s Af nf cf p.funcs) (bm:Nat) (hM:NmOK s bm p) (x:Fnc) (A1 A2 A3:Option Addr) (n1 q1 n2 q2 n3 q3:Nat) (hs1:Strs s A1 n1 q1 x.params) (hs2:Strs s A2 n2 q2 x.locals) (y:Ex) (b o:Nat) (A:Option Addr) (n c:Nat) (hy:CellsAt s b o [.int .i64 y.kind,.int .i64 y.op,.int .u32 y.num,St y.name,.slice A n c]) (hr:n=y.args.length) (lp:Nat):AC Tryz.prog D 46 [.agg #[.slice Ag ng cg,.slice Af nf cf,.map (some bm)],.agg #[St x.name,.slice A1 n1 q1,.slice A2 n2 q2,.slice A3 n3 q3],.agg #[.pointer none,.pointer (some ⟨b,o,none⟩),.int .i64 (lp:Int)]] L s fun v L' _=>v=.int .i64 (ndC p x (.ex y lp))∧L=L':=by
 have hn1:=hGl.1
 have hn2:=hFn.1
 refine AC_enter (TT:=TT) (fn:=Tryz.f46) TT_ok Tryz.func46 V Z Tryz.ntmps46 Z (rs:=[.tmp 6]) Z [(0,_),(1,_),(2,_)] Z<|Sr<|JO_boxA Z Z ?_
 intro β1 s1 h1
 refine JO_boxA Z Z ?_
 intro β2 s2 h2
 refine JO_boxA Z Z ?_
 intro β3 s3 h3
 refine At Z Z<|Zs<|Sr<|W0 Y5<|Wl 0 Y6<|At Z Z<|Sr<|Zqm Z Z<|JO_q (QE_cast (v':=.bool false) (QE_pne Tryz.underlying108 Z) Z) Z<|Zqm Z Z<|Wf Y4<|Wf Y4<|Wf Y4<|Wf Y4<|Wf Y4<|Wf Y4<|Zh Z Z Z<|Zh Z Z Z<|Zh Z Z Z<|Zh Z Z Z<|Zh Z Z Z<|Wf Y4<|ZqF Z Z Z<|Zqm Z Z<|Wf Y4<|Wf Y4<|Wf Y4<|ZqF Z Z Z<|Nt<|Zz Z<|Zk<|Zt<|Sr<|JO_q (QE_ldA 0 [_,_,_] Z Z Z Z Z) Z ?_
 refine Jc Z Z Z (use_e D _ _ y b o A n c (hy.le (h1.t h2|>.t h3)) hr _) ?_
 rintro _ _ s4 h4 ⟨rfl,rfl⟩
 refine JO_allocZ Z [_,_,_] Z Z ?_
 intro β5 s5 h5
 refine Wt 0 [_,_,_] Y9<|Nt<|Zs<|Sr<|Wb Y5<|Wl 0 Y6<|Zqeq Z Z Z<|Nt<|?_
 refine JC_ifD Z (fun c6=>?_) (fun c6=>?_)
 ·
  have hE:useC p x (useE y)=0:=if_pos c6
  refine Sr<|At Z Z<|Zo<|Zu<|?_
  refine retQ_mk [_,_,_,_] L (.inr Z) (.tmp Z (.nil)) Z (h1.t h2|>.t h3|>.t h4|>.t h5) (fun sR hS2=>?_)
  exact ⟨by rw [ndC,hE];rfl,rfl⟩
 have g38:¬ (useE y).2.1=0:=c6
 refine Zk<|Zt<|Sr<|JO_q (QE_ldA 3 [_,_,_] Z Z Z Z Z) Z<|JO_q (QE_ldA 2 [_,_,_,_] Z Z Z Z Z) Z<|W0 Y5<|Wl 0 Y6<|Jc Z Z Z (mean_ac D _ _ p Ag Af ng cg nf cf bm (hM.le (h1.t h2|>.t h3|>.t h4|>.t h5)) x A1 A2 A3 n1 q1 n2 q2 n3 q3 (hs1.le (h1.t h2|>.t h3|>.t h4|>.t h5)) (hs2.le (h1.t h2|>.t h3|>.t h4|>.t h5)) _) ?_
 rintro _ _ s7 h7 ⟨rfl,rfl⟩
 refine Zqm Z Z<|Zqx Z Z Z<|Zqx Z Z Z<|JO_allocZ Z [_,_] Z Z ?_
 intro β8 s8 h8
 refine Wt 0 [_,_] Y9<|At Z Z<|Zs<|Zp<|Sr<|Zqm Z Z<|Zqno Z Z<|At Z Z<|?_
 refine JC_ifM Z (fun c9=>?_) (fun c9=>?_)
 ·
  have hE:useC p x (useE y)=12:=(if_neg g38).trans (if_pos c9)
  refine Sr<|At Z Z<|Zo<|Zc<|Zu<|?_
  refine retQ_mk [_,_,_,_,_] L (.inr Z) (.tmp Z (.nil)) Z (h1.t h2|>.t h3|>.t h4|>.t h5|>.t h7|>.t h8) (fun sR hS2=>?_)
  exact ⟨by rw [ndC,hE];rfl,rfl⟩
 have g47:¬ (meanP p x (useE y).1).2=false:=by rw [c9];decide
 have hmk:=mean_kind c9
 refine Sr<|JO_q (QE_ldA 4 [_,_,_] Z Z Z Z Z) Z<|JO_q (QE_ldA 1 [_,_,_] Z Z Z Z Z) Z<|JO_q (QE_ldA 0 [_,_] Z Z Z Z Z) Z<|Jc Z Z Z (perm_ac D _ _ p Ag Af ng cg nf cf bm (hGl.le (h1.t h2|>.t h3|>.t h4|>.t h5|>.t h7|>.t h8)) (useE y) (meanP p x (useE y).1).1.1 (meanP p x (useE y).1).1.2 (fun h1 h2=>hmk.elim (fun h=>absurd h h1) (fun h=>h.elim (fun h=>by obtain ⟨k,e1,e2⟩:=h.2;exact ⟨k,e1,by omega⟩) (fun h=>absurd h.1 h2)))) ?_
 rintro _ _ s10 h10 ⟨rfl,rfl⟩
 refine Zqno Z Z<|At Z Z<|?_
 refine JC_ifN Z (fun c11=>?_) (fun c11=>?_)
 ·
  have hE:useC p x (useE y)=13:=(if_neg g38).trans ((if_neg g47).trans (if_pos c11))
  refine Sr<|At Z Z<|Zo<|Zc<|Zu<|?_
  refine retQ_mk [_,_,_,_,_] L (.inr Z) (.tmp Z (.nil)) Z (h1.t h2|>.t h3|>.t h4|>.t h5|>.t h7|>.t h8|>.t h10) (fun sR hS2=>?_)
  exact ⟨by rw [ndC,hE];rfl,rfl⟩
 have g50:¬ ¬ permP (gkOf p (meanP p x (useE y).1).1.2) (useE y).2.1 (meanP p x (useE y).1).1.1:=fun h=>h c11
 have g51:=c11
 refine Zs ?_
 rcases Classical.em ((useE y).2.1=4) with g4 | g4
 ·
  obtain ⟨hk4,j,hj,hjn⟩:=hmk.elim (fun h=>absurd g51 (fun k=>by omega)) (fun h=>h.elim (fun h=>absurd g51 (fun k=>by omega)) id)
  obtain ⟨b,off,z,B1,m1,d1,B2,m2,d2,B3,m3,d3,rfl,hz,hcz,hpz,hlz,hbz,hzl⟩:=Fncs.at_ (hFn.le (h1.t h2|>.t h3|>.t h4|>.t h5|>.t h7|>.t h8|>.t h10)) (show j < nf by omega)
  have hm9:=hpz.1
  have hpar:=parN_at hj hz
  refine JC_draw drawsMixed 18 Z _ (fun _ h=>h) ?_
  intro s12 h12
  refine za 0 Z (We Y4) Z<|za 1 Z (Wd 1 Y5) Z<|za 2 Z (QE_cast (v':=.bool true) (QE_eq Z Z) (bT g4)) Z<|za 3 Z (QE_mv Z) Z<|zg 4 Z ⟨_,Z,Z⟩ (We Y4) Z<|zg 5 Z ⟨_,Z,Z⟩ (Wd 1 Y5) Z<|zg 6 Z ⟨_,Z,Z⟩ (QE_fa0 Z Z Z Z) Z<|zg 7 Z ⟨_,Z,Z⟩ (We Y4) Z<|zg 8 Z ⟨_,Z,Z⟩ (Wd 4 Y5) Z<|zg 9 Z ⟨_,Z,Z⟩ (We Y4) Z<|zg 10 Z ⟨_,Z,Z⟩ (Wd 0 Y5) Z<|zg 11 Z ⟨_,Z,Z⟩ (QE_iaN (j:=j) Z (show lk _ _=some (.int .i64 (j:Int)) from by rw [← hj];rfl) Z Z Z Z (show j < nf by omega)) Z ?_
  refine zg 12 Z ⟨_,Z,Z⟩ (QE_fa Z Z Z Z) Z<|zg 13 Z ⟨_,Z,Z⟩ (QE_ldsR 1 Z Z Z (hcz.le h12) Z) Z<|zg 14 Z ⟨_,Z,Z⟩ (QE_lenS Z Z Z) Z<|zg 15 Z ⟨_,Z,Z⟩ (QE_ne Z Z) Z<|za 16 Z (QE_pickT Z Z) Z<|za 17 Z (QE_as Z) Z<|JA_done V<|Zt ?_
  refine JC_ifN Z (fun c13=>?_) (fun c13=>?_)
  ·
   have hE:useC p x (useE y)=9:=(if_neg g38).trans ((if_neg g47).trans ((if_neg g50).trans (if_pos ⟨g4,by rw [hpar];have:=c13;omega⟩)))
   refine Sr<|At Z Z<|Zo<|Zc<|Zu<|?_
   refine retQ_mk [_,_,_,_,_] L (.inr Z) (.tmp Z (.nil)) Z (h1.t h2|>.t h3|>.t h4|>.t h5|>.t h7|>.t h8|>.t h10|>.t h12) (fun sR hS2=>?_)
   exact ⟨by rw [ndC,hE];rfl,rfl⟩
  have hE:useC p x (useE y)=0:=(if_neg g38).trans ((if_neg g47).trans ((if_neg g50).trans (if_neg (fun h=>h.2 (by rw [hpar];have:=c13;omega)))))
  refine Zk<|Zb<|Zt<|Sr<|At Z Z<|Zo<|?_
  refine retQ_mk [_,_,_,_,_] L (.inr Z) (.tmp Z (.nil)) Z (h1.t h2|>.t h3|>.t h4|>.t h5|>.t h7|>.t h8|>.t h10|>.t h12) (fun sR hS2=>?_)
  exact ⟨by rw [ndC,hE];rfl,rfl⟩
 refine JC_draw drawsMixed 18 Z _ (fun _ h=>h) ?_
 intro s14 h14
 refine za 0 Z (We Y4) Z<|za 1 Z (Wd 1 Y5) Z<|za 2 Z (QE_cast (v':=.bool false) (QE_eq Z Z) (bZ g4)) Z<|za 3 Z (QE_mv Z) Z<|zn 4 Z Z Z Z Z<|zn 5 Z Z Z Z Z<|zn 6 Z Z Z Z Z<|zn 7 Z Z Z Z Z<|zn 8 Z Z Z Z Z<|zn 9 Z Z Z Z Z<|zn 10 Z Z Z Z Z<|zn 11 Z Z Z Z Z<|zn 12 Z Z Z Z Z<|zn 13 Z Z Z Z Z<|zn 14 Z Z Z Z Z<|zn 15 Z Z Z Z Z<|za 16 Z (QE_pickF Z Z) Z<|za 17 Z (QE_as Z) Z<|JA_done V<|Zt<|Zz Z<|?_
 have hE:useC p x (useE y)=0:=(if_neg g38).trans ((if_neg g47).trans ((if_neg g50).trans (if_neg (fun h=>g4 h.1))))
 refine Zk<|Zb<|Zt<|Sr<|At Z Z<|Zo<|?_
 refine retQ_mk [_,_,_,_,_] L (.inr Z) (.tmp Z (.nil)) Z (h1.t h2|>.t h3|>.t h4|>.t h5|>.t h7|>.t h8|>.t h10|>.t h14) (fun sR hS2=>?_)
 exact ⟨by rw [ndC,hE];rfl,rfl⟩
end Go.Proofs.YtpdnijphccdiiaaGreatDoor
namespace Go.FL
open Go Go.RowKit
def fro (ro:Option Nat):Fence:={ Fence.wide with round:=ro }
theorem calls_fro {P:Program} {f:FuncId} {args:Array Value} {w:World} {R:Ending→World→Prop} (ro:Option Nat) (n:Nat) (h:Calls P f args w R):CallsIn (fro ro) n P f args w R:=by
  cases ro with
  | none=>exact callsIn_wide.2 h
  | some l=>exact CallsIn.inRound l (callsIn_wide.2 h)
theorem fro_depth (ro:Option Nat) (n:Nat):(fro ro).depth.isSome=true→1≤n:=fun h=>by cases h
theorem fro_fn (ro:Option Nat) (f:FuncId):(fro ro).fn f:=trivial
structure FrD (ds:List Deferred) (n:Nat) (a:Act) (fr:Fr):Prop where
  rel:FrRel n { a with defers:=[] } fr
  defers:a.defers=ds
theorem FrD.ev {ds:List Deferred} {n:Nat} {a:Act} {fr:Fr} (h:FrD ds n a fr) {x:Operand} {v:Value} (hx:lk fr x=some v):a.eval x=v:=h.rel.ev hx
theorem FrD.put {ds:List Deferred} {n:Nat} {a:Act} {fr:Fr} (h:FrD ds n a fr) {d:Nat} (hd:Nat.blt d n=true) (v:Value):FrD ds n (a.put (some d) v) ((d,v)::fr):=
  ⟨h.rel.put hd v,h.defers⟩
theorem FrD.sub {ds:List Deferred} {n:Nat} {a:Act} {fr l:Fr} (h:FrD ds n a fr) (hs:Keeps fr l):FrD ds n a l:=⟨h.rel.sub hs,h.defers⟩
abbrev GPost:=Exit→List Deferred→Fr→Hl→World→Prop
def concG (D n:Nat) (Q:GPost):Exit→Act→World→Prop:=fun e a w=>∃ ds fr L s,FrD ds n a fr∧OKL D L s∧w=fill L s∧Q e ds fr L s
def RC (P:Program) (TT:TyTab) (D n:Nat) (ro:Option Nat) (Q:GPost) (c:Code) (ds:List Deferred) (fr:Fr) (L:Hl) (s:World):Prop:=
  TabOK P TT→∀ a,FrD ds n a fr→OKL D L s→c.wpIn (fro ro) 0 P (concG D n Q) a (fill L s)
def RO (P:Program) (TT:TyTab) (D n:Nat) (ro:Option Nat) (ops:Array Oper) (Q:GPost) (l:List Oper) (ds:List Deferred) (fr:Fr) (L:Hl) (s:World):Prop:=
  TabOK P TT→∀ a,FrD ds n a fr→OKL D L s→wpListIn (fro ro) 0 P ops (concG D n Q) l a (fill L s)
section control
variable {P:Program} {TT:TyTab} {D n:Nat} {ro:Option Nat} {Q:GPost} {ds:List Deferred} {fr:Fr} {L:Hl} {s:World}
def thenG (J:List Deferred→Fr→Hl→World→Prop) (Q:GPost):GPost
  | .normal,ds,fr,L,s=>J ds fr L s
  | e,ds,fr,L,s=>Q e ds fr L s
def blockG (id:Nat) (Q:GPost):GPost
  | .exit i,ds,fr,L,s=>if i=id then Q .normal ds fr L s else Q (.exit i) ds fr L s
  | e,ds,fr,L,s=>Q e ds fr L s
theorem RC_skip (h:Q .normal ds fr L s):RC P TT D n ro Q .skip ds fr L s:=fun _ _ hr ho=>wpIn_skip ⟨ds,fr,L,s,hr,ho,rfl,h⟩
theorem RC_exit {id:Nat} (h:Q (.exit id) ds fr L s):RC P TT D n ro Q (.exit id) ds fr L s:=fun _ _ hr ho=>wpIn_exit ⟨ds,fr,L,s,hr,ho,rfl,h⟩
theorem RC_ret (h:Q .ret ds fr L s):RC P TT D n ro Q .ret ds fr L s:=fun _ _ hr ho=>wpIn_ret ⟨ds,fr,L,s,hr,ho,rfl,h⟩
theorem RC_seq {x y:Code} (h:RC P TT D n ro (thenG (RC P TT D n ro Q y) Q) x ds fr L s):RC P TT D n ro Q (.seq x y) ds fr L s:=fun ht a hr ho=>
  wpIn_seq (wpIn_mono (h ht a hr ho) fun e a w ⟨ds',fr',L',s',h1,h2,h3,h4⟩=>by
    cases e with
    | normal=>subst h3;exact h4 ht a h1 h2
    | _=>exact ⟨ds',fr',L',s',h1,h2,h3,h4⟩)
theorem RC_block {id:Nat} {c:Code} (h:RC P TT D n ro (blockG id Q) c ds fr L s):RC P TT D n ro Q (.block id c) ds fr L s:=fun ht a hr ho=>
  wpIn_block (wpIn_mono (h ht a hr ho) fun e a w ⟨ds',fr',L',s',h1,h2,h3,h4⟩=>by
    cases e with
    | exit i=>
      simp only [blockG] at h4
      simp only [Exit.inBlock]
      by_cases hi:i=id
      · simp only [hi,if_true] at h4 ⊢;exact ⟨ds',fr',L',s',h1,h2,h3,h4⟩
      · simp only [hi,if_false] at h4 ⊢;exact ⟨ds',fr',L',s',h1,h2,h3,h4⟩
    | _=>exact ⟨ds',fr',L',s',h1,h2,h3,h4⟩)
theorem RC_if {c:Operand} {x y:Code} {b:Bool} (hc:lk fr c=some (.bool b)) (h1:b=true→RC P TT D n ro Q x ds fr L s) (h2:b=false→RC P TT D n ro Q y ds fr L s):RC P TT D n ro Q (.cond c x y) ds fr L s:=
  fun ht a hr ho=>wpIn_cond_split (hr.ev hc) (fun hb=>h1 hb ht a hr ho) (fun hb=>h2 hb ht a hr ho)
theorem RC_ifD {c:Operand} {x y:Code} {p:Prop} [Decidable p] (hc:lk fr c=some (.bool (decide p))) (h1:p→RC P TT D n ro Q x ds fr L s) (h2:¬ p→RC P TT D n ro Q y ds fr L s):RC P TT D n ro Q (.cond c x y) ds fr L s:=
  RC_if hc (fun hb=>h1 (of_decide_eq_true hb)) (fun hb=>h2 (of_decide_eq_false hb))
theorem RC_ifN {c:Operand} {x y:Code} {p:Prop} [Decidable p] (hc:lk fr c=some (.bool (!decide p))) (h1:¬ p→RC P TT D n ro Q x ds fr L s) (h2:p→RC P TT D n ro Q y ds fr L s):RC P TT D n ro Q (.cond c x y) ds fr L s:=
  RC_if hc (fun hb=>h1 (by simpa using hb)) (fun hb=>h2 (by simpa using hb))
theorem RC_ifM {c:Operand} {x y:Code} {b:Bool} (hc:lk fr c=some (.bool (!b))) (h1:b=false→RC P TT D n ro Q x ds fr L s) (h2:b=true→RC P TT D n ro Q y ds fr L s):RC P TT D n ro Q (.cond c x y) ds fr L s:=
  RC_if hc (fun hb=>h1 (by simpa using hb)) (fun hb=>h2 (by simpa using hb))
theorem RC_ifT {c:Operand} {x y:Code} (hc:lk fr c=some (.bool true)) (h1:RC P TT D n ro Q x ds fr L s):RC P TT D n ro Q (.cond c x y) ds fr L s:=
  RC_if hc (fun _=>h1) (fun hb=>by cases hb)
theorem RC_region {id:Nat} {l:List Oper} (h:RO P TT D n ro l.toArray Q l ds fr L s):RC P TT D n ro Q (.region id l.toArray false) ds fr L s:=
  fun ht a hr ho=>wpIn_region_lit (h ht a hr ho)
theorem RO_nil {ops:Array Oper} (h:Q .normal ds fr L s):RO P TT D n ro ops Q [] ds fr L s:=fun _ _ hr ho=>⟨ds,fr,L,s,hr,ho,rfl,h⟩
theorem RC_loop {γ:Type} {c:Code} (S:γ→Fr) (H:γ→Hl) (I:γ→World→Prop) (μ:γ→Nat) (mono:∀ g s s',I g s→Le D s s'→I g s') (g0:γ)
    (hS:Keeps fr (S g0)) (hL:L=H g0) (hI:I g0 s)
    (round:∀ g s,I g s→RC P TT D n ro (thenG (fun ds' fr' L' s'=>ds'=ds∧∃ g' A,Keeps fr' (S g')∧L'=A++H g'∧I g' s'∧μ g' < μ g) Q) c ds (S g) (H g) s) :
    RC P TT D n ro Q (.loop c) ds fr L s:=fun ht a hr ho=>by
  refine wpIn_loop_ghost (fun m a w=>∃ g s,μ g=m∧FrD ds n a (S g)∧OKL D (H g) s∧w=fill (H g) s∧I g s) (μ g0) ⟨g0,s,Z,hr.sub hS,hL▸ho,hL▸Z,hI⟩ ?_
  rintro m a w ⟨g,s,rfl,h1,h2,rfl,h4⟩
  refine wpIn_mono (round g s h4 ht a h1 h2) ?_
  rintro e a' w' ⟨ds',fr',L',s',k1,k2,rfl,k4⟩
  cases e with
  | normal=>
    obtain ⟨rfl,g',A,j1,rfl,j3,j4⟩:=k4
    obtain ⟨e,d1,d2⟩:=drop_own k2
    exact ⟨μ g',j4,g',_,rfl,k1.sub j1,d1,e,mono _ _ _ j3 d2⟩
  | _=>exact ⟨ds',fr',L',s',k1,k2,rfl,k4⟩
theorem RC_loopM {γ:Type} {c:Code} (S:γ→Fr) (H:γ→Hl) (E:γ→List Deferred) (I:γ→World→Prop) (μ:γ→Nat) (mono:∀ g s s',I g s→Le D s s'→I g s') (g0:γ)
    (hS:Keeps fr (S g0)) (hL:L=H g0) (hE:ds=E g0) (hI:I g0 s)
    (round:∀ g s,I g s→RC P TT D n ro (thenG (fun ds' fr' L' s'=>∃ g' A,ds'=E g'∧Keeps fr' (S g')∧L'=A++H g'∧I g' s'∧μ g' < μ g) Q) c (E g) (S g) (H g) s) :
    RC P TT D n ro Q (.loop c) ds fr L s:=fun ht a hr ho=>by
  subst hE
  refine wpIn_loop_ghost (fun m a w=>∃ g s,μ g=m∧FrD (E g) n a (S g)∧OKL D (H g) s∧w=fill (H g) s∧I g s) (μ g0) ⟨g0,s,Z,hr.sub hS,hL▸ho,hL▸Z,hI⟩ ?_
  rintro m a w ⟨g,s,rfl,h1,h2,rfl,h4⟩
  refine wpIn_mono (round g s h4 ht a h1 h2) ?_
  rintro e a' w' ⟨ds',fr',L',s',k1,k2,rfl,k4⟩
  cases e with
  | normal=>
    obtain ⟨g',A,rfl,j1,rfl,j3,j4⟩:=k4
    obtain ⟨e,d1,d2⟩:=drop_own k2
    exact ⟨μ g',j4,g',_,rfl,k1.sub j1,d1,e,mono _ _ _ j3 d2⟩
  | _=>exact ⟨ds',fr',L',s',k1,k2,rfl,k4⟩
theorem thenG_n {J:List Deferred→Fr→Hl→World→Prop} (h:J ds fr L s):thenG J Q .normal ds fr L s:=h
theorem thenG_r {J:List Deferred→Fr→Hl→World→Prop} (h:Q .ret ds fr L s):thenG J Q .ret ds fr L s:=h
theorem thenG_x {J:List Deferred→Fr→Hl→World→Prop} {i:Nat} (h:Q (.exit i) ds fr L s):thenG J Q (.exit i) ds fr L s:=h
theorem blockG_n {id:Nat} (h:Q .normal ds fr L s):blockG id Q .normal ds fr L s:=h
theorem blockG_r {id:Nat} (h:Q .ret ds fr L s):blockG id Q .ret ds fr L s:=h
theorem blockG_x {id:Nat} (h:Q .normal ds fr L s):blockG id Q (.exit id) ds fr L s:=by simpa [blockG] using h
end control
section ops
variable {P:Program} {TT:TyTab} {D n:Nat} {ro:Option Nat} {Q:GPost} {ds:List Deferred} {fr:Fr} {L L':Hl} {s s':World} {ops:Array Oper} {rest:List Oper} {d ty:Nat} {op:Op} {pos:String} {af:Array Edge} {v:Value}
theorem RO_ev (hnd:∀ c,op≠.defer c) (hd:Nat.blt d n=true) (h:Ev P TT D fr op ty L s (.value v) L' s') (k:RO P TT D n ro ops Q rest ds ((d,v)::fr) L' s') :
    RO P TT D n ro ops Q (⟨some d,op,ty,pos,af,none⟩::rest) ds fr L s:=fun ht a hr ho=>by
  obtain ⟨h1,h2⟩:=h ht ho (some d) pos af none a.eval (fun x v hx=>hr.ev hx)
  simp only [wpListIn,Region.wanted,if_true]
  refine ⟨fun f _=>fro_fn ro f,?_⟩
  rw [Oper.semAt_eq _ _ _ hnd,h1,Oper.uponIn_value]
  exact k ht _ (hr.put hd v) h2
theorem RO_sk (hnd:∀ c,op≠.defer c) (h:Ev P TT D fr op ty L s .skip L' s') (k:RO P TT D n ro ops Q rest ds fr L' s') :
    RO P TT D n ro ops Q (⟨none,op,ty,pos,af,none⟩::rest) ds fr L s:=fun ht a hr ho=>by
  obtain ⟨h1,h2⟩:=h ht ho none pos af none a.eval (fun x v hx=>hr.ev hx)
  simp only [wpListIn,Region.wanted,if_true]
  refine ⟨fun f _=>fro_fn ro f,?_⟩
  rw [Oper.semAt_eq _ _ _ hnd,h1,Oper.uponIn_skip]
  exact k ht _ hr h2
theorem RO_q (h:QE P TT D fr op ty L s v) (hd:Nat.blt d n=true) (k:RO P TT D n ro ops Q rest ds ((d,v)::fr) L s) (hnd:∀ c,op≠.defer c:=by nofun):RO P TT D n ro ops Q (⟨some d,op,ty,pos,af,none⟩::rest) ds fr L s:=
  RO_ev hnd hd (fun ht ho dst pos af g ρ hρ=>⟨h ht dst pos af g ρ hρ L s ho (Le.refl _) (fun _ hx=>hx),ho⟩) k
theorem RO_call {f:FuncId} {x:Operand} {xs:List Operand} {first captured vs:List Value} {ts:Array TypeId} {R:Value→Hl→World→Prop} (hx:lk fr x=some (.func (.func f) first.toArray captured.toArray)) (hv:lks fr xs=some vs)
    (hd:Nat.blt d n=true) (h:AC P D f (first++vs++captured) L s R) (k:∀ v L' s',Le D s s'→R v L' s'→RO P TT D n ro ops Q rest ds ((d,v)::fr) L' s') :
    RO P TT D n ro ops Q (⟨some d,.call { callee:=.value x,args:=xs.toArray,argTypes:=ts },ty,pos,af,none⟩::rest) ds fr L s:=fun hT a hr ho=>by
  obtain ⟨⟨fn,h1,h2,h3⟩,hc⟩:=h
  have hρ:∀ x v,lk fr x=some v→a.eval x=v:=fun x v hx=>hr.ev hx
  simp only [wpListIn,Region.wanted,if_true]
  refine ⟨fun f _=>fro_fn ro f,?_⟩
  have hrun:(execOp a.eval ⟨some d,.call { callee:=.value x,args:=xs.toArray,argTypes:=ts },ty,pos,af,none⟩).run P (fill L s)=.ok (.enter f (first++vs++captured).toArray) (fill L s):=by
    have h2':¬ fn.name = "runtime.NumGoroutine" := by simpa using h2
    have h3':¬ fn.body=none:=by intro e;simp [e] at h3
    simp [execOp,resolve,Deferred.ofValue,invoke,callFunc,hρ x _ hx,lks_map hρ hv,h1,h2',h3']
  rw [Oper.semAt_eq _ _ _ (by nofun),hrun,Oper.uponIn_enter]
  refine ⟨fro_depth ro 0,(calls_fro ro _ (hc ho)).mono ?_⟩
  rintro e w' ⟨v,L',s',rfl,rfl,h4,h5,h6⟩
  exact k v L' s' h5 h6 hT _ (hr.put hd v) h4
theorem Rc9 {f:FuncId} {x:Operand} {xs:List Operand} {vs:List Value} {ts:Array TypeId} {R:Value→Hl→World→Prop} (hx:lk fr x=some (.func (.func f) ([]:List Value).toArray ([]:List Value).toArray)) (hv:lks fr xs=some vs)
    (hd:Nat.blt d n=true) (h:AC P D f (([]:List Value)++vs++[]) L s R) (k:∀ v L' s',Le D s s'→R v L' s'→RO P TT D n ro ops Q rest ds ((d,v)::fr) L' s') :
    RO P TT D n ro ops Q (⟨some d,.call { callee:=.value x,args:=xs.toArray,argTypes:=ts },ty,pos,af,none⟩::rest) ds fr L s:=RO_call (first:=[]) (captured:=[]) hx hv hd h k
def YC (P:Program) (D:Nat) (l:Nat) (args:List Value) (L:Hl) (s:World) (R:Value→Hl→World→Prop):Prop:=
  OKL D L s→∃ fn tmps assign body,(Instr.yield l args.toArray).run P (fill L s)=.ok (.round l fn tmps assign body) (fill L s) ∧
    RoundIn Fence.wide 0 P l fn tmps assign body (fill L s) fun e w'=>∃ v L' s',e=.returned v∧w'=fill L' s'∧OKL D L' s'∧Le D s s'∧R v L' s'
theorem RO_yield {l:Nat} {x:Operand} {xs:List Operand} {vs:List Value} {ts:Array TypeId} {R:Value→Hl→World→Prop} (hx:lk fr x=some (.func (.yield l) #[] #[])) (hv:lks fr xs=some vs)
    (hd:Nat.blt d n=true) (h:YC P D l vs L s R) (k:∀ v L' s',Le D s s'→R v L' s'→RO P TT D n none ops Q rest ds ((d,v)::fr) L' s') :
    RO P TT D n none ops Q (⟨some d,.call { callee:=.value x,args:=xs.toArray,argTypes:=ts },ty,pos,af,none⟩::rest) ds fr L s:=fun hT a hr ho=>by
  obtain ⟨fn,tmps,assign,body,hy,hR⟩:=h ho
  have hρ:∀ x v,lk fr x=some v→a.eval x=v:=fun x v hx=>hr.ev hx
  simp only [wpListIn,Region.wanted,if_true]
  refine ⟨fun f _=>fro_fn none f,?_⟩
  have hrun:(execOp a.eval ⟨some d,.call { callee:=.value x,args:=xs.toArray,argTypes:=ts },ty,pos,af,none⟩).run P (fill L s)=.ok (.round l fn tmps assign body) (fill L s):=by
    simp [execOp,resolve,Deferred.ofValue,invoke,hρ x _ hx,lks_map hρ hv,hy]
  rw [Oper.semAt_eq _ _ _ (by nofun),hrun,Oper.uponIn_round]
  refine ⟨fro_depth none 0,RoundIn.mono hR ?_⟩
  rintro e w' ⟨v,L',s',rfl,rfl,h4,h5,h6⟩
  exact k v L' s' h5 h6 hT _ (hr.put hd v) h4
theorem RO_alloc {t:Nat} {ti:TI} (ht:tlook TT t=some ti) (hd:Nat.blt d n=true)
    (k:∀ β s',Le D s s'→RO P TT D n ro ops Q rest ds ((d,.pointer (some ⟨β,0,none⟩))::fr) ((β,cb ti.zeros t)::L) s'):RO P TT D n ro ops Q (⟨some d,.alloc t,ty,pos,af,none⟩::rest) ds fr L s:=fun hT a hr ho=>
  RO_ev (by nofun) hd (Ev_alloc ht ho) (k _ _ (alloc_fill ho (cb ti.zeros t)).2.2) hT a hr ho
theorem RO_allocZ {t:Nat} {ti:TI} (ht:tlook TT t=some ti) (zs:List Value) (hz:ti.zeros=zs) (hd:Nat.blt d n=true)
    (k:∀ β s',Le D s s'→RO P TT D n ro ops Q rest ds ((d,.pointer (some ⟨β,0,none⟩))::fr) ((β,cb zs t)::L) s'):RO P TT D n ro ops Q (⟨some d,.alloc t,ty,pos,af,none⟩::rest) ds fr L s:=by subst hz;exact RO_alloc ht hd k
theorem RO_st {t b off:Nat} {x y:Operand} {ti:TI} {t':Nat} {zs:List Value} (i:Nat) (zs':List Value) {L':Hl} (hx:lk fr x=some (.pointer (some ⟨b,off,none⟩))) (hy:lk fr y=some v) (hi:L[i]?=some (b,cb zs t')) (ht:tlook TT t=some ti)
    (hl:(cellsL v).length=ti.size) (hle:Nat.ble (off+ti.size) zs.length=true) (h1:(cellsL v).all (·.oneCell')=true) (hs:splice zs off (cellsL v)=zs') (hL:setL L i (cb zs' t')=L')
    (k:RO P TT D n ro ops Q rest ds fr L' s):RO P TT D n ro ops Q (⟨none,.store t x y,ty,pos,af,none⟩::rest) ds fr L s:=by
  subst hL;exact RO_sk (by nofun) (Ev_st i zs' hx hy hi ht hl hle h1 hs) k
theorem RO_bs {t e len:Nat} {ti te:TI} {ps:List (Nat×Operand)} (vals:List (Nat×Value)) (vs:List Value) (ht:tlook TT t=some ti) (hk:ti.kind=.sl e) (he:tlook TT e=some te) (hv:lkp fr ps=some vals) (hsz:Nat.ble (len * te.size) 16777216=true) (hpos:Nat.blt 0 len=true) (hp:vals.all (fun x=>Nat.blt x.1 len)=true)
    (hb:bld (rowPl te.size 0 len) (List.replicate len te.zeros).flatten vals=some vs) (hd:Nat.blt d n=true) (k:∀ β s',Le D s s'→CellsAt s' β 0 vs→RO P TT D n ro ops Q rest ds ((d,.slice (some ⟨β,0,none⟩) len len)::fr) L s') :
    RO P TT D n ro ops Q (⟨some d,.buildSlice t len ps.toArray,ty,pos,af,none⟩::rest) ds fr L s:=fun hT a hr ho=>by
  obtain ⟨h1,h2,h3⟩:=alloc_fill ho (cb vs e)
  obtain ⟨d1,d2,d3⟩:=drop_own (A:=[(s.heap.size,cb vs e)]) (B:=L) h2
  refine RO_ev (by nofun) (L':=L) (s':=fill [(s.heap.size,cb vs e)] (s.alloc (dum D))) hd (fun hT _ dst pos af g ρ hρ=>⟨?_,d2⟩) (k _ _ (h3.trans d3) (cells_drop h2)) hT a hr ho
  rw [← d1]
  exact (Ev_bs vals vs ht hk he hv hsz hpos hp hb ho hT ho dst pos af g ρ hρ).1
theorem RO_app {t e m c k sz:Nat} {x y:Operand} {ti te:TI} {A1:Option Addr} {news xs:List Value} (B A L0:Hl) (hL:L=B++(A++L0)) (hx:lk fr x=some v) (hy:lk fr y=some (.slice A1 m c)) (ht:tlook TT t=some ti) (hk:ti.kind=.sl e) (he:tlook TT e=some te) (hsz:te.size=sz)
    (hO:FL.Own e sz A v k xs) (hR:Row s A1 m sz news) (h63:(k+m) * te.bytes≤140737488355328∧k+m≤9223372036854775807) (hd:Nat.blt d n=true)
    (kk:∀ v' A' s',Le D s s'→FL.Own e sz A' v' (k+m) (xs++news)→RO P TT D n ro ops Q rest ds ((d,v')::fr) (B++(A'++L0)) s') :
    RO P TT D n ro ops Q (⟨some d,.call { callee:=.builtin .append,args:=#[x,y],argTypes:=#[t,t] },ty,pos,af,none⟩::rest) ds fr L s:=fun hT a hr ho=>by
  subst hL
  obtain ⟨v',A',s',h1,h2,h3⟩:=Ev_app (ty:=ty) B A L0 hT hx hy ht hk he hsz hO hR h63 ho
  exact RO_ev (by nofun) hd h1 (kk v' A' s' h2 h3) hT a hr ho
theorem RO_gT {dst:Option Nat} {j t:Nat} {w:Bool} (hj:gslot ops j=some t) (hv:flook fr t=some (.bool w))
    (k:RO P TT D n ro ops Q (⟨dst,op,ty,pos,af,none⟩::rest) ds fr L s):RO P TT D n ro ops Q (⟨dst,op,ty,pos,af,some (j,w)⟩::rest) ds fr L s:=fun ht a hr ho=>by
  have k1:=k ht a hr ho
  have hy:yielded ops a.tmps j=some w:=by
    have h1:=hr.rel.slot t (hr.rel.top _ _ hv) _ hv
    unfold gslot at hj
    simp only at h1
    simp [yielded,hj,h1]
  simp only [wpListIn,Region.wanted,if_true] at k1
  simp only [wpListIn,Region.wanted,hy,beq_self_eq_true,if_true]
  exact k1
theorem RO_gF {d:Nat} {j t:Nat} {w b:Bool} (hd:Nat.blt d n=true) (hj:gslot ops j=some t) (hv:flook fr t=some (.bool b)) (hb:(b != w)=true)
    (k:RO P TT D n ro ops Q rest ds ((d,undef)::fr) L s):RO P TT D n ro ops Q (⟨some d,op,ty,pos,af,some (j,w)⟩::rest) ds fr L s:=fun ht a hr ho=>by
  have hy:yielded ops a.tmps j=some b:=by
    have h1:=hr.rel.slot t (hr.rel.top _ _ hv) _ hv
    unfold gslot at hj
    simp only at h1
    simp [yielded,hj,h1]
  have hne:(some b == some w)=false:=by cases b <;> cases w <;> simp_all
  simp only [wpListIn,Region.wanted,hy,hne,Bool.false_eq_true,if_false]
  exact ⟨fun f _=>fro_fn ro f,k ht _ (hr.put hd undef) ho⟩
theorem RO_case {l:List Oper} {t:Nat} {b:Bool} (hv:flook fr t=some (.bool b)) (h1:b=true→RO P TT D n ro ops Q l ds ((t,.bool true)::fr) L s) (h2:b=false→RO P TT D n ro ops Q l ds ((t,.bool false)::fr) L s) :
    RO P TT D n ro ops Q l ds fr L s:=fun ht a hr ho=>by
  cases b with
  | true=>exact h1 rfl ht a (hr.sub fun t' v' h=>by rw [flook_cons] at h;split at h <;> simp_all) ho
  | false=>exact h2 rfl ht a (hr.sub fun t' v' h=>by rw [flook_cons] at h;split at h <;> simp_all) ho
theorem RO_caseM {l:List Oper} {t:Nat} {b:Bool} (hv:flook fr t=some (.bool (!b))) (h1:b=false→RO P TT D n ro ops Q l ds ((t,.bool true)::fr) L s) (h2:b=true→RO P TT D n ro ops Q l ds ((t,.bool false)::fr) L s) :
    RO P TT D n ro ops Q l ds fr L s:=RO_case hv (fun h=>h1 (by simpa using h)) (fun h=>h2 (by simpa using h))
end ops
section anyorder
variable {P:Program} {TT:TyTab} {D n:Nat} {ro:Option Nat} {Q:GPost} {ds:List Deferred} {fr:Fr} {L L':Hl} {s s':World} {ops:Array Oper} {d ty fuel:Nat} {op:Op} {pos:String} {af:Array Edge} {v:Value} {listed:Array Bool}
end anyorder
section calls
variable {P:Program} {TT:TyTab} {D n:Nat} {Q:GPost} {ds:List Deferred} {fr:Fr} {L:Hl} {s:World}
def markD (b:Nat):Deferred:={ target:=.collected b,args:=#[] }
abbrev markB (b:Nat):Nat×Obj:=(b,Obj.deferred (some []))
def retG (TT:TyTab) (D:Nat) (rs:List ResultVar) (s0:World) (R:Value→Hl→World→Prop):GPost:=fun e ds fr L s=>
  (e=.normal∨e=.ret)∧∃ vs A L',Res TT fr L rs vs∧L=A++L'∧Le D s0 s∧(∀ s',Le D s s'→R (resV vs) L' s')∧(∃ bs:List Nat,ds=bs.map markD∧(bs.map markB).Sublist A)
theorem Res.set {fr:Fr} {L L':Hl} (hL:∀ (i:Nat) b zs t,L[i]?=some (b,cb zs t)→L'[i]?=some (b,cb zs t)) {rs:List ResultVar} {vs:List Value} (h:Res TT fr L rs vs):Res TT fr L' rs vs:=by
  induction h with
  | nil=>exact .nil
  | tmp h _ ih=>exact .tmp h ih
  | one i h hi ht hk hv _ ih=>exact .one i h (hL _ _ _ _ hi) ht hk hv ih
  | agg i h hi ht hk hv _ ih=>exact .agg i h (hL _ _ _ _ hi) ht hk hv ih
theorem setL_get (L:Hl) (i j:Nat) (o:Obj) (h:i≠j):(setL L i o)[j]?=L[j]?:=by
  induction L generalizing i j with
  | nil=>cases i <;> rfl
  | cons x L ih=>
    cases i with
    | zero=>cases j with
      | zero=>exact absurd rfl h
      | succ j=>rfl
    | succ i=>cases j with
      | zero=>rfl
      | succ j=>simp only [setL,List.getElem?_cons_succ];exact ih i j O
theorem setL_app {A L':Hl} {i:Nat} (o:Obj) (h:i < A.length):setL (A++L') i o=setL A i o++L':=by
  induction A generalizing i with
  | nil=>cases h
  | cons x A ih=>
    cases i with
    | zero=>rfl
    | succ i=>simp only [List.cons_append,setL];rw [ih (by simpa using h)]
theorem putObj_setBlk (w:World) (b:Nat) (o:Obj):w.putObj b o=setBlk w b o:=rfl
theorem AC_enterR {f:FuncId} {fn:Func} {c:Code} {args:List Value} {R:Value→Hl→World→Prop} (hT:TabOK P TT) (hf:P.funcs[f]?=some fn) (hn:(fn.name == "runtime.NumGoroutine")=false) (hb:fn.body=some c) (hnt:fn.ntmps=n) (hle:Nat.ble args.length n=true) {rs:List ResultVar} (hrs:fn.results.toList=rs) (fr0:Fr) (hfr:slots 0 args=fr0)
    (h:RC P TT D n none (retG TT D rs s R) c [] fr0 L s):AC P D f args L s R:=by
  subst hfr;subst hrs
  refine ⟨⟨fn,hf,hn,by simp [hb]⟩,fun ho=>(callsIn_wide (n:=0)).1 (callsIn_of_wp_marks hf hb trivial ?_)⟩
  have hle':args.length≤n:=Nat.le_of_ble_eq_true hle
  have hr:FrD [] n { tmps:=args.toArray++Array.replicate (fn.ntmps - args.toArray.size) undef,defers:=[] } (slots 0 args):=by
    refine ⟨⟨by simp [hnt];omega,Z,fun t ht v hv=>?_,fun t v hv=>?_⟩,Z⟩
    · rw [flook_slots] at hv
      simp at hv
      obtain ⟨hlt,_⟩:=List.getElem?_eq_some_iff.1 hv
      simp [Array.getElem?_append,hlt]
      exact (List.getElem?_eq_some_iff.1 hv).2
    · rw [flook_slots] at hv
      simp at hv
      obtain ⟨hlt,_⟩:=List.getElem?_eq_some_iff.1 hv
      omega
  refine wpIn_mono (h hT _ hr ho) ?_
  rintro e a w ⟨ds,fr',L1,s1,k1,k2,rfl,he,vs,A,L',hres,rfl,hle1,hR,hds⟩
  have fin:∀ (A2:Hl),OKL D (A2++L') s1→Res TT fr' (A2++L') fn.results.toList vs→LeavesIn Fence.wide 0 P fn a.tmps (fun e w'=>∃ v L' s',e=.returned v∧w'=fill L' s'∧OKL D L' s'∧Le D s s'∧R v L' s') [] .returning (fill (A2++L') s1):=fun A2 ho2 hres2=>by
    obtain ⟨d1,d2,d3⟩:=drop_own ho2
    have hrun:(results fn a.tmps).run P (fill (A2++L') s1)=.ok (resV vs) (fill (A2++L') s1):=by
      have h1:=Res.run hT k1.rel ho2 hres2
      have h2:(fn.results.mapM (resF a.tmps)).run P (fill (A2++L') s1)=.ok vs.toArray (fill (A2++L') s1):=by
        rw [Array.mapM_eq_mapM_toList]
        simp only [map_eq_pure_bind,Sem.run_bind,h1,Result.andThen_ok,Sem.run_pure]
      rw [results_eq]
      simp only [Sem.run_bind,h2,Result.andThen_ok,Sem.run_pure]
      congr 1
      match vs with
      | []=>rfl
      | [v]=>rfl
      | v::u::r=>simp [resV]
    exact ⟨_,hrun,_,L',fill A2 s1,rfl,d1,d2,hle1.trans d3,hR _ d3⟩
  have key:∀ (bs:List Nat),bs.Nodup→∀ (A2:Hl),(∀ b∈bs,(b,Obj.deferred (some []))∈A2)→OKL D (A2++L') s1→Res TT fr' (A2++L') fn.results.toList vs→LeavesInM Fence.wide 0 P fn a.tmps (fun e w'=>∃ v L' s',e=.returned v∧w'=fill L' s'∧OKL D L' s'∧Le D s s'∧R v L' s') (bs.map markD) .returning (fill (A2++L') s1):=by
    intro bs
    induction bs with
    | nil=>intro _ A2 _ k2 hres;exact fin A2 k2 hres
    | cons b bs ih=>
      intro hnd A2 hin k2 hres
      obtain ⟨i,hi,hie⟩:=List.getElem_of_mem (hin b (List.mem_cons_self ..))
      have hig:(A2++L')[i]?=some (b,Obj.deferred (some [])):=by rw [List.getElem?_append_left hi,List.getElem?_eq_getElem hi,hie]
      have hw:(fill (A2++L') s1).heap[b]?=some (.deferred (some [])):=fill_mem k2 (List.mem_of_getElem? hig)
      refine ⟨(fun h=>by cases h),.inl ⟨b,_,Z,run_takeDeferred hw,?_⟩⟩
      rw [putObj_setBlk,← fill_setL k2 hig,setL_app _ hi]
      have ho2:=setL_ok k2 i (Obj.deferred none)
      rw [setL_app _ hi] at ho2
      refine ih (List.nodup_cons.1 hnd).2 (setL A2 i (.deferred none)) (fun c hc=>?_) ho2 (Res.set (fun j c zs t hj=>?_) hres)
      · have hne:b≠c:=fun e=>(List.nodup_cons.1 hnd).1 (e▸hc)
        obtain ⟨j,hj,hje⟩:=List.getElem_of_mem (hin c (List.mem_cons_of_mem _ hc))
        have hij:i≠j:=fun e=>by subst e;rw [hie] at hje;injection hje with h1 _;exact hne h1
        exact List.mem_of_getElem? (i:=j) (by rw [setL_get _ _ _ _ hij,List.getElem?_eq_getElem hj,hje])
      · rw [← setL_app _ hi,setL_get _ _ _ _ (fun e=>by subst e;rw [hig] at hj;cases hj)]
        exact hj
  obtain ⟨bs,rfl,hsub⟩:=hds
  have hin:∀ b∈bs,(b,Obj.deferred (some []))∈A:=fun b hb=>hsub.subset (List.mem_map_of_mem hb)
  have hnd:bs.Nodup:=by
    have h1:(A.map (·.1)).Nodup:=by have:=k2.nd;rw [List.map_append] at this;exact (List.nodup_append.1 this).1
    have h2:=(hsub.map (·.1)).nodup h1
    rwa [List.map_map,show ((fun x:Nat×Obj=>x.1) ∘ markB)=id from rfl,List.map_id] at h2
  have key:=key bs hnd A hin k2 hres
  rw [← k1.defers] at key
  rcases he with rfl | rfl
  · exact key
  · exact key
theorem retG_mk {rs:List ResultVar} {s0:World} {R:Value→Hl→World→Prop} {e:Exit} {vs:List Value} (A L':Hl) (he:e=.normal∨e=.ret) (h:Res TT fr L rs vs) (hL:L=A++L') (hl:Le D s0 s) (hds:∃ bs:List Nat,ds=bs.map markD∧(bs.map markB).Sublist A) (hR:∀ s',Le D s s'→R (resV vs) L' s'):retG TT D rs s0 R e ds fr L s:=
  ⟨he,vs,A,L',h,hL,hl,hR,hds⟩
def jmp:Exit→Option (Option Code)
  | .normal=>some none
  | .ret=>some (some .ret)
  | .exit id=>some (some (.exit id))
  | _=>none
def exitOf:Option Code→Exit
  | none=>.normal
  | some .ret=>.ret
  | some (.exit id)=>.exit id
  | _=>.normal
def putAll (fr:Fr) (ps:List Nat) (vs:List Value):Fr:=(ps.zip vs).foldl (fun fr x=>(x.1,x.2)::fr) fr
theorem putAll_rel (n:Nat):∀ (l:List (Nat×Value)) (fr:Fr) (a:Act),FrRel n { a with defers:=[] } fr→l.all (fun x=>Nat.blt x.1 n)=true →
    FrRel n { tmps:=l.foldl (fun tmps x=>tmps.setIfInBounds x.1 x.2) a.tmps,defers:=[] } (l.foldl (fun fr x=>(x.1,x.2)::fr) fr):=by
  intro l
  induction l with
  | nil=>intro fr a h _;exact h
  | cons x l ih=>
    intro fr a h hl
    simp only [List.all_cons,Bool.and_eq_true] at hl
    exact ih _ { a with tmps:=a.tmps.setIfInBounds x.1 x.2 } (h.put hl.1 x.2) hl.2
section range
variable {σ α:Type} (H:σ→Hl) (I:σ→World→Prop) (pend:σ→Option Code) (St:σ→α→σ→Prop) (enc:α→List Value) (Pre:σ→α→World→Prop) (Fin:σ→Prop)
end range
end calls
section
variable {P:Program} {TT:TyTab} {D n:Nat} {ro:Option Nat} {Q:GPost} {ds:List Deferred} {fr:Fr} {L:Hl} {s:World} {ops:Array Oper} {rest:List Oper} {d ty:Nat} {pos:String} {af:Array Edge} {v:Value}
theorem Yqm {x:Operand} (hx:lk fr x=some v) (hd:Nat.blt d n=true) (k:RO P TT D n ro ops Q rest ds ((d,v)::fr) L s):RO P TT D n ro ops Q (⟨some d,.move x,ty,pos,af,none⟩::rest) ds fr L s:=RO_q (QE_mv hx) hd k
theorem Yqa {x:Operand} (hx:lk fr x=some v) (hd:Nat.blt d n=true) (k:RO P TT D n ro ops Q rest ds ((d,v)::fr) L s):RO P TT D n ro ops Q (⟨some d,.assign x,ty,pos,af,none⟩::rest) ds fr L s:=RO_q (QE_as hx) hd k
theorem Yqx {x:Operand} {i:Nat} {vs:List Value} (hx:lk fr x=some (.tuple vs.toArray)) (hi:nth vs i=some v) (hd:Nat.blt d n=true) (k:RO P TT D n ro ops Q rest ds ((d,v)::fr) L s):RO P TT D n ro ops Q (⟨some d,.extract x i,ty,pos,af,none⟩::rest) ds fr L s:=RO_q (QE_ext hx hi) hd k
theorem YqT {c x y:Operand} (hc:lk fr c=some (.bool true)) (hx:lk fr x=some v) (hd:Nat.blt d n=true) (k:RO P TT D n ro ops Q rest ds ((d,v)::fr) L s):RO P TT D n ro ops Q (⟨some d,.pick c x y,ty,pos,af,none⟩::rest) ds fr L s:=RO_q (QE_pickT hc hx) hd k
theorem YqF {c x y:Operand} (hc:lk fr c=some (.bool false)) (hx:lk fr y=some v) (hd:Nat.blt d n=true) (k:RO P TT D n ro ops Q rest ds ((d,v)::fr) L s):RO P TT D n ro ops Q (⟨some d,.pick c x y,ty,pos,af,none⟩::rest) ds fr L s:=RO_q (QE_pickF hc hx) hd k
theorem Yqeq {x y:Operand} {ik:IntKind} {a b:Int} {t t':Nat} (hx:lk fr x=some (.int ik a)) (hy:lk fr y=some (.int ik b)) (hd:Nat.blt d n=true) (k:RO P TT D n ro ops Q rest ds ((d,.bool (decide (a=b)))::fr) L s):RO P TT D n ro ops Q (⟨some d,.binOp .eql t x y t',ty,pos,af,none⟩::rest) ds fr L s:=RO_q (QE_eq hx hy) hd k
theorem Yqne {x y:Operand} {ik:IntKind} {a b:Int} {t t':Nat} (hx:lk fr x=some (.int ik a)) (hy:lk fr y=some (.int ik b)) (hd:Nat.blt d n=true) (k:RO P TT D n ro ops Q rest ds ((d,.bool (!decide (a=b)))::fr) L s):RO P TT D n ro ops Q (⟨some d,.binOp .neq t x y t',ty,pos,af,none⟩::rest) ds fr L s:=RO_q (QE_ne hx hy) hd k
theorem Yqlt {x y:Operand} {ik:IntKind} {a b:Int} {t t':Nat} (hx:lk fr x=some (.int ik a)) (hy:lk fr y=some (.int ik b)) (hd:Nat.blt d n=true) (k:RO P TT D n ro ops Q rest ds ((d,.bool (decide (a < b)))::fr) L s):RO P TT D n ro ops Q (⟨some d,.binOp .lss t x y t',ty,pos,af,none⟩::rest) ds fr L s:=RO_q (QE_lt hx hy) hd k
theorem Yqno {x:Operand} {b:Bool} {t:Nat} (hx:lk fr x=some (.bool b)) (hd:Nat.blt d n=true) (k:RO P TT D n ro ops Q rest ds ((d,.bool (!b))::fr) L s):RO P TT D n ro ops Q (⟨some d,.unOp .not t x,ty,pos,af,none⟩::rest) ds fr L s:=RO_q (QE_not hx) hd k
theorem Yqls {x:Operand} {t:Nat} {A:Option Addr} {m c:Nat} {ti:TI} {e:Nat} (hx:lk fr x=some (.slice A m c)) (ht:tlook TT t=some ti) (hk:ti.kind=.sl e) (hd:Nat.blt d n=true) (k:RO P TT D n ro ops Q rest ds ((d,.int .i64 (m:Int))::fr) L s):RO P TT D n ro ops Q (⟨some d,.call { callee:=.builtin .len,args:=#[x],argTypes:=#[t] },ty,pos,af,none⟩::rest) ds fr L s:=RO_q (QE_lenS hx ht hk) hd k
theorem Yqni {x:Operand} {a:Addr} (hx:lk fr x=some (.pointer (some a))) (hd:Nat.blt d n=true) (k:RO P TT D n ro ops Q rest ds ((d,.pointer (some a))::fr) L s):RO P TT D n ro ops Q (⟨some d,.nilCheck x,ty,pos,af,none⟩::rest) ds fr L s:=RO_q (QE_nil hx) hd k
theorem Yqf0 {t f b off:Nat} {x:Operand} {ti:TI} {os:List Nat} (hx:lk fr x=some (.pointer (some ⟨b,off,none⟩))) (ht:tlook TT t=some ti) (hk:ti.kind=.st os) (hf:nthN os f=some 0) (hd:Nat.blt d n=true) (k:RO P TT D n ro ops Q rest ds ((d,.pointer (some ⟨b,off,none⟩))::fr) L s):RO P TT D n ro ops Q (⟨some d,.fieldAddr t x f,ty,pos,af,none⟩::rest) ds fr L s:=RO_q (QE_fa0 hx ht hk hf) hd k
theorem YqfB {t f fo b:Nat} {x:Operand} {ti:TI} {os:List Nat} (hx:lk fr x=some (.pointer (some ⟨b,0,none⟩))) (ht:tlook TT t=some ti) (hk:ti.kind=.st os) (hf:nthN os f=some fo) (hd:Nat.blt d n=true) (k:RO P TT D n ro ops Q rest ds ((d,.pointer (some ⟨b,fo,none⟩))::fr) L s):RO P TT D n ro ops Q (⟨some d,.fieldAddr t x f,ty,pos,af,none⟩::rest) ds fr L s:=RO_q (QE_faB hx ht hk hf) hd k
theorem Yql {t b off:Nat} {x:Operand} {ti:TI} {t':Nat} {zs:List Value} (i:Nat) (hx:lk fr x=some (.pointer (some ⟨b,off,none⟩))) (hi:L[i]?=some (b,cb zs t')) (ht:tlook TT t=some ti) (hk:isOne ti.kind=true) (hv:nth zs off=some v) (hd:Nat.blt d n=true) (k:RO P TT D n ro ops Q rest ds ((d,v)::fr) L s):RO P TT D n ro ops Q (⟨some d,.load t x,ty,pos,af,none⟩::rest) ds fr L s:=RO_q (QE_ld1 i hx hi ht hk hv) hd k
theorem Yqadd {x y:Operand} {ik:IntKind} {a b c:Int} {t t':Nat} (hx:lk fr x=some (.int ik a)) (hy:lk fr y=some (.int ik b)) (hd:Nat.blt d n=true) (hc:ik.wrap (a+b)=c) (k:RO P TT D n ro ops Q rest ds ((d,.int ik c)::fr) L s):RO P TT D n ro ops Q (⟨some d,.binOp .add t x y t',ty,pos,af,none⟩::rest) ds fr L s:=RO_q (QE_add' hx hy hc) hd k
end
abbrev Ys:=@RC_seq
abbrev Yr:=@RC_region
abbrev Yn:=@RO_nil
abbrev Yt:=@thenG_n
abbrev Yu:=@thenG_r
abbrev Yv:=@thenG_x
abbrev Yb:=@blockG_n
abbrev Yc:=@blockG_r
abbrev Yd:=@blockG_x
abbrev Yk:=@RC_skip
abbrev Yl:=@RC_exit
abbrev Yo:=@RC_ret
abbrev Yp:=@RC_block
abbrev Yy:=@RC_ifT
abbrev Yg:=@RO_gT
abbrev Yf:=@RO_gF
end Go.FL
namespace Go.Proofs.YtpdnijphccdiiaaGreatDoor
open Go.FL
attribute [local irreducible] JC JO JA JB thenQ blockQ retQ AC fill CellsAt QE Ev Mid
def NdV (s:World):Nd→Value→Prop
  | .st x lp,v=>∃ b o A1 n1 c1 A2 n2 c2 A3 n3 c3,v=.agg #[.pointer (some ⟨b,o,none⟩),.pointer none,.int .i64 (lp:Int)]∧CellsAt s b o [.int .i64 x.kind,St x.name,.slice A1 n1 c1,.slice A2 n2 c2,.slice A3 n3 c3]∧n1=x.exprs.length
  | .ex x lp,v=>∃ b o A n c,v=.agg #[.pointer none,.pointer (some ⟨b,o,none⟩),.int .i64 (lp:Int)]∧CellsAt s b o [.int .i64 x.kind,.int .i64 x.op,.int .u32 x.num,St x.name,.slice A n c]∧n=x.args.length
theorem NdV.mkE {s:World} {x:Ex} {lp b o n c:Nat} {A:Option Addr} (h:CellsAt s b o [.int .i64 x.kind,.int .i64 x.op,.int .u32 x.num,St x.name,.slice A n c]) (hn:n=x.args.length):NdV s (.ex x lp) (.agg #[.pointer none,.pointer (some ⟨b,o,none⟩),.int .i64 (lp:Int)]):=⟨b,o,A,n,c,rfl,h,hn⟩
theorem NdV.mkS {s:World} {x:Stm} {lp b o n1 c1 n2 c2 n3 c3:Nat} {A1 A2 A3:Option Addr} (h:CellsAt s b o [.int .i64 x.kind,St x.name,.slice A1 n1 c1,.slice A2 n2 c2,.slice A3 n3 c3]) (hn:n1=x.exprs.length):NdV s (.st x lp) (.agg #[.pointer (some ⟨b,o,none⟩),.pointer none,.int .i64 (lp:Int)]):=⟨b,o,A1,n1,c1,A2,n2,c2,A3,n3,c3,rfl,h,hn⟩
def runN {σ:Type} (pend:σ→Option Code) (St:σ→Nd→σ→Prop):σ→List Nd→σ→Prop
  | g,[],g'=>g'=g
  | g,p::r,g'=>∃ g1,St g p g1∧if (pend g1).isNone=true then runN pend St g1 r g' else g'=g1
theorem runN_app {σ:Type} {pend:σ→Option Code} {St:σ→Nd→σ→Prop} {b:List Nd}:∀ {a:List Nd} {g g1 g':σ},pend g=none→runN pend St g a g1→((pend g1).isNone=true→runN pend St g1 b g')→((pend g1).isNone=false→g'=g1)→runN pend St g (a++b) g'
  | [],g,g1,g',hp,h,h1,_=>by
    have h:g1=g:=h
    subst h;exact h1 (by rw [hp];rfl)
  | p::r,g,g1,g',_,⟨g2,k1,k2⟩,h1,h2=>by
    refine ⟨g2,k1,?_⟩
    by_cases h3:(pend g2).isNone=true
    · rw [if_pos h3] at k2 ⊢
      exact runN_app (Option.isNone_iff_eq_none.1 h3) k2 h1 h2
    · rw [if_neg h3] at k2 ⊢
      subst k2;exact h2 (Bool.eq_false_iff.2 h3)
theorem run_cnt {σ:Type} {pend:σ→Option Code} {St:σ→Nd→σ→Prop} {cnt:σ→Nat} (hcn:∀ g nd g1,St g nd g1→cnt g1≤cnt g+1):∀ {l:List Nd} {g g':σ},runN pend St g l g'→cnt g'≤cnt g+l.length
  | [],g,g',h=>by
    have h:g'=g:=h
    subst h;simp
  | p::r,g,g',⟨g1,h1,h2⟩=>by
    have e1:=hcn _ _ _ h1
    by_cases h3:(pend g1).isNone=true
    · rw [if_pos h3] at h2
      have e2:=run_cnt hcn h2
      rw [List.length_cons];omega
    · rw [if_neg h3] at h2
      subst h2;rw [List.length_cons];omega
theorem ndXs_at {l:List Ex} {k lp:Nat} {x:Ex} (h:l[k]?=some x):ndXs (l.drop k) lp=.ex x lp::(ndXs x.args lp++ndXs (l.drop (k+1)) lp):=by
  obtain ⟨hk,rfl⟩:=List.getElem?_eq_some_iff.1 h
  rw [List.drop_eq_getElem_cons hk,ndXs]
  cases l[k] with
  | mk a b c d e=>rfl
def IXC (D d:Nat):Prop:=∀ (s:World) (σ:Type) (H:σ→Hl) (I:σ→World→Prop) (pend:σ→Option Code) (St:σ→Nd→σ→Prop) (l:Nat) (g0:σ) (cnt:σ→Nat) (B:Nat),(∀ g nd g1,St g nd g1→cnt g1≤cnt g+1)→(∀ g s s',I g s→Le D s s'→I g s')→(∀ g nd nv s',Le D s s'→I g s'→pend g=none→cnt g < B→NdV s' nd nv→YC Tryz.prog D l [nv] (H g) s' fun v L' s3=>∃ g1,St g nd g1∧v=.bool (pend g1).isNone∧L'=H g1∧I g1 s3)→I g0 s→pend g0=none→∀ (A:Option Addr) (n c:Nat) (xs:List Ex) (lp:Nat),Exs d s A n c xs→cnt g0+(ndXs xs lp).length≤B→AC Tryz.prog D 121 [.slice A n c,.int .i64 (lp:Int),.func (.yield l) #[] #[]] (H g0) s fun v L' s3=>∃ g',runN pend St g0 (ndXs xs lp) g'∧v=.bool (pend g').isNone∧L'=H g'∧I g' s3
theorem iX_step (D d:Nat) (ih:∀ e,d=e+1→IXC D e) (s:World) (σ:Type) (H:σ→Hl) (I:σ→World→Prop) (pend:σ→Option Code) (St:σ→Nd→σ→Prop) (l:Nat) (g0:σ) (cnt:σ→Nat) (B:Nat) (hcn:∀ g nd g1,St g nd g1→cnt g1≤cnt g+1) (mono:∀ g s s',I g s→Le D s s'→I g s') (hY:∀ g nd nv s',Le D s s'→I g s'→pend g=none→cnt g < B→NdV s' nd nv→YC Tryz.prog D l [nv] (H g) s' fun v L' s3=>∃ g1,St g nd g1∧v=.bool (pend g1).isNone∧L'=H g1∧I g1 s3) (hI:I g0 s) (hp:pend g0=none) (A:Option Addr) (n c:Nat) (xs:List Ex) (lp:Nat) (hA:Exs d s A n c xs) (hBn:cnt g0+(ndXs xs lp).length≤B):AC Tryz.prog D 121 [.slice A n c,.int .i64 (lp:Int),.func (.yield l) #[] #[]] (H g0) s fun v L' s3=>∃ g',runN pend St g0 (ndXs xs lp) g'∧v=.bool (pend g').isNone∧L'=H g'∧I g' s3:=by
 have hn:=hA.1
 have hc1:=hA.2.1
 have hc2:=hA.2.2.1
 refine AC_enterR (TT:=TT) (fn:=Tryz.f121) TT_ok Tryz.func121 V Z Tryz.ntmps121 Z (rs:=[.tmp 6]) Z [(0,_),(1,_),(2,_)] Z<|Ys<|Yr<|Yqa Z Z<|Yn<|Yt<|Ys<|Ys<|Yr<|Yqm Z Z<|Yqls Z Z Z Z<|Yqm Z Z<|Yn<|Yt<|Yp<|?_
 refine RC_loop (γ:=σ×Nat) (fun g=>[(0,_),(1,_),(2,_),(6,_),(9,_),(10,.int .i64 (g.2:Int))]) (fun g=>H g.1) (fun g tw=>Le D s tw∧(g.2≤n∧I g.1 tw∧pend g.1=none∧cnt g.1+(ndXs (xs.drop g.2) lp).length≤B∧(∀ g',runN pend St g.1 (ndXs (xs.drop g.2) lp) g'→runN pend St g0 (ndXs xs lp) g'))) (fun g=>n - g.2) (fun _ _ _ h hl=>⟨h.1.trans hl,⟨h.2.1,mono _ _ _ h.2.2.1 hl,h.2.2.2⟩⟩) (g0,0) (.cons Z (.cons Z (.cons Z (.cons Z (.cons Z (.cons Z (.nil _))))))) Z ⟨Le.refl _,⟨Nat.zero_le _,mono _ _ _ hI (Lr D),hp,hBn,fun g' h=>h⟩⟩ ?_
 intro g s1 I1
 obtain ⟨g,k⟩:=g
 obtain ⟨hk0,hIg,hpg,hbn,hrun⟩:=I1.2
 simp only at hk0 hIg hpg hbn hrun
 dsimp only
 refine Ys<|Yr<|Yqlt Z Z Z<|Yn<|Yt<|Ys<|?_
 refine RC_ifD Z (fun c2=>?_) (fun c2=>?_)
 ·
  have hk:k < n:=by omega
  obtain ⟨e,b,off,x,A',n',c',hd,rfl,hx,hcx,hax,hux,hnl⟩:=Exs.at_ (hA.le I1.1) hk
  have hn':=hax.1
  rw [ndXs_at hx,List.length_cons,List.length_append] at hbn
  refine Yk<|Yt<|Ys<|Yp<|Ys<|Yr<|Yqm Z Z<|Yqa Z Z<|Yn<|Yt<|Ys<|Yr<|Yqm Z Z<|Yqm Z Z<|Yqm Z Z<|RO_q (QE_iaN Z Z Z Z Z Z hk) Z<|Yqm Z Z<|RO_q (QE_build [(_,_),(_,_)] [_,_,_] Z Z Z Z Z Z) Z<|RO_yield Z Z Z (hY g (.ex x lp) _ _ I1.1 (mono _ _ _ hIg (Lr D)) hpg O (NdV.mkE (hcx.le (Lr D)) hn')) ?_
  rintro _ _ s3 h3 ⟨g1,hst,rfl,rfl,hIn⟩
  refine Yqno Z Z<|Yqm Z Z<|?_
  refine RO_caseM (t:=21) Z (fun c4=>?_) (fun c4=>?_)
  ·
   refine Yf Z Z Z Z<|Yf Z Z Z Z<|Yf Z Z Z Z<|Yf Z Z Z Z<|Yf Z Z Z Z<|Yf Z Z Z Z<|Yf Z Z Z Z<|Yf Z Z Z Z<|Yf Z Z Z Z<|YqT Z Z Z<|Yn<|Yt<|Yy Z ?_
   have hp2:=trivial
   refine Ys<|Yr<|Yqa Z Z<|Yn<|Yt<|Yo<|Yc<|Yu<|Yu<|Yc<|Yu<|?_
   refine retG_mk [] _ (.inr Z) (.tmp Z (.nil)) Z (I1.1.t h3) ⟨[],Z,List.nil_sublist _⟩ (fun sR hS2=>?_)
   exact ⟨g1,hrun g1 (by rw [ndXs_at hx];exact ⟨g1,hst,by rw [if_neg (by simp only [*];decide)]⟩),by simp only [*];rfl,rfl,mono _ _ _ hIn ((Lr D).t hS2)⟩
  refine Yg Z Z<|Yqm Z Z<|Yg Z Z<|Yqm Z Z<|Yg Z Z<|RO_q (QE_iaN Z Z Z Z Z Z hk) Z<|Yg Z Z<|RO_q (QE_fa Z Z Z Z) Z<|Yg Z Z<|RO_q (QE_ldsR 4 Z Z Z (hcx.le h3) Z) Z<|Yg Z Z<|Yqm Z Z<|Yg Z Z<|Yqm Z Z<|Yg Z Z<|Rc9 Z Z Z (ih e hd _ σ H I pend St l g1 cnt B hcn mono (fun g nd nv s9 hl=>hY g nd nv s9 (I1.1.t h3|>.t hl)) (mono _ _ _ hIn (Lr D)) (Option.isNone_iff_eq_none.1 As) A' n' c' x.args lp (hax.le h3) (by have e1:=hcn _ _ _ hst;omega)) ?_
  rintro _ _ s5 h5 ⟨g2,hrn,rfl,rfl,hIn2⟩
  refine Yg Z Z<|Yqno Z Z<|YqF Z Z Z<|Yn<|Yt<|?_
  refine RC_ifM Z (fun c6=>?_) (fun c6=>?_)
  ·
   have hp2:=c6
   refine Ys<|Yr<|Yqa Z Z<|Yn<|Yt<|Yo<|Yc<|Yu<|Yu<|Yc<|Yu<|?_
   refine retG_mk [] _ (.inr Z) (.tmp Z (.nil)) Z (I1.1.t h3|>.t h5) ⟨[],Z,List.nil_sublist _⟩ (fun sR hS2=>?_)
   exact ⟨g2,hrun g2 (by rw [ndXs_at hx];exact ⟨g1,hst,by rw [if_pos As];exact runN_app (Option.isNone_iff_eq_none.1 As) hrn (fun h9=>by rw [hp2] at h9;cases h9) (fun _=>rfl)⟩),by rw [hp2];rfl,rfl,mono _ _ _ hIn2 ((Lr D).t hS2)⟩
  have hp2:=c6
  refine Yk<|Yb<|Yt<|Yr<|Yqadd Z Z Z (w64 O O)<|Yqm Z Z<|Yn<|?_
  refine thenG_n ⟨Z,(g2,k+1),[],(.cons Z (.cons Z (.cons Z (.cons Z (.cons Z (.cons Z (.nil _))))))),Z,⟨(I1.1.t h3|>.t h5),⟨by simp only;omega,mono _ _ _ hIn2 (Lr D),Option.isNone_iff_eq_none.1 hp2,by have e1:=hcn _ _ _ hst;have e2:=run_cnt hcn hrn;simp only;omega,fun g' h=>hrun g' (by rw [ndXs_at hx];exact ⟨g1,hst,by rw [if_pos As];exact runN_app (Option.isNone_iff_eq_none.1 As) hrn (fun _=>h) (fun h9=>by rw [hp2] at h9;cases h9)⟩)⟩⟩,(by simp only;omega)⟩
 rw [List.drop_eq_nil_of_le O,ndXs] at hrun
 refine Yl<|Yv<|Yv<|Yd<|Yt<|Ys<|Yr<|Yqa Z Z<|Yn<|Yt<|Yo<|?_
 refine retG_mk [] _ (.inr Z) (.tmp Z (.nil)) Z I1.1 ⟨[],Z,List.nil_sublist _⟩ (fun sR hS2=>?_)
 exact ⟨g,hrun g rfl,by rw [hpg];rfl,rfl,mono _ _ _ hIg ((Lr D).t hS2)⟩
theorem ixc (D:Nat):∀ d,IXC D d
  | 0=>fun s σ H I pend St l g0 cnt B hcn mono hY hI hp A n c xs lp hA hBn=>iX_step D 0 (fun e h=>by omega) s σ H I pend St l g0 cnt B hcn mono hY hI hp A n c xs lp hA hBn
  | d+1=>fun s σ H I pend St l g0 cnt B hcn mono hY hI hp A n c xs lp hA hBn=>iX_step D (d+1) (fun e h=>(show d=e by omega)▸ixc D d) s σ H I pend St l g0 cnt B hcn mono hY hI hp A n c xs lp hA hBn
section
variable {σ:Type} {pend:σ→Option Code} {St:σ→Nd→σ→Prop} {a b:List Nd} {g g1 g':σ}
theorem runN_stop (hp:(pend g).isNone=true) (h:runN pend St g a g1) (h1:(pend g1).isNone=false):runN pend St g (a++b) g1:=runN_app (Option.isNone_iff_eq_none.1 hp) h (fun h9=>by rw [h1] at h9;cases h9) fun _=>rfl
theorem runN_go (hp:(pend g).isNone=true) (h:runN pend St g a g1) (h1:(pend g1).isNone=true) (k:runN pend St g1 b g'):runN pend St g (a++b) g':=runN_app (Option.isNone_iff_eq_none.1 hp) h (fun _=>k) fun h9=>by rw [h1] at h9;cases h9
end
def lpI (x:Stm) (lp:Nat):Nat:=if x.kind=4 then lp+1 else lp
theorem ndSs_at {l:List Stm} {k lp:Nat} {x:Stm} (h:l[k]?=some x):ndSs (l.drop k) lp=.st x lp::((ndXs x.exprs lp++(ndSs x.body (lpI x lp)++ndSs x.els (lpI x lp)))++ndSs (l.drop (k+1)) lp):=by
  obtain ⟨hk,rfl⟩:=List.getElem?_eq_some_iff.1 h
  rw [List.drop_eq_getElem_cons hk,ndSs]
  cases l[k] with
  | mk a b c d e=>rfl
def ISC (D d:Nat):Prop:=∀ (s:World) (σ:Type) (H:σ→Hl) (I:σ→World→Prop) (pend:σ→Option Code) (St:σ→Nd→σ→Prop) (l:Nat) (g0:σ) (cnt:σ→Nat) (B:Nat),(∀ g nd g1,St g nd g1→cnt g1≤cnt g+1)→(∀ g s s',I g s→Le D s s'→I g s')→(∀ g nd nv s',Le D s s'→I g s'→pend g=none→cnt g < B→NdV s' nd nv→YC Tryz.prog D l [nv] (H g) s' fun v L' s3=>∃ g1,St g nd g1∧v=.bool (pend g1).isNone∧L'=H g1∧I g1 s3)→I g0 s→pend g0=none→∀ (A:Option Addr) (n c:Nat) (xs:List Stm) (lp lv:Nat),Stms d s A n c xs→stVs xs lv=true→lp≤lv→cnt g0+(ndSs xs lp).length≤B→AC Tryz.prog D 81 [.slice A n c,.int .i64 (lp:Int),.func (.yield l) #[] #[]] (H g0) s fun v L' s3=>∃ g',runN pend St g0 (ndSs xs lp) g'∧v=.bool (pend g').isNone∧L'=H g'∧I g' s3
theorem iS_step (D d:Nat) (ih:∀ e,d=e+1→ISC D e) (s:World) (σ:Type) (H:σ→Hl) (I:σ→World→Prop) (pend:σ→Option Code) (St:σ→Nd→σ→Prop) (l:Nat) (g0:σ) (cnt:σ→Nat) (B:Nat) (hcn:∀ g nd g1,St g nd g1→cnt g1≤cnt g+1) (mono:∀ g s s',I g s→Le D s s'→I g s') (hY:∀ g nd nv s',Le D s s'→I g s'→pend g=none→cnt g < B→NdV s' nd nv→YC Tryz.prog D l [nv] (H g) s' fun v L' s3=>∃ g1,St g nd g1∧v=.bool (pend g1).isNone∧L'=H g1∧I g1 s3) (hI:I g0 s) (hp:pend g0=none) (A:Option Addr) (n c:Nat) (xs:List Stm) (lp lv:Nat) (hA:Stms d s A n c xs) (hv:stVs xs lv=true) (hlp:lp≤lv) (hBn:cnt g0+(ndSs xs lp).length≤B):AC Tryz.prog D 81 [.slice A n c,.int .i64 (lp:Int),.func (.yield l) #[] #[]] (H g0) s fun v L' s3=>∃ g',runN pend St g0 (ndSs xs lp) g'∧v=.bool (pend g').isNone∧L'=H g'∧I g' s3:=by
 have hn:=hA.1
 have hc1:=hA.2.1
 have hc2:=hA.2.2.1
 refine AC_enterR (TT:=TT) (fn:=Tryz.f81) TT_ok Tryz.func81 V Z Tryz.ntmps81 Z (rs:=[.tmp 6]) Z [(0,_),(1,_),(2,_)] Z<|Ys<|Yr<|Yqa Z Z<|Yn<|Yt<|Ys<|Ys<|Yr<|Yqm Z Z<|Yqls Z Z Z Z<|Yqm Z Z<|Yn<|Yt<|Yp<|?_
 refine RC_loop (γ:=σ×Nat) (fun g=>[(0,_),(1,_),(2,_),(6,_),(11,_),(12,.int .i64 (g.2:Int))]) (fun g=>H g.1) (fun g tw=>Le D s tw∧(g.2≤n∧I g.1 tw∧pend g.1=none∧cnt g.1+(ndSs (xs.drop g.2) lp).length≤B∧(∀ g',runN pend St g.1 (ndSs (xs.drop g.2) lp) g'→runN pend St g0 (ndSs xs lp) g'))) (fun g=>n - g.2) (fun _ _ _ h hl=>⟨h.1.trans hl,⟨h.2.1,mono _ _ _ h.2.2.1 hl,h.2.2.2⟩⟩) (g0,0) (.cons Z (.cons Z (.cons Z (.cons Z (.cons Z (.cons Z (.nil _))))))) Z ⟨Le.refl _,⟨Nat.zero_le _,mono _ _ _ hI (Lr D),hp,hBn,fun g' h=>h⟩⟩ ?_
 intro g s1 I1
 obtain ⟨g,k⟩:=g
 obtain ⟨hk0,hIg,hpg,hbn,hrun⟩:=I1.2
 simp only at hk0 hIg hpg hbn hrun
 dsimp only
 refine Ys<|Yr<|Yqlt Z Z Z<|Yn<|Yt<|Ys<|?_
 refine RC_ifD Z (fun c2=>?_) (fun c2=>?_)
 ·
  have hk:k < n:=by omega
  obtain ⟨e,b,off,x,A1,n1,p1,A2,n2,p2,A3,n3,p3,hd,rfl,hx,hcx,hax,hbx,hex,hnl⟩:=Stms.at_ (hA.le I1.1) hk
  have hn':=hax.1
  obtain ⟨hvx,_⟩:=stV_at hv hx
  obtain ⟨hlv,_,_,hvB,hvL⟩:=stV_eq hvx
  rw [ndSs_at hx,List.length_cons,List.length_append,List.length_append,List.length_append] at hbn
  refine Yk<|Yt<|Ys<|Yp<|Ys<|Yr<|Yqm Z Z<|Yqa Z Z<|Yn<|Yt<|Ys<|Yr<|Yqm Z Z<|Yqm Z Z<|RO_q (QE_iaN Z Z Z Z Z Z hk) Z<|Yqa Z Z<|Yn<|Yt<|Ys<|Ys<|Yr<|Yqm Z Z<|Yqm Z Z<|Yqm Z Z<|RO_q (QE_build [(_,_),(_,_)] [_,_,_] Z Z Z Z Z Z) Z<|RO_yield Z Z Z (hY g (.st x lp) _ _ I1.1 (mono _ _ _ hIg (Lr D)) hpg O (NdV.mkS (hcx.le (Lr D)) hn')) ?_
  rintro _ _ s3 h3 ⟨g1,hst,rfl,rfl,hI1⟩
  refine Yqno Z Z<|Yqm Z Z<|?_
  refine RO_caseM (t:=24) Z (fun c4=>?_) (fun c4=>?_)
  ·
   refine Yf Z Z Z Z<|Yf Z Z Z Z<|Yf Z Z Z Z<|Yf Z Z Z Z<|Yf Z Z Z Z<|Yf Z Z Z Z<|Yf Z Z Z Z<|Yf Z Z Z Z<|YqT Z Z Z<|Yn<|Yt<|Yy Z<|?_
   have q33:=trivial
   refine Ys<|Yr<|Yqa Z Z<|Yn<|Yt<|Yo<|Yu<|Yc<|Yu<|Yu<|Yc<|Yu<|?_
   refine retG_mk [] _ (.inr Z) (.tmp Z (.nil)) Z (I1.1.t h3) ⟨[],Z,List.nil_sublist _⟩ (fun sR hS2=>?_)
   exact ⟨g1,hrun g1 (by rw [ndSs_at hx];exact ⟨g1,hst,by rw [if_neg (by rw [show (pend g1).isNone=false by assumption];decide)]⟩),(show resV [Value.bool false]=.bool (pend g1).isNone by rw [show (pend g1).isNone=false by assumption];rfl),rfl,mono _ _ _ hI1 ((Lr D).t hS2)⟩
  refine Yg Z Z<|Yqm Z Z<|Yg Z Z<|Yqni Z Z<|Yg Z Z<|RO_q (QE_fa Z Z Z Z) Z<|Yg Z Z<|RO_q (QE_ldsR 2 Z Z Z (hcx.le h3) Z) Z<|Yg Z Z<|Yqm Z Z<|Yg Z Z<|Yqm Z Z<|Yg Z Z<|Rc9 Z Z Z (ixc D e _ σ H I pend St l g1 cnt B hcn mono (fun g nd nv s9 hl=>hY g nd nv s9 (I1.1.t h3|>.t hl)) (mono _ _ _ hI1 (Lr D)) (Option.isNone_iff_eq_none.1 As) A1 n1 p1 x.exprs lp (hax.le h3) (by have e1:=hcn _ _ _ hst;omega)) ?_
  rintro _ _ s5 h5 ⟨g2,hr2,rfl,rfl,hI2⟩
  refine Yg Z Z<|Yqno Z Z<|YqF Z Z Z<|Yn<|Yt<|?_
  refine RC_ifM Z (fun c6=>?_) (fun c6=>?_)
  ·
   have q33:=c6
   refine Ys<|Yr<|Yqa Z Z<|Yn<|Yt<|Yo<|Yu<|Yc<|Yu<|Yu<|Yc<|Yu<|?_
   refine retG_mk [] _ (.inr Z) (.tmp Z (.nil)) Z (I1.1.t h3|>.t h5) ⟨[],Z,List.nil_sublist _⟩ (fun sR hS2=>?_)
   exact ⟨g2,hrun g2 (by rw [ndSs_at hx];exact ⟨g1,hst,by rw [if_pos As];exact runN_stop As (runN_stop As hr2 As) As⟩),(show resV [Value.bool false]=.bool (pend g2).isNone by rw [show (pend g2).isNone=false by assumption];rfl),rfl,mono _ _ _ hI2 ((Lr D).t hS2)⟩
  have q33:=c6
  refine Yk<|Yt<|Ys<|Yr<|Yqm Z Z<|Yqa Z Z<|Yn<|Yt<|Ys<|Ys<|Yr<|Yqm Z Z<|Yqni Z Z<|Yqf0 Z Z Z Z Z<|RO_q (QE_ldsR0 Z Z Z (hcx.le (h3.t h5)) Z) Z<|Yqeq Z Z Z<|Yn<|Yt<|?_
  refine RC_ifD Z (fun c7=>?_) (fun c7=>?_)
  ·
   have hlI:lpI x lp=lp+1:=if_pos c7
   have hlI2:lpI x lp≤lv+1:=by omega
   refine Yr<|Yqm Z Z<|RO_q (QE_add' Z Z (show IntKind.i64.wrap ((lp:Int)+1)=((lpI x lp:Nat):Int) by rw [w64 O O];omega)) Z<|Yqa Z Z<|Yn<|Yt<|Ys<|Yr<|Yqm Z Z<|Yqni Z Z<|RO_q (QE_fa Z Z Z Z) Z<|RO_q (QE_ldsR 3 Z Z Z (hcx.le (h3.t h5)) Z) Z<|Yqm Z Z<|Yqm Z Z<|?_
   refine Rc9 Z Z Z (ih e hd _ σ H I pend St l g2 cnt B hcn mono (fun g nd nv s9 hl=>hY g nd nv s9 (I1.1.t h3|>.t h5|>.t hl)) (mono _ _ _ hI2 (Lr D)) (Option.isNone_iff_eq_none.1 As) A2 n2 p2 x.body (lpI x lp) (lv+1) (hbx.le (h3.t h5)) hvB hlI2 (by have e1:=hcn _ _ _ hst;have e2:=run_cnt hcn hr2;omega)) ?_
   rintro _ _ s8 h8 ⟨g3,hr3,rfl,rfl,hI3⟩
     
   refine Yqno Z Z<|Yqm Z Z<|?_
   refine RO_caseM (t:=50) Z (fun c9=>?_) (fun c9=>?_)
   ·
    refine Yf Z Z Z Z<|Yf Z Z Z Z<|Yf Z Z Z Z<|Yf Z Z Z Z<|Yf Z Z Z Z<|Yf Z Z Z Z<|Yf Z Z Z Z<|Yf Z Z Z Z<|YqT Z Z Z<|Yn<|Yt<|Yy Z<|?_
    have q59:=trivial
    refine Ys<|Yr<|Yqa Z Z<|Yn<|Yt<|Yo<|Yc<|Yu<|Yu<|Yc<|Yu<|?_
    refine retG_mk [] _ (.inr Z) (.tmp Z (.nil)) Z (I1.1.t h3|>.t h5|>.t h8) ⟨[],Z,List.nil_sublist _⟩ (fun sR hS2=>?_)
    exact ⟨g3,hrun g3 (by rw [ndSs_at hx];exact ⟨g1,hst,by rw [if_pos As];exact runN_stop As (runN_go As hr2 As (runN_stop As hr3 As)) As⟩),(show resV [Value.bool false]=.bool (pend g3).isNone by rw [show (pend g3).isNone=false by assumption];rfl),rfl,mono _ _ _ hI3 ((Lr D).t hS2)⟩
   refine Yg Z Z<|Yqm Z Z<|Yg Z Z<|Yqni Z Z<|Yg Z Z<|RO_q (QE_fa Z Z Z Z) Z<|Yg Z Z<|RO_q (QE_ldsR 4 Z Z Z (hcx.le (h3.t h5|>.t h8)) Z) Z<|Yg Z Z<|Yqm Z Z<|Yg Z Z<|Yqm Z Z<|Yg Z Z<|Rc9 Z Z Z (ih e hd _ σ H I pend St l g3 cnt B hcn mono (fun g nd nv s9 hl=>hY g nd nv s9 (I1.1.t h3|>.t h5|>.t h8|>.t hl)) (mono _ _ _ hI3 (Lr D)) (Option.isNone_iff_eq_none.1 As) A3 n3 p3 x.els (lpI x lp) (lv+1) (hex.le (h3.t h5|>.t h8)) hvL hlI2 (by have e1:=hcn _ _ _ hst;have e2:=run_cnt hcn hr2;have e3:=run_cnt hcn hr3;omega)) ?_
   rintro _ _ s10 h10 ⟨g4,hr4,rfl,rfl,hI4⟩
      
   refine Yg Z Z<|Yqno Z Z<|YqF Z Z Z<|Yn<|Yt<|?_
   refine RC_ifM Z (fun c11=>?_) (fun c11=>?_)
   ·
    have q59:=c11
    refine Ys<|Yr<|Yqa Z Z<|Yn<|Yt<|Yo<|Yc<|Yu<|Yu<|Yc<|Yu<|?_
    refine retG_mk [] _ (.inr Z) (.tmp Z (.nil)) Z (I1.1.t h3|>.t h5|>.t h8|>.t h10) ⟨[],Z,List.nil_sublist _⟩ (fun sR hS2=>?_)
    exact ⟨g4,hrun g4 (by rw [ndSs_at hx];exact ⟨g1,hst,by rw [if_pos As];exact runN_stop As (runN_go As hr2 As (runN_go As hr3 As hr4)) As⟩),(show resV [Value.bool false]=.bool (pend g4).isNone by rw [show (pend g4).isNone=false by assumption];rfl),rfl,mono _ _ _ hI4 ((Lr D).t hS2)⟩
   have q59:=c11
   refine Yk<|Yb<|Yt<|Yr<|Yqadd Z Z Z (w64 O O)<|Yqm Z Z<|Yn<|?_
   refine thenG_n ⟨Z,(g4,k+1),[],(.cons Z (.cons Z (.cons Z (.cons Z (.cons Z (.cons Z (.nil _))))))),Z,⟨(I1.1.t h3|>.t h5|>.t h8|>.t h10),⟨by simp only;omega,mono _ _ _ hI4 (Lr D),(Option.isNone_iff_eq_none.1 As),by have e1:=hcn _ _ _ hst;have e2:=run_cnt hcn hr2;have e3:=run_cnt hcn hr3;have e4:=run_cnt hcn hr4;simp only;omega,fun g' h=>hrun g' (by rw [ndSs_at hx];exact ⟨g1,hst,by rw [if_pos As];exact runN_go As (runN_go As hr2 As (runN_go As hr3 As hr4)) As h⟩)⟩⟩,(by simp only;omega)⟩
  have hlI:lpI x lp=lp:=if_neg c7
  have hlI2:lpI x lp≤lv+1:=by omega
  refine Yk<|Yt<|Ys<|Yr<|Yqm Z Z<|Yqni Z Z<|RO_q (QE_fa Z Z Z Z) Z<|RO_q (QE_ldsR 3 Z Z Z (hcx.le (h3.t h5)) Z) Z<|Yqm Z Z<|Yqm Z Z<|Rc9 Z Z Z ((by have h9:=ih e hd _ σ H I pend St l g2 cnt B hcn mono (fun g nd nv s9 hl=>hY g nd nv s9 (I1.1.t h3|>.t h5|>.t hl)) (mono _ _ _ hI2 (Lr D)) (Option.isNone_iff_eq_none.1 As) A2 n2 p2 x.body (lpI x lp) (lv+1) (hbx.le (h3.t h5)) hvB hlI2 (by have e1:=hcn _ _ _ hst;have e2:=run_cnt hcn hr2;omega);rw [hlI] at h9;exact h9)) ?_
  rintro _ _ s12 h12 ⟨g3,hr3,rfl,rfl,hI3⟩
  rw [← hlI] at hr3
  refine Yqno Z Z<|Yqm Z Z<|?_
  refine RO_caseM (t:=50) Z (fun c13=>?_) (fun c13=>?_)
  ·
   refine Yf Z Z Z Z<|Yf Z Z Z Z<|Yf Z Z Z Z<|Yf Z Z Z Z<|Yf Z Z Z Z<|Yf Z Z Z Z<|Yf Z Z Z Z<|Yf Z Z Z Z<|YqT Z Z Z<|Yn<|Yt<|Yy Z<|?_
   have q59:=trivial
   refine Ys<|Yr<|Yqa Z Z<|Yn<|Yt<|Yo<|Yc<|Yu<|Yu<|Yc<|Yu<|?_
   refine retG_mk [] _ (.inr Z) (.tmp Z (.nil)) Z (I1.1.t h3|>.t h5|>.t h12) ⟨[],Z,List.nil_sublist _⟩ (fun sR hS2=>?_)
   exact ⟨g3,hrun g3 (by rw [ndSs_at hx];exact ⟨g1,hst,by rw [if_pos As];exact runN_stop As (runN_go As hr2 As (runN_stop As hr3 As)) As⟩),(show resV [Value.bool false]=.bool (pend g3).isNone by rw [show (pend g3).isNone=false by assumption];rfl),rfl,mono _ _ _ hI3 ((Lr D).t hS2)⟩
  refine Yg Z Z<|Yqm Z Z<|Yg Z Z<|Yqni Z Z<|Yg Z Z<|RO_q (QE_fa Z Z Z Z) Z<|Yg Z Z<|RO_q (QE_ldsR 4 Z Z Z (hcx.le (h3.t h5|>.t h12)) Z) Z<|Yg Z Z<|Yqm Z Z<|Yg Z Z<|Yqm Z Z<|Yg Z Z<|?_
  refine Rc9 Z Z Z ((by have h9:=ih e hd _ σ H I pend St l g3 cnt B hcn mono (fun g nd nv s9 hl=>hY g nd nv s9 (I1.1.t h3|>.t h5|>.t h12|>.t hl)) (mono _ _ _ hI3 (Lr D)) (Option.isNone_iff_eq_none.1 As) A3 n3 p3 x.els (lpI x lp) (lv+1) (hex.le (h3.t h5|>.t h12)) hvL hlI2 (by have e1:=hcn _ _ _ hst;have e2:=run_cnt hcn hr2;have e3:=run_cnt hcn hr3;omega);rw [hlI] at h9;exact h9)) ?_
  rintro _ _ s14 h14 ⟨g4,hr4,rfl,rfl,hI4⟩
  rw [← hlI] at hr4
  refine Yg Z Z<|Yqno Z Z<|YqF Z Z Z<|Yn<|Yt<|?_
  refine RC_ifM Z (fun c15=>?_) (fun c15=>?_)
  ·
   have q59:=c15
   refine Ys<|Yr<|Yqa Z Z<|Yn<|Yt<|Yo<|Yc<|Yu<|Yu<|Yc<|Yu<|?_
   refine retG_mk [] _ (.inr Z) (.tmp Z (.nil)) Z (I1.1.t h3|>.t h5|>.t h12|>.t h14) ⟨[],Z,List.nil_sublist _⟩ (fun sR hS2=>?_)
   exact ⟨g4,hrun g4 (by rw [ndSs_at hx];exact ⟨g1,hst,by rw [if_pos As];exact runN_stop As (runN_go As hr2 As (runN_go As hr3 As hr4)) As⟩),(show resV [Value.bool false]=.bool (pend g4).isNone by rw [show (pend g4).isNone=false by assumption];rfl),rfl,mono _ _ _ hI4 ((Lr D).t hS2)⟩
  have q59:=c15
  refine Yk<|Yb<|Yt<|Yr<|Yqadd Z Z Z (w64 O O)<|Yqm Z Z<|Yn<|?_
  refine thenG_n ⟨Z,(g4,k+1),[],(.cons Z (.cons Z (.cons Z (.cons Z (.cons Z (.cons Z (.nil _))))))),Z,⟨(I1.1.t h3|>.t h5|>.t h12|>.t h14),⟨by simp only;omega,mono _ _ _ hI4 (Lr D),(Option.isNone_iff_eq_none.1 As),by have e1:=hcn _ _ _ hst;have e2:=run_cnt hcn hr2;have e3:=run_cnt hcn hr3;have e4:=run_cnt hcn hr4;simp only;omega,fun g' h=>hrun g' (by rw [ndSs_at hx];exact ⟨g1,hst,by rw [if_pos As];exact runN_go As (runN_go As hr2 As (runN_go As hr3 As hr4)) As h⟩)⟩⟩,(by simp only;omega)⟩
 rw [List.drop_eq_nil_of_le O,ndSs] at hrun
 refine Yl<|Yv<|Yv<|Yd<|Yt<|Ys<|Yr<|Yqa Z Z<|Yn<|Yt<|Yo<|?_
 refine retG_mk [] _ (.inr Z) (.tmp Z (.nil)) Z I1.1 ⟨[],Z,List.nil_sublist _⟩ (fun sR hS2=>?_)
 exact ⟨g,hrun g rfl,by rw [hpg];rfl,rfl,mono _ _ _ hIg ((Lr D).t hS2)⟩
theorem isc (D:Nat):∀ d,ISC D d
  | 0=>fun s σ H I pend St l g0 cnt B hcn mono hY hI hp A n c xs lp lv hA hv hlp hBn=>iS_step D 0 (fun e h=>by omega) s σ H I pend St l g0 cnt B hcn mono hY hI hp A n c xs lp lv hA hv hlp hBn
  | d+1=>fun s σ H I pend St l g0 cnt B hcn mono hY hI hp A n c xs lp lv hA hv hlp hBn=>iS_step D (d+1) (fun e h=>(show d=e by omega)▸isc D d) s σ H I pend St l g0 cnt B hcn mono hY hI hp A n c xs lp lv hA hv hlp hBn
theorem all1_ac (D:Nat) (s:World) (σ:Type) (H:σ→Hl) (I:σ→World→Prop) (pend:σ→Option Code) (Sr:σ→Nd→σ→Prop) (l:Nat) (g0:σ) (cnt:σ→Nat) (B:Nat) (hcn:∀ g nd g1,Sr g nd g1→cnt g1≤cnt g+1) (mono:∀ g s s',I g s→Le D s s'→I g s') (hY:∀ g nd nv s',Le D s s'→I g s'→pend g=none→cnt g < B→NdV s' nd nv→YC Tryz.prog D l [nv] (H g) s' fun v L' s3=>∃ g1,Sr g nd g1∧v=.bool (pend g1).isNone∧L'=H g1∧I g1 s3) (hI:I g0 s) (hp:pend g0=none) (b d:Nat) (x:Fnc) (A1 A2 A3:Option Addr) (n1 q1 n2 q2 n3 q3:Nat) (hcb:CellsAt s b 0 [St x.name,.slice A1 n1 q1,.slice A2 n2 q2,.slice A3 n3 q3]) (hB:Stms d s A3 n3 q3 x.body) (hv:stVs x.body 1=true) (hBn:cnt g0+(ndSs x.body 0).length≤B):AC Tryz.prog D 80 [.func (.yield l) #[] #[],.pointer (some ⟨b,0,none⟩)] (H g0) s fun _ L' s3=>∃ g',runN pend Sr g0 (ndSs x.body 0) g'∧L'=H g'∧I g' s3:=by
 refine AC_enterR (TT:=TT) (fn:=Tryz.f80) TT_ok Tryz.func80 V Z Tryz.ntmps80 Z (rs:=[]) Z [(0,_),(1,_)] Z<|Yr<|RO_q (QE_fa Z Z Z Z) Z<|RO_q (QE_ldsR 3 Z Z Z (hcb.le (Lr D)) Z) Z<|Yqm Z Z<|Rc9 Z Z Z (isc D d _ σ H I pend Sr l g0 cnt B hcn mono (fun g nd nv s9 hl=>hY g nd nv s9 ((Lr D).t hl)) (mono _ _ _ hI (Lr D)) hp A3 n3 q3 x.body 0 1 (hB.le (Lr D)) hv O hBn) ?_
 rintro _ _ s1 h1 ⟨g2,hr2,rfl,rfl,hI2⟩
 refine Yn ?_
 refine retG_mk [] _ (.inl Z) (.nil) Z h1 ⟨[],Z,List.nil_sublist _⟩ (fun sR hS2=>?_)
 exact ⟨g2,hr2,rfl,mono _ _ _ hI2 ((Lr D).t hS2)⟩
theorem allO_ac (D:Nat) (L:Hl) (s:World) (x:Fnc) (A1 A2 A3:Option Addr) (n1 q1 n2 q2 n3 q3:Nat):AC Tryz.prog D 45 [.agg #[St x.name,.slice A1 n1 q1,.slice A2 n2 q2,.slice A3 n3 q3]] L s fun v L' _=>∃ M',L'=M'++L∧∃ b,M'=[(b,cb [St x.name,.slice A1 n1 q1,.slice A2 n2 q2,.slice A3 n3 q3] 57)]∧v=.func (.func 80) #[] #[.pointer (some ⟨b,0,none⟩)]:=by
 refine AC_enter (TT:=TT) (fn:=Tryz.f45) TT_ok Tryz.func45 V Z Tryz.ntmps45 Z (rs:=[.tmp 2]) Z [(0,_)] Z<|Sr<|JO_boxA Z Z ?_
 intro β1 s1 h1
 refine At Z Z<|Sr<|JO_q (QE_func Z) Z<|At Z Z<|Zo<|?_
 refine retQ_mk [] _ (.inr Z) (.tmp Z (.nil)) Z h1 (fun sR hS2=>?_)
 exact ⟨[_],rfl,_,rfl,rfl⟩
theorem chkNd_ac (D:Nat) (L:Hl) (s:World) (d:Nat) (p:Prg) (Ag Af:Option Addr) (ng cg nf cf:Nat) (hGl:Glos s Ag ng cg p.globals) (hFn:Fncs d s Af nf cf p.funcs) (bm:Nat) (hM:NmOK s bm p) (x:Fnc) (A1 A2 A3:Option Addr) (n1 q1 n2 q2 n3 q3:Nat) (hs1:Strs s A1 n1 q1 x.params) (hs2:Strs s A2 n2 q2 x.locals) (nd:Nd) (nv:Value) (hN:NdV s nd nv):AC Tryz.prog D 46 [.agg #[.slice Ag ng cg,.slice Af nf cf,.map (some bm)],.agg #[St x.name,.slice A1 n1 q1,.slice A2 n2 q2,.slice A3 n3 q3],nv] L s fun v L' _=>v=.int .i64 (ndC p x nd)∧L=L':=by
  cases nd with
  | st y lp=>
    obtain ⟨b,o,C1,r1,e1,C2,r2,e2,C3,r3,e3,rfl,hy,hr⟩:=hN
    exact chkNd_s D L s d p Ag Af ng cg nf cf hGl hFn bm hM x A1 A2 A3 n1 q1 n2 q2 n3 q3 hs1 hs2 y b o C1 C2 C3 r1 e1 r2 e2 r3 e3 hy hr lp
  | ex y lp=>
    obtain ⟨b,o,C1,r1,e1,rfl,hy,hr⟩:=hN
    exact chkNd_e D L s d p Ag Af ng cg nf cf hGl hFn bm hM x A1 A2 A3 n1 q1 n2 q2 n3 q3 hs1 hs2 y b o C1 r1 e1 hy hr lp
theorem namG_nd:∀ {l:List Glo} {seen:List Str} {i:Nat},seen.Nodup→namG l seen i=(0,0)→(seen++l.map Glo.name).Nodup
  | [],seen,_,h,_=>by simpa using h
  | g::r,seen,i,h,h0=>by
    rw [namG] at h0
    split at h0
    · cases h0
    · rename_i h1
      have:=namG_nd (l:=r) (seen:=seen++[g.name]) (by
        rw [List.nodup_append]
        refine ⟨h,by simp,fun a ha b hb=>?_⟩
        rw [List.mem_singleton] at hb;subst hb
        intro e;subst e;exact h1 ha) h0
      simpa using this
theorem namF_nd:∀ {l:List Fnc} {seen:List Str} {i:Nat},seen.Nodup→namF l seen i=(0,0)→(seen++l.map Fnc.name).Nodup∧∀ x∈l,(x.params++x.locals).Nodup
  | [],seen,_,h,_=>⟨by simpa using h,fun x hx=>by cases hx⟩
  | g::r,seen,i,h,h0=>by
    rw [namF] at h0
    split at h0
    · cases h0
    · rename_i h1
      have:=namF_nd (l:=r) (seen:=seen++[g.name]) (by
        rw [List.nodup_append]
        refine ⟨h,by simp,fun a ha b hb=>?_⟩
        rw [List.mem_singleton] at hb;subst hb
        intro e;subst e;exact h1 (.inl ha)) h0
      refine ⟨by simpa using this.1,fun x hx=>?_⟩
      rcases List.mem_cons.1 hx with rfl | hx
      · exact Decidable.not_not.1 fun h2=>h1 (.inr h2)
      · exact this.2 x hx
theorem name_nd {p:Prg} (h:(nameF p).1=0):((ents p).map (·.1)).Nodup∧∀ x∈p.funcs,(x.params++x.locals).Nodup:=by
  unfold nameF at h
  split at h
  · rename_i h1;exact absurd h h1
  rename_i h1
  split at h
  · rename_i h2;exact absurd h h2
  rename_i h2
  have e1:=namG_nd (l:=p.globals) (seen:=[]) (i:=0) (by simp) ((nm_zero (p:=p)).1 (by simpa using h1))
  have e2:=namF_nd (l:=p.funcs) (seen:=p.globals.map Glo.name) (i:=p.globals.length) (by simpa using e1) ((nm_zero (p:=p)).2 (by simpa using h2))
  refine ⟨?_,e2.2⟩
  have:(ents p).map (·.1)=p.globals.map Glo.name++p.funcs.map Fnc.name:=by
    rw [ents,List.map_append]
    congr 1 <;> (apply List.ext_getElem <;> simp)
  rw [this];exact e2.1
end Go.Proofs.YtpdnijphccdiiaaGreatDoor
namespace Go.FL
open Go Go.RowKit
theorem setL_mid (A R:Hl) (l:Nat) (o o':Obj):setL (A++(l,o)::R) A.length o'=A++(l,o')::R:=by
  induction A with
  | nil=>rfl
  | cons x A ih=>show x::setL (A++(l,o)::R) A.length o'=_;rw [ih];rfl
section calls
variable {P:Program} {TT:TyTab} {D n:Nat} {Q:GPost} {ds:List Deferred} {fr:Fr} {L:Hl} {s:World}
section range
variable {σ α:Type} (H:σ→Hl) (I:σ→World→Prop) (pend:σ→Option Code) (St:σ→α→σ→Prop) (enc:α→List Value) (Pre:σ→α→World→Prop) (Fin:σ→Prop)
theorem RC_rangeA {AR:α→Fr→Hl→Prop} {g:Operand} {ps:List Nat} {assign body:Code} {fi:FuncId} {cap:List Value} (hg:lk fr g=some (.func (.func fi) #[] cap.toArray)) (g0:σ) (hL:L=H g0) (hI0:I g0 s) (hp0:pend g0=none)
    (mono:∀ g s s',I g s→Le D s s'→I g s') (hpd:∀ g,pend g=none∨pend g=some .ret∨∃ id,pend g=some (.exit id))
    (hps:∀ p,(enc p).length=ps.length) (hpn:ps.all (fun t=>Nat.blt t n)=true)
    (hassign:∀ (l:Nat) (p:α) (L':Hl) (s':World),RC P TT D n (some l) (fun e ds' fr' L1 s1=>e=.normal∧ds'=[]∧(∃ A,AR p fr' A∧L1=A++L')∧Le D s' s1) assign [] (putAll fr ps (enc p)) L' s')
    (hbody:∀ (l dk:Nat) (o1 o2:Obj) (g:σ) (p:α) (s' s0:World) (fr1:Fr) (A1:Hl),Le D s s'→Le D s' s0→I g s'→pend g=none→Pre g p s'→AR p fr1 A1 →
      RC P TT D n (some l) (fun e _ _ L1 s1=>∃ g1,St g p g1∧jmp e=some (pend g1)∧∃ A,L1=A++((l,o1)::(dk,o2)::H g1)∧Le D s0 s1∧I g1 s1) body [] fr1 (A1++((l,o1)::(dk,o2)::H g)) s0)
    (hit:∀ (l:Nat) (HH:σ→Hl) (s':World),Le D s s'→(∀ g p s'',Le D s s''→I g s''→pend g=none→Pre g p s''→YC P D l (enc p) (HH g) s'' fun v L' s3=>∃ g1,St g p g1∧v=.bool (pend g1).isNone∧L'=HH g1∧I g1 s3) →
      AC P D fi (.func (.yield l) #[] #[]::cap) (HH g0) s' fun _ L' s3=>∃ g',Fin g'∧L'=HH g'∧I g' s3)
    (hpost:∀ (dk:Nat) (g':σ) (s3:World),Le D s s3→Fin g'→I g' s3→Q (exitOf (pend g')) (markD dk::ds) fr ((dk,Obj.deferred (some []))::H g') s3) :
    RC P TT D n none Q (.rangeFunc g ps.toArray assign body) ds fr L s:=fun hT a hr ho=>by
  subst hL
  refine wpIn_rangeFunc ?_
  intro fn _
  have hro:(fro none).round=none:=rfl
  rw [hro]
  -- the two blocks
  obtain ⟨a1,a2,a3⟩:=alloc_fill ho (Obj.deferred (some []))
  obtain ⟨rec,hrec⟩:∃ rec:LoopState→Option Code→Loop,rec=fun st pe=>{ state:=st,pending:=pe,fn,tmps:=a.tmps,params:=ps.toArray,assign,body,defers:=(fill (H g0) s).heap.size }:=⟨_,rfl⟩
  obtain ⟨b1,b2,b3⟩:=alloc_fill a2 (Obj.loop (rec .ready none))
  obtain ⟨dk,hdk⟩:∃ dk,dk=s.heap.size:=⟨_,rfl⟩
  obtain ⟨l,hl⟩:∃ l,l=(s.alloc (dum D)).heap.size:=⟨_,rfl⟩
  rw [← hdk,← hl] at b1 b2
  rw [← hdk] at a1
  have hfs:(fill (H g0) s).heap.size=dk:=by rw [fill_size,hdk]
  obtain ⟨HH,hHH⟩:∃ HH:σ→Hl,HH=fun g=>(l,Obj.loop (rec (if (pend g).isNone then .ready else .done) (pend g)))::(dk,Obj.deferred (some []))::H g:=⟨_,rfl⟩
  have hst0:HH g0=(l,Obj.loop (rec .ready none))::(dk,Obj.deferred (some []))::H g0:=by rw [hHH];simp only [hp0,Option.isNone_none,if_true]
  obtain ⟨s2,hs2⟩:∃ s2,s2=(s.alloc (dum D)).alloc (dum D):=⟨_,rfl⟩
  rw [← hs2] at b1 b2 b3
  have hle2:Le D s s2:=a3.trans b3
  -- a round
  have hY:∀ g p s'',Le D s s''→I g s''→pend g=none→Pre g p s''→YC P D l (enc p) (HH g) s'' fun v L' s3=>∃ g1,St g p g1∧v=.bool (pend g1).isNone∧L'=HH g1∧I g1 s3:=by
    intro g p s'' hls hI hpn0 hPre hoY
    have eH:HH g=(l,Obj.loop (rec .ready none))::(dk,Obj.deferred (some []))::H g:=by rw [hHH];simp only [hpn0,Option.isNone_none,if_true]
    rw [eH] at hoY ⊢
    have hrl:(fill ((l,Obj.loop (rec .ready none))::(dk,Obj.deferred (some []))::H g) s'').heap[l]?=some (.loop (rec .ready none)):=fill_mem hoY (List.mem_cons_self ..)
    have hsz:((enc p).toArray).size=(rec .ready none).params.size:=by rw [hrec];simp [hps p]
    refine ⟨_,_,_,_,run_yield hrl hsz,?_⟩
    have hro2:RoundIn (fro none) 0 P l (rec .ready none).fn (((rec .ready none).params.zip (enc p).toArray).foldl (fun tmps x=>tmps.setIfInBounds x.1 x.2) (rec .ready none).tmps) (rec .ready none).assign (rec .ready none).body (fill ((l,Obj.loop (rec .ready none))::(dk,Obj.deferred (some []))::H g) s'') fun e w'=>∃ v L' s',e=.returned v∧w'=fill L' s'∧OKL D L' s'∧Le D s'' s'∧(∃ g1,St g p g1∧v=.bool (pend g1).isNone∧L'=HH g1∧I g1 s'):=by
      refine roundIn_of_wpIn trivial ?_
      have e1:(rec .ready none).assign=assign:=by rw [hrec]
      have e2:(rec .ready none).body=body:=by rw [hrec]
      have e3:((rec .ready none).params.zip (enc p).toArray).foldl (fun tmps x=>tmps.setIfInBounds x.1 x.2) (rec .ready none).tmps=(ps.zip (enc p)).foldl (fun tmps x=>tmps.setIfInBounds x.1 x.2) a.tmps:=by
        rw [hrec];simp
      rw [e1,e2,e3]
      have hfr:FrD [] n { tmps:=(ps.zip (enc p)).foldl (fun tmps x=>tmps.setIfInBounds x.1 x.2) a.tmps,defers:=[] } (putAll fr ps (enc p)):=by
        refine ⟨putAll_rel n (ps.zip (enc p)) fr a hr.rel ?_,Z⟩
        rw [List.all_eq_true] at hpn ⊢
        intro x hx
        exact hpn x.1 (List.of_mem_zip hx).1
      refine wpIn_mono (hassign l p _ s'' hT _ hfr hoY) ?_
      rintro e a1 w1 ⟨ds1,fr1,L1,s1,k1,k2,rfl,rfl,rfl,⟨A1,k3,rfl⟩,k4⟩
      -- the round begins
      have hrl1:(fill (A1++((l,Obj.loop (rec .ready none))::(dk,Obj.deferred (some []))::H g)) s1).heap[l]?=some (.loop (rec .ready none)):=fill_mem k2 (List.mem_append_right _ (List.mem_cons_self ..))
      have hst:(rec .ready none).state=.ready:=by rw [hrec]
      refine ⟨_,run_beginRound hrl1 hst,?_⟩
      obtain ⟨ob,hob⟩:∃ ob,ob=Obj.loop { rec .ready none with state:=.busy }:=⟨_,rfl⟩
      rw [putObj_setBlk,← hob,← fill_setL k2 (i:=A1.length) (p:=Obj.loop (rec .ready none)) (by simp) ob]
      have ho3:=setL_ok k2 A1.length ob
      rw [setL_mid] at ho3 ⊢
      refine wpIn_mono (hbody l dk ob (Obj.deferred (some [])) g p s'' s1 fr1 A1 hls k4 hI hpn0 hPre k3 hT _ k1 ho3) ?_
      rintro e2 a2 w2 ⟨ds2,fr2,L2,s2',j1,j2,rfl,g1,jst,jj,A,rfl,jle,jI⟩
      obtain ⟨d1,d2,d3⟩:=drop_own j2
      have hend:∀ j:Option Code,pend g1=j→∃ v w',(Instr.endRound l j).run P (fill (A++((l,ob)::(dk,Obj.deferred (some []))::H g1)) s2')=.ok v w'∧(∃ v' L' s',Ending.returned v=.returned v'∧w'=fill L' s'∧OKL D L' s'∧Le D s'' s'∧(∃ g1,St g p g1∧v'=.bool (pend g1).isNone∧L'=HH g1∧I g1 s')):=by
        intro j hj
        have hrl2:(fill ((l,ob)::(dk,Obj.deferred (some []))::H g1) (fill A s2')).heap[l]?=some (.loop { rec .ready none with state:=.busy }):=by rw [fill_mem d2 (List.mem_cons_self ..),hob]
        rw [d1]
        refine ⟨_,_,run_endRound j hrl2,_,HH g1,fill A s2',Z,?_,?_,k4.trans (jle.trans d3),g1,jst,by rw [hj],Z,mono _ _ _ jI d3⟩
        · rw [putObj_setBlk,← fill_setL d2 (i:=0) rfl]
          simp only [setL,hHH,hj]
          congr 3
          rw [hrec]
        · have:=setL_ok d2 0 (Obj.loop (rec (if (pend g1).isNone then .ready else .done) (pend g1)))
          simp only [setL] at this
          rw [hHH];exact this
      cases e2 with
      | normal=>exact hend none (by simpa [jmp] using jj.symm)
      | ret=>exact hend (some .ret) (by simpa [jmp] using jj.symm)
      | exit id=>exact hend (some (.exit id)) (by simpa [jmp] using jj.symm)
      | goto t=>cases jj
      | panic c=>cases jj
      | outgrown=>cases jj
    exact hro2
  have hAC:=hit l HH s2 hle2 hY
  obtain ⟨⟨fn0,h1,h2,h3⟩,hc⟩:=hAC
  have h2':¬ fn0.name = "runtime.NumGoroutine" := by simpa using h2
  have h3':¬ fn0.body=none:=by intro e;simp [e] at h3
  have hev:=hr.ev hg
  have hworld:((fill (H g0) s).alloc (.deferred (some []))).alloc (.loop (rec .ready none))=fill (HH g0) s2:=by rw [hst0,← b1,← a1]
  have hen:(Instr.enterLoop fn a.tmps ps.toArray assign body none).run P (fill (H g0) s)=.ok (l,[markD dk]) (fill (HH g0) s2):=by
    rw [run_enterLoop_outer,← hworld]
    have e1:(fill (H g0) s).heap.size+1=l:=by rw [hfs,hl,World.size_alloc,hdk]
    rw [e1,markD,← hfs,hrec]
  refine ⟨l,[markD dk],fill (HH g0) s2,{ target:=.fn (.func fi) cap.toArray,args:=#[.func (.yield l) #[] #[]] },fill (HH g0) s2,fi,(.func (.yield l) #[] #[]::cap).toArray,fill (HH g0) s2,hen,?_,fun f _=>fro_fn none f,?_,fro_depth none 0,?_⟩
  · simp only [resolve,hev]
    simp [go_sem]
  · simp [invoke,callFunc,h1,h2',h3']
  · have hoH:OKL D (HH g0) s2:=by rw [hst0];exact b2
    refine (calls_fro none _ (hc hoH)).mono ?_
    rintro e w' ⟨v,L',s3,rfl,rfl,q1,q2,g',q3,rfl,q4⟩
    have eH:HH g'=(l,Obj.loop (rec (if (pend g').isNone then .ready else .done) (pend g')))::(dk,Obj.deferred (some []))::H g':=by rw [hHH]
    rw [eH] at q1 ⊢
    have hrl:(fill ((l,Obj.loop (rec (if (pend g').isNone then .ready else .done) (pend g')))::(dk,Obj.deferred (some []))::H g') s3).heap[l]?=some (.loop (rec (if (pend g').isNone then .ready else .done) (pend g'))):=fill_mem q1 (List.mem_cons_self ..)
    have hnb:(rec (if (pend g').isNone then .ready else .done) (pend g')).state≠.busy:=by
      rw [hrec];simp only;split <;> (intro h;cases h)
    have hpe:(rec (if (pend g').isNone then .ready else .done) (pend g')).pending=pend g':=by rw [hrec]
    have hrun:=run_endLoop (P:=P) hrl hnb
    rw [hpe] at hrun
    obtain ⟨oe,hoe⟩:∃ oe,(Instr.endLoop l).run P (fill ((l,Obj.loop (rec (if (pend g').isNone then .ready else .done) (pend g')))::(dk,Obj.deferred (some []))::H g') s3)=.ok (pend g') (setBlk (fill ((l,Obj.loop (rec (if (pend g').isNone then .ready else .done) (pend g')))::(dk,Obj.deferred (some []))::H g') s3) l oe):=⟨_,hrun⟩
    refine ⟨pend g',_,hoe,?_⟩
    rw [← fill_setL q1 (i:=0) rfl oe]
    have ho4:=setL_ok q1 0 oe
    simp only [setL] at ho4 ⊢
    obtain ⟨d1,d2,d3⟩:=drop_own (A:=[(l,oe)]) (B:=(dk,Obj.deferred (some []))::H g') ho4
    simp only [cQ9,nQ9] at d1
    rw [d1]
    have hQ:=hpost dk g' (fill [(l,oe)] s3) (hle2.trans (q2.trans d3)) q3 (mono _ _ _ q4 d3)
    have hfr2:FrD (markD dk::ds) n { a with defers:=[markD dk]++a.defers } fr:=⟨hr.rel,by show [markD dk]++a.defers=_;rw [hr.defers];rfl⟩
    rcases hpd g' with hp | hp | ⟨id,hp⟩
    · rw [hp] at hQ ⊢
      exact ⟨_,_,_,_,hfr2,d2,rfl,hQ⟩
    · rw [hp] at hQ ⊢
      exact wpIn_ret ⟨_,_,_,_,hfr2,d2,rfl,hQ⟩
    · rw [hp] at hQ ⊢
      exact wpIn_exit ⟨_,_,_,_,hfr2,d2,rfl,hQ⟩
end range
end calls
theorem RC_sub {P:Program} {TT:TyTab} {D n:Nat} {ro:Option Nat} {Q:GPost} {c:Code} {ds:List Deferred} {fr fr':Fr} {L:Hl} {s:World} (h:Keeps fr fr') (k:RC P TT D n ro Q c ds fr' L s):RC P TT D n ro Q c ds fr L s:=fun ht a hr ho=>k ht a (hr.sub h) ho
theorem RC_perm {P:Program} {TT:TyTab} {D n:Nat} {ro:Option Nat} {Q:GPost} {ds:List Deferred} {fr:Fr} {L L':Hl} {s:World} {c:Code} (hp:L.Perm L') (h:RC P TT D n ro Q c ds fr L' s):RC P TT D n ro Q c ds fr L s:=fun ht a hr ho=>by
  rw [fill_perm hp _ ho]
  exact h ht a hr (ho.perm hp)
section
variable {P:Program} {TT:TyTab} {D n:Nat} {ro:Option Nat} {Q:GPost} {ds:List Deferred} {fr:Fr} {L:Hl} {s:World} {ops:Array Oper} {rest:List Oper} {d ty:Nat} {pos:String} {af:Array Edge} {v:Value}
theorem RO_box {t:Nat} {x:Operand} {zs:List Value} (hx:lk fr x=some v) (hz:cellsL v=zs) (hd:Nat.blt d n=true)
    (k:∀ β s',Le D s s'→RO P TT D n ro ops Q rest ds ((d,.pointer (some ⟨β,0,none⟩))::fr) ((β,cb zs t)::L) s'):RO P TT D n ro ops Q (⟨some d,.box t x,ty,pos,af,none⟩::rest) ds fr L s:=fun hT a hr ho=>
  RO_ev (by nofun) hd (Ev_box hx hz ho) (k _ _ (alloc_fill ho (cb zs t)).2.2) hT a hr ho
theorem RO_boxA {t:Nat} {x:Operand} {zs:List Value} (hx:lk fr x=some (.agg zs.toArray)) (hd:Nat.blt d n=true)
    (k:∀ β s',Le D s s'→RO P TT D n ro ops Q rest ds ((d,.pointer (some ⟨β,0,none⟩))::fr) ((β,cb zs t)::L) s'):RO P TT D n ro ops Q (⟨some d,.box t x,ty,pos,af,none⟩::rest) ds fr L s:=
  RO_box hx (by simp [cellsL]) hd k
end
end Go.FL
