/- Part 6 of the proof of interpFoldedProgramsRunAlike_holds: texts C26, C27, C28, C29, C30, Fw, Pn, Ia, N1, N2, N3. -/
import Derived.Test.YtpdnijphccdiiaaGreatDoorQ37x5
import Derived.WalkSmall
set_option linter.unusedVariables false
set_option linter.unusedSimpArgs false
set_option linter.unnecessarySimpa false
set_option maxRecDepth 100000
set_option maxHeartbeats 8000000
namespace Go.Proofs.YtpdnijphccdiiaaGreatDoor
open Go.FL
attribute [local irreducible] JC JO JA JB thenQ blockQ retQ AC fill CellsAt QE Ev Mid
theorem falses_rep (n:Nat):falses (List.replicate n false)=n:=by
  induction n with
  | zero=>rfl
  | succ n ih=>rw [List.replicate_succ,falses,ih];simp;omega
theorem rep_b (n:Nat):List.replicate n (Value.bool false)=bvs (List.replicate n false):=by simp [bvs]
theorem SO.pub {s:World}:∀ {d:Nat} {M:Hl} {x:Stm} {cs:List Value},SO d s M x cs→Pub M s→cs.length=5∧StR d s x cs:=by
  intro d
  induction d with
  | zero=>exact fun h=>h.elim
  | succ d ih=>
    intro M x cs h hp
    obtain ⟨e,A1,n1,c1,A2,n2,c2,A3,n3,c3,M1,M2,M3,he,rfl,rfl,h1,⟨k2,m2,rfl,r2,q2⟩,⟨k3,m3,rfl,r3,q3⟩,h4⟩:=h.eq
    obtain rfl:d=e:=by omega
    have row:∀ {A:Option Addr} {n c:Nat} {l:List Stm} {css:List (List Value)} {Ms:List Hl},Rws 5 s A n c css→All3 (SO d s) Ms l css→Pub Ms.flatten s→Sl 5 (StR d) s A n c l:=by
      intro A n c l css Ms hr ha hpm
      have hl:=ha.len
      refine ⟨by rw [hr.1];exact hl.2,hr.2.1,hr.2.2.1,fun i y hy=>?_⟩
      have hil:i < l.length:=(List.getElem?_eq_some_iff.1 hy).1
      obtain ⟨us1,u,us2,vs1,v,vs2,ws1,w,ws2,rfl,rfl,rfl,e1,e2,e3,_⟩:=ha.at_ hil
      have hy2:v=y:=by
        rw [List.getElem?_append_right O,show i - vs1.length=0 by omega] at hy
        simpa using hy
      subst hy2
      have hw:(ws1++w::ws2)[i]?=some w:=by
        have:=e3.len
        rw [List.getElem?_append_right O,show i - ws1.length=0 by omega];rfl
      obtain ⟨b,off,hb1,hb2⟩:=hr.at_ hw
      obtain ⟨h5,h6⟩:=ih e2 (pub_flat hpm u (List.mem_append_right _ (List.mem_cons_self ..)))
      exact ⟨b,off,w,hb1,hb2,h5,h6⟩
    exact ⟨rfl,A1,n1,c1,A2,n2,c2,A3,n3,c3,rfl,h1.pub hp.left,row r2 q2 hp.right.left,row r3 q3 hp.right.right,h4⟩
theorem SOs.pub {s:World} {d:Nat} {M:Hl} {A:Option Addr} {n c:Nat} {l:List Stm} (h:SOs d s M A n c l) (hp:Pub M s):Stms d s A n c l:=by
  obtain ⟨css,Ms,rfl,hr,ha⟩:=h
  have hl:=ha.len
  refine ⟨by rw [hr.1];exact hl.2,hr.2.1,hr.2.2.1,fun i y hy=>?_⟩
  have hil:i < l.length:=(List.getElem?_eq_some_iff.1 hy).1
  obtain ⟨us1,u,us2,vs1,v,vs2,ws1,w,ws2,rfl,rfl,rfl,e1,e2,e3,_⟩:=ha.at_ hil
  have hy2:v=y:=by
    rw [List.getElem?_append_right O,show i - vs1.length=0 by omega] at hy
    simpa using hy
  subst hy2
  have hw:(ws1++w::ws2)[i]?=some w:=by
    have:=e3.len
    rw [List.getElem?_append_right O,show i - ws1.length=0 by omega];rfl
  obtain ⟨b,off,hb1,hb2⟩:=hr.at_ hw
  obtain ⟨h5,h6⟩:=e2.pub (pub_flat hp u (List.mem_append_right _ (List.mem_cons_self ..)))
  exact ⟨b,off,w,hb1,hb2,h5,h6⟩
theorem FOs.pub {s:World} {d:Nat} {M:Hl} {A:Option Addr} {n c:Nat} {l:List Fnc} (h:FOs d s M A n c l) (hp:Pub M s):Fncs d s A n c l:=by
  obtain ⟨css,Ms,rfl,hr,ha⟩:=h
  have hl:=ha.len
  refine ⟨by rw [hr.1];exact hl.2,hr.2.1,hr.2.2.1,fun i y hy=>?_⟩
  have hil:i < l.length:=(List.getElem?_eq_some_iff.1 hy).1
  obtain ⟨us1,u,us2,vs1,v,vs2,ws1,w,ws2,rfl,rfl,rfl,e1,e2,e3,_⟩:=ha.at_ hil
  have hy2:v=y:=by
    rw [List.getElem?_append_right O,show i - vs1.length=0 by omega] at hy
    simpa using hy
  subst hy2
  have hw:(ws1++w::ws2)[i]?=some w:=by
    have:=e3.len
    rw [List.getElem?_append_right O,show i - ws1.length=0 by omega];rfl
  obtain ⟨b,off,hb1,hb2⟩:=hr.at_ hw
  obtain ⟨A1,n1,c1,A2,n2,c2,A3,n3,c3,q1,q2,q3,q4,q5⟩:=e2
  exact ⟨b,off,w,hb1,hb2,by rw [q1];rfl,A1,n1,c1,A2,n2,c2,A3,n3,c3,q1,q2,q3,q4.pub (pub_flat hp u (List.mem_append_right _ (List.mem_cons_self ..))),q5⟩
theorem clonePub_ac (D:Nat) (L:Hl) (s:World) (d:Nat) (p:Prg) (Ag Af:Option Addr) (ng cg nf cf:Nat) (hGl:Glos s Ag ng cg p.globals) (hFn:Fncs d s Af nf cf p.funcs) (hV:PV p):AC Tryz.prog D 41 [.agg #[.slice Ag ng cg,.slice Af nf cf]] L s fun v L' s'=>L=L'∧∃ Bg mg eg Bf mf ef,v=.agg #[.slice Bg mg eg,.slice Bf mf ef]∧Glos s' Bg mg eg p.globals∧Fncs d s' Bf mf ef p.funcs:=by
  refine (AC.pub (cloneP_ac D L s d p Ag Af ng cg nf cf hGl hFn hV)).mono ?_
  rintro v L1 s1 _ ⟨h1,M1,s2,⟨Bg,mg,eg,Bf,mf,ef,h2,h3,h4⟩,hl,h5⟩
  exact ⟨h1,Bg,mg,eg,Bf,mf,ef,h2,h3.le hl,(h4.le hl).pub h5⟩
def keepB {α:Type}:List Bool→List α→List α
  | b::B,x::l=>if b=true then x::keepB B l else keepB B l
  | [],_=>[]
  | _::_,[]=>[]
theorem keepB_take {α:Type}:∀ {B:List Bool} {l:List α} {k:Nat} {x:α},l[k]?=some x→keepB B (l.take (k+1))=keepB B (l.take k)++(if B.getD k false=true then [x] else [])
  | [],l,k,x,_=>by simp [keepB]
  | b::B,[],k,x,h=>by cases h
  | b::B,y::l,0,x,h=>by
    simp at h;subst h
    simp only [List.take_succ_cons,List.take_zero,keepB,List.getD_cons_zero,List.nil_append]
    cases B <;> simp [keepB]
  | b::B,y::l,k+1,x,h=>by
    have:=keepB_take (B:=B) (l:=l) (k:=k) (x:=x) (by simpa using h)
    simp only [List.take_succ_cons,keepB,List.getD_cons_succ]
    by_cases hb:b=true
    · rw [if_pos hb,if_pos hb,this];rfl
    · rw [if_neg hb,if_neg hb,this]
theorem keepB_le {α:Type}:∀ (B:List Bool) (l:List α),(keepB B l).length≤l.length
  | [],l=>by simp [keepB]
  | b::B,[]=>by simp [keepB]
  | b::B,x::l=>by
    have:=keepB_le B l
    rw [keepB];split
    · simp only [List.length_cons];omega
    · simp only [List.length_cons];omega
theorem idxOf_get {α:Type} {q:α→Bool}:∀ {l:List α} {k j:Nat},idxOf q l k=(j:Int)→k≤j∧∃ y,l[j - k]?=some y∧q y=true
  | [],k,j,h=>by rw [idxOf] at h;omega
  | y::r,k,j,h=>by
    rw [idxOf] at h
    split at h
    · rename_i h1
      have:j=k:=by omega
      subst this
      exact ⟨Nat.le_refl _,y,by simp,h1⟩
    · obtain ⟨h2,z,h3,h4⟩:=idxOf_get h
      exact ⟨by omega,z,by rw [show j - k=(j - (k+1))+1 by omega];simpa using h3,h4⟩
theorem find_nd {β:Type}:∀ {l:List (Str×β)} {i:Nat} {e:Str×β},(l.map (·.1)).Nodup→l[i]?=some e→l.find? (fun y=>decide (y.1=e.1))=some e
  | [],i,e,_,h=>by cases h
  | y::l,0,e,_,h=>by simp at h;subst h;simp
  | y::l,i+1,e,hn,h=>by
    rw [List.map_cons,List.nodup_cons] at hn
    have h1:l[i]?=some e:=by simpa using h
    have hne:¬ y.1=e.1:=fun e2=>hn.1 (e2▸List.mem_map.2 ⟨e,List.mem_of_getElem? h1,rfl⟩)
    rw [List.find?_cons_of_neg (by simpa using hne)]
    exact find_nd hn.2 h1
theorem main_ok {p:Prg} (h:nameF p=(0,0)):∃ (mi:Nat) (x:Fnc),mainF p.funcs=(mi:Int)∧p.funcs[mi]?=some x∧((ents p).find? fun e=>decide (e.1=mainW))=some (mainW,((4:Int),(mi:Int))):=by
  have hnd:=(name_nd (p:=p) (by rw [h])).1
  have h0:¬ mainF p.funcs < 0:=by
    intro hlt
    rw [nameF] at h
    split at h
    · rename_i h1;exact h1 (by rw [h])
    split at h
    · rename_i h1;exact h1 (by rw [h])
    first
      | (rw [if_pos hlt] at h;cases h)
      | cases h
  obtain ⟨mi,hmi⟩:=Int.eq_ofNat_of_zero_le (show 0≤mainF p.funcs by omega)
  obtain ⟨_,x,hx,hq⟩:=idxOf_get (show idxOf (fun x:Fnc=>decide (x.name=mainW)) p.funcs 0=(mi:Int) from hmi)
  have hnm:x.name=mainW:=by simpa using hq
  have hf:=find_nd hnd (ents_f (p:=p) (k:=mi) (x:=x) (by simpa using hx))
  rw [hnm] at hf
  exact ⟨mi,x,hmi,by simpa using hx,hf⟩
def marks (p:Prg) (F G:List Bool):Prop:=F.length=p.funcs.length∧G.length=p.globals.length∧∃ mi:Nat,mainF p.funcs=(mi:Int)∧mi < p.funcs.length∧(∀ j:Nat,F[j]?=some true↔Rea p mi j)∧∀ g:Nat,G[g]?=some true↔∃ j:Nat,F[j]?=some true∧glo p j g
theorem rep_false {n j:Nat}:¬ (List.replicate n false)[j]?=some true:=by
  rw [List.getElem?_replicate];split <;> simp
theorem marks_of {p:Prg} {mi:Nat} {F G:List Bool} (hm:mainF p.funcs=(mi:Int)) (hl:mi < p.funcs.length) (h:Rch p mi (List.replicate p.funcs.length false) (List.replicate p.globals.length false) F G):marks p F G:=by
  refine ⟨by rw [h.lenF];simp,by rw [h.lenG];simp,mi,hm,hl,fun j=>⟨fun hj=>?_,fun hr=>?_⟩,fun g=>⟨fun hg=>?_,fun ⟨j,h1,h2⟩=>?_⟩⟩
  · rcases h.new j hj with h1 | h1
    · exact absurd h1 rep_false
    · exact h1.1
  · have:∀ i j,Rea p i j→F[i]?=some true→F[j]?=some true:=by
      intro i j hr
      induction hr with
      | refl=>exact fun h=>h
      | step hc _ ih=>
        intro hi
        rcases h.new _ hi with h1 | h1
        · exact absurd h1 rep_false
        · exact ih (h1.2.1 _ hc)
    exact this mi j hr h.hit
  · rcases h.newG g hg with h1 | ⟨j,h1,_,h2⟩
    · exact absurd h1 rep_false
    · exact ⟨j,h1,h2⟩
  · rcases h.new j h1 with h3 | h3
    · exact absurd h3 rep_false
    · exact h3.2.2 g h2
def TrimR (p q:Prg):Prop:=((chkF p).1≠0∧q=⟨[],[]⟩)∨((chkF p).1=0∧∃ F G,marks p F G∧q=⟨keepB G p.globals,keepB F p.funcs⟩)
theorem glos_nil (s:World):Glos s none 0 0 []:=⟨rfl,Nat.le_refl _,by omega,fun i x h=>by cases h⟩
theorem fncs_nil (d:Nat) (s:World):Fncs d s none 0 0 []:=⟨rfl,Nat.le_refl _,by omega,fun i x h=>by cases h⟩
theorem trimO_ac (D:Nat) (L:Hl) (s:World) (hG:GP s) (d:Nat) (p:Prg) (Ag Af:Option Addr) (ng cg nf cf:Nat) (hGl:Glos s Ag ng cg p.globals) (hFn:Fncs d s Af nf cf p.funcs):AC Tryz.prog D 16 [.agg #[.slice Ag ng cg,.slice Af nf cf]] L s fun v L' s'=>∃ M',L'=M'++L∧∀ s2,Le D s' s2→Pub M' s2→∃ q,TrimR p q∧∃ Bg mg eg Bf mf ef,v=.tuple #[.agg #[.slice Bg mg eg,.slice Bf mf ef],.agg #[.int .i64 (chkF p).1,.int .i64 (chkF p).2]]∧Glos s2 Bg mg eg q.globals∧Fncs d s2 Bf mf ef q.funcs:=by
 have hn1:=hGl.1
 have hn2:=hFn.1
 have hU:prU p:=⟨hGl.u,hFn.u⟩
 refine AC_enter (TT:=TT) (fn:=Tryz.f16) TT_ok Tryz.func16 V Z Tryz.ntmps16 Z (rs:=[.cell 2 25,.cell 3 33]) Z [(0,_)] Z<|Sr<|JO_boxA Z Z ?_
 intro β1 s1 h1
 refine JO_allocZ Z [_,_] Z Z ?_
 intro β2 s2 h2
 refine JO_allocZ Z [_,_] Z Z ?_
 intro β3 s3 h3
 refine Nt<|Sr<|JO_q (QE_ldA 2 [_,_] Z Z Z Z Z) Z<|Jc Z Z Z (calls_ac D _ _ (hG.le (h1.t h2|>.t h3)) d p Ag _ ng cg nf cf (hGl.le (h1.t h2|>.t h3)) (hFn.le (h1.t h2|>.t h3))) ?_
 rintro _ _ s4 h4 ⟨rfl,Ac,nc,cc,rfl,hCl⟩
 refine Zqm Z Z<|Zqx Z Z Z<|Zqx Z Z Z<|JO_allocZ Z [_] Z Z ?_
 intro β5 s5 h5
 refine JO_allocZ Z [_,_] Z Z ?_
 intro β6 s6 h6
 refine Wt 1 [_] Y9<|Wt 0 [_,_] Y9<|Nt<|Zs<|Sr<|JO_q (QE_ldA 0 [_,_] Z Z Z Z Z) Z<|JO_q (QE_build [] [_,_] Z Z Z Z Z Z) Z<|JO_q (QE_ane Z Z (eqFault _ _ _ _)) Z<|Nt<|?_
 refine JC_ifN Z (fun c7=>?_) (fun c7=>?_)
 ·
  have hb0:(chkF p).1≠0:=fun h=>c7 (by rw [chk_00 hU h];exact ⟨rfl,rfl⟩)
  refine Zs<|JC_drawE drawsMixed 4 Z [3,2] (by intro x hx;exact eraseAll_mem hx) ?_
  intro s8 h8
  refine za 0 Z (QE_build [] [_,_] Z Z Z Z Z Z) Z<|za 1 Z (QE_ldA 0 [_,_] Z Z Z Z Z) Z<|JA_1 2 V<|Wu Z trivial 3 [_,_] Y9 (fun _ hx=>sub_mem (sbY (sbY (sbN (sbY (sbE _))))) hx)<|JA_1 3 V<|Wu Z trivial 2 [_,_] Y9 (fun _ hx=>sub_mem (sbY (sbY (sbN (sbY (sbE _))))) hx)<|JA_done V<|Zt<|Zo<|Zu<|?_
  refine retQ_mk [_,_,_,_,_] _ (.inr Z) (.agg (us:=[_,_]) 3 Z Z Z Z Z (.agg (us:=[_,_]) 2 Z Z Z Z Z (.nil))) Z (h1.t h2|>.t h3|>.t h4|>.t h5|>.t h6|>.t h8) (fun sR hS2=>?_)
  exact ⟨[],rfl,fun s2 hs2 hp=>⟨⟨[],[]⟩,.inl ⟨hb0,rfl⟩,none,0,0,none,0,0,rfl,glos_nil _,fncs_nil _ _⟩⟩
 have g4:=c7
 have g14:¬ (chkF p).1≠0:=fun h=>h g4.1
 obtain ⟨hOK,hz0⟩:=OKP.of hU g4.1
 have hV:=hOK.1
 have hV1:=hV.1
 have hV2:=hV.2.1
 have hVf:=hV.2.2.2.1
 have hND:=(name_nd (p:=p) (by rw [hOK.2.1])).1
 rw [show callsP p=p.funcs from if_neg g14] at hCl
 obtain rfl:nf=nc:=by have:=hCl.1;omega
 obtain ⟨mi,xm,hmi,hxm,hmf⟩:=main_ok hOK.2.1
 have hml:=(List.getElem?_eq_some_iff.1 hxm).1
 refine Zk<|Zt<|Sr<|JO_q (QE_ldA 4 [_,_] Z Z Z Z Z) Z<|Jc Z Z Z (open_ac D _ _ d p Ag _ ng cg nf cf (hGl.le (h1.t h2|>.t h3|>.t h4|>.t h5|>.t h6)) (hFn.le (h1.t h2|>.t h3|>.t h4|>.t h5|>.t h6)) hND) ?_
 rintro _ _ s9 h9 ⟨rfl,bm,rfl,hM⟩
 have hM0:=hM
 obtain ⟨es,hMs,hes⟩:=hM0
 refine JO_allocZ Z [_,_,_] Z Z ?_
 intro β10 s10 h10
 refine Wt 0 [_,_,_] Y9<|Nt<|?_
 refine JC_cutN (γ:=Nat×Nat×Nat×Nat) (fun g=>[(7,.pointer (some ⟨g.1,0,none⟩)),(8,.pointer (some ⟨g.2.1,0,none⟩))]) (fun g=>[(g.1,cb [.slice (some ⟨g.2.2.1,0,none⟩) nf nf] 100),(g.2.1,cb [.slice (some ⟨g.2.2.2,0,none⟩) ng ng] 100),(g.2.2.1,cb (bvs (List.replicate nf false)) 4),(g.2.2.2,cb (bvs (List.replicate ng false)) 4)]) (fun g tw=>True) (fun _ _ _ h hl=>h) ?_ ?_
 ·
  refine JC_draw drawsMixed 12 Z _ (fun _ h=>h) ?_
  intro s12 h12
  refine za 0 Z (We Y4) Z<|za 1 Z (Wd 5 Y5) Z<|za 2 Z (QE_lenS Z Z Z) Z<|za 4 Z (QE_fa0 Z Z Z Z) Z<|za 5 Z (Wd 5 Y5) Z<|za 6 Z (QE_lenS Z Z Z) Z ?_
  refine JA_4 3 7 8 9 V ?_ ?_ ?_ ?_
  ·
   refine JB_mk Z trivial Z Z Z Z Z (by simp [ti4];omega) O Z ?_
   intro βf s13 h13
   rw [rep_b]
   refine JA_3 7 8 9 V ?_ ?_ ?_
   ·
    refine JB_mk Z trivial Z Z Z Z Z (by simp [ti4];omega) O Z ?_
    intro βg s14 h14
    rw [rep_b]
    refine JA_2 8 9 V ?_ ?_
    ·
     refine JB_alloc Z trivial Z [_] Z Z ?_
     intro β15 s15 h15
     refine JA_1 9 V<|JB_alloc Z trivial Z [_] Z Z ?_
     intro β16 s16 h16
     refine JA_1 10 V<|Wu Z trivial 1 [_] Y9 (fun _ hx=>sub_mem (sbN (sbN (sbN (sbY (sbY (sbY (sbY (sbY (sbY (sbE _)))))))))) hx)<|JA_1 11 V<|Wu Z trivial 0 [_] Y9 (fun _ hx=>sub_mem (sbN (sbN (sbN (sbY (sbY (sbY (sbY (sbY (sbY (sbE _)))))))))) hx)<|JA_done V ?_
     refine thenQ_n (MidN.mk (β15,β16,βf,βg) [] (h12.t h13|>.t h14|>.t h15|>.t h16) (.cons Z (.cons Z sk)) (List.Perm.trans (front_perm _ 2) (List.Perm.trans (front_perm _ 3) (List.Perm.trans (front_perm _ 2) (front_perm _ 3)))) trivial)
    refine JB_alloc Z trivial Z [_] Z Z ?_
    intro β17 s17 h17
    refine JA_1 8 V<|JB_alloc Z trivial Z [_] Z Z ?_
    intro β18 s18 h18
    refine JA_1 10 V<|Wu Z trivial 0 [_] Y9 (fun _ hx=>sub_mem (sbN (sbN (sbN (sbY (sbY (sbY (sbY (sbY (sbY (sbE _)))))))))) hx)<|JA_1 11 V<|Wu Z trivial 1 [_] Y9 (fun _ hx=>sub_mem (sbN (sbN (sbN (sbY (sbY (sbY (sbY (sbY (sbY (sbE _)))))))))) hx)<|JA_done V ?_
    refine thenQ_n (MidN.mk (β18,β17,βf,βg) [] (h12.t h13|>.t h14|>.t h17|>.t h18) (.cons Z (.cons Z sk)) (List.Perm.trans (front_perm _ 2) (List.Perm.trans (front_perm _ 3) (List.Perm.trans (front_perm _ 3) (front_perm _ 3)))) trivial)
   ·
    refine JB_alloc Z trivial Z [_] Z Z ?_
    intro β19 s19 h19
    refine JA_2 7 9 V ?_ ?_
    ·
     refine JB_mk Z trivial Z Z Z Z Z (by simp [ti4];omega) O Z ?_
     intro βg s20 h20
     rw [rep_b]
     refine JA_1 9 V<|JB_alloc Z trivial Z [_] Z Z ?_
     intro β21 s21 h21
     refine JA_1 10 V<|Wu Z trivial 2 [_] Y9 (fun _ hx=>sub_mem (sbN (sbN (sbN (sbY (sbY (sbY (sbY (sbY (sbY (sbE _)))))))))) hx)<|JA_1 11 V<|Wu Z trivial 0 [_] Y9 (fun _ hx=>sub_mem (sbN (sbN (sbN (sbY (sbY (sbY (sbY (sbY (sbY (sbE _)))))))))) hx)<|JA_done V ?_
     refine thenQ_n (MidN.mk (β19,β21,βf,βg) [] (h12.t h13|>.t h19|>.t h20|>.t h21) (.cons Z (.cons Z sk)) (List.Perm.trans (front_perm _ 1) (List.Perm.trans (front_perm _ 3) (List.Perm.trans (front_perm _ 2) (front_perm _ 3)))) trivial)
    refine JB_alloc Z trivial Z [_] Z Z ?_
    intro β22 s22 h22
    refine JA_2 7 10 V ?_ ?_
    ·
     refine JB_mk Z trivial Z Z Z Z Z (by simp [ti4];omega) O Z ?_
     intro βg s23 h23
     rw [rep_b]
     refine JA_1 10 V<|Wu Z trivial 2 [_] Y9 (fun _ hx=>sub_mem (sbN (sbN (sbN (sbY (sbY (sbY (sbY (sbY (sbY (sbE _)))))))))) hx)<|JA_1 11 V<|Wu Z trivial 1 [_] Y9 (fun _ hx=>sub_mem (sbN (sbN (sbN (sbY (sbY (sbY (sbY (sbY (sbY (sbE _)))))))))) hx)<|JA_done V ?_
     refine thenQ_n (MidN.mk (β19,β22,βf,βg) [] (h12.t h13|>.t h19|>.t h22|>.t h23) (.cons Z (.cons Z sk)) (List.Perm.trans (front_perm _ 0) (List.Perm.trans (front_perm _ 3) (List.Perm.trans (front_perm _ 2) (front_perm _ 3)))) trivial)
    refine Wu Z trivial 1 [_] Y9 (fun _ hx=>sub_mem (sbN (sbN (sbY (sbY (sbY (sbY (sbY (sbY (sbE _))))))))) hx)<|JA_1 7 V<|JB_mk Z trivial Z Z Z Z Z (by simp [ti4];omega) O Z ?_
    intro βg s24 h24
    rw [rep_b]
    refine JA_1 11 V<|Wu Z trivial 1 [_] Y9 (fun _ hx=>sub_mem (sbN (sbN (sbN (sbY (sbY (sbY (sbY (sbY (sbY (sbE _)))))))))) hx)<|JA_done V ?_
    refine thenQ_n (MidN.mk (β19,β22,βf,βg) [] (h12.t h13|>.t h19|>.t h22|>.t h24) (.cons Z (.cons Z sk)) (List.Perm.trans (front_perm _ 0) (List.Perm.trans (front_perm _ 3) (List.Perm.trans (front_perm _ 2) (front_perm _ 3)))) trivial)
   refine JB_alloc Z trivial Z [_] Z Z ?_
   intro β25 s25 h25
   refine JA_2 7 8 V ?_ ?_
   ·
    refine JB_mk Z trivial Z Z Z Z Z (by simp [ti4];omega) O Z ?_
    intro βg s26 h26
    rw [rep_b]
    refine JA_1 8 V<|JB_alloc Z trivial Z [_] Z Z ?_
    intro β27 s27 h27
    refine JA_1 10 V<|Wu Z trivial 0 [_] Y9 (fun _ hx=>sub_mem (sbN (sbN (sbN (sbY (sbY (sbY (sbY (sbY (sbY (sbE _)))))))))) hx)<|JA_1 11 V<|Wu Z trivial 2 [_] Y9 (fun _ hx=>sub_mem (sbN (sbN (sbN (sbY (sbY (sbY (sbY (sbY (sbY (sbE _)))))))))) hx)<|JA_done V ?_
    refine thenQ_n (MidN.mk (β27,β25,βf,βg) [] (h12.t h13|>.t h25|>.t h26|>.t h27) (.cons Z (.cons Z sk)) (List.Perm.trans (front_perm _ 1) (List.Perm.trans (front_perm _ 3) (List.Perm.trans (front_perm _ 3) (front_perm _ 3)))) trivial)
   refine JB_alloc Z trivial Z [_] Z Z ?_
   intro β28 s28 h28
   refine JA_2 7 10 V ?_ ?_
   ·
    refine JB_mk Z trivial Z Z Z Z Z (by simp [ti4];omega) O Z ?_
    intro βg s29 h29
    rw [rep_b]
    refine JA_1 10 V<|Wu Z trivial 1 [_] Y9 (fun _ hx=>sub_mem (sbN (sbN (sbN (sbY (sbY (sbY (sbY (sbY (sbY (sbE _)))))))))) hx)<|JA_1 11 V<|Wu Z trivial 2 [_] Y9 (fun _ hx=>sub_mem (sbN (sbN (sbN (sbY (sbY (sbY (sbY (sbY (sbY (sbE _)))))))))) hx)<|JA_done V ?_
    refine thenQ_n (MidN.mk (β28,β25,βf,βg) [] (h12.t h13|>.t h25|>.t h28|>.t h29) (.cons Z (.cons Z sk)) (List.Perm.trans (front_perm _ 0) (List.Perm.trans (front_perm _ 3) (List.Perm.trans (front_perm _ 3) (front_perm _ 3)))) trivial)
   refine Wu Z trivial 0 [_] Y9 (fun _ hx=>sub_mem (sbN (sbN (sbY (sbY (sbY (sbY (sbY (sbY (sbE _))))))))) hx)<|JA_1 7 V<|JB_mk Z trivial Z Z Z Z Z (by simp [ti4];omega) O Z ?_
   intro βg s30 h30
   rw [rep_b]
   refine JA_1 11 V<|Wu Z trivial 2 [_] Y9 (fun _ hx=>sub_mem (sbN (sbN (sbN (sbY (sbY (sbY (sbY (sbY (sbY (sbE _)))))))))) hx)<|JA_done V ?_
   refine thenQ_n (MidN.mk (β28,β25,βf,βg) [] (h12.t h13|>.t h25|>.t h28|>.t h30) (.cons Z (.cons Z sk)) (List.Perm.trans (front_perm _ 0) (List.Perm.trans (front_perm _ 3) (List.Perm.trans (front_perm _ 3) (front_perm _ 3)))) trivial)
  ·
   refine JB_mk Z trivial Z Z Z Z Z (by simp [ti4];omega) O Z ?_
   intro βg s31 h31
   rw [rep_b]
   refine JA_3 3 8 9 V ?_ ?_ ?_
   ·
    refine JB_mk Z trivial Z Z Z Z Z (by simp [ti4];omega) O Z ?_
    intro βf s32 h32
    rw [rep_b]
    refine JA_2 8 9 V ?_ ?_
    ·
     refine JB_alloc Z trivial Z [_] Z Z ?_
     intro β33 s33 h33
     refine JA_1 9 V<|JB_alloc Z trivial Z [_] Z Z ?_
     intro β34 s34 h34
     refine JA_1 10 V<|Wu Z trivial 1 [_] Y9 (fun _ hx=>sub_mem (sbN (sbN (sbN (sbY (sbY (sbY (sbY (sbY (sbY (sbE _)))))))))) hx)<|JA_1 11 V<|Wu Z trivial 0 [_] Y9 (fun _ hx=>sub_mem (sbN (sbN (sbN (sbY (sbY (sbY (sbY (sbY (sbY (sbE _)))))))))) hx)<|JA_done V ?_
     refine thenQ_n (MidN.mk (β33,β34,βf,βg) [] (h12.t h31|>.t h32|>.t h33|>.t h34) (.cons Z (.cons Z sk)) (List.Perm.trans (front_perm _ 3) (List.Perm.trans (front_perm _ 3) (List.Perm.trans (front_perm _ 2) (front_perm _ 3)))) trivial)
    refine JB_alloc Z trivial Z [_] Z Z ?_
    intro β35 s35 h35
    refine JA_1 8 V<|JB_alloc Z trivial Z [_] Z Z ?_
    intro β36 s36 h36
    refine JA_1 10 V<|Wu Z trivial 0 [_] Y9 (fun _ hx=>sub_mem (sbN (sbN (sbN (sbY (sbY (sbY (sbY (sbY (sbY (sbE _)))))))))) hx)<|JA_1 11 V<|Wu Z trivial 1 [_] Y9 (fun _ hx=>sub_mem (sbN (sbN (sbN (sbY (sbY (sbY (sbY (sbY (sbY (sbE _)))))))))) hx)<|JA_done V ?_
    refine thenQ_n (MidN.mk (β36,β35,βf,βg) [] (h12.t h31|>.t h32|>.t h35|>.t h36) (.cons Z (.cons Z sk)) (List.Perm.trans (front_perm _ 3) (List.Perm.trans (front_perm _ 3) (List.Perm.trans (front_perm _ 3) (front_perm _ 3)))) trivial)
   ·
    refine JB_alloc Z trivial Z [_] Z Z ?_
    intro β37 s37 h37
    refine JA_2 3 9 V ?_ ?_
    ·
     refine JB_mk Z trivial Z Z Z Z Z (by simp [ti4];omega) O Z ?_
     intro βf s38 h38
     rw [rep_b]
     refine JA_1 9 V<|JB_alloc Z trivial Z [_] Z Z ?_
     intro β39 s39 h39
     refine JA_1 10 V<|Wu Z trivial 2 [_] Y9 (fun _ hx=>sub_mem (sbN (sbN (sbN (sbY (sbY (sbY (sbY (sbY (sbY (sbE _)))))))))) hx)<|JA_1 11 V<|Wu Z trivial 0 [_] Y9 (fun _ hx=>sub_mem (sbN (sbN (sbN (sbY (sbY (sbY (sbY (sbY (sbY (sbE _)))))))))) hx)<|JA_done V ?_
     refine thenQ_n (MidN.mk (β37,β39,βf,βg) [] (h12.t h31|>.t h37|>.t h38|>.t h39) (.cons Z (.cons Z sk)) (List.Perm.trans (front_perm _ 3) (List.Perm.trans (front_perm _ 2) (List.Perm.trans (front_perm _ 2) (front_perm _ 3)))) trivial)
    refine JB_alloc Z trivial Z [_] Z Z ?_
    intro β40 s40 h40
    refine JA_1 3 V<|JB_mk Z trivial Z Z Z Z Z (by simp [ti4];omega) O Z ?_
    intro βf s41 h41
    rw [rep_b]
    refine JA_1 10 V<|Wu Z trivial 2 [_] Y9 (fun _ hx=>sub_mem (sbN (sbN (sbN (sbY (sbY (sbY (sbY (sbY (sbY (sbE _)))))))))) hx)<|JA_1 11 V<|Wu Z trivial 1 [_] Y9 (fun _ hx=>sub_mem (sbN (sbN (sbN (sbY (sbY (sbY (sbY (sbY (sbY (sbE _)))))))))) hx)<|JA_done V ?_
    refine thenQ_n (MidN.mk (β37,β40,βf,βg) [] (h12.t h31|>.t h37|>.t h40|>.t h41) (.cons Z (.cons Z sk)) (List.Perm.trans (front_perm _ 3) (List.Perm.trans (front_perm _ 1) (List.Perm.trans (front_perm _ 2) (front_perm _ 3)))) trivial)
   refine JB_alloc Z trivial Z [_] Z Z ?_
   intro β42 s42 h42
   refine JA_2 3 8 V ?_ ?_
   ·
    refine JB_mk Z trivial Z Z Z Z Z (by simp [ti4];omega) O Z ?_
    intro βf s43 h43
    rw [rep_b]
    refine JA_1 8 V<|JB_alloc Z trivial Z [_] Z Z ?_
    intro β44 s44 h44
    refine JA_1 10 V<|Wu Z trivial 0 [_] Y9 (fun _ hx=>sub_mem (sbN (sbN (sbN (sbY (sbY (sbY (sbY (sbY (sbY (sbE _)))))))))) hx)<|JA_1 11 V<|Wu Z trivial 2 [_] Y9 (fun _ hx=>sub_mem (sbN (sbN (sbN (sbY (sbY (sbY (sbY (sbY (sbY (sbE _)))))))))) hx)<|JA_done V ?_
    refine thenQ_n (MidN.mk (β44,β42,βf,βg) [] (h12.t h31|>.t h42|>.t h43|>.t h44) (.cons Z (.cons Z sk)) (List.Perm.trans (front_perm _ 3) (List.Perm.trans (front_perm _ 2) (List.Perm.trans (front_perm _ 3) (front_perm _ 3)))) trivial)
   refine JB_alloc Z trivial Z [_] Z Z ?_
   intro β45 s45 h45
   refine JA_1 3 V<|JB_mk Z trivial Z Z Z Z Z (by simp [ti4];omega) O Z ?_
   intro βf s46 h46
   rw [rep_b]
   refine JA_1 10 V<|Wu Z trivial 1 [_] Y9 (fun _ hx=>sub_mem (sbN (sbN (sbN (sbY (sbY (sbY (sbY (sbY (sbY (sbE _)))))))))) hx)<|JA_1 11 V<|Wu Z trivial 2 [_] Y9 (fun _ hx=>sub_mem (sbN (sbN (sbN (sbY (sbY (sbY (sbY (sbY (sbY (sbE _)))))))))) hx)<|JA_done V ?_
   refine thenQ_n (MidN.mk (β45,β42,βf,βg) [] (h12.t h31|>.t h42|>.t h45|>.t h46) (.cons Z (.cons Z sk)) (List.Perm.trans (front_perm _ 3) (List.Perm.trans (front_perm _ 1) (List.Perm.trans (front_perm _ 3) (front_perm _ 3)))) trivial)
  ·
   refine JB_alloc Z trivial Z [_] Z Z ?_
   intro β47 s47 h47
   refine JA_3 3 7 9 V ?_ ?_ ?_
   ·
    refine JB_mk Z trivial Z Z Z Z Z (by simp [ti4];omega) O Z ?_
    intro βf s48 h48
    rw [rep_b]
    refine JA_2 7 9 V ?_ ?_
    ·
     refine JB_mk Z trivial Z Z Z Z Z (by simp [ti4];omega) O Z ?_
     intro βg s49 h49
     rw [rep_b]
     refine JA_1 9 V<|JB_alloc Z trivial Z [_] Z Z ?_
     intro β50 s50 h50
     refine JA_1 10 V<|Wu Z trivial 3 [_] Y9 (fun _ hx=>sub_mem (sbN (sbN (sbN (sbY (sbY (sbY (sbY (sbY (sbY (sbE _)))))))))) hx)<|JA_1 11 V<|Wu Z trivial 0 [_] Y9 (fun _ hx=>sub_mem (sbN (sbN (sbN (sbY (sbY (sbY (sbY (sbY (sbY (sbE _)))))))))) hx)<|JA_done V ?_
     refine thenQ_n (MidN.mk (β47,β50,βf,βg) [] (h12.t h47|>.t h48|>.t h49|>.t h50) (.cons Z (.cons Z sk)) (List.Perm.trans (front_perm _ 1) (List.Perm.trans (front_perm _ 2) (List.Perm.trans (front_perm _ 2) (front_perm _ 3)))) trivial)
    refine JB_alloc Z trivial Z [_] Z Z ?_
    intro β51 s51 h51
    refine JA_2 7 10 V ?_ ?_
    ·
     refine JB_mk Z trivial Z Z Z Z Z (by simp [ti4];omega) O Z ?_
     intro βg s52 h52
     rw [rep_b]
     refine JA_1 10 V<|Wu Z trivial 3 [_] Y9 (fun _ hx=>sub_mem (sbN (sbN (sbN (sbY (sbY (sbY (sbY (sbY (sbY (sbE _)))))))))) hx)<|JA_1 11 V<|Wu Z trivial 1 [_] Y9 (fun _ hx=>sub_mem (sbN (sbN (sbN (sbY (sbY (sbY (sbY (sbY (sbY (sbE _)))))))))) hx)<|JA_done V ?_
     refine thenQ_n (MidN.mk (β47,β51,βf,βg) [] (h12.t h47|>.t h48|>.t h51|>.t h52) (.cons Z (.cons Z sk)) (List.Perm.trans (front_perm _ 0) (List.Perm.trans (front_perm _ 2) (List.Perm.trans (front_perm _ 2) (front_perm _ 3)))) trivial)
    refine Wu Z trivial 2 [_] Y9 (fun _ hx=>sub_mem (sbN (sbN (sbY (sbY (sbY (sbY (sbY (sbY (sbE _))))))))) hx)<|JA_1 7 V<|JB_mk Z trivial Z Z Z Z Z (by simp [ti4];omega) O Z ?_
    intro βg s53 h53
    rw [rep_b]
    refine JA_1 11 V<|Wu Z trivial 1 [_] Y9 (fun _ hx=>sub_mem (sbN (sbN (sbN (sbY (sbY (sbY (sbY (sbY (sbY (sbE _)))))))))) hx)<|JA_done V ?_
    refine thenQ_n (MidN.mk (β47,β51,βf,βg) [] (h12.t h47|>.t h48|>.t h51|>.t h53) (.cons Z (.cons Z sk)) (List.Perm.trans (front_perm _ 0) (List.Perm.trans (front_perm _ 2) (List.Perm.trans (front_perm _ 2) (front_perm _ 3)))) trivial)
   ·
    refine JB_mk Z trivial Z Z Z Z Z (by simp [ti4];omega) O Z ?_
    intro βg s54 h54
    rw [rep_b]
    refine JA_2 3 9 V ?_ ?_
    ·
     refine JB_mk Z trivial Z Z Z Z Z (by simp [ti4];omega) O Z ?_
     intro βf s55 h55
     rw [rep_b]
     refine JA_1 9 V<|JB_alloc Z trivial Z [_] Z Z ?_
     intro β56 s56 h56
     refine JA_1 10 V<|Wu Z trivial 3 [_] Y9 (fun _ hx=>sub_mem (sbN (sbN (sbN (sbY (sbY (sbY (sbY (sbY (sbY (sbE _)))))))))) hx)<|JA_1 11 V<|Wu Z trivial 0 [_] Y9 (fun _ hx=>sub_mem (sbN (sbN (sbN (sbY (sbY (sbY (sbY (sbY (sbY (sbE _)))))))))) hx)<|JA_done V ?_
     refine thenQ_n (MidN.mk (β47,β56,βf,βg) [] (h12.t h47|>.t h54|>.t h55|>.t h56) (.cons Z (.cons Z sk)) (List.Perm.trans (front_perm _ 2) (List.Perm.trans (front_perm _ 2) (List.Perm.trans (front_perm _ 2) (front_perm _ 3)))) trivial)
    refine JB_alloc Z trivial Z [_] Z Z ?_
    intro β57 s57 h57
    refine JA_1 3 V<|JB_mk Z trivial Z Z Z Z Z (by simp [ti4];omega) O Z ?_
    intro βf s58 h58
    rw [rep_b]
    refine JA_1 10 V<|Wu Z trivial 3 [_] Y9 (fun _ hx=>sub_mem (sbN (sbN (sbN (sbY (sbY (sbY (sbY (sbY (sbY (sbE _)))))))))) hx)<|JA_1 11 V<|Wu Z trivial 1 [_] Y9 (fun _ hx=>sub_mem (sbN (sbN (sbN (sbY (sbY (sbY (sbY (sbY (sbY (sbE _)))))))))) hx)<|JA_done V ?_
    refine thenQ_n (MidN.mk (β47,β57,βf,βg) [] (h12.t h47|>.t h54|>.t h57|>.t h58) (.cons Z (.cons Z sk)) (List.Perm.trans (front_perm _ 2) (List.Perm.trans (front_perm _ 1) (List.Perm.trans (front_perm _ 2) (front_perm _ 3)))) trivial)
   refine JB_alloc Z trivial Z [_] Z Z ?_
   intro β59 s59 h59
   refine JA_2 3 7 V ?_ ?_
   ·
    refine JB_mk Z trivial Z Z Z Z Z (by simp [ti4];omega) O Z ?_
    intro βf s60 h60
    rw [rep_b]
    refine JA_2 7 10 V ?_ ?_
    ·
     refine JB_mk Z trivial Z Z Z Z Z (by simp [ti4];omega) O Z ?_
     intro βg s61 h61
     rw [rep_b]
     refine JA_1 10 V<|Wu Z trivial 3 [_] Y9 (fun _ hx=>sub_mem (sbN (sbN (sbN (sbY (sbY (sbY (sbY (sbY (sbY (sbE _)))))))))) hx)<|JA_1 11 V<|Wu Z trivial 2 [_] Y9 (fun _ hx=>sub_mem (sbN (sbN (sbN (sbY (sbY (sbY (sbY (sbY (sbY (sbE _)))))))))) hx)<|JA_done V ?_
     refine thenQ_n (MidN.mk (β47,β59,βf,βg) [] (h12.t h47|>.t h59|>.t h60|>.t h61) (.cons Z (.cons Z sk)) (List.Perm.trans (front_perm _ 0) (List.Perm.trans (front_perm _ 1) (List.Perm.trans (front_perm _ 2) (front_perm _ 3)))) trivial)
    refine Wu Z trivial 2 [_] Y9 (fun _ hx=>sub_mem (sbN (sbN (sbY (sbY (sbY (sbY (sbY (sbY (sbE _))))))))) hx)<|JA_1 7 V<|JB_mk Z trivial Z Z Z Z Z (by simp [ti4];omega) O Z ?_
    intro βg s62 h62
    rw [rep_b]
    refine JA_1 11 V<|Wu Z trivial 2 [_] Y9 (fun _ hx=>sub_mem (sbN (sbN (sbN (sbY (sbY (sbY (sbY (sbY (sbY (sbE _)))))))))) hx)<|JA_done V ?_
    refine thenQ_n (MidN.mk (β47,β59,βf,βg) [] (h12.t h47|>.t h59|>.t h60|>.t h62) (.cons Z (.cons Z sk)) (List.Perm.trans (front_perm _ 0) (List.Perm.trans (front_perm _ 1) (List.Perm.trans (front_perm _ 2) (front_perm _ 3)))) trivial)
   refine JB_mk Z trivial Z Z Z Z Z (by simp [ti4];omega) O Z ?_
   intro βg s63 h63
   rw [rep_b]
   refine JA_1 3 V<|JB_mk Z trivial Z Z Z Z Z (by simp [ti4];omega) O Z ?_
   intro βf s64 h64
   rw [rep_b]
   refine JA_1 10 V<|Wu Z trivial 3 [_] Y9 (fun _ hx=>sub_mem (sbN (sbN (sbN (sbY (sbY (sbY (sbY (sbY (sbY (sbE _)))))))))) hx)<|JA_1 11 V<|Wu Z trivial 2 [_] Y9 (fun _ hx=>sub_mem (sbN (sbN (sbN (sbY (sbY (sbY (sbY (sbY (sbY (sbE _)))))))))) hx)<|JA_done V ?_
   refine thenQ_n (MidN.mk (β47,β59,βf,βg) [] (h12.t h47|>.t h59|>.t h63|>.t h64) (.cons Z (.cons Z sk)) (List.Perm.trans (front_perm _ 1) (List.Perm.trans (front_perm _ 1) (List.Perm.trans (front_perm _ 2) (front_perm _ 3)))) trivial)
  refine JB_alloc Z trivial Z [_] Z Z ?_
  intro β65 s65 h65
  refine JA_3 3 7 8 V ?_ ?_ ?_
  ·
   refine JB_mk Z trivial Z Z Z Z Z (by simp [ti4];omega) O Z ?_
   intro βf s66 h66
   rw [rep_b]
   refine JA_2 7 8 V ?_ ?_
   ·
    refine JB_mk Z trivial Z Z Z Z Z (by simp [ti4];omega) O Z ?_
    intro βg s67 h67
    rw [rep_b]
    refine JA_1 8 V<|JB_alloc Z trivial Z [_] Z Z ?_
    intro β68 s68 h68
    refine JA_1 10 V<|Wu Z trivial 0 [_] Y9 (fun _ hx=>sub_mem (sbN (sbN (sbN (sbY (sbY (sbY (sbY (sbY (sbY (sbE _)))))))))) hx)<|JA_1 11 V<|Wu Z trivial 3 [_] Y9 (fun _ hx=>sub_mem (sbN (sbN (sbN (sbY (sbY (sbY (sbY (sbY (sbY (sbE _)))))))))) hx)<|JA_done V ?_
    refine thenQ_n (MidN.mk (β68,β65,βf,βg) [] (h12.t h65|>.t h66|>.t h67|>.t h68) (.cons Z (.cons Z sk)) (List.Perm.trans (front_perm _ 1) (List.Perm.trans (front_perm _ 2) (List.Perm.trans (front_perm _ 3) (front_perm _ 3)))) trivial)
   refine JB_alloc Z trivial Z [_] Z Z ?_
   intro β69 s69 h69
   refine JA_2 7 10 V ?_ ?_
   ·
    refine JB_mk Z trivial Z Z Z Z Z (by simp [ti4];omega) O Z ?_
    intro βg s70 h70
    rw [rep_b]
    refine JA_1 10 V<|Wu Z trivial 1 [_] Y9 (fun _ hx=>sub_mem (sbN (sbN (sbN (sbY (sbY (sbY (sbY (sbY (sbY (sbE _)))))))))) hx)<|JA_1 11 V<|Wu Z trivial 3 [_] Y9 (fun _ hx=>sub_mem (sbN (sbN (sbN (sbY (sbY (sbY (sbY (sbY (sbY (sbE _)))))))))) hx)<|JA_done V ?_
    refine thenQ_n (MidN.mk (β69,β65,βf,βg) [] (h12.t h65|>.t h66|>.t h69|>.t h70) (.cons Z (.cons Z sk)) (List.Perm.trans (front_perm _ 0) (List.Perm.trans (front_perm _ 2) (List.Perm.trans (front_perm _ 3) (front_perm _ 3)))) trivial)
   refine Wu Z trivial 0 [_] Y9 (fun _ hx=>sub_mem (sbN (sbN (sbY (sbY (sbY (sbY (sbY (sbY (sbE _))))))))) hx)<|JA_1 7 V<|JB_mk Z trivial Z Z Z Z Z (by simp [ti4];omega) O Z ?_
   intro βg s71 h71
   rw [rep_b]
   refine JA_1 11 V<|Wu Z trivial 3 [_] Y9 (fun _ hx=>sub_mem (sbN (sbN (sbN (sbY (sbY (sbY (sbY (sbY (sbY (sbE _)))))))))) hx)<|JA_done V ?_
   refine thenQ_n (MidN.mk (β69,β65,βf,βg) [] (h12.t h65|>.t h66|>.t h69|>.t h71) (.cons Z (.cons Z sk)) (List.Perm.trans (front_perm _ 0) (List.Perm.trans (front_perm _ 2) (List.Perm.trans (front_perm _ 3) (front_perm _ 3)))) trivial)
  ·
   refine JB_mk Z trivial Z Z Z Z Z (by simp [ti4];omega) O Z ?_
   intro βg s72 h72
   rw [rep_b]
   refine JA_2 3 8 V ?_ ?_
   ·
    refine JB_mk Z trivial Z Z Z Z Z (by simp [ti4];omega) O Z ?_
    intro βf s73 h73
    rw [rep_b]
    refine JA_1 8 V<|JB_alloc Z trivial Z [_] Z Z ?_
    intro β74 s74 h74
    refine JA_1 10 V<|Wu Z trivial 0 [_] Y9 (fun _ hx=>sub_mem (sbN (sbN (sbN (sbY (sbY (sbY (sbY (sbY (sbY (sbE _)))))))))) hx)<|JA_1 11 V<|Wu Z trivial 3 [_] Y9 (fun _ hx=>sub_mem (sbN (sbN (sbN (sbY (sbY (sbY (sbY (sbY (sbY (sbE _)))))))))) hx)<|JA_done V ?_
    refine thenQ_n (MidN.mk (β74,β65,βf,βg) [] (h12.t h65|>.t h72|>.t h73|>.t h74) (.cons Z (.cons Z sk)) (List.Perm.trans (front_perm _ 2) (List.Perm.trans (front_perm _ 2) (List.Perm.trans (front_perm _ 3) (front_perm _ 3)))) trivial)
   refine JB_alloc Z trivial Z [_] Z Z ?_
   intro β75 s75 h75
   refine JA_1 3 V<|JB_mk Z trivial Z Z Z Z Z (by simp [ti4];omega) O Z ?_
   intro βf s76 h76
   rw [rep_b]
   refine JA_1 10 V<|Wu Z trivial 1 [_] Y9 (fun _ hx=>sub_mem (sbN (sbN (sbN (sbY (sbY (sbY (sbY (sbY (sbY (sbE _)))))))))) hx)<|JA_1 11 V<|Wu Z trivial 3 [_] Y9 (fun _ hx=>sub_mem (sbN (sbN (sbN (sbY (sbY (sbY (sbY (sbY (sbY (sbE _)))))))))) hx)<|JA_done V ?_
   refine thenQ_n (MidN.mk (β75,β65,βf,βg) [] (h12.t h65|>.t h72|>.t h75|>.t h76) (.cons Z (.cons Z sk)) (List.Perm.trans (front_perm _ 2) (List.Perm.trans (front_perm _ 1) (List.Perm.trans (front_perm _ 3) (front_perm _ 3)))) trivial)
  refine JB_alloc Z trivial Z [_] Z Z ?_
  intro β77 s77 h77
  refine JA_2 3 7 V ?_ ?_
  ·
   refine JB_mk Z trivial Z Z Z Z Z (by simp [ti4];omega) O Z ?_
   intro βf s78 h78
   rw [rep_b]
   refine JA_2 7 10 V ?_ ?_
   ·
    refine JB_mk Z trivial Z Z Z Z Z (by simp [ti4];omega) O Z ?_
    intro βg s79 h79
    rw [rep_b]
    refine JA_1 10 V<|Wu Z trivial 2 [_] Y9 (fun _ hx=>sub_mem (sbN (sbN (sbN (sbY (sbY (sbY (sbY (sbY (sbY (sbE _)))))))))) hx)<|JA_1 11 V<|Wu Z trivial 3 [_] Y9 (fun _ hx=>sub_mem (sbN (sbN (sbN (sbY (sbY (sbY (sbY (sbY (sbY (sbE _)))))))))) hx)<|JA_done V ?_
    refine thenQ_n (MidN.mk (β77,β65,βf,βg) [] (h12.t h65|>.t h77|>.t h78|>.t h79) (.cons Z (.cons Z sk)) (List.Perm.trans (front_perm _ 0) (List.Perm.trans (front_perm _ 1) (List.Perm.trans (front_perm _ 3) (front_perm _ 3)))) trivial)
   refine Wu Z trivial 1 [_] Y9 (fun _ hx=>sub_mem (sbN (sbN (sbY (sbY (sbY (sbY (sbY (sbY (sbE _))))))))) hx)<|JA_1 7 V<|JB_mk Z trivial Z Z Z Z Z (by simp [ti4];omega) O Z ?_
   intro βg s80 h80
   rw [rep_b]
   refine JA_1 11 V<|Wu Z trivial 3 [_] Y9 (fun _ hx=>sub_mem (sbN (sbN (sbN (sbY (sbY (sbY (sbY (sbY (sbY (sbE _)))))))))) hx)<|JA_done V ?_
   refine thenQ_n (MidN.mk (β77,β65,βf,βg) [] (h12.t h65|>.t h77|>.t h78|>.t h80) (.cons Z (.cons Z sk)) (List.Perm.trans (front_perm _ 0) (List.Perm.trans (front_perm _ 1) (List.Perm.trans (front_perm _ 3) (front_perm _ 3)))) trivial)
  refine JB_mk Z trivial Z Z Z Z Z (by simp [ti4];omega) O Z ?_
  intro βg s81 h81
  rw [rep_b]
  refine JA_1 3 V<|JB_mk Z trivial Z Z Z Z Z (by simp [ti4];omega) O Z ?_
  intro βf s82 h82
  rw [rep_b]
  refine JA_1 10 V<|Wu Z trivial 2 [_] Y9 (fun _ hx=>sub_mem (sbN (sbN (sbN (sbY (sbY (sbY (sbY (sbY (sbY (sbE _)))))))))) hx)<|JA_1 11 V<|Wu Z trivial 3 [_] Y9 (fun _ hx=>sub_mem (sbN (sbN (sbN (sbY (sbY (sbY (sbY (sbY (sbY (sbE _)))))))))) hx)<|JA_done V ?_
  refine thenQ_n (MidN.mk (β77,β65,βf,βg) [] (h12.t h65|>.t h77|>.t h81|>.t h82) (.cons Z (.cons Z sk)) (List.Perm.trans (front_perm _ 1) (List.Perm.trans (front_perm _ 1) (List.Perm.trans (front_perm _ 3) (front_perm _ 3)))) trivial)
 intro g s11 h11 I11
 simp only [cQ9,nQ9]
 obtain ⟨b7,b8,oF,oG⟩:=g
 dsimp only
 refine Sr<|JO_allocZ Z [_] Z Z ?_
 intro β83 s83 h83
 refine Nt<|Sr<|JO_q (QE_func Z) Z<|Wt 0 [_] Y9<|Nt<|Zs<|JC_front 5<|JC_front 7<|JC_front 10<|JC_pubX [] [_,_,_,_,_,_] _ ?_
 intro s84 h84 hpub84
 simp only [cQ9,nQ9]
 have hE:TrE s84 p d _ _ _ _ _ _ oF oG bm Ag Af Ac ng cg nf cf cc:=⟨hpub84 _ _ _ (List.mem_cons_of_mem _ (List.mem_cons_of_mem _ (List.mem_cons_of_mem _ (List.mem_cons_of_mem _ (List.mem_cons_self ..))))),hpub84 _ _ _ (List.mem_cons_of_mem _ (List.mem_cons_of_mem _ (List.mem_cons_self ..))),hpub84 _ _ _ (List.mem_cons_self ..),hpub84 _ _ _ (List.mem_cons_of_mem _ (List.mem_cons_of_mem _ (List.mem_cons_of_mem _ (List.mem_cons_of_mem _ (List.mem_cons_of_mem _ (List.mem_cons_self ..)))))),hpub84 _ _ _ (List.mem_cons_of_mem _ (List.mem_cons_self ..)),hpub84 _ _ _ (List.mem_cons_of_mem _ (List.mem_cons_of_mem _ (List.mem_cons_of_mem _ (List.mem_cons_self ..)))),hM.le (h10.t h11|>.t h83|>.t h84),hGl.le (h1.t h2|>.t h3|>.t h4|>.t h5|>.t h6|>.t h9|>.t h10|>.t h11|>.t h83|>.t h84),hFn.le (h1.t h2|>.t h3|>.t h4|>.t h5|>.t h6|>.t h9|>.t h10|>.t h11|>.t h83|>.t h84),hCl.le (h5.t h6|>.t h9|>.t h10|>.t h11|>.t h83|>.t h84)⟩
   
 refine Zr<|JO_q (QE_ldsR0 Z Z Z (hE.xr.le (Lr D)) Z) Z<|JO_q (QE_fa Z Z Z Z) Z<|JO_q (QE_ldsR 2 Z Z Z (hE.xn.le (Lr D)) Z) Z<|JO_q (QE_cast (QE_lookupN KeyK.str mapTyM Z Z (hMs.le (h10.t h11|>.t h83|>.t h84))) (show (assoc es mainW).getD (.agg #[.int .i64 0,.int .i64 0])=.agg #[.int .i64 4,.int .i64 (mi:Int)] by rw [hes mainW,hmf];rfl)) Z<|JO_q (QE_field Z Z Z Z Z Z Z Z Z) Z ?_
 refine JO_call (first:=[]) (captured:=[_,_,_,_,_,_]) Z Z Z (trc D (nf+1) _ _ p d _ _ _ _ _ _ oF oG bm Ag Af Ac ng cg nf cf cc (hE.le (Lr D)) hV mi (List.replicate nf false) (List.replicate ng false) O (by simp) (by simp) (by rw [falses_rep];omega)) ?_
 rintro _ _ s85 h85 ⟨rfl,F1,G1,rfl,hR⟩
 have hMk:marks p F1 G1:=marks_of hmi hml (by rw [← hn2,← hn1];exact hR)
 have hF1l:=hMk.1
 have hG1l:=hMk.2.1
 refine Nt<|Sr<|JO_allocZ Z [_,_] Z Z ?_
 intro β86 s86 h86
 refine Nt<|Zs<|Sr<|JO_q (QE_ldsA Z Z Z (hE.xp.le (h85.t h86)) Z) Z<|Jc Z Z Z (clonePub_ac D _ _ d p Ag _ ng cg nf cf (hE.gl.le (h85.t h86)) (hE.fn.le (h85.t h86)) hV) ?_
 rintro _ _ s87 h87 ⟨rfl,Cg,Cmg,Ceg,Cf,Cmf,Cef,rfl,ChG,ChF⟩
 refine JO_q (QE_field Z Z Z Z Z Z Z Z Z) Z<|Ws Y4<|Zqm Z Z<|Nt<|Zp<|?_
 refine JC_loop (γ:=Nat×Value×Hl) (fun g=>[(1,_),(2,_),(3,_),(7,_),(8,_),(10,_),(44,_),(45,_),(46,.int .i64 (g.1:Int))]) (fun g=>(β86,cb [g.2.1,.slice none 0 0] 25)::_::_::_::_::_::(g.2.2++L)) (fun g tw=>Le D s87 tw∧(g.1≤Cmg∧∃ css,FL.Own 53 4 g.2.2 g.2.1 (keepB G1 (p.globals.take g.1)).length (List.flatten css)∧All2 (fun x cs=>cs.length=4∧GlR tw x cs) (keepB G1 (p.globals.take g.1)) css)) (fun g=>Cmg - g.1) (fun _ _ _ h hl=>⟨h.1.trans hl,⟨h.2.1,by obtain ⟨css,q1,q2⟩:=h.2.2;exact ⟨css,q1,q2.mono fun _ _ k=>⟨k.1,k.2.le hl⟩⟩⟩⟩) (0,.slice none 0 0,[]) (.cons Z (.cons Z (.cons Z (.cons Z (.cons Z (.cons Z (.cons Z (.cons Z (.cons Z (.nil _)))))))))) Z ⟨Le.refl _,⟨Nat.zero_le _,[],by cases G1 <;> exact FL.Own.nil,by cases G1 <;> exact .nil⟩⟩ ?_
 intro g s88 I88
 obtain ⟨k,vo,Mo⟩:=g
 obtain ⟨hk0,css,hO,hA2⟩:=I88.2
 simp only at hk0 hO hA2
 dsimp only
 obtain ⟨Ao,co,rfl,_,_⟩:=Own.slice hO
 have hkl:=keepB_le G1 (p.globals.take k)
 rw [List.length_take] at hkl
 refine Sr<|Zqlt Z Z Z<|Nt<|Zs<|?_
 refine JC_ifD Z (fun c89=>?_) (fun c89=>?_)
 ·
  have hk:k < Cmg:=by omega
  have hnC:=ChG.1
  obtain ⟨b,off,x,Ai,ni,ci,rfl,hx,hcx,hix,hux,hnl⟩:=Glos.at_ (ChG.le I88.1) hk
  have hkg:k < ng:=by omega
  have hkG:k < G1.length:=by omega
  refine Zk<|Zt<|Zs<|Zp<|Sr<|Zqm Z Z<|JO_q (QE_iaN Z Z Z Z Z Z hk) Z<|JO_q (QE_ldsA Z Z Z (hcx.le (Lr D)) Z) Z<|JO_allocZ Z [_,_,_,_] Z Z ?_
  intro β90 s90 h90
  refine Zqa Z Z<|Wt 0 [_,_,_,_] Y9<|Nt<|Sr<|JO_q (QE_ldsR0 Z Z Z (hE.xg.le (h85.t h86|>.t h87|>.t I88.1|>.t h90)) Z) Z<|Zqm Z Z<|JO_q (QE_ia1 Z Z Z Z Z Z hkg) Z<|JO_q (QE_ld1 3 Z Z Z Z (nth_b hkG)) Z<|Nt<|?_
  refine JC_if Z (fun c91=>?_) (fun c91=>?_)
  ·
   have hgt:=c91
   refine Zr<|W0 Y5<|Wl 1 Y6<|JO_q (QE_ldA 0 [_,_,_,_] Z Z Z Z Z) Z<|JO_bs [(_,_)] [_,_,_,_] Z Z Z Z Z Z Z Z Z ?_
   intro βn s92 h92 hcb
   refine JO_app (sz:=4) [_,_,_,_,_,_,_] Mo L Z Z Z Z Z Z Z hO (Row.of_cells (hcb.le (Lr D)) Z Z) ⟨by simp [ti53];omega,by omega⟩ Z ?_
   intro vq Mq s93 h93 oq
   obtain ⟨Avq,cvq,rfl,_,_⟩:=Own.slice oq
   simp only [cQ9,nQ9]
   refine W0 Y5<|Wt 1 [_,_] Y9<|Zn<|Zb<|Zt<|Zr<|Zqadd Z Z Z (w64 O O)<|Zqm Z Z<|Zn<|?_
   refine thenQ_n ⟨(k+1,.slice Avq ((keepB G1 (p.globals.take k)).length+1) cvq,Mq),[_],kp,Z,⟨(I88.1.t h90|>.t h92|>.t h93),⟨by simp only;omega,css++[[.int .i64 x.kind,St x.name,.int .u32 x.num,.slice Ai ni ci]],by simp only [List.flatten_append,List.flatten_cons,List.flatten_nil,List.append_nil];rw [keepB_take hx,if_pos hgt,List.length_append];exact oq,by simp only;rw [keepB_take hx,if_pos hgt];exact all2_snoc' (hA2.mono fun _ _ k=>⟨k.1,k.2.le (h90.t h92|>.t h93)⟩) ⟨Z,Ai,ni,ci,Z,hix.le (h90.t h92|>.t h93),hux,hnl⟩⟩⟩,(by simp only;omega)⟩
  have hgt:=c91
  refine Zk<|Zb<|Zt<|Zr<|Zqadd Z Z Z (w64 O O)<|Zqm Z Z<|Zn<|?_
  refine thenQ_n ⟨(k+1,_,Mo),[_],kp,Z,⟨(I88.1.t h90),⟨by simp only;omega,css,by simp only;rw [keepB_take hx,if_neg (by rw [hgt];decide),List.append_nil];exact hO,by simp only;rw [keepB_take hx,if_neg (by rw [hgt];decide),List.append_nil];exact hA2.mono fun _ _ k=>⟨k.1,k.2.le h90⟩⟩⟩,(by simp only;omega)⟩
 have hnC:=ChG.1
 obtain rfl:Cmg=k:=by omega
 rw [List.take_of_length_le O] at hO hA2 ⊢
 refine Zl<|Zv<|Zv<|Zd<|Zt<|Zs<|Zs<|JC_pubX [_,_,_,_,_,_] Mo _ ?_
 intro s94 h94 hpub94
 simp only [cQ9,nQ9]
 have hGN:Glos s94 Ao (keepB G1 p.globals).length co (keepB G1 p.globals):=Own.rows hO hpub94 (hA2.mono fun _ _ k=>⟨k.1,k.2.le h94⟩) rfl
 obtain ⟨Go,hGo⟩:∃ Go,Go=Ao:=⟨_,rfl⟩
 obtain ⟨mg2,hmg2⟩:∃ m,m=(keepB G1 p.globals).length:=⟨_,rfl⟩
 obtain ⟨eg2,heg2⟩:∃ eg,eg=co:=⟨_,rfl⟩
 rw [← hGo,← hmg2,← heg2] at hGN ⊢
 clear hGo hmg2 heg2 hO hA2
 refine Zr<|JO_q (QE_ldsA Z Z Z (hE.xp.le (h85.t h86|>.t h87|>.t I88.1|>.t h94)) Z) Z<|Jc Z Z Z (clonePub_ac D _ _ d p Ag _ ng cg nf cf (hE.gl.le (h85.t h86|>.t h87|>.t I88.1|>.t h94)) (hE.fn.le (h85.t h86|>.t h87|>.t I88.1|>.t h94)) hV) ?_
 rintro _ _ s95 h95 ⟨rfl,Eg,Emg,Eeg,Ef,Emf,Eef,rfl,EhG,EhF⟩
 refine JO_q (QE_field Z Z Z Z Z Z Z Z Z) Z<|Ws Y4<|Zqm Z Z<|Nt<|Zp<|?_
 refine JC_loop (γ:=Nat×Value×Hl) (fun g=>[(2,_),(3,_),(7,_),(10,_),(64,_),(65,_),(66,.int .i64 (g.1:Int))]) (fun g=>(β86,cb [.slice Go mg2 eg2,g.2.1] 25)::_::_::_::_::_::(g.2.2++L)) (fun g tw=>Le D s95 tw∧(g.1≤Emf∧∃ css,FL.Own 57 4 g.2.2 g.2.1 (keepB F1 (p.funcs.take g.1)).length (List.flatten css)∧All2 (fun x cs=>cs.length=4∧FnR d tw x cs) (keepB F1 (p.funcs.take g.1)) css)) (fun g=>Emf - g.1) (fun _ _ _ h hl=>⟨h.1.trans hl,⟨h.2.1,by obtain ⟨css,q1,q2⟩:=h.2.2;exact ⟨css,q1,q2.mono fun _ _ k=>⟨k.1,k.2.le hl⟩⟩⟩⟩) (0,.slice none 0 0,[]) (.cons Z (.cons Z (.cons Z (.cons Z (.cons Z (.cons Z (.cons Z (.nil _)))))))) Z ⟨Le.refl _,⟨Nat.zero_le _,[],by cases F1 <;> exact FL.Own.nil,by cases F1 <;> exact .nil⟩⟩ ?_
 intro g s96 I96
 obtain ⟨k,vo,Mo⟩:=g
 obtain ⟨hk0,css,hO,hA2⟩:=I96.2
 simp only at hk0 hO hA2
 dsimp only
 obtain ⟨Ao,co,rfl,_,_⟩:=Own.slice hO
 have hkl:=keepB_le F1 (p.funcs.take k)
 rw [List.length_take] at hkl
 refine Sr<|Zqlt Z Z Z<|Nt<|Zs<|?_
 refine JC_ifD Z (fun c97=>?_) (fun c97=>?_)
 ·
  have hk:k < Emf:=by omega
  have hnE:=EhF.1
  obtain ⟨b,off,x,B1,m1,d1,B2,m2,d2,B3,m3,d3,rfl,hx,hcx,hpx,hlx,hbx,hnl⟩:=Fncs.at_ (EhF.le I96.1) hk
  have hkf:k < nf:=by omega
  have hkF:k < F1.length:=by omega
  refine Zk<|Zt<|Zs<|Zp<|Sr<|Zqm Z Z<|JO_q (QE_iaN Z Z Z Z Z Z hk) Z<|JO_q (QE_ldsA Z Z Z (hcx.le (Lr D)) Z) Z<|JO_allocZ Z [_,_,_,_] Z Z ?_
  intro β98 s98 h98
  refine Zqa Z Z<|Wt 0 [_,_,_,_] Y9<|Nt<|Sr<|JO_q (QE_ldsR0 Z Z Z (hE.xf.le (h85.t h86|>.t h87|>.t I88.1|>.t h94|>.t h95|>.t I96.1|>.t h98)) Z) Z<|Zqm Z Z<|JO_q (QE_ia1 Z Z Z Z Z Z hkf) Z<|JO_q (QE_ld1 2 Z Z Z Z (nth_b hkF)) Z<|Nt<|?_
  refine JC_if Z (fun c99=>?_) (fun c99=>?_)
  ·
   have hgt:=c99
   refine Zr<|Wb Y5<|Wl 1 Y6<|JO_q (QE_ldA 0 [_,_,_,_] Z Z Z Z Z) Z<|JO_bs [(_,_)] [_,_,_,_] Z Z Z Z Z Z Z Z Z ?_
   intro βn s100 h100 hcb
   refine JO_app (sz:=4) [_,_,_,_,_,_,_] Mo L Z Z Z Z Z Z Z hO (Row.of_cells (hcb.le (Lr D)) Z Z) ⟨by simp [ti57];omega,by omega⟩ Z ?_
   intro vq Mq s101 h101 oq
   obtain ⟨Avq,cvq,rfl,_,_⟩:=Own.slice oq
   simp only [cQ9,nQ9]
   refine Wb Y5<|Wt 1 [_,_] Y9<|Zn<|Zb<|Zt<|Zr<|Zqadd Z Z Z (w64 O O)<|Zqm Z Z<|Zn<|?_
   refine thenQ_n ⟨(k+1,.slice Avq ((keepB F1 (p.funcs.take k)).length+1) cvq,Mq),[_],kp,Z,⟨(I96.1.t h98|>.t h100|>.t h101),⟨by simp only;omega,css++[[St x.name,.slice B1 m1 d1,.slice B2 m2 d2,.slice B3 m3 d3]],by simp only [List.flatten_append,List.flatten_cons,List.flatten_nil,List.append_nil];rw [keepB_take hx,if_pos hgt,List.length_append];exact oq,by simp only;rw [keepB_take hx,if_pos hgt];exact all2_snoc' (hA2.mono fun _ _ k=>⟨k.1,k.2.le (h98.t h100|>.t h101)⟩) ⟨Z,B1,m1,d1,B2,m2,d2,B3,m3,d3,Z,hpx.le (h98.t h100|>.t h101),hlx.le (h98.t h100|>.t h101),hbx.le (h98.t h100|>.t h101),hnl⟩⟩⟩,(by simp only;omega)⟩
  have hgt:=c99
  refine Zk<|Zb<|Zt<|Zr<|Zqadd Z Z Z (w64 O O)<|Zqm Z Z<|Zn<|?_
  refine thenQ_n ⟨(k+1,_,Mo),[_],kp,Z,⟨(I96.1.t h98),⟨by simp only;omega,css,by simp only;rw [keepB_take hx,if_neg (by rw [hgt];decide),List.append_nil];exact hO,by simp only;rw [keepB_take hx,if_neg (by rw [hgt];decide),List.append_nil];exact hA2.mono fun _ _ k=>⟨k.1,k.2.le h98⟩⟩⟩,(by simp only;omega)⟩
 have hnE:=EhF.1
 obtain rfl:Emf=k:=by omega
 rw [List.take_of_length_le O] at hO hA2 ⊢
 refine Zl<|Zv<|Zv<|Zd<|Zt<|Sr<|JO_q (QE_ldA 0 [_,_] Z Z Z Z Z) Z<|JO_q (QE_build [] [_,_] Z Z Z Z Z Z) Z<|Wt 5 [_,_] Y9<|Wt 4 [_,_] Y9<|Nt<|Zo<|?_
 refine retQ_mk [_,_,_,_,_,_] _ (.inr Z) (.agg (us:=[_,_]) 5 Z Z Z Z Z (.agg (us:=[_,_]) 4 Z Z Z Z Z (.nil))) Z (h1.t h2|>.t h3|>.t h4|>.t h5|>.t h6|>.t h9|>.t h10|>.t h11|>.t h83|>.t h84|>.t h85|>.t h86|>.t h87|>.t I88.1|>.t h94|>.t h95|>.t I96.1) (fun sR hS2=>?_)
 exact ⟨Mo,rfl,fun s2 hs2 hp=>⟨⟨keepB G1 p.globals,keepB F1 p.funcs⟩,.inr ⟨g4.1,F1,G1,hMk,rfl⟩,_,_,_,_,_,_,by rw [hz0];rfl,hGN.le (h95.t I96.1|>.t (hS2.t hs2)),Own.rows hO hp (hA2.mono fun _ _ k=>⟨k.1,k.2.le ((Lr D).t (hS2.t hs2))⟩) rfl⟩⟩
theorem trim_ac (D:Nat) (L:Hl) (s:World) (hG:GP s) (d:Nat) (p:Prg) (Ag Af:Option Addr) (ng cg nf cf:Nat) (hGl:Glos s Ag ng cg p.globals) (hFn:Fncs d s Af nf cf p.funcs):AC Tryz.prog D 16 [.agg #[.slice Ag ng cg,.slice Af nf cf]] L s fun v L' s'=>L=L'∧∃ q,TrimR p q∧∃ Bg mg eg Bf mf ef,v=.tuple #[.agg #[.slice Bg mg eg,.slice Bf mf ef],.agg #[.int .i64 (chkF p).1,.int .i64 (chkF p).2]]∧Glos s' Bg mg eg q.globals∧Fncs d s' Bf mf ef q.funcs:=AC.pubW (trimO_ac D L s hG d p Ag Af ng cg nf cf hGl hFn)
def gnumOf (p:Prg) (i:Int):Int:=match p.globals[i.toNat]? with
  | some g=>g.num
  | none=>0
theorem gnumOf_at {p:Prg} {k:Nat} {x:Glo} (h:p.globals[k]?=some x):gnumOf p (k:Int)=x.num:=by rw [gnumOf,Int.toNat_natCast,h]
def numP (p:Prg) (f:Fnc) (x:Ex):Option Int:=
  if x.kind=2 then (if (meanP p f x.name).1.1=3∧gkOf p (meanP p f x.name).1.2=1 then some (gnumOf p (meanP p f x.name).1.2) else none)
  else if x.kind=6 then (match x.args with
    | a::_=>if a.kind=1∧(oprF x.op 0).1=0 then some (opP x.op a.num 0) else none
    | []=>none)
  else if x.kind=7 then (match x.args with
    | a::b::_=>if a.kind=1 then (if b.kind=1 then (if (oprF x.op b.num).1=0 then some (opP x.op a.num b.num) else none) else if x.op=20∧a.num=0 then some 0 else if x.op=21∧a.num≠0 then some 1 else none) else none
    | _=>none)
  else none
theorem num_6 {p:Prg} {f:Fnc} {x a:Ex} (h2:¬ x.kind=2) (h6:x.kind=6) (ha:x.args[0]?=some a):numP p f x=if a.kind=1∧(oprF x.op 0).1=0 then some (opP x.op a.num 0) else none:=by
  rw [numP,if_neg h2,if_pos h6]
  cases h:x.args with
  | nil=>rw [h] at ha;cases ha
  | cons y r=>rw [h] at ha;simp at ha;subst ha;rfl
theorem num_7 {p:Prg} {f:Fnc} {x a b:Ex} (h2:¬ x.kind=2) (h6:¬ x.kind=6) (h7:x.kind=7) (ha:x.args[0]?=some a) (hb:x.args[1]?=some b):numP p f x=if a.kind=1 then (if b.kind=1 then (if (oprF x.op b.num).1=0 then some (opP x.op a.num b.num) else none) else if x.op=20∧a.num=0 then some 0 else if x.op=21∧a.num≠0 then some 1 else none) else none:=by
  rw [numP,if_neg h2,if_neg h6,if_pos h7]
  cases h:x.args with
  | nil=>rw [h] at ha;cases ha
  | cons y r=>
    cases r with
    | nil=>rw [h] at hb;cases hb
    | cons z r=>rw [h] at ha hb;simp at ha hb;subst ha;subst hb;rfl
theorem num_o {c:Int×Int} {v:Int} (hc:c.1=0→c=(0,0)):Value.tuple #[.int .u32 (if c.1=0 then v else 0),.bool (decide (c.1=0∧c.2=0))]=.tuple #[.int .u32 ((if c.1=0 then some v else none:Option Int).getD 0),.bool (if c.1=0 then some v else none:Option Int).isSome]:=by
  by_cases h:c.1=0
  · have:=hc h;simp [this]
  · simp [h]
theorem opr_00 {k y:Int} (h:(oprF k y).1=0):oprF k y=(0,0):=by
  unfold oprF at h ⊢
  split at h
  · cases h
  rename_i h1
  rw [if_neg h1]
  split at h
  · cases h
  rename_i h2
  rw [if_neg h2]
theorem isn_ac (D:Nat) (L:Hl) (s:World) (bx d:Nat) (k o u:Int) (nm:List UInt8) (A:Option Addr) (n c i:Nat) (xs:List Ex) (hA:Exs d s A n c xs) (a:Ex) (ha:xs[i]?=some a):AC Tryz.prog D 151 [.int .i64 (i:Int),.pointer (some ⟨bx,0,none⟩)] ((bx,cb [.int .i64 k,.int .i64 o,.int .u32 u,St nm,.slice A n c] 89)::L) s fun v L' _=>v=.bool (decide (a.kind=1))∧L'=(bx,cb [.int .i64 k,.int .i64 o,.int .u32 u,St nm,.slice A n c] 89)::L:=by
 have hi:i < n:=by rw [hA.1];exact (List.getElem?_eq_some_iff.1 ha).1
 obtain ⟨e,b,off,y,A',n',c',hd,rfl,hy,hcy,hay,huy,hnl⟩:=Exs.at_ hA hi
 obtain rfl:a=y:=by rw [ha] at hy;injection hy
 refine AC_enter (TT:=TT) (fn:=Tryz.f151) TT_ok Tryz.func151 V Z Tryz.ntmps151 Z (rs:=[.tmp 3]) Z [(0,_),(1,_)] Z<|Sr<|At Z Z<|Sr<|Wb Y5<|Wl 0 Y6<|Zqm Z Z<|JO_q (QE_iaN Z Z Z Z Z Z hi) Z<|W0 Y5<|JO_q (QE_ldsR0 Z Z Z (hcy.le (Lr D)) Z) Z<|Zqeq Z Z Z<|At Z Z<|Zo<|?_
 refine retQ_mk [] _ (.inr Z) (.tmp Z (.nil)) Z (Lr D) (fun sR hS2=>?_)
 exact ⟨rfl,rfl⟩
theorem number2_ac (D:Nat) (L:Hl) (s:World) (bm:Nat) (Ag Af:Option Addr) (ng cg nf cf:Nat) (p:Prg) (hM:NmOK s bm p) (hGl:Glos s Ag ng cg p.globals) (f:Fnc) (B1 B2 B3:Option Addr) (m1 d1 m2 d2 m3 d3:Nat) (hpx:Strs s B1 m1 d1 f.params) (hlx:Strs s B2 m2 d2 f.locals) (d:Nat) (x:Ex) (A:Option Addr) (n c:Nat) (hA:Exs d s A n c x.args) (hl6:x.kind=6→1≤x.args.length) (hl7:x.kind=7→2≤x.args.length):AC Tryz.prog D 111 [.agg #[.slice Ag ng cg,.slice Af nf cf,.map (some bm),St f.name,.slice B1 m1 d1,.slice B2 m2 d2,.slice B3 m3 d3],.agg #[.int .i64 x.kind,.int .i64 x.op,.int .u32 x.num,St x.name,.slice A n c]] L s fun v L' _=>v=.tuple #[.int .u32 ((numP p f x).getD 0),.bool (numP p f x).isSome]∧L=L':=by
 have hn1:=hGl.1
 have hn9:=hA.1
 refine AC_enter (TT:=TT) (fn:=Tryz.f111) TT_ok Tryz.func111 V Z Tryz.ntmps111 Z (rs:=[.tmp 4,.tmp 5]) Z [(0,_),(1,_)] Z<|Sr<|JO_boxA Z Z ?_
 intro β1 s1 h1
 refine JO_boxA Z Z ?_
 intro β2 s2 h2
 refine Zqa Z Z<|At Z Z<|Sr<|JO_q (QE_func Z) Z<|At Z Z<|Zs<|Sr<|W0 Y5<|Wl 0 Y6<|Nt<|Zp<|Sr<|Zqeq Z Z Z<|At Z Z<|?_
 refine JC_ifD Z (fun c3=>?_) (fun c3=>?_)
 ·
  have g2:=c3
  refine Sr<|W0 Y5<|JO_q (QE_ldA 1 [_,_,_] Z Z Z Z Z) Z<|Wb Y5<|JO_q (QE_ldA 1 [_,_,_,_] Z Z Z Z Z) Z<|Wb Y5<|Wl 0 Y6<|Jc Z Z Z (mean_ac D _ _ p Ag Af ng cg nf cf bm (hM.le (h1.t h2)) f B1 B2 B3 m1 d1 m2 d2 m3 d3 (hpx.le (h1.t h2)) (hlx.le (h1.t h2)) x.name) ?_
  rintro _ _ s4 h4 ⟨rfl,rfl⟩
  refine Zqm Z Z<|Zqx Z Z Z<|Zqx Z Z Z<|JO_allocZ Z [_,_] Z Z ?_
  intro β5 s5 h5
  refine Wt 0 [_,_] Y9<|At Z Z<|Zs<|Zs<|?_
  rcases Classical.em ((meanP p f x.name).1.1=3) with g3 | g3
  ·
   have hk3:∃ k:Nat,(meanP p f x.name).1.2=(k:Int)∧k < p.globals.length:=by
     cases h3:(meanP p f x.name).2 with
     | false=>rw [mean_zero h3] at g3;cases g3
     | true=>
       rcases mean_kind h3 with q4 | ⟨_,q4⟩ | ⟨q4,_⟩
       · rw [g3] at q4;rcases q4 with q4 | q4 <;> cases q4
       · exact q4
       · rw [g3] at q4;cases q4
   obtain ⟨gi,hgi,hgl⟩:=hk3
   obtain ⟨b,off,z,Ai,ni,ci,rfl,hz,hcz,hiz,huz,hnz⟩:=Glos.at_ (hGl.le (h1.t h2|>.t h4|>.t h5)) (show gi < ng by omega)
   have hgk:=gkOf_at hz
   have hgn:=gnumOf_at hz
   refine Zr<|W0 Y5<|Wl 0 Y6<|JO_q (QE_cast (v':=.bool false) (QE_ne Z Z) (bF g3)) Z<|Zqm Z Z<|Zg Z Z<|W0 Y5<|Zg Z Z<|W0 Y5<|Zg Z Z<|W0 Y5<|Zg Z Z<|Wl 2 Y6<|Zg Z Z<|Wb Y5<|Zg Z Z<|Wl 0 Y6<|Zg Z Z<|JO_q (QE_iaN (j:=gi) Z (show lk _ _=some (.int .i64 (gi:Int)) from by rw [← hgi];rfl) Z Z Z Z (show gi < ng by omega)) Z<|Zg Z Z<|W0 Y5<|Zg Z Z<|JO_q (QE_ldsR0 Z Z Z (hcz.le (Lr D)) Z) Z<|Zg Z Z<|Zqne Z Z Z<|ZqF Z Z Z<|Nt<|?_
   refine JC_ifN Z (fun c6=>?_) (fun c6=>?_)
   ·
    have hE:numP p f x=none:=by rw [numP,if_pos g2,if_neg];rintro ⟨q1,q2⟩;rw [hgi,hgk] at q2;exact c6 q2
    refine Sr<|Zqa Z Z<|At Z Z<|Zo<|Zu<|Zc<|Zu<|?_
    refine retQ_mk [_,_,_] L (.inr Z) (.tmp Z (.tmp Z (.nil))) Z (h1.t h2|>.t h4|>.t h5) (fun sR hS2=>?_)
    exact ⟨by rw [hE];rfl,rfl⟩
   have hE:numP p f x=some z.num:=by rw [numP,if_pos g2,if_pos ⟨g3,by rw [hgi,hgk];exact c6⟩,hgi,hgn]
   refine Zk<|Zt<|Sr<|W0 Y5<|W0 Y5<|W0 Y5<|Wl 2 Y6<|Wb Y5<|Wl 0 Y6<|JO_q (QE_iaN (j:=gi) Z (show lk _ _=some (.int .i64 (gi:Int)) from by rw [← hgi];rfl) Z Z Z Z (show gi < ng by omega)) Z<|JO_q (QE_fa Z Z Z Z) Z<|JO_q (QE_ldsR 2 Z Z Z (hcz.le (Lr D)) Z) Z<|Zqa Z Z<|At Z Z<|Zo<|Zc<|Zu<|?_
   refine retQ_mk [_,_,_] L (.inr Z) (.tmp Z (.tmp Z (.nil))) Z (h1.t h2|>.t h4|>.t h5) (fun sR hS2=>?_)
   exact ⟨by rw [hE];rfl,rfl⟩
  refine Zr<|W0 Y5<|Wl 0 Y6<|JO_q (QE_cast (v':=.bool true) (QE_ne Z Z) (bN g3)) Z<|Zqm Z Z<|Wf Y4<|Wf Y4<|Wf Y4<|Wf Y4<|Wf Y4<|Wf Y4<|Wf Y4<|Wf Y4<|Wf Y4<|Wf Y4<|ZqT Z Z Z<|Nt<|Zy Z<|?_
  have hE:numP p f x=none:=by rw [numP,if_pos g2,if_neg];rintro ⟨q1,q2⟩;exact g3 q1
  refine Sr<|Zqa Z Z<|At Z Z<|Zo<|Zu<|Zc<|Zu<|?_
  refine retQ_mk [_,_,_] L (.inr Z) (.tmp Z (.tmp Z (.nil))) Z (h1.t h2|>.t h4|>.t h5) (fun sR hS2=>?_)
  exact ⟨by rw [hE];rfl,rfl⟩
 have g2:=c3
 refine Sr<|Zqeq Z Z Z<|At Z Z<|?_
 refine JC_ifD Z (fun c7=>?_) (fun c7=>?_)
 ·
  have g6:=c7
  have h0n:0 < n:=by have:=hl6 g6;omega
  obtain ⟨e,b,off,a,A',n',c',hd,rfl,ha,hca,_,hua,_⟩:=Exs.at_ (hA.le (h1.t h2)) h0n
  have hE6:=num_6 (p:=p) (f:=f) g2 g6 ha
  refine Zs<|Sr<|Zqm Z Z<|JO_call (first:=[]) (captured:=[_]) Z Z Z (isn_ac D _ _ _ d _ _ _ _ _ n c 0 x.args (hA.le (h1.t h2)) a ha) ?_
  rintro _ _ s8 h8 ⟨rfl,rfl⟩
  refine Zqno Z Z<|Nt<|?_
  refine JC_ifN Z (fun c9=>?_) (fun c9=>?_)
  ·
   have hE:numP p f x=none:=by rw [hE6,if_neg (fun h=>c9 h.1)]
   refine Sr<|Zqa Z Z<|At Z Z<|Zo<|Zu<|Zc<|Zu<|?_
   refine retQ_mk [_,_] L (.inr Z) (.tmp Z (.tmp Z (.nil))) Z (h1.t h2|>.t h8) (fun sR hS2=>?_)
   exact ⟨by rw [hE];rfl,rfl⟩
  have g57:=c9
  have hE9:numP p f x=if (oprF x.op 0).1=0 then some (opP x.op a.num 0) else none:=by
    rw [hE6]
    by_cases h:(oprF x.op 0).1=0
    · rw [if_pos ⟨g57,h⟩,if_pos h]
    · rw [if_neg (fun k=>h k.2),if_neg h]
  refine Zk<|Zt<|Zs<|JC_draw drawsMixed 14 Z _ (fun _ h=>h) ?_
  intro s10 h10
  refine za 0 Z (We Y4) Z<|za 1 Z (Wd 0 Y5) Z<|za 2 Z (We Y4) Z<|za 3 Z (Wd 0 Y5) Z<|za 4 Z (QE_iaN (j:=0) Z Z Z Z Z Z h0n) Z<|za 5 Z (QE_fa Z Z Z Z) Z<|za 6 Z (QE_ldsR 2 Z Z Z (hca.le (h8.t h10)) Z) Z ?_
  refine JA_2 7 11 V ?_ ?_
  ·
   refine Jb Z trivial Z Z Z (operate_ac D _ _ x.op a.num 0 hua ⟨by decide,by decide⟩) ?_
   rintro _ _ s11 h11 ⟨rfl,rfl⟩
   refine ⟨fun _ _ h=>h,?_⟩
   refine za 8 Z (QE_mv Z) Z<|za 9 Z (QE_ext Z Z) Z<|za 10 Z (QE_ext Z Z) Z<|JA_1 11 V<|JB_alloc Z trivial Z [_,_] Z Z ?_
   intro β12 s12 h12
   refine za 12 Z (QE_as Z) Z<|JA_1 13 V<|Wu Z trivial 0 [_,_] Y9 (fun _ hx=>sub_mem (sbY (sbY (sbE _))) hx)<|JA_done V<|Zt<|Zs<|JC_draw drawsMixed 6 Z _ (fun _ h=>h) ?_
   intro s13 h13
   refine za 0 Z (QE_mv Z) Z<|za 1 Z (QE_ldA 0 [_,_] Z Z Z Z Z) Z<|za 2 Z (QE_build [] [_,_] Z Z Z Z Z Z) Z<|za 3 Z (QE_aeq Z Z (eqFault _ _ _ _)) Z<|za 4 Z (QE_as Z) Z<|za 5 Z (QE_as Z) Z<|JA_done V<|Zt<|Zo<|Zc<|Zu<|?_
   refine retQ_mk [_,_,_] L (.inr Z) (.tmp Z (.tmp Z (.nil))) Z (h1.t h2|>.t h8|>.t h10|>.t h11|>.t h12|>.t h13) (fun sR hS2=>?_)
   exact ⟨by rw [hE9];exact num_o opr_00,rfl⟩
  refine JB_alloc Z trivial Z [_,_] Z Z ?_
  intro β14 s14 h14
  refine JA_1 7 V<|Jb Z trivial Z Z Z (operate_ac D _ _ x.op a.num 0 hua ⟨by decide,by decide⟩) ?_
  rintro _ _ s15 h15 ⟨rfl,rfl⟩
  refine ⟨fun _ _ h=>h,?_⟩
  refine za 8 Z (QE_mv Z) Z<|za 9 Z (QE_ext Z Z) Z<|za 10 Z (QE_ext Z Z) Z<|za 12 Z (QE_as Z) Z<|JA_1 13 V<|Wu Z trivial 0 [_,_] Y9 (fun _ hx=>sub_mem (sbY (sbY (sbE _))) hx)<|JA_done V<|Zt<|Zs<|JC_draw drawsMixed 6 Z _ (fun _ h=>h) ?_
  intro s16 h16
  refine za 0 Z (QE_mv Z) Z<|za 1 Z (QE_ldA 0 [_,_] Z Z Z Z Z) Z<|za 2 Z (QE_build [] [_,_] Z Z Z Z Z Z) Z<|za 3 Z (QE_aeq Z Z (eqFault _ _ _ _)) Z<|za 4 Z (QE_as Z) Z<|za 5 Z (QE_as Z) Z<|JA_done V<|Zt<|Zo<|Zc<|Zu<|?_
  refine retQ_mk [_,_,_] L (.inr Z) (.tmp Z (.tmp Z (.nil))) Z (h1.t h2|>.t h8|>.t h10|>.t h14|>.t h15|>.t h16) (fun sR hS2=>?_)
  exact ⟨by rw [hE9];exact num_o opr_00,rfl⟩
 have g6:=c7
 refine Sr<|Zqeq Z Z Z<|At Z Z<|?_
 refine JC_ifD Z (fun c17=>?_) (fun c17=>?_)
 ·
  have g7:=c17
  have h0n:0 < n:=by have:=hl7 g7;omega
  have h1n:1 < n:=by have:=hl7 g7;omega
  obtain ⟨e,b0,off,a,A',n',c',hd,rfl,ha,hca,_,hua,_⟩:=Exs.at_ (hA.le (h1.t h2)) h0n
  obtain ⟨e2,b02,off2,b,A2',n2',c2',hd2,hA2,hb,hcb,_,hub,_⟩:=Exs.at_ (hA.le (h1.t h2)) h1n
  injection hA2 with hA2
  injection hA2 with hA3 hA4
  subst hA3;subst hA4
  have hE7:=num_7 (p:=p) (f:=f) g2 g6 g7 ha hb
  refine Zs<|Sr<|Zqm Z Z<|JO_call (first:=[]) (captured:=[_]) Z Z Z (isn_ac D _ _ _ d _ _ _ _ _ n c 0 x.args (hA.le (h1.t h2)) a ha) ?_
  rintro _ _ s18 h18 ⟨rfl,rfl⟩
  refine Zqno Z Z<|Nt<|?_
  refine JC_ifN Z (fun c19=>?_) (fun c19=>?_)
  ·
   have hE:numP p f x=none:=by rw [hE7,if_neg c19]
   refine Sr<|Zqa Z Z<|At Z Z<|Zo<|Zu<|Zc<|Zu<|?_
   refine retQ_mk [_,_] L (.inr Z) (.tmp Z (.tmp Z (.nil))) Z (h1.t h2|>.t h18) (fun sR hS2=>?_)
   exact ⟨by rw [hE];rfl,rfl⟩
  rw [if_pos c19] at hE7
  refine Zk<|Zt<|Sr<|Wb Y5<|Wl 0 Y6<|JO_q (QE_iaN (j:=0) Z Z Z Z Z Z h0n) Z<|JO_q (QE_fa Z Z Z Z) Z<|JO_q (QE_ldsR 2 Z Z Z (hca.le h18) Z) Z<|At Z Z<|Zp<|Sr<|Zqm Z Z<|JO_call (first:=[]) (captured:=[_]) Z Z Z (isn_ac D _ _ _ d _ _ _ _ _ n c 1 x.args (hA.le (h1.t h2|>.t h18)) b hb) ?_
  rintro _ _ s20 h20 ⟨rfl,rfl⟩
  refine At Z Z<|?_
  refine JC_ifD Z (fun c21=>?_) (fun c21=>?_)
  ·
   have hE9:numP p f x=if (oprF x.op b.num).1=0 then some (opP x.op a.num b.num) else none:=by rw [hE7,if_pos c21]
   refine Zs<|JC_draw drawsMixed 15 Z _ (fun _ h=>h) ?_
   intro s22 h22
   refine za 0 Z (We Y4) Z<|za 1 Z (Wd 0 Y5) Z<|za 2 Z (QE_mv Z) Z<|za 3 Z (We Y4) Z<|za 4 Z (Wd 0 Y5) Z<|za 5 Z (QE_iaN (j:=1) Z Z Z Z Z Z h1n) Z<|za 6 Z (QE_fa Z Z Z Z) Z<|za 7 Z (QE_ldsR 2 Z Z Z (hcb.le (h18.t h20|>.t h22)) Z) Z ?_
   refine JA_2 8 12 V ?_ ?_
   ·
    refine Jb Z trivial Z Z Z (operate_ac D _ _ x.op a.num b.num hua hub) ?_
    rintro _ _ s23 h23 ⟨rfl,rfl⟩
    refine ⟨fun _ _ h=>h,?_⟩
    refine za 9 Z (QE_mv Z) Z<|za 10 Z (QE_ext Z Z) Z<|za 11 Z (QE_ext Z Z) Z<|JA_1 12 V<|JB_alloc Z trivial Z [_,_] Z Z ?_
    intro β24 s24 h24
    refine za 13 Z (QE_as Z) Z<|JA_1 14 V<|Wu Z trivial 0 [_,_] Y9 (fun _ hx=>sub_mem (sbY (sbY (sbE _))) hx)<|JA_done V<|Zt<|Zs<|JC_draw drawsMixed 6 Z _ (fun _ h=>h) ?_
    intro s25 h25
    refine za 0 Z (QE_mv Z) Z<|za 1 Z (QE_ldA 0 [_,_] Z Z Z Z Z) Z<|za 2 Z (QE_build [] [_,_] Z Z Z Z Z Z) Z<|za 3 Z (QE_aeq Z Z (eqFault _ _ _ _)) Z<|za 4 Z (QE_as Z) Z<|za 5 Z (QE_as Z) Z<|JA_done V<|Zt<|Zo<|Zc<|Zc<|Zu<|?_
    refine retQ_mk [_,_,_] L (.inr Z) (.tmp Z (.tmp Z (.nil))) Z (h1.t h2|>.t h18|>.t h20|>.t h22|>.t h23|>.t h24|>.t h25) (fun sR hS2=>?_)
    exact ⟨by rw [hE9];exact num_o opr_00,rfl⟩
   refine JB_alloc Z trivial Z [_,_] Z Z ?_
   intro β26 s26 h26
   refine JA_1 8 V<|Jb Z trivial Z Z Z (operate_ac D _ _ x.op a.num b.num hua hub) ?_
   rintro _ _ s27 h27 ⟨rfl,rfl⟩
   refine ⟨fun _ _ h=>h,?_⟩
   refine za 9 Z (QE_mv Z) Z<|za 10 Z (QE_ext Z Z) Z<|za 11 Z (QE_ext Z Z) Z<|za 13 Z (QE_as Z) Z<|JA_1 14 V<|Wu Z trivial 0 [_,_] Y9 (fun _ hx=>sub_mem (sbY (sbY (sbE _))) hx)<|JA_done V<|Zt<|Zs<|JC_draw drawsMixed 6 Z _ (fun _ h=>h) ?_
   intro s28 h28
   refine za 0 Z (QE_mv Z) Z<|za 1 Z (QE_ldA 0 [_,_] Z Z Z Z Z) Z<|za 2 Z (QE_build [] [_,_] Z Z Z Z Z Z) Z<|za 3 Z (QE_aeq Z Z (eqFault _ _ _ _)) Z<|za 4 Z (QE_as Z) Z<|za 5 Z (QE_as Z) Z<|JA_done V<|Zt<|Zo<|Zc<|Zc<|Zu<|?_
   refine retQ_mk [_,_,_] L (.inr Z) (.tmp Z (.tmp Z (.nil))) Z (h1.t h2|>.t h18|>.t h20|>.t h22|>.t h26|>.t h27|>.t h28) (fun sR hS2=>?_)
   exact ⟨by rw [hE9];exact num_o opr_00,rfl⟩
  rw [if_neg c21] at hE7
  refine JC_cutB 102 (x.op=20∧a.num=0) ?_ ?_
  ·
   refine Zr<|Wb Y5<|Wl 0 Y6<|Zqeq Z Z Z<|Zqm Z Z<|?_
   refine JO_caseD (t:=106) Z (fun c30=>?_) (fun c30=>?_)
   ·
    refine Zg Z Z<|Zqm Z Z<|Zg Z Z<|Zqeq Z Z Z<|ZqT Z Z Z<|Zqa Z Z<|Zn<|?_
    refine thenQ_n (MidB.mk (Lr D) Sb Z (decide_eq_decide.2 O))
   refine Wf Y4<|Wf Y4<|ZqF Z Z Z<|Zqa Z Z<|Zn<|?_
   refine thenQ_n (MidB.mk (Lr D) Sb Z ((decide_eq_false O).symm))
  intro s29 h29
  refine JC_ifD Z (fun c31=>?_) (fun c31=>?_)
  ·
   have hE:numP p f x=some 0:=by rw [hE7,if_pos c31]
   refine Sr<|Zqa Z Z<|At Z Z<|Zo<|Zc<|Zc<|Zu<|?_
   refine retQ_mk [_,_] L (.inr Z) (.tmp Z (.tmp Z (.nil))) Z (h1.t h2|>.t h18|>.t h20|>.t h29) (fun sR hS2=>?_)
   exact ⟨by rw [hE];rfl,rfl⟩
  rw [if_neg c31] at hE7
  refine JC_cutB 110 (x.op=21∧a.num≠0) ?_ ?_
  ·
   refine Zr<|Wb Y5<|Wl 0 Y6<|Zqeq Z Z Z<|Zqm Z Z<|?_
   refine JO_caseD (t:=114) Z (fun c33=>?_) (fun c33=>?_)
   ·
    refine Zg Z Z<|Zqm Z Z<|Zg Z Z<|Zqne Z Z Z<|ZqT Z Z Z<|Zqa Z Z<|Zn<|?_
    refine thenQ_n (MidB.mk (Lr D) Sb Z (ndec_eq O))
   refine Wf Y4<|Wf Y4<|ZqF Z Z Z<|Zqa Z Z<|Zn<|?_
   refine thenQ_n (MidB.mk (Lr D) Sb Z ((decide_eq_false O).symm))
  intro s32 h32
  refine JC_ifD Z (fun c34=>?_) (fun c34=>?_)
  ·
   have hE:numP p f x=some 1:=by rw [hE7,if_pos c34]
   refine Sr<|Zqa Z Z<|At Z Z<|Zo<|Zc<|Zc<|Zu<|?_
   refine retQ_mk [_,_] L (.inr Z) (.tmp Z (.tmp Z (.nil))) Z (h1.t h2|>.t h18|>.t h20|>.t h29|>.t h32) (fun sR hS2=>?_)
   exact ⟨by rw [hE];rfl,rfl⟩
  have hE:numP p f x=none:=by rw [hE7,if_neg c34]
  refine Zk<|Zb<|Zb<|Zt<|Sr<|Zqa Z Z<|At Z Z<|Zo<|?_
  refine retQ_mk [_,_] L (.inr Z) (.tmp Z (.tmp Z (.nil))) Z (h1.t h2|>.t h18|>.t h20|>.t h29|>.t h32) (fun sR hS2=>?_)
  exact ⟨by rw [hE];rfl,rfl⟩
 have hE:numP p f x=none:=by rw [numP,if_neg g2,if_neg g6,if_neg c17]
 refine Zk<|Zb<|Zt<|Sr<|Zqa Z Z<|At Z Z<|Zo<|?_
 refine retQ_mk [_,_] L (.inr Z) (.tmp Z (.tmp Z (.nil))) Z (h1.t h2) (fun sR hS2=>?_)
 exact ⟨by rw [hE];rfl,rfl⟩
mutual
def fdX (p:Prg) (f:Fnc):Ex→Ex
  | .mk k o n nm ar=>match numP p f (.mk k o n nm (fdXs p f ar)) with
    | some v=>.mk 1 0 v [] []
    | none=>.mk k o n nm (fdXs p f ar)
def fdXs (p:Prg) (f:Fnc):List Ex→List Ex
  | []=>[]
  | x::r=>fdX p f x::fdXs p f r
end
theorem fdXs_map (p:Prg) (f:Fnc):∀ l:List Ex,fdXs p f l=l.map (fdX p f)
  | []=>rfl
  | x::r=>by rw [fdXs,fdXs_map p f r];rfl
theorem fdXs_len (p:Prg) (f:Fnc) (l:List Ex):(fdXs p f l).length=l.length:=by rw [fdXs_map,List.length_map]
def Ex.withA (x:Ex) (l:List Ex):Ex:=.mk x.kind x.op x.num x.name l
theorem fdX_some {p:Prg} {f:Fnc} {x:Ex} {v:Int} (h:numP p f (x.withA (fdXs p f x.args))=some v):fdX p f x=.mk 1 0 v [] []:=by
  cases x;rw [fdX];simp only [Ex.withA,Ex.kind,Ex.op,Ex.num,Ex.name,Ex.args] at h;rw [h]
theorem fdX_none {p:Prg} {f:Fnc} {x:Ex} (h:numP p f (x.withA (fdXs p f x.args))=none):fdX p f x=x.withA (fdXs p f x.args):=by
  cases x;rw [fdX];simp only [Ex.withA,Ex.kind,Ex.op,Ex.num,Ex.name,Ex.args] at h ⊢;rw [h]
theorem w32_v (a:Int):U32 (w32 a):=by unfold w32;exact ⟨by omega,by omega⟩
theorem opP_u {k x y:Int} (hx:U32 x) (hy:U32 y):U32 (opP k x y):=by
  have hX:x.toNat < 4294967296:=by have:=hx.2;omega
  have hY:y.toNat < 4294967296:=by have:=hy.2;omega
  rw [opP]
  by_cases g0:14≤k∨k=1
  · rw [if_pos g0]
    by_cases h:holdB k x y=true
    · rw [if_pos h];exact ⟨by decide,by decide⟩
    · rw [if_neg h];exact ⟨by decide,by decide⟩
  rw [if_neg g0]
  by_cases g2:k=2
  · rw [if_pos g2];exact w32_v _
  rw [if_neg g2]
  by_cases g3:k=3
  · rw [if_pos g3];have:=hx.1;have:=hx.2;exact ⟨by omega,by omega⟩
  rw [if_neg g3]
  by_cases g4:k=4
  · rw [if_pos g4];exact w32_v _
  rw [if_neg g4]
  by_cases g5:k=5
  · rw [if_pos g5];exact ⟨Int.ediv_nonneg hx.1 hy.1,Int.lt_of_le_of_lt (Int.ediv_le_self _ hx.1) hx.2⟩
  rw [if_neg g5]
  by_cases g6:k=6
  · rw [if_pos g6]
    rcases Int.lt_or_eq_of_le hy.1 with h5 | h5
    · exact ⟨Int.emod_nonneg _ O,Int.lt_trans (Int.emod_lt_of_pos _ h5) hy.2⟩
    · rw [← h5,Int.emod_zero];exact hx
  rw [if_neg g6]
  by_cases g7:k=7
  · rw [if_pos g7]
    have:=Nat.mod_lt (x.toNat <<< y.toNat) (show 0 < 4294967296 by omega)
    exact ⟨Int.natCast_nonneg _,by omega⟩
  rw [if_neg g7]
  by_cases g8:k=8
  · rw [if_pos g8]
    have:x.toNat >>> y.toNat≤x.toNat:=Nat.shiftRight_le _ _
    exact ⟨Int.natCast_nonneg _,by omega⟩
  rw [if_neg g8]
  by_cases g9:k=9
  · rw [if_pos g9]
    have:x.toNat &&& y.toNat≤x.toNat:=Nat.and_le_left
    exact ⟨Int.natCast_nonneg _,by omega⟩
  rw [if_neg g9]
  by_cases g10:k=10
  · rw [if_pos g10];exact w32_v _
  rw [if_neg g10]
  by_cases g11:k=11
  · rw [if_pos g11];exact w32_v _
  rw [if_neg g11]
  by_cases g12:k=12
  · rw [if_pos g12]
    have:x.toNat ||| y.toNat < 2 ^ 32:=Nat.or_lt_two_pow hX hY
    exact ⟨Int.natCast_nonneg _,by omega⟩
  rw [if_neg g12]
  have:x.toNat ^^^ y.toNat < 2 ^ 32:=Nat.xor_lt_two_pow hX hY
  exact ⟨Int.natCast_nonneg _,by omega⟩
theorem num_u {p:Prg} {f:Fnc} {x:Ex} {v:Int} (hg:∀ g∈p.globals,U32 g.num) (ha:∀ a∈x.args,U32 a.num) (h:numP p f x=some v):U32 v:=by
  unfold numP at h
  split at h
  · split at h
    · injection h with h;subst h
      unfold gnumOf;split
      · rename_i g hgx;exact hg g (List.mem_of_getElem? hgx)
      · exact ⟨by decide,by decide⟩
    · cases h
  split at h
  · split at h
    · rename_i a r he
      split at h
      · injection h with h;subst h
        exact opP_u (ha a (by rw [he];exact List.mem_cons_self ..)) ⟨by decide,by decide⟩
      · cases h
    · cases h
  split at h
  · split at h
    · rename_i a b r he
      have h1:=ha a (by rw [he];exact List.mem_cons_self ..)
      have h2:=ha b (by rw [he];exact List.mem_cons_of_mem _ (List.mem_cons_self ..))
      split at h
      · split at h
        · split at h
          · injection h with h;subst h;exact opP_u h1 h2
          · cases h
        split at h
        · injection h with h;subst h;exact ⟨by decide,by decide⟩
        split at h
        · injection h with h;subst h;exact ⟨by decide,by decide⟩
        · cases h
      · cases h
    · cases h
  · cases h
theorem all3_mid {β γ:Type} {R:Hl→β→γ→Prop} {P:β→Prop} (hR:∀ M x cs,R M x cs→P x) {Ms:List Hl} {xs:List β} {css:List γ} (h:All3 R Ms xs css):∀ x∈xs,P x:=by
  induction h with
  | nil=>exact fun c h=>by cases h
  | cons h1 _ ih=>
      intro c hc;rcases List.mem_cons.1 hc with rfl | hc
      · exact hR _ _ _ h1
      · exact ih c hc
theorem OXs.u32 {d:Nat} {M:Hl} {A:Option Addr} {n c:Nat} {xs:List Ex} (h:OXs d M A n c xs):∀ x∈xs,U32 x.num:=by
  obtain ⟨css,Ms,R,_,_,h3,_⟩:=h
  exact all3_mid (fun M x cs h=>by obtain ⟨_,_,_,_,_,_,_,hu,_⟩:=h.eq;exact hu) h3
theorem own_blk5 {e:Nat} {M:Hl} {A:Option Addr} {n c:Nat} {xs:List Value} (h:FL.Own e 5 M (.slice A n c) n xs) (hn:0 < n):∃ b ys,A=some ⟨b,0,none⟩∧M=[(b,cb (xs++ys) e)]∧∀ zs:List Value,zs.length=xs.length→FL.Own e 5 [(b,cb (zs++ys) e)] (.slice (some ⟨b,0,none⟩) n c) n zs:=by
  generalize hv:Value.slice A n c=v at h
  cases h with
  | nil=>injection hv with h1 h2 h3;omega
  | blk b cap n2 xs ys h1 h2 h3 h4=>
    injection hv with e1 e2 e3
    subst e1;subst e3
    exact ⟨b,ys,rfl,rfl,fun zs hz=>.blk b c n zs ys (by rw [hz];exact h1) (by rw [hz];exact h2) h3 h4⟩
theorem part_at {α:Type} {g:α→α} {l vs1 vs2:List α} {v x:α} {k:Nat} (h:(l.take k).map g++l.drop k=vs1++v::vs2) (hk:vs1.length=k) (hx:l[k]?=some x):vs1=(l.take k).map g∧v=x∧vs2=l.drop (k+1):=by
  obtain ⟨hl,rfl⟩:=List.getElem?_eq_some_iff.1 hx
  rw [List.drop_eq_getElem_cons hl] at h
  have hlen:((l.take k).map g).length=k:=by rw [List.length_map,List.length_take];omega
  obtain ⟨h1,h2⟩:=List.append_inj h (by rw [hlen,hk])
  injection h2 with h2 h3
  exact ⟨h1.symm,h2.symm,h3.symm⟩
theorem part_next {α:Type} {g:α→α} {l:List α} {x:α} {k:Nat} (hx:l[k]?=some x):(l.take (k+1)).map g++l.drop (k+1)=(l.take k).map g++g x::l.drop (k+1):=by rw [take_snocE hx];simp
theorem numOk:FnOK Tryz.prog 111:=⟨_,Tryz.func111,by kernel_rfl,by kernel_rfl⟩
theorem numO_ac (D:Nat) (X L:Hl) (s:World) (bm:Nat) (Ag Af:Option Addr) (ng cg nf cf:Nat) (p:Prg) (hM:NmOK s bm p) (hGl:Glos s Ag ng cg p.globals) (f:Fnc) (B1 B2 B3:Option Addr) (m1 d1 m2 d2 m3 d3:Nat) (hpx:Strs s B1 m1 d1 f.params) (hlx:Strs s B2 m2 d2 f.locals) (d:Nat) (x:Ex) (M:Hl) (A:Option Addr) (n c:Nat) (hO:OXs d M A n c x.args) (hl6:x.kind=6→1≤x.args.length) (hl7:x.kind=7→2≤x.args.length):AC Tryz.prog D 111 [.agg #[.slice Ag ng cg,.slice Af nf cf,.map (some bm),St f.name,.slice B1 m1 d1,.slice B2 m2 d2,.slice B3 m3 d3],.agg #[.int .i64 x.kind,.int .i64 x.op,.int .u32 x.num,St x.name,.slice A n c]] (X++(M++L)) s fun v L' _=>v=.tuple #[.int .u32 ((numP p f x).getD 0),.bool (numP p f x).isSome]∧L'=X++(M++L):=
  AC.perm (List.perm_append_comm_assoc ..) (AC.lend M hO.cb numOk fun ho=>number2_ac D (X++L) _ bm Ag Af ng cg nf cf p (hM.le (fill_le ho)) (hGl.le (fill_le ho)) f B1 B2 B3 m1 d1 m2 d2 m3 d3 (hpx.le (fill_le ho)) (hlx.le (fill_le ho)) d x A n c (hO.pub (pub_own ho)) hl6 hl7) fun v L1 s1 ⟨g0,g1⟩=>⟨_,by rw [← g1];exact List.perm_append_comm_assoc ..,g0,rfl⟩
def FDX (D d:Nat):Prop:=∀ (L:Hl) (s:World) (bm:Nat) (Ag Af:Option Addr) (ng cg nf cf:Nat) (p:Prg) (hM:NmOK s bm p) (hGl:Glos s Ag ng cg p.globals) (f:Fnc) (B1 B2 B3:Option Addr) (m1 d1 m2 d2 m3 d3:Nat) (hpx:Strs s B1 m1 d1 f.params) (hlx:Strs s B2 m2 d2 f.locals) (M:Hl) (A:Option Addr) (n c:Nat) (xs:List Ex),OXs d M A n c xs→exVs xs=true→AC Tryz.prog D 72 [.agg #[.slice Ag ng cg,.slice Af nf cf,.map (some bm),St f.name,.slice B1 m1 d1,.slice B2 m2 d2,.slice B3 m3 d3],.slice A n c] (M++L) s fun v L' _=>∃ M',L'=M'++L∧v=.tuple #[]∧OXs d M' A n c (fdXs p f xs)
theorem fdx_step (D d:Nat) (ih:∀ e,d=e+1→FDX D e) (L:Hl) (s:World) (bm:Nat) (Ag Af:Option Addr) (ng cg nf cf:Nat) (p:Prg) (hM:NmOK s bm p) (hGl:Glos s Ag ng cg p.globals) (f:Fnc) (B1 B2 B3:Option Addr) (m1 d1 m2 d2 m3 d3:Nat) (hpx:Strs s B1 m1 d1 f.params) (hlx:Strs s B2 m2 d2 f.locals) (M:Hl) (A:Option Addr) (n c:Nat) (xs:List Ex) (hOX:OXs d M A n c xs) (hxv:exVs xs=true):AC Tryz.prog D 72 [.agg #[.slice Ag ng cg,.slice Af nf cf,.map (some bm),St f.name,.slice B1 m1 d1,.slice B2 m2 d2,.slice B3 m3 d3],.slice A n c] (M++L) s fun v L' _=>∃ M',L'=M'++L∧v=.tuple #[]∧OXs d M' A n c (fdXs p f xs):=by
 obtain ⟨css0,Ms0,R0,hO0,rfl,hA0,hn⟩:=hOX
 have hgu:∀ g∈p.globals,U32 g.num:=fun g hg=>(hGl.u g hg).1
 have hsl:=Own.slice hO0
 obtain ⟨A_,c_,hsl1,hsl2,hsl3⟩:=hsl
 injection hsl1 with _ _ hsl4
 subst hsl4
 rw [List.append_assoc]
 refine AC_enter (TT:=TT) (fn:=Tryz.f72) TT_ok Tryz.func72 V Z Tryz.ntmps72 Z (rs:=[]) Z [(0,_),(1,_)] Z<|Sr<|JO_boxA Z Z ?_
 intro β1 s1 h1
 refine Nt<|Sr<|Zqm Z Z<|Ws Y4<|Zqm Z Z<|Nt<|Zp<|?_
 refine JC_loop (γ:=Nat×Hl×Hl) (fun g=>[(1,_),(2,_),(8,_),(9,.int .i64 (g.1:Int))]) (fun g=>_::(g.2.1++(g.2.2++L))) (fun g tw=>Le D s1 tw∧(g.1≤n∧∃ css Ms,FL.Own 89 5 g.2.1 (.slice A n c) n (List.flatten css)∧g.2.2=List.flatten Ms∧All3 (OX d) Ms ((xs.take g.1).map (fdX p f)++xs.drop g.1) css)) (fun g=>n - g.1) (fun _ _ _ h hl=>⟨h.1.trans hl,h.2⟩) (0,R0,Ms0.flatten) (.cons Z (.cons Z (.cons Z (.cons Z (.nil _))))) Z ⟨Le.refl _,⟨Nat.zero_le _,css0,Ms0,hO0,Z,by simpa using hA0⟩⟩ ?_
 intro g s2 I2
 obtain ⟨k,R,Fo⟩:=g
 obtain ⟨hk0,css,Ms,hO,hF,hA3⟩:=I2.2
 simp only at hk0 hO hF hA3
 dsimp only
 refine Sr<|Zqlt Z Z Z<|Nt<|Zs<|?_
 refine JC_ifD Z (fun c3=>?_) (fun c3=>?_)
 ·
  have hk:k < n:=by omega
  obtain ⟨b,ys,rfl,rfl,hOw⟩:=own_blk5 hO O
  obtain ⟨x,hx⟩:∃ x,xs[k]?=some x:=⟨_,List.getElem?_eq_getElem O⟩
  obtain ⟨us1,u,us2,vs1,v,vs2,ws1,w0,ws2,rfl,hvv,rfl,hvl,hxw,hA1,hA2⟩:=hA3.at_ (k:=k) (by rw [List.length_append,List.length_map,List.length_take,List.length_drop];omega)
  obtain ⟨hvs1,hvx,hvs2⟩:=part_at hvv hvl hx
  obtain rfl:x=v:=hvx.symm
  obtain ⟨e,A',n',c',hd,hw0,hxO,hux,hnl⟩:=hxw.eq
  have hwl:w0.length=5:=by rw [hw0];rfl
  have hxv1:=(exV_at hxv hx).1
  obtain ⟨hxc,hxva⟩:=exV_eq hxv1
  have hal:=(exC_args hxc).2.2.1
  have q6:(x.withA (fdXs p f x.args)).kind=6→1≤(x.withA (fdXs p f x.args)).args.length:=fun q=>by
    have h1:leastE x.kind=1:=by rw [show x.kind=6 from q];rfl
    show 1≤(fdXs p f x.args).length
    rw [fdXs_len];omega
  have q7:(x.withA (fdXs p f x.args)).kind=7→2≤(x.withA (fdXs p f x.args)).args.length:=fun q=>by
    have h1:leastE x.kind=2:=by rw [show x.kind=7 from q];rfl
    show 2≤(fdXs p f x.args).length
    rw [fdXs_len];omega
  obtain ⟨P,hP0⟩:∃ P,P=ws1.flatten:=⟨_,rfl⟩
  obtain ⟨Q,hQ0⟩:∃ Q,Q=ws2.flatten++ys:=⟨_,rfl⟩
  obtain ⟨F1,hF1⟩:∃ F,F=us1.flatten:=⟨_,rfl⟩
  obtain ⟨F2,hF2⟩:∃ F,F=us2.flatten:=⟨_,rfl⟩
  have hPQ:∀ w:List Value,P++(w++Q)=(ws1++w::ws2).flatten++ys:=fun w=>by rw [hP0,hQ0];simp [List.append_assoc]
  have hP:P.length=0+k * 5:=by rw [hP0,rows_flat hA1,hvl,Nat.zero_add]
  have hFF:Fo=F1++(u++F2):=by rw [hF,hF1,hF2];simp
  subst hFF
  rw [← hPQ,List.append_assoc,List.append_assoc]
  simp only [cQ9,nQ9]
  refine Zk<|Zt<|Zs<|Zp<|Sr<|Zqm Z Z<|At Z Z<|Zs<|JC_drawT drawsMixed 7 Z 2 ?_
  intro s4 h4
  refine za 0 Z (QE_ldA 0 [_,_,_,_,_,_,_] Z Z Z Z Z) Z<|za 1 Z (QE_mv Z) Z<|za 2 Z (QE_mv Z) Z<|za 3 Z (QE_iaN Z Z Z Z Z Z hk) Z<|za 4 Z (QE_fa Z Z Z Z) Z<|za 5 Z (QE_ld1 1 Z Z Z Z ((nth_mid (c:=w0) hP (j:=4) O).trans (by rw [hw0];rfl))) Z<|JA_1 6 V<|Jb Z trivial Z Z Z (AC.mid (_::_::F1) u (F2++L) (ih e hd _ _ bm Ag Af ng cg nf cf p (hM.le (h1.t I2.1|>.t h4)) (hGl.le (h1.t I2.1|>.t h4)) f B1 B2 B3 m1 d1 m2 d2 m3 d3 (hpx.le (h1.t I2.1|>.t h4)) (hlx.le (h1.t I2.1|>.t h4)) u A' n' c' x.args hxO hxva)) ?_
  rintro _ _ s5 h5 ⟨u2,rfl,rfl,hu2⟩
  refine ⟨(fun x hx _=>memK2 hx),?_⟩
  simp only [List.cons_append]
  refine JA_done V<|Zt<|Zs<|JC_drawT drawsMixed 11 Z 2 ?_
  intro s6 h6
  refine za 0 Z (QE_ldA 0 [_,_,_,_,_,_,_] Z Z Z Z Z) Z<|za 1 Z (QE_mv Z) Z<|za 2 Z (QE_mv Z) Z<|za 3 Z (QE_iaN Z Z Z Z Z Z hk) Z<|za 4 Z (QE_cast (QE_ldA 1 w0 Z Z Z Z (cut_mid hP hwl)) (show Value.agg w0.toArray=.agg #[.int .i64 x.kind,.int .i64 x.op,.int .u32 x.num,St x.name,.slice A' n' c'] by rw [hw0])) Z<|JA_1 5 V ?_
  refine Jb Z trivial Z Z Z (numO_ac D (_::_::F1) (F2++L) _ bm Ag Af ng cg nf cf p (hM.le (h1.t I2.1|>.t h4|>.t h5|>.t h6)) (hGl.le (h1.t I2.1|>.t h4|>.t h5|>.t h6)) f B1 B2 B3 m1 d1 m2 d2 m3 d3 (hpx.le (h1.t I2.1|>.t h4|>.t h5|>.t h6)) (hlx.le (h1.t I2.1|>.t h4|>.t h5|>.t h6)) e (x.withA (fdXs p f x.args)) u2 A' n' c' hu2 q6 q7) ?_
  rintro _ _ s7 h7 ⟨rfl,rfl⟩
  refine ⟨(fun x hx _=>memK2 hx),?_⟩
  simp only [List.cons_append]
  refine za 6 Z (QE_mv Z) Z<|za 7 Z (QE_ext Z Z) Z<|za 8 Z (QE_ext Z Z) Z<|za 9 Z (QE_as Z) Z<|za 10 Z (QE_as Z) Z<|JA_done V<|Zt<|Sr<|Zqm Z Z<|Nt<|?_
  refine JC_if Z (fun c8=>?_) (fun c8=>?_)
  ·
   obtain ⟨v9,hnum⟩:=Option.isSome_iff_exists.1 c8
   have hau:∀ a∈(x.withA (fdXs p f x.args)).args,U32 a.num:=hu2.u32
   obtain ⟨w9,hw9⟩:∃ w:List Value,w=[.int .i64 1,.int .i64 0,.int .u32 v9,St [],.slice none 0 0]:=⟨_,rfl⟩
   refine Zr<|Zqm Z Z<|Zqm Z Z<|Zqm Z Z<|JO_q (QE_cast (QE_build [(_,_),(_,_)] [_,_,_,_,_] Z Z Z Z Z Z) (show Value.agg #[.int .i64 1,.int .i64 0,.int .u32 ((numP p f (x.withA (fdXs p f x.args))).getD 0),St [],.slice none 0 0]=.agg #[.int .i64 1,.int .i64 0,.int .u32 v9,St [],.slice none 0 0] by rw [hnum];rfl)) Z<|JO_q (QE_iaN Z Z Z Z Z Z hk) Z<|JO_st 1 (P++(w9++Q)) Z Z Z Z Z (ble_mid hP hwl) Z (by rw [hw9];exact splice_mid hP (show 5=w0.length from hwl.symm)) Z<|Zn<|Zb<|Zt<|JC_pubX (_::_::F1) u2 _ ?_
   intro s10 h10 _
   simp only [List.cons_append]
   rw [show F1++(F2++L)=(F1++F2)++L from (List.append_assoc ..).symm]
   refine Zr<|Zqadd Z Z Z (w64 O O)<|Zqm Z Z<|Zn<|?_
   refine thenQ_n ⟨(k+1,[(b,cb (P++(w9++Q)) 89)],F1++F2),[],kp,Z,⟨(I2.1.t h4|>.t h5|>.t h6|>.t h7|>.t h10),⟨by simp only;omega,ws1++w9::ws2,us1++[]::us2,by simp only;rw [hPQ];exact hOw _ (by simp [hwl,hw9] <;> omega),by simp [hF1,hF2],by simp only;rw [part_next hx,fdX_some hnum,← hvs1,← hvs2];exact hA1.app (.cons (hd▸hw9▸OX.mk (x:=.mk 1 0 v9 [] []) (OXs.nil _) (num_u hgu hau hnum) (Nat.zero_le _)) hA2)⟩⟩,(by simp only;omega)⟩
  have hnum:numP p f (x.withA (fdXs p f x.args))=none:=Option.isNone_iff_eq_none.1 (by rw [← Option.not_isSome,c8];rfl)
  refine Zk<|Zb<|Zt<|?_
  rw [show F1++(u2++(F2++L))=(F1++(u2++F2))++L from by simp only [List.append_assoc]]
  refine Zr<|Zqadd Z Z Z (w64 O O)<|Zqm Z Z<|Zn<|?_
  refine thenQ_n ⟨(k+1,[(b,cb (P++(w0++Q)) 89)],F1++(u2++F2)),[],kp,Z,⟨(I2.1.t h4|>.t h5|>.t h6|>.t h7),⟨by simp only;omega,ws1++w0::ws2,us1++u2::us2,by simp only;rw [hPQ];exact hOw _ (by simp),by simp [hF1,hF2],by simp only;rw [part_next hx,fdX_none hnum,← hvs1,← hvs2];exact hA1.app (.cons (hd▸hw0▸OX.mk (x:=x.withA (fdXs p f x.args)) hu2 hux hnl) hA2)⟩⟩,(by simp only;omega)⟩
 obtain rfl:n=k:=by omega
 rw [List.take_of_length_le O,List.drop_eq_nil_of_le O,List.append_nil,← fdXs_map] at hA3
 refine Zl<|Zv<|Zv<|Zd<|?_
 refine retQ_mk [_] _ (.inl Z) (.nil) Z (h1.t I2.1) (fun sR hS2=>?_)
 exact ⟨R++Fo,(List.append_assoc ..).symm,rfl,css,Ms,R,hO,by rw [hF],hA3,by rw [fdXs_len];exact hn⟩
theorem fdx (D:Nat):∀ d,FDX D d
  | 0=>fun L s bm Ag Af ng cg nf cf p hM hGl f B1 B2 B3 m1 d1 m2 d2 m3 d3 hpx hlx M A n c xs h1 h2=>fdx_step D 0 (fun e h=>by omega) L s bm Ag Af ng cg nf cf p hM hGl f B1 B2 B3 m1 d1 m2 d2 m3 d3 hpx hlx M A n c xs h1 h2
  | d+1=>fun L s bm Ag Af ng cg nf cf p hM hGl f B1 B2 B3 m1 d1 m2 d2 m3 d3 hpx hlx M A n c xs h1 h2=>fdx_step D (d+1) (fun e h=>(show d=e by omega)▸fdx D d) L s bm Ag Af ng cg nf cf p hM hGl f B1 B2 B3 m1 d1 m2 d2 m3 d3 hpx hlx M A n c xs h1 h2
mutual
def fdS (p:Prg) (f:Fnc):Stm→Stm
  | .mk k nm es b e=>.mk k nm (fdXs p f es) (fdSs p f b) (fdSs p f e)
def fdSs (p:Prg) (f:Fnc):List Stm→List Stm
  | []=>[]
  | x::r=>fdS p f x::fdSs p f r
end
theorem fdSs_map (p:Prg) (f:Fnc):∀ l:List Stm,fdSs p f l=l.map (fdS p f)
  | []=>rfl
  | x::r=>by rw [fdSs,fdSs_map p f r];rfl
theorem fdS_eq (p:Prg) (f:Fnc) (x:Stm):fdS p f x=.mk x.kind x.name (fdXs p f x.exprs) (fdSs p f x.body) (fdSs p f x.els):=by cases x;rfl
def FDS (D d:Nat):Prop:=∀ (L:Hl) (s:World) (bm:Nat) (Ag Af:Option Addr) (ng cg nf cf:Nat) (p:Prg) (hM:NmOK s bm p) (hGl:Glos s Ag ng cg p.globals) (f:Fnc) (B1 B2 B3:Option Addr) (m1 d1 m2 d2 m3 d3:Nat) (hpx:Strs s B1 m1 d1 f.params) (hlx:Strs s B2 m2 d2 f.locals) (M:Hl) (A:Option Addr) (n c:Nat) (xs:List Stm) (lv:Nat),SOs d s M A n c xs→stVs xs lv=true→AC Tryz.prog D 42 [.agg #[.slice Ag ng cg,.slice Af nf cf,.map (some bm),St f.name,.slice B1 m1 d1,.slice B2 m2 d2,.slice B3 m3 d3],.slice A n c] (M++L) s fun v L' s'=>∃ M',L'=M'++L∧v=.tuple #[]∧SOs d s' M' A n c (fdSs p f xs)
theorem fds_of {D d:Nat} {g:FuncId} {args:List Value} {L L0:Hl} {s:World} {A:Option Addr} {n c:Nat} {xs:List Stm} (h:AC Tryz.prog D g args L0 s fun v L' s'=>∃ M',L'=M'++L∧v=.tuple #[]∧∀ s2,Le D s' s2→SOs d s2 M' A n c xs):AC Tryz.prog D g args L0 s fun v L' s'=>∃ M',L'=M'++L∧v=.tuple #[]∧SOs d s' M' A n c xs:=h.mono fun v L' s' _ ⟨M',h1,h2,h3⟩=>⟨M',h1,h2,h3 _ (Le.refl _)⟩
theorem memK6 {x a b c d e f:Nat×Obj} {R R':Hl} (hx:x∈(a::b::c::d::e::f::R).take 6):x∈a::b::c::d::e::f::R':=List.mem_append_left R' (show x∈[a,b,c,d,e,f] from hx)
theorem fds_step (D d:Nat) (ih:∀ e,d=e+1→FDS D e) (L:Hl) (s:World) (bm:Nat) (Ag Af:Option Addr) (ng cg nf cf:Nat) (p:Prg) (hM:NmOK s bm p) (hGl:Glos s Ag ng cg p.globals) (f:Fnc) (B1 B2 B3:Option Addr) (m1 d1 m2 d2 m3 d3:Nat) (hpx:Strs s B1 m1 d1 f.params) (hlx:Strs s B2 m2 d2 f.locals) (M:Hl) (A:Option Addr) (n c:Nat) (xs:List Stm) (lv:Nat) (hSO:SOs d s M A n c xs) (hxv:stVs xs lv=true):AC Tryz.prog D 42 [.agg #[.slice Ag ng cg,.slice Af nf cf,.map (some bm),St f.name,.slice B1 m1 d1,.slice B2 m2 d2,.slice B3 m3 d3],.slice A n c] (M++L) s fun v L' s'=>∃ M',L'=M'++L∧v=.tuple #[]∧∀ s2,Le D s' s2→SOs d s2 M' A n c (fdSs p f xs):=by
 obtain ⟨css,Ms0,rfl,hRw,hA0⟩:=hSO
 have hn:n=xs.length:=by rw [hRw.1];exact hA0.len.2
 have hc1:=hRw.2.1
 have hc2:=hRw.2.2.1
 refine AC_enter (TT:=TT) (fn:=Tryz.f42) TT_ok Tryz.func42 V Z Tryz.ntmps42 Z (rs:=[]) Z [(0,_),(1,_)] Z<|Sr<|JO_boxA Z Z ?_
 intro β1 s1 h1
 refine Nt<|Sr<|Zqm Z Z<|Ws Y4<|Zqm Z Z<|Nt<|Zp<|?_
 refine JC_loop (γ:=Nat×Hl) (fun g=>[(1,_),(2,_),(6,_),(7,.int .i64 (g.1:Int))]) (fun g=>_::(g.2++L)) (fun g tw=>Le D s1 tw∧(g.1≤n∧∃ Ms,g.2=List.flatten Ms∧All3 (SO d tw) Ms ((xs.take g.1).map (fdS p f)++xs.drop g.1) css)) (fun g=>n - g.1) (fun _ _ _ h hl=>⟨h.1.trans hl,⟨h.2.1,by obtain ⟨Ms,q2,q3⟩:=h.2.2;exact ⟨Ms,q2,q3.mono fun _ _ _ k=>SO.le hl k⟩⟩⟩) (0,Ms0.flatten) (.cons Z (.cons Z (.cons Z (.cons Z (.nil _))))) Z ⟨Le.refl _,⟨Nat.zero_le _,Ms0,Z,by simpa using hA0.mono fun _ _ _ k=>SO.le h1 k⟩⟩ ?_
 intro g s2 I2
 obtain ⟨k,Fo⟩:=g
 obtain ⟨hk0,Ms,hF,hA3⟩:=I2.2
 simp only at hk0 hF hA3
 dsimp only
 refine Sr<|Zqlt Z Z Z<|Nt<|Zs<|?_
 refine JC_ifD Z (fun c3=>?_) (fun c3=>?_)
 ·
  have hk:k < n:=by omega
  obtain ⟨x,hx⟩:∃ x,xs[k]?=some x:=⟨_,List.getElem?_eq_getElem O⟩
  obtain ⟨us1,u,us2,vs1,v,vs2,ws1,w0,ws2,rfl,hvv,hcs,hvl,hxw,hA1,hA2⟩:=hA3.at_ (k:=k) (by rw [List.length_append,List.length_map,List.length_take,List.length_drop];omega)
  obtain ⟨hvs1,hvx,hvs2⟩:=part_at hvv hvl hx
  obtain rfl:x=v:=hvx.symm
  obtain ⟨e,A1,n1,c1,A2,n2,c2,A3,n3,c3,M1,M2,M3,hd,hw0,rfl,hxO,hxB,hxE,hnl⟩:=hxw.eq
  have hw:css[k]?=some w0:=by
    have:=hA1.len
    rw [hcs,List.getElem?_append_right O,show k - ws1.length=0 by omega];rfl
  obtain ⟨b,off,rfl,hcx⟩:=hRw.at_ hw
  rw [hw0] at hcx
  obtain ⟨hvx1,_⟩:=stV_at hxv hx
  obtain ⟨_,_,hxe,hxb,hxl⟩:=stV_eq hvx1
  obtain ⟨F1,hF1⟩:∃ F,F=us1.flatten:=⟨_,rfl⟩
  obtain ⟨F2,hF2⟩:∃ F,F=us2.flatten:=⟨_,rfl⟩
  have hFF:Fo=F1++((M1++(M2++M3))++F2):=by rw [hF,hF1,hF2];simp
  subst hFF
  rw [show (F1++((M1++(M2++M3))++F2))++L=F1++(M1++(M2++(M3++(F2++L)))) from by simp only [List.append_assoc]]
  refine Zk<|Zt<|Zs<|Zp<|Sr<|Zqm Z Z<|At Z Z<|Zs<|JC_drawT drawsMixed 7 Z 1 ?_
  intro s4 h4
  refine za 0 Z (QE_ldA 0 [_,_,_,_,_,_,_] Z Z Z Z Z) Z<|za 1 Z (QE_mv Z) Z<|za 2 Z (QE_mv Z) Z<|za 3 Z (QE_iaN Z Z Z Z Z Z hk) Z<|za 4 Z (QE_fa Z Z Z Z) Z<|za 5 Z (QE_ldsR 2 Z Z Z (hcx.le (h1.t I2.1|>.t h4)) Z) Z<|JA_1 6 V<|Jb Z trivial Z Z Z (AC.mid (_::F1) M1 (M2++(M3++(F2++L))) (fdx D e _ _ bm Ag Af ng cg nf cf p (hM.le (h1.t I2.1|>.t h4)) (hGl.le (h1.t I2.1|>.t h4)) f B1 B2 B3 m1 d1 m2 d2 m3 d3 (hpx.le (h1.t I2.1|>.t h4)) (hlx.le (h1.t I2.1|>.t h4)) M1 A1 n1 c1 x.exprs hxO hxe)) ?_
  rintro _ _ s5 h5 ⟨N1,rfl,rfl,hu1⟩
  refine ⟨(fun x hx _=>memK1 hx),?_⟩
  simp only [List.cons_append]
  rw [show F1++(N1++(M2++(M3++(F2++L))))=(F1++N1)++(M2++(M3++(F2++L))) from (List.append_assoc ..).symm]
  refine JA_done V<|Zt<|Zs<|JC_drawT drawsMixed 7 Z 1 ?_
  intro s6 h6
  refine za 0 Z (QE_ldA 0 [_,_,_,_,_,_,_] Z Z Z Z Z) Z<|za 1 Z (QE_mv Z) Z<|za 2 Z (QE_mv Z) Z<|za 3 Z (QE_iaN Z Z Z Z Z Z hk) Z<|za 4 Z (QE_fa Z Z Z Z) Z<|za 5 Z (QE_ldsR 3 Z Z Z (hcx.le (h1.t I2.1|>.t h4|>.t h5|>.t h6)) Z) Z<|JA_1 6 V ?_
  refine Jb Z trivial Z Z Z (AC.mid (_::(F1++N1)) M2 (M3++(F2++L)) (ih e hd _ _ bm Ag Af ng cg nf cf p (hM.le (h1.t I2.1|>.t h4|>.t h5|>.t h6)) (hGl.le (h1.t I2.1|>.t h4|>.t h5|>.t h6)) f B1 B2 B3 m1 d1 m2 d2 m3 d3 (hpx.le (h1.t I2.1|>.t h4|>.t h5|>.t h6)) (hlx.le (h1.t I2.1|>.t h4|>.t h5|>.t h6)) M2 A2 n2 c2 x.body (lv+1) (hxB.le (h4.t h5|>.t h6)) hxb)) ?_
  rintro _ _ s7 h7 ⟨N2,rfl,rfl,hu2⟩
  refine ⟨(fun x hx _=>memK1 hx),?_⟩
  simp only [List.cons_append]
  rw [show (F1++N1)++(N2++(M3++(F2++L)))=((F1++N1)++N2)++(M3++(F2++L)) from (List.append_assoc ..).symm]
  refine JA_done V<|Zt<|JC_drawT drawsMixed 7 Z 1 ?_
  intro s8 h8
  refine za 0 Z (QE_ldA 0 [_,_,_,_,_,_,_] Z Z Z Z Z) Z<|za 1 Z (QE_mv Z) Z<|za 2 Z (QE_mv Z) Z<|za 3 Z (QE_iaN Z Z Z Z Z Z hk) Z<|za 4 Z (QE_fa Z Z Z Z) Z<|za 5 Z (QE_ldsR 4 Z Z Z (hcx.le (h1.t I2.1|>.t h4|>.t h5|>.t h6|>.t h7|>.t h8)) Z) Z<|JA_1 6 V ?_
  refine Jb Z trivial Z Z Z (AC.mid (_::((F1++N1)++N2)) M3 (F2++L) (ih e hd _ _ bm Ag Af ng cg nf cf p (hM.le (h1.t I2.1|>.t h4|>.t h5|>.t h6|>.t h7|>.t h8)) (hGl.le (h1.t I2.1|>.t h4|>.t h5|>.t h6|>.t h7|>.t h8)) f B1 B2 B3 m1 d1 m2 d2 m3 d3 (hpx.le (h1.t I2.1|>.t h4|>.t h5|>.t h6|>.t h7|>.t h8)) (hlx.le (h1.t I2.1|>.t h4|>.t h5|>.t h6|>.t h7|>.t h8)) M3 A3 n3 c3 x.els (lv+1) (hxE.le (h4.t h5|>.t h6|>.t h7|>.t h8)) hxl)) ?_
  rintro _ _ s9 h9 ⟨N3,rfl,rfl,hu3⟩
  refine ⟨(fun x hx _=>memK1 hx),?_⟩
  simp only [List.cons_append]
  rw [show ((F1++N1)++N2)++(N3++(F2++L))=(F1++((N1++(N2++N3))++F2))++L from by simp only [List.append_assoc]]
  refine JA_done V<|Zb<|Zt<|Zr<|Zqadd Z Z Z (w64 O O)<|Zqm Z Z<|Zn<|?_
  refine thenQ_n ⟨(k+1,F1++((N1++(N2++N3))++F2)),[],kp,Z,⟨(I2.1.t h4|>.t h5|>.t h6|>.t h7|>.t h8|>.t h9),⟨by simp only;omega,us1++(N1++(N2++N3))::us2,by simp [hF1,hF2],by simp only;rw [part_next hx,← hvs1,← hvs2,hcs];exact (hA1.mono fun _ _ _ k=>SO.le (h4.t h5|>.t h6|>.t h7|>.t h8|>.t h9) k).app (.cons (hd▸hw0▸fdS_eq p f x▸SO.mk (x:=.mk x.kind x.name (fdXs p f x.exprs) (fdSs p f x.body) (fdSs p f x.els)) hu1 (hu2.le (h8.t h9)) (hu3.le (Lr D)) hnl) (hA2.mono fun _ _ _ k=>SO.le (h4.t h5|>.t h6|>.t h7|>.t h8|>.t h9) k))⟩⟩,(by simp only;omega)⟩
 obtain rfl:n=k:=by omega
 rw [List.take_of_length_le O,List.drop_eq_nil_of_le O,List.append_nil,← fdSs_map] at hA3
 refine Zl<|Zv<|Zv<|Zd<|?_
 refine retQ_mk [_] _ (.inl Z) (.nil) Z (h1.t I2.1) (fun sR hS2=>?_)
 exact ⟨Fo,rfl,rfl,fun s2 hs2=>⟨css,Ms,hF,hRw.le (h1.t I2.1|>.t (hS2.t hs2)),hA3.mono fun _ _ _ k=>SO.le ((Lr D).t (hS2.t hs2)) k⟩⟩
theorem fds (D:Nat):∀ d,FDS D d
  | 0=>fun L s bm Ag Af ng cg nf cf p hM hGl f B1 B2 B3 m1 d1 m2 d2 m3 d3 hpx hlx M A n c xs lv h1 h2=>fds_of (fds_step D 0 (fun e h=>by omega) L s bm Ag Af ng cg nf cf p hM hGl f B1 B2 B3 m1 d1 m2 d2 m3 d3 hpx hlx M A n c xs lv h1 h2)
  | d+1=>fun L s bm Ag Af ng cg nf cf p hM hGl f B1 B2 B3 m1 d1 m2 d2 m3 d3 hpx hlx M A n c xs lv h1 h2=>fds_of (fds_step D (d+1) (fun e h=>(show d=e by omega)▸fds D d) L s bm Ag Af ng cg nf cf p hM hGl f B1 B2 B3 m1 d1 m2 d2 m3 d3 hpx hlx M A n c xs lv h1 h2)
def fdF (p:Prg) (x:Fnc):Fnc:={ x with body:=fdSs p x x.body }
def foldP (p:Prg):Prg:=⟨p.globals,p.funcs.map (fdF p)⟩
theorem mem_ins {x:Nat×Obj} {X M Y:Hl} (h:x∈X++Y):x∈X++(M++Y):=by
  rcases List.mem_append.1 h with h | h
  · exact List.mem_append_left _ h
  · exact List.mem_append_right _ (List.mem_append_right _ h)
def foldR (p:Prg):Prg×(Int×Int):=if (chkF p).1≠0 then (⟨[],[]⟩,chkF p) else if (prgF (foldP p)).1≠0 then (⟨[],[]⟩,prgF (foldP p)) else (foldP p,(0,0))
theorem foldO_ac (D:Nat) (L:Hl) (s:World) (hG:GP s) (d:Nat) (p:Prg) (Ag Af:Option Addr) (ng cg nf cf:Nat) (hGl:Glos s Ag ng cg p.globals) (hFn:Fncs d s Af nf cf p.funcs):AC Tryz.prog D 17 [.agg #[.slice Ag ng cg,.slice Af nf cf]] L s fun v L' s'=>L=L'∧∃ Bg mg eg Bf mf ef,v=.tuple #[.agg #[.slice Bg mg eg,.slice Bf mf ef],.agg #[.int .i64 (foldR p).2.1,.int .i64 (foldR p).2.2]]∧∀ s2,Le D s' s2→Glos s2 Bg mg eg (foldR p).1.globals∧Fncs d s2 Bf mf ef (foldR p).1.funcs:=by
 have hn1:=hGl.1
 have hn2:=hFn.1
 have hU:prU p:=⟨hGl.u,hFn.u⟩
 refine AC_enter (TT:=TT) (fn:=Tryz.f17) TT_ok Tryz.func17 V Z Tryz.ntmps17 Z (rs:=[.cell 2 25,.cell 3 33]) Z [(0,_)] Z<|Sr<|JO_boxA Z Z ?_
 intro β1 s1 h1
 refine JO_allocZ Z [_,_] Z Z ?_
 intro β2 s2 h2
 refine JO_allocZ Z [_,_] Z Z ?_
 intro β3 s3 h3
 refine Nt<|Zs<|Sr<|JO_q (QE_ldA 2 [_,_] Z Z Z Z Z) Z<|Jc Z Z Z (program_ac D _ _ (hG.le (h1.t h2|>.t h3)) d p Ag _ ng cg nf cf (hGl.le (h1.t h2|>.t h3)) (hFn.le (h1.t h2|>.t h3))) ?_
 rintro _ _ s4 h4 ⟨rfl,rfl⟩
 refine JO_allocZ Z [_,_] Z Z ?_
 intro β5 s5 h5
 refine Wt 0 [_,_] Y9<|Nt<|Sr<|JO_q (QE_ldA 0 [_,_] Z Z Z Z Z) Z<|JO_q (QE_build [] [_,_] Z Z Z Z Z Z) Z<|JO_q (QE_ane Z Z (eqFault _ _ _ _)) Z<|Nt<|?_
 refine JC_ifN Z (fun c6=>?_) (fun c6=>?_)
 ·
  have hb0:(chkF p).1≠0:=fun h=>c6 (by rw [chk_00 hU h];exact ⟨rfl,rfl⟩)
  have hE:foldR p=(⟨[],[]⟩,chkF p):=if_pos hb0
  refine Zs<|JC_drawE drawsMixed 4 Z [2,1] (by intro x hx;exact eraseAll_mem hx) ?_
  intro s7 h7
  refine za 0 Z (QE_build [] [_,_] Z Z Z Z Z Z) Z<|za 1 Z (QE_ldA 0 [_,_] Z Z Z Z Z) Z<|JA_1 2 V<|Wu Z trivial 2 [_,_] Y9 (fun _ hx=>sub_mem (sbY (sbN (sbY (sbE _)))) hx)<|JA_1 3 V<|Wu Z trivial 1 [_,_] Y9 (fun _ hx=>sub_mem (sbY (sbN (sbY (sbE _)))) hx)<|JA_done V<|Zt<|Zo<|Zu<|?_
  refine retQ_mk [_,_,_,_] L (.inr Z) (.agg (us:=[_,_]) 2 Z Z Z Z Z (.agg (us:=[_,_]) 1 Z Z Z Z Z (.nil))) Z (h1.t h2|>.t h3|>.t h4|>.t h5|>.t h7) (fun sR hS2=>?_)
  rw [hE]
  exact ⟨rfl,none,0,0,none,0,0,rfl,fun s2 hs2=>⟨glos_nil _,fncs_nil _ _⟩⟩
 have g4:=c6
 have g14:¬ (chkF p).1≠0:=fun h=>h g4.1
 obtain ⟨hOK,hz0⟩:=OKP.of hU g4.1
 have hV:=hOK.1
 have hV1:=hV.1
 have hV2:=hV.2.1
 have hVf:=hV.2.2.2.1
 have hND:=(name_nd (p:=p) (by rw [hOK.2.1])).1
 refine Zk<|Zt<|?_
 refine JC_cutN (γ:=Nat×Nat×Hl×Value×Value×Nat) (fun g=>[(5,.pointer (some ⟨g.1,0,none⟩)),(6,.pointer (some ⟨g.2.1,0,none⟩))]) (fun g=>((g.1,cb [g.2.2.2.1,g.2.2.2.2.1] 25)::(g.2.1,cb [.slice Ag ng cg,.slice Af nf cf,.map (some g.2.2.2.2.2)] 98)::g.2.2.1)) (fun g tw=>(∃ Bg mg eg,g.2.2.2.1=.slice Bg mg eg∧Glos tw Bg mg eg p.globals)∧(∃ Bf mf ef,g.2.2.2.2.1=.slice Bf mf ef∧FOs d tw g.2.2.1 Bf mf ef p.funcs)∧NmOK tw g.2.2.2.2.2 p) (fun _ _ _ h hl=>⟨by obtain ⟨A,n,c,q1,q2⟩:=h.1;exact ⟨A,n,c,q1,q2.le hl⟩,by obtain ⟨A,n,c,q1,q2⟩:=h.2.1;exact ⟨A,n,c,q1,q2.le hl⟩,h.2.2.le hl⟩) ?_ ?_
 ·
  refine JC_drawT drawsMixed 8 Z 4 ?_
  intro s9 h9
  refine za 0 Z (QE_ldA 3 [_,_] Z Z Z Z Z) Z<|za 2 Z (QE_ldA 3 [_,_] Z Z Z Z Z) Z ?_
  refine JA_3 1 4 5 V ?_ ?_ ?_
  ·
   refine Jb Z trivial Z Z Z (AC.mid [_,_,_,_] [] L (cloneP_ac D _ _ d p Ag _ ng cg nf cf (hGl.le (h1.t h2|>.t h3|>.t h4|>.t h5|>.t h9)) (hFn.le (h1.t h2|>.t h3|>.t h4|>.t h5|>.t h9)) hV)) ?_
   rintro _ _ s10 h10 ⟨M1,rfl,Bg,mg,eg,Bf,mf,ef,rfl,hBG,hBF⟩
   refine ⟨(fun x _ h=>mem_ins (X:=[_,_,_,_]) (M:=M1) (Y:=L) h),?_⟩
   simp only [cQ9,nQ9]
   refine JA_3 3 4 5 V ?_ ?_ ?_
   ·
    refine Jb Z trivial Z Z Z (open_ac D _ _ d p Ag _ ng cg nf cf (hGl.le (h1.t h2|>.t h3|>.t h4|>.t h5|>.t h9|>.t h10)) (hFn.le (h1.t h2|>.t h3|>.t h4|>.t h5|>.t h9|>.t h10)) hND) ?_
    rintro _ _ s11 h11 ⟨rfl,bm,rfl,hM⟩
    refine ⟨fun _ _ h=>h,?_⟩
    refine JA_2 4 5 V ?_ ?_
    ·
     refine JB_alloc Z trivial Z [_,_] Z Z ?_
     intro β12 s12 h12
     refine JA_1 5 V<|JB_alloc Z trivial Z [_,_,_] Z Z ?_
     intro β13 s13 h13
     refine JA_1 6 V<|Wu Z trivial 1 [_,_] Y9 (fun _ hx=>sub_mem (sbN (sbY (sbY (sbY (sbY (sb0 _)))))) hx)<|JA_1 7 V<|Wu Z trivial 0 [_,_,_] Y9 (fun _ hx=>sub_mem (sbN (sbY (sbY (sbY (sbY (sb0 _)))))) hx)<|JA_done V ?_
     refine thenQ_n (MidN.mk (β12,β13,M1,.slice Bg mg eg,.slice Bf mf ef,bm) [] (h9.t h10|>.t h11|>.t h12|>.t h13) (.cons Z (.cons Z sk)) (List.Perm.trans (List.Perm.trans (front_perm _ 0) (front_perm _ 1)) (.cons _ (.cons _ (List.perm_append_comm_assoc [_,_,_,_] M1 L)))) ⟨⟨_,_,_,Z,hBG.le (h11.t h12|>.t h13)⟩,⟨_,_,_,Z,hBF.le (h11.t h12|>.t h13)⟩,hM.le (h12.t h13)⟩)
    refine JB_alloc Z trivial Z [_,_,_] Z Z ?_
    intro β14 s14 h14
    refine JA_1 4 V<|JB_alloc Z trivial Z [_,_] Z Z ?_
    intro β15 s15 h15
    refine JA_1 6 V<|Wu Z trivial 0 [_,_] Y9 (fun _ hx=>sub_mem (sbN (sbY (sbY (sbY (sbY (sb0 _)))))) hx)<|JA_1 7 V<|Wu Z trivial 1 [_,_,_] Y9 (fun _ hx=>sub_mem (sbN (sbY (sbY (sbY (sbY (sb0 _)))))) hx)<|JA_done V ?_
    refine thenQ_n (MidN.mk (β15,β14,M1,.slice Bg mg eg,.slice Bf mf ef,bm) [] (h9.t h10|>.t h11|>.t h14|>.t h15) (.cons Z (.cons Z sk)) (List.Perm.trans (List.Perm.trans (front_perm _ 1) (front_perm _ 1)) (.cons _ (.cons _ (List.perm_append_comm_assoc [_,_,_,_] M1 L)))) ⟨⟨_,_,_,Z,hBG.le (h11.t h14|>.t h15)⟩,⟨_,_,_,Z,hBF.le (h11.t h14|>.t h15)⟩,hM.le (h14.t h15)⟩)
   ·
    refine JB_alloc Z trivial Z [_,_] Z Z ?_
    intro β16 s16 h16
    refine JA_2 3 5 V ?_ ?_
    ·
     refine Jb Z trivial Z Z Z (open_ac D _ _ d p Ag _ ng cg nf cf (hGl.le (h1.t h2|>.t h3|>.t h4|>.t h5|>.t h9|>.t h10|>.t h16)) (hFn.le (h1.t h2|>.t h3|>.t h4|>.t h5|>.t h9|>.t h10|>.t h16)) hND) ?_
     rintro _ _ s17 h17 ⟨rfl,bm,rfl,hM⟩
     refine ⟨fun _ _ h=>h,?_⟩
     refine JA_1 5 V<|JB_alloc Z trivial Z [_,_,_] Z Z ?_
     intro β18 s18 h18
     refine JA_1 6 V<|Wu Z trivial 1 [_,_] Y9 (fun _ hx=>sub_mem (sbN (sbY (sbY (sbY (sbY (sb0 _)))))) hx)<|JA_1 7 V<|Wu Z trivial 0 [_,_,_] Y9 (fun _ hx=>sub_mem (sbN (sbY (sbY (sbY (sbY (sb0 _)))))) hx)<|JA_done V ?_
     refine thenQ_n (MidN.mk (β16,β18,M1,.slice Bg mg eg,.slice Bf mf ef,bm) [] (h9.t h10|>.t h16|>.t h17|>.t h18) (.cons Z (.cons Z sk)) (List.Perm.trans (List.Perm.trans (front_perm _ 0) (front_perm _ 1)) (.cons _ (.cons _ (List.perm_append_comm_assoc [_,_,_,_] M1 L)))) ⟨⟨_,_,_,Z,hBG.le (h16.t h17|>.t h18)⟩,⟨_,_,_,Z,hBF.le (h16.t h17|>.t h18)⟩,hM.le h18⟩)
    refine JB_alloc Z trivial Z [_,_,_] Z Z ?_
    intro β19 s19 h19
    refine JA_1 3 V<|Jb Z trivial Z Z Z (open_ac D _ _ d p Ag _ ng cg nf cf (hGl.le (h1.t h2|>.t h3|>.t h4|>.t h5|>.t h9|>.t h10|>.t h16|>.t h19)) (hFn.le (h1.t h2|>.t h3|>.t h4|>.t h5|>.t h9|>.t h10|>.t h16|>.t h19)) hND) ?_
    rintro _ _ s20 h20 ⟨rfl,bm,rfl,hM⟩
    refine ⟨fun _ _ h=>h,?_⟩
    refine JA_1 6 V<|Wu Z trivial 1 [_,_] Y9 (fun _ hx=>sub_mem (sbN (sbY (sbY (sbY (sbY (sb0 _)))))) hx)<|JA_1 7 V<|Wu Z trivial 0 [_,_,_] Y9 (fun _ hx=>sub_mem (sbN (sbY (sbY (sbY (sbY (sb0 _)))))) hx)<|JA_done V ?_
    refine thenQ_n (MidN.mk (β16,β19,M1,.slice Bg mg eg,.slice Bf mf ef,bm) [] (h9.t h10|>.t h16|>.t h19|>.t h20) (.cons Z (.cons Z sk)) (List.Perm.trans (List.Perm.trans (front_perm _ 0) (front_perm _ 1)) (.cons _ (.cons _ (List.perm_append_comm_assoc [_,_,_,_] M1 L)))) ⟨⟨_,_,_,Z,hBG.le (h16.t h19|>.t h20)⟩,⟨_,_,_,Z,hBF.le (h16.t h19|>.t h20)⟩,hM.le (Lr D)⟩)
   refine JB_alloc Z trivial Z [_,_,_] Z Z ?_
   intro β21 s21 h21
   refine JA_2 3 4 V ?_ ?_
   ·
    refine Jb Z trivial Z Z Z (open_ac D _ _ d p Ag _ ng cg nf cf (hGl.le (h1.t h2|>.t h3|>.t h4|>.t h5|>.t h9|>.t h10|>.t h21)) (hFn.le (h1.t h2|>.t h3|>.t h4|>.t h5|>.t h9|>.t h10|>.t h21)) hND) ?_
    rintro _ _ s22 h22 ⟨rfl,bm,rfl,hM⟩
    refine ⟨fun _ _ h=>h,?_⟩
    refine JA_1 4 V<|JB_alloc Z trivial Z [_,_] Z Z ?_
    intro β23 s23 h23
    refine JA_1 6 V<|Wu Z trivial 0 [_,_] Y9 (fun _ hx=>sub_mem (sbN (sbY (sbY (sbY (sbY (sb0 _)))))) hx)<|JA_1 7 V<|Wu Z trivial 1 [_,_,_] Y9 (fun _ hx=>sub_mem (sbN (sbY (sbY (sbY (sbY (sb0 _)))))) hx)<|JA_done V ?_
    refine thenQ_n (MidN.mk (β23,β21,M1,.slice Bg mg eg,.slice Bf mf ef,bm) [] (h9.t h10|>.t h21|>.t h22|>.t h23) (.cons Z (.cons Z sk)) (List.Perm.trans (List.Perm.trans (front_perm _ 1) (front_perm _ 1)) (.cons _ (.cons _ (List.perm_append_comm_assoc [_,_,_,_] M1 L)))) ⟨⟨_,_,_,Z,hBG.le (h21.t h22|>.t h23)⟩,⟨_,_,_,Z,hBF.le (h21.t h22|>.t h23)⟩,hM.le h23⟩)
   refine JB_alloc Z trivial Z [_,_] Z Z ?_
   intro β24 s24 h24
   refine JA_1 3 V<|Jb Z trivial Z Z Z (open_ac D _ _ d p Ag _ ng cg nf cf (hGl.le (h1.t h2|>.t h3|>.t h4|>.t h5|>.t h9|>.t h10|>.t h21|>.t h24)) (hFn.le (h1.t h2|>.t h3|>.t h4|>.t h5|>.t h9|>.t h10|>.t h21|>.t h24)) hND) ?_
   rintro _ _ s25 h25 ⟨rfl,bm,rfl,hM⟩
   refine ⟨fun _ _ h=>h,?_⟩
   refine JA_1 6 V<|Wu Z trivial 0 [_,_] Y9 (fun _ hx=>sub_mem (sbN (sbY (sbY (sbY (sbY (sb0 _)))))) hx)<|JA_1 7 V<|Wu Z trivial 1 [_,_,_] Y9 (fun _ hx=>sub_mem (sbN (sbY (sbY (sbY (sbY (sb0 _)))))) hx)<|JA_done V ?_
   refine thenQ_n (MidN.mk (β24,β21,M1,.slice Bg mg eg,.slice Bf mf ef,bm) [] (h9.t h10|>.t h21|>.t h24|>.t h25) (.cons Z (.cons Z sk)) (List.Perm.trans (List.Perm.trans (front_perm _ 1) (front_perm _ 1)) (.cons _ (.cons _ (List.perm_append_comm_assoc [_,_,_,_] M1 L)))) ⟨⟨_,_,_,Z,hBG.le (h21.t h24|>.t h25)⟩,⟨_,_,_,Z,hBF.le (h21.t h24|>.t h25)⟩,hM.le (Lr D)⟩)
  ·
   refine JB_alloc Z trivial Z [_,_] Z Z ?_
   intro β26 s26 h26
   refine JA_2 1 5 V ?_ ?_
   ·
    refine Jb Z trivial Z Z Z (AC.mid [_,_,_,_,_] [] L (cloneP_ac D _ _ d p Ag _ ng cg nf cf (hGl.le (h1.t h2|>.t h3|>.t h4|>.t h5|>.t h9|>.t h26)) (hFn.le (h1.t h2|>.t h3|>.t h4|>.t h5|>.t h9|>.t h26)) hV)) ?_
    rintro _ _ s27 h27 ⟨M1,rfl,Bg,mg,eg,Bf,mf,ef,rfl,hBG,hBF⟩
    refine ⟨(fun x _ h=>mem_ins (X:=[_,_,_,_,_]) (M:=M1) (Y:=L) h),?_⟩
    simp only [cQ9,nQ9]
    refine JA_2 3 5 V ?_ ?_
    ·
     refine Jb Z trivial Z Z Z (open_ac D _ _ d p Ag _ ng cg nf cf (hGl.le (h1.t h2|>.t h3|>.t h4|>.t h5|>.t h9|>.t h26|>.t h27)) (hFn.le (h1.t h2|>.t h3|>.t h4|>.t h5|>.t h9|>.t h26|>.t h27)) hND) ?_
     rintro _ _ s28 h28 ⟨rfl,bm,rfl,hM⟩
     refine ⟨fun _ _ h=>h,?_⟩
     refine JA_1 5 V<|JB_alloc Z trivial Z [_,_,_] Z Z ?_
     intro β29 s29 h29
     refine JA_1 6 V<|Wu Z trivial 1 [_,_] Y9 (fun _ hx=>sub_mem (sbN (sbY (sbY (sbY (sbY (sb0 _)))))) hx)<|JA_1 7 V<|Wu Z trivial 0 [_,_,_] Y9 (fun _ hx=>sub_mem (sbN (sbY (sbY (sbY (sbY (sb0 _)))))) hx)<|JA_done V ?_
     refine thenQ_n (MidN.mk (β26,β29,M1,.slice Bg mg eg,.slice Bf mf ef,bm) [] (h9.t h26|>.t h27|>.t h28|>.t h29) (.cons Z (.cons Z sk)) (List.Perm.trans (List.Perm.trans (front_perm _ 0) (front_perm _ 1)) (.cons _ (.cons _ (List.perm_append_comm_assoc [_,_,_,_] M1 L)))) ⟨⟨_,_,_,Z,hBG.le (h28.t h29)⟩,⟨_,_,_,Z,hBF.le (h28.t h29)⟩,hM.le h29⟩)
    refine JB_alloc Z trivial Z [_,_,_] Z Z ?_
    intro β30 s30 h30
    refine JA_1 3 V<|Jb Z trivial Z Z Z (open_ac D _ _ d p Ag _ ng cg nf cf (hGl.le (h1.t h2|>.t h3|>.t h4|>.t h5|>.t h9|>.t h26|>.t h27|>.t h30)) (hFn.le (h1.t h2|>.t h3|>.t h4|>.t h5|>.t h9|>.t h26|>.t h27|>.t h30)) hND) ?_
    rintro _ _ s31 h31 ⟨rfl,bm,rfl,hM⟩
    refine ⟨fun _ _ h=>h,?_⟩
    refine JA_1 6 V<|Wu Z trivial 1 [_,_] Y9 (fun _ hx=>sub_mem (sbN (sbY (sbY (sbY (sbY (sb0 _)))))) hx)<|JA_1 7 V<|Wu Z trivial 0 [_,_,_] Y9 (fun _ hx=>sub_mem (sbN (sbY (sbY (sbY (sbY (sb0 _)))))) hx)<|JA_done V ?_
    refine thenQ_n (MidN.mk (β26,β30,M1,.slice Bg mg eg,.slice Bf mf ef,bm) [] (h9.t h26|>.t h27|>.t h30|>.t h31) (.cons Z (.cons Z sk)) (List.Perm.trans (List.Perm.trans (front_perm _ 0) (front_perm _ 1)) (.cons _ (.cons _ (List.perm_append_comm_assoc [_,_,_,_] M1 L)))) ⟨⟨_,_,_,Z,hBG.le (h30.t h31)⟩,⟨_,_,_,Z,hBF.le (h30.t h31)⟩,hM.le (Lr D)⟩)
   refine JB_alloc Z trivial Z [_,_,_] Z Z ?_
   intro β32 s32 h32
   refine JA_1 1 V<|Jb Z trivial Z Z Z (AC.mid [_,_,_,_,_,_] [] L (cloneP_ac D _ _ d p Ag _ ng cg nf cf (hGl.le (h1.t h2|>.t h3|>.t h4|>.t h5|>.t h9|>.t h26|>.t h32)) (hFn.le (h1.t h2|>.t h3|>.t h4|>.t h5|>.t h9|>.t h26|>.t h32)) hV)) ?_
   rintro _ _ s33 h33 ⟨M1,rfl,Bg,mg,eg,Bf,mf,ef,rfl,hBG,hBF⟩
   refine ⟨(fun x _ h=>mem_ins (X:=[_,_,_,_,_,_]) (M:=M1) (Y:=L) h),?_⟩
   simp only [cQ9,nQ9]
   refine JA_1 3 V<|Jb Z trivial Z Z Z (open_ac D _ _ d p Ag _ ng cg nf cf (hGl.le (h1.t h2|>.t h3|>.t h4|>.t h5|>.t h9|>.t h26|>.t h32|>.t h33)) (hFn.le (h1.t h2|>.t h3|>.t h4|>.t h5|>.t h9|>.t h26|>.t h32|>.t h33)) hND) ?_
   rintro _ _ s34 h34 ⟨rfl,bm,rfl,hM⟩
   refine ⟨fun _ _ h=>h,?_⟩
   refine JA_1 6 V<|Wu Z trivial 1 [_,_] Y9 (fun _ hx=>sub_mem (sbN (sbY (sbY (sbY (sbY (sb0 _)))))) hx)<|JA_1 7 V<|Wu Z trivial 0 [_,_,_] Y9 (fun _ hx=>sub_mem (sbN (sbY (sbY (sbY (sbY (sb0 _)))))) hx)<|JA_done V ?_
   refine thenQ_n (MidN.mk (β26,β32,M1,.slice Bg mg eg,.slice Bf mf ef,bm) [] (h9.t h26|>.t h32|>.t h33|>.t h34) (.cons Z (.cons Z sk)) (List.Perm.trans (List.Perm.trans (front_perm _ 0) (front_perm _ 1)) (.cons _ (.cons _ (List.perm_append_comm_assoc [_,_,_,_] M1 L)))) ⟨⟨_,_,_,Z,hBG.le h34⟩,⟨_,_,_,Z,hBF.le h34⟩,hM.le (Lr D)⟩)
  refine JB_alloc Z trivial Z [_,_,_] Z Z ?_
  intro β35 s35 h35
  refine JA_2 1 4 V ?_ ?_
  ·
   refine Jb Z trivial Z Z Z (AC.mid [_,_,_,_,_] [] L (cloneP_ac D _ _ d p Ag _ ng cg nf cf (hGl.le (h1.t h2|>.t h3|>.t h4|>.t h5|>.t h9|>.t h35)) (hFn.le (h1.t h2|>.t h3|>.t h4|>.t h5|>.t h9|>.t h35)) hV)) ?_
   rintro _ _ s36 h36 ⟨M1,rfl,Bg,mg,eg,Bf,mf,ef,rfl,hBG,hBF⟩
   refine ⟨(fun x _ h=>mem_ins (X:=[_,_,_,_,_]) (M:=M1) (Y:=L) h),?_⟩
   simp only [cQ9,nQ9]
   refine JA_2 3 4 V ?_ ?_
   ·
    refine Jb Z trivial Z Z Z (open_ac D _ _ d p Ag _ ng cg nf cf (hGl.le (h1.t h2|>.t h3|>.t h4|>.t h5|>.t h9|>.t h35|>.t h36)) (hFn.le (h1.t h2|>.t h3|>.t h4|>.t h5|>.t h9|>.t h35|>.t h36)) hND) ?_
    rintro _ _ s37 h37 ⟨rfl,bm,rfl,hM⟩
    refine ⟨fun _ _ h=>h,?_⟩
    refine JA_1 4 V<|JB_alloc Z trivial Z [_,_] Z Z ?_
    intro β38 s38 h38
    refine JA_1 6 V<|Wu Z trivial 0 [_,_] Y9 (fun _ hx=>sub_mem (sbN (sbY (sbY (sbY (sbY (sb0 _)))))) hx)<|JA_1 7 V<|Wu Z trivial 1 [_,_,_] Y9 (fun _ hx=>sub_mem (sbN (sbY (sbY (sbY (sbY (sb0 _)))))) hx)<|JA_done V ?_
    refine thenQ_n (MidN.mk (β38,β35,M1,.slice Bg mg eg,.slice Bf mf ef,bm) [] (h9.t h35|>.t h36|>.t h37|>.t h38) (.cons Z (.cons Z sk)) (List.Perm.trans (List.Perm.trans (front_perm _ 1) (front_perm _ 1)) (.cons _ (.cons _ (List.perm_append_comm_assoc [_,_,_,_] M1 L)))) ⟨⟨_,_,_,Z,hBG.le (h37.t h38)⟩,⟨_,_,_,Z,hBF.le (h37.t h38)⟩,hM.le h38⟩)
   refine JB_alloc Z trivial Z [_,_] Z Z ?_
   intro β39 s39 h39
   refine JA_1 3 V<|Jb Z trivial Z Z Z (open_ac D _ _ d p Ag _ ng cg nf cf (hGl.le (h1.t h2|>.t h3|>.t h4|>.t h5|>.t h9|>.t h35|>.t h36|>.t h39)) (hFn.le (h1.t h2|>.t h3|>.t h4|>.t h5|>.t h9|>.t h35|>.t h36|>.t h39)) hND) ?_
   rintro _ _ s40 h40 ⟨rfl,bm,rfl,hM⟩
   refine ⟨fun _ _ h=>h,?_⟩
   refine JA_1 6 V<|Wu Z trivial 0 [_,_] Y9 (fun _ hx=>sub_mem (sbN (sbY (sbY (sbY (sbY (sb0 _)))))) hx)<|JA_1 7 V<|Wu Z trivial 1 [_,_,_] Y9 (fun _ hx=>sub_mem (sbN (sbY (sbY (sbY (sbY (sb0 _)))))) hx)<|JA_done V ?_
   refine thenQ_n (MidN.mk (β39,β35,M1,.slice Bg mg eg,.slice Bf mf ef,bm) [] (h9.t h35|>.t h36|>.t h39|>.t h40) (.cons Z (.cons Z sk)) (List.Perm.trans (List.Perm.trans (front_perm _ 1) (front_perm _ 1)) (.cons _ (.cons _ (List.perm_append_comm_assoc [_,_,_,_] M1 L)))) ⟨⟨_,_,_,Z,hBG.le (h39.t h40)⟩,⟨_,_,_,Z,hBF.le (h39.t h40)⟩,hM.le (Lr D)⟩)
  refine JB_alloc Z trivial Z [_,_] Z Z ?_
  intro β41 s41 h41
  refine JA_1 1 V<|Jb Z trivial Z Z Z (AC.mid [_,_,_,_,_,_] [] L (cloneP_ac D _ _ d p Ag _ ng cg nf cf (hGl.le (h1.t h2|>.t h3|>.t h4|>.t h5|>.t h9|>.t h35|>.t h41)) (hFn.le (h1.t h2|>.t h3|>.t h4|>.t h5|>.t h9|>.t h35|>.t h41)) hV)) ?_
  rintro _ _ s42 h42 ⟨M1,rfl,Bg,mg,eg,Bf,mf,ef,rfl,hBG,hBF⟩
  refine ⟨(fun x _ h=>mem_ins (X:=[_,_,_,_,_,_]) (M:=M1) (Y:=L) h),?_⟩
  simp only [cQ9,nQ9]
  refine JA_1 3 V<|Jb Z trivial Z Z Z (open_ac D _ _ d p Ag _ ng cg nf cf (hGl.le (h1.t h2|>.t h3|>.t h4|>.t h5|>.t h9|>.t h35|>.t h41|>.t h42)) (hFn.le (h1.t h2|>.t h3|>.t h4|>.t h5|>.t h9|>.t h35|>.t h41|>.t h42)) hND) ?_
  rintro _ _ s43 h43 ⟨rfl,bm,rfl,hM⟩
  refine ⟨fun _ _ h=>h,?_⟩
  refine JA_1 6 V<|Wu Z trivial 0 [_,_] Y9 (fun _ hx=>sub_mem (sbN (sbY (sbY (sbY (sbY (sb0 _)))))) hx)<|JA_1 7 V<|Wu Z trivial 1 [_,_,_] Y9 (fun _ hx=>sub_mem (sbN (sbY (sbY (sbY (sbY (sb0 _)))))) hx)<|JA_done V ?_
  refine thenQ_n (MidN.mk (β41,β35,M1,.slice Bg mg eg,.slice Bf mf ef,bm) [] (h9.t h35|>.t h41|>.t h42|>.t h43) (.cons Z (.cons Z sk)) (List.Perm.trans (List.Perm.trans (front_perm _ 1) (front_perm _ 1)) (.cons _ (.cons _ (List.perm_append_comm_assoc [_,_,_,_] M1 L)))) ⟨⟨_,_,_,Z,hBG.le h43⟩,⟨_,_,_,Z,hBF.le h43⟩,hM.le (Lr D)⟩)
 intro g s8 h8 I8
 simp only [cQ9,nQ9]
 obtain ⟨b5,b6,M1,v1,v2,bm⟩:=g
 obtain ⟨⟨Bg,mg,eg,q1,hBG⟩,⟨Bf,mf,ef,q2,css,Ms0,hM1,hRw,hA0⟩,hM⟩:=I8
 simp only at q1 q2 hBG hRw hM hA0 hM1
 subst q1 q2
 dsimp only
 have hmf:mf=nf:=by rw [hRw.1,hA0.len.2];exact hn2.symm
 obtain rfl:nf=mf:=hmf.symm
 have hcf1:=hRw.2.1
 have hcf2:=hRw.2.2.1
 refine JC_perm (.cons _ (.cons _ (List.perm_append_comm_assoc M1 [_,_,_,_] L))) ?_
 simp only [cQ9,nQ9]
 refine Zs<|Sr<|Wb Y5<|Wl 0 Y6<|Ws Y4<|Zqm Z Z<|Nt<|Zp<|?_
 refine JC_loop (γ:=Nat×Hl) (fun g=>[(1,_),(2,_),(3,_),(5,_),(6,_),(22,_),(23,.int .i64 (g.1:Int))]) (fun g=>_::_::_::_::_::_::(g.2++L)) (fun g tw=>Le D s8 tw∧(g.1≤nf∧∃ Ms,g.2=List.flatten Ms∧All3 (FO d tw) Ms ((p.funcs.take g.1).map (fdF p)++p.funcs.drop g.1) css)) (fun g=>nf - g.1) (fun _ _ _ h hl=>⟨h.1.trans hl,⟨h.2.1,by obtain ⟨Ms,q2,q3⟩:=h.2.2;exact ⟨Ms,q2,q3.mono fun _ _ _ k=>k.le hl⟩⟩⟩) (0,M1) (.cons Z (.cons Z (.cons Z (.cons Z (.cons Z (.cons Z (.cons Z (.nil _)))))))) Z ⟨Le.refl _,⟨Nat.zero_le _,Ms0,hM1,by simpa using hA0.mono fun _ _ _ k=>k.le (Lr D)⟩⟩ ?_
 intro g s44 I44
 obtain ⟨k,Fo⟩:=g
 obtain ⟨hk0,Ms,hF,hA3⟩:=I44.2
 simp only at hk0 hF hA3
 dsimp only
 refine Sr<|Zqlt Z Z Z<|Nt<|Zs<|?_
 refine JC_ifD Z (fun c45=>?_) (fun c45=>?_)
 ·
  have hk:k < nf:=by omega
  obtain ⟨b,off,x,B1,m1,d1,B2,m2,d2,B3,m3,d3,rfl,hx,hcx,hpx,hlx,hbx,hnl⟩:=Fncs.at_ (hFn.le (h1.t h2|>.t h3|>.t h4|>.t h5|>.t h8|>.t I44.1)) hk
  have hfx:=hVf x (List.mem_of_getElem? hx)
  obtain ⟨us1,u,us2,vs1,v,vs2,ws1,w0,ws2,rfl,hvv,hcs,hvl,hxw,hA1,hA2⟩:=hA3.at_ (k:=k) (by rw [List.length_append,List.length_map,List.length_take,List.length_drop];omega)
  obtain ⟨hvs1,hvx,hvs2⟩:=part_at hvv hvl hx
  obtain rfl:x=v:=hvx.symm
  obtain ⟨C1,r1,e1,C2,r2,e2,C3,r3,e3,hw0,hx1,hx2,hxB,_⟩:=hxw
  have hw:css[k]?=some w0:=by
    have:=hA1.len
    rw [hcs,List.getElem?_append_right O,show k - ws1.length=0 by omega];rfl
  obtain ⟨b9,off9,rfl,hcr⟩:=hRw.at_ hw
  rw [hw0] at hcr
  obtain ⟨F1,hF1⟩:∃ F,F=us1.flatten:=⟨_,rfl⟩
  obtain ⟨F2,hF2⟩:∃ F,F=us2.flatten:=⟨_,rfl⟩
  have hFF:Fo=F1++(u++F2):=by rw [hF,hF1,hF2];simp
  subst hFF
  rw [show (F1++(u++F2))++L=F1++(u++(F2++L)) from by simp only [List.append_assoc]]
  refine Zk<|Zt<|Zs<|Zp<|Sr<|Zqm Z Z<|At Z Z<|JC_drawT drawsMixed 14 Z 6 ?_
  intro s46 h46
  refine za 0 Z (QE_ldA 1 [_,_,_] Z Z Z Z Z) Z<|za 1 Z (We Y4) Z<|za 2 Z (Wd 5 Y5) Z<|za 3 Z (QE_mv Z) Z<|za 4 Z (QE_iaN Z Z Z Z Z Z hk) Z<|za 5 Z (QE_ldsA Z Z Z (hcx.le h46) Z) Z<|za 6 Z (QE_build [(_,_),(_,_)] [_,_,_,_,_,_,_] Z Z Z Z Z Z) Z<|za 7 Z (We Y4) Z<|za 8 Z (Wd 0 Y5) Z<|za 9 Z (QE_mv Z) Z<|za 10 Z (QE_iaN Z Z Z Z Z Z hk) Z<|za 11 Z (QE_fa Z Z Z Z) Z<|za 12 Z (QE_ldsR 3 Z Z Z (hcr.le (I44.1.t h46)) Z) Z<|JA_1 13 V ?_
  refine Jb Z trivial Z Z Z (AC.mid (_::_::_::_::_::_::F1) u (F2++L) (fds D d _ _ bm Ag _ ng cg nf cf p (hM.le (I44.1.t h46)) (hGl.le (h1.t h2|>.t h3|>.t h4|>.t h5|>.t h8|>.t I44.1|>.t h46)) x B1 B2 B3 m1 d1 m2 d2 m3 d3 (hpx.le h46) (hlx.le h46) u C3 r3 e3 x.body 1 (hxB.le h46) hfx.2.2.2.2.1)) ?_
  rintro _ _ s47 h47 ⟨u2,rfl,rfl,hu2⟩
  refine ⟨(fun x hx _=>memK6 hx),?_⟩
  simp only [List.cons_append]
  rw [show F1++(u2++(F2++L))=(F1++(u2++F2))++L from by simp only [List.append_assoc]]
  refine JA_done V<|Zb<|Zt<|Zr<|Zqadd Z Z Z (w64 O O)<|Zqm Z Z<|Zn<|?_
  refine thenQ_n ⟨(k+1,F1++(u2++F2)),[],kp,Z,⟨(I44.1.t h46|>.t h47),⟨by simp only;omega,us1++u2::us2,by simp [hF1,hF2],by simp only;rw [part_next hx,← hvs1,← hvs2,hcs];exact (hA1.mono fun _ _ _ k=>k.le (h46.t h47)).app (.cons ⟨C1,r1,e1,C2,r2,e2,C3,r3,e3,hw0,hx1.le (h46.t h47),hx2.le (h46.t h47),hu2.le (Lr D),hnl⟩ (hA2.mono fun _ _ _ k=>k.le (h46.t h47)))⟩⟩,(by simp only;omega)⟩
 obtain rfl:nf=k:=by omega
 rw [List.take_of_length_le O,List.drop_eq_nil_of_le O,List.append_nil] at hA3
 refine Zl<|Zv<|Zv<|Zd<|Zt<|Zs<|Zs<|JC_pubX [_,_,_,_,_,_] Fo _ ?_
 intro s48 h48 hpub48
 simp only [cQ9,nQ9]
 have hFN:Fncs d s48 Bf nf ef (p.funcs.map (fdF p)):=FOs.pub ⟨css,Ms,hF,hRw.le (I44.1.t h48),hA3.mono fun _ _ _ k=>k.le h48⟩ hpub48
 refine Zr<|JO_q (QE_ldA 0 [_,_] Z Z Z Z Z) Z<|Jc Z Z Z (validate_ac D _ _ (hG.le (h1.t h2|>.t h3|>.t h4|>.t h5|>.t h8|>.t I44.1|>.t h48)) d (foldP p) Bg Bf mg eg nf ef (hBG.le (I44.1.t h48)) (hFN.le (Lr D))) ?_
 rintro _ _ s49 h49 ⟨rfl,rfl⟩
 refine JO_allocZ Z [_,_] Z Z ?_
 intro β50 s50 h50
 refine Wt 0 [_,_] Y9<|Nt<|Sr<|JO_q (QE_ldA 0 [_,_] Z Z Z Z Z) Z<|JO_q (QE_build [] [_,_] Z Z Z Z Z Z) Z<|JO_q (QE_ane Z Z (eqFault _ _ _ _)) Z<|Nt<|?_
 refine JC_ifN Z (fun c51=>?_) (fun c51=>?_)
 ·
  have hE:foldR p=(⟨[],[]⟩,prgF (foldP p)):=(if_neg g14).trans (if_pos (fun h=>c51 (by rw [prgF_00 h];exact ⟨rfl,rfl⟩)))
  refine Zs<|JC_drawE drawsMixed 4 Z [5,4] (by intro x hx;exact eraseAll_mem hx) ?_
  intro s52 h52
  refine za 0 Z (QE_build [] [_,_] Z Z Z Z Z Z) Z<|za 1 Z (QE_ldA 0 [_,_] Z Z Z Z Z) Z<|JA_1 2 V<|Wu Z trivial 5 [_,_] Y9 (fun _ hx=>sub_mem (sbY (sbY (sbY (sbY (sbN (sbY (sbE _))))))) hx)<|JA_1 3 V<|Wu Z trivial 4 [_,_] Y9 (fun _ hx=>sub_mem (sbY (sbY (sbY (sbY (sbN (sbY (sbE _))))))) hx)<|JA_done V<|Zt<|Zo<|Zu<|?_
  refine retQ_mk [_,_,_,_,_,_,_] L (.inr Z) (.agg (us:=[_,_]) 5 Z Z Z Z Z (.agg (us:=[_,_]) 4 Z Z Z Z Z (.nil))) Z (h1.t h2|>.t h3|>.t h4|>.t h5|>.t h8|>.t I44.1|>.t h48|>.t h49|>.t h50|>.t h52) (fun sR hS2=>?_)
  rw [hE]
  exact ⟨rfl,none,0,0,none,0,0,rfl,fun s2 hs2=>⟨glos_nil _,fncs_nil _ _⟩⟩
 have g45:=c51
 have hE:foldR p=(foldP p,(0,0)):=(if_neg g14).trans (if_neg (fun h=>h g45.1))
 refine Zk<|Zt<|Sr<|JO_q (QE_ldA 1 [_,_] Z Z Z Z Z) Z<|JO_q (QE_build [] [_,_] Z Z Z Z Z Z) Z<|Wt 5 [_,_] Y9<|Wt 4 [_,_] Y9<|Nt<|Zo<|?_
 refine retQ_mk [_,_,_,_,_,_,_] L (.inr Z) (.agg (us:=[_,_]) 5 Z Z Z Z Z (.agg (us:=[_,_]) 4 Z Z Z Z Z (.nil))) Z (h1.t h2|>.t h3|>.t h4|>.t h5|>.t h8|>.t I44.1|>.t h48|>.t h49|>.t h50) (fun sR hS2=>?_)
 rw [hE]
 exact ⟨rfl,_,_,_,_,_,_,rfl,fun s2 hs2=>⟨hBG.le (I44.1.t h48|>.t h49|>.t h50|>.t (hS2.t hs2)),hFN.le (h49.t h50|>.t (hS2.t hs2))⟩⟩
theorem fold_ac (D:Nat) (L:Hl) (s:World) (hG:GP s) (d:Nat) (p:Prg) (Ag Af:Option Addr) (ng cg nf cf:Nat) (hGl:Glos s Ag ng cg p.globals) (hFn:Fncs d s Af nf cf p.funcs):AC Tryz.prog D 17 [.agg #[.slice Ag ng cg,.slice Af nf cf]] L s fun v L' s'=>L=L'∧∃ Bg mg eg Bf mf ef,v=.tuple #[.agg #[.slice Bg mg eg,.slice Bf mf ef],.agg #[.int .i64 (foldR p).2.1,.int .i64 (foldR p).2.2]]∧Glos s' Bg mg eg (foldR p).1.globals∧Fncs d s' Bf mf ef (foldR p).1.funcs:=(foldO_ac D L s hG d p Ag Af ng cg nf cf hGl hFn).mono fun v L' s' _ ⟨h1,Bg,mg,eg,Bf,mf,ef,h2,h3⟩=>⟨h1,Bg,mg,eg,Bf,mf,ef,h2,h3 _ (Le.refl _)⟩
end Go.Proofs.YtpdnijphccdiiaaGreatDoor
namespace Go.Proofs.YtpdnijphccdiiaaGreatDoor
open Go Go.FL
def OPp (op x y:Int):Option Int:=if (oprF op y).1=0 then some (opP op x y) else none
def Far (m:MS) {α:Type}:ER α→Prop
  | .ok _ m2=>∃ w,m2.out=m.out++w
  | .fin m2 _ _=>∃ w,m2.out=m.out++w
  | .out=>True
def Fo (d:Nat) {α:Type} (r r':ER α):Prop:=match r with
  | .out=>True
  | .ok a m=>∃ e,d≤e∧r'=.ok a (addL e m)
  | .fin m st cd=>(st≠0∧∃ e,d≤e∧r'=.fin (addL e m) st cd)∨(st=0∧Far m r')
theorem Fo.ok {d:Nat} {α:Type} {a:α} {m:MS}:Fo d (.ok a m) (.ok a (addL d m)):=⟨d,Nat.le_refl _,rfl⟩
theorem Fo.fin {d:Nat} {α:Type} {m:MS} {st cd:Int} (h:st≠0):Fo d (.fin m st cd:ER α) (.fin (addL d m) st cd):=.inl ⟨h,d,Nat.le_refl _,rfl⟩
theorem Fo.le {d e:Nat} {α:Type} {r r':ER α} (h:Fo e r r') (hd:d≤e):Fo d r r':=by
  cases r with
  | out=>trivial
  | ok a m=>obtain ⟨g,h1,h2⟩:=h;exact ⟨g,by omega,h2⟩
  | fin m st cd=>
    rcases h with ⟨h0,g,h1,h2⟩ | h
    · exact .inl ⟨h0,g,by omega,h2⟩
    · exact .inr h
theorem Far.and {m:MS} {α β:Type} {r:ER α} {k:α→MS→ER β} (h:Far m r) (hk:∀ a m,Kp m (k a m)):Far m (r.and k):=by
  cases r with
  | out=>trivial
  | fin m1 st cd=>exact h
  | ok a m1=>
    obtain ⟨w,h2⟩:=h
    have h3:=hk a m1
    show Far m (k a m1)
    cases hr:k a m1 with
    | out=>trivial
    | fin m2 st cd=>rw [hr] at h3;obtain ⟨h4,v,h5⟩:=h3;exact ⟨w++v,by rw [h5,h2,List.append_assoc]⟩
    | ok b m2=>rw [hr] at h3;obtain ⟨h4,v,h5⟩:=h3;exact ⟨w++v,by rw [h5,h2,List.append_assoc]⟩
theorem Fo.and {d:Nat} {α β:Type} {r r':ER α} {k k':α→MS→ER β} (h:Fo d r r') (hk:∀ a m e,d≤e→Fo e (k a m) (k' a (addL e m))) (hp:∀ a m,Kp m (k' a m)):Fo d (r.and k) (r'.and k'):=by
  cases r with
  | out=>trivial
  | ok a m=>
    obtain ⟨e,h1,rfl⟩:=h
    exact (hk a m e h1).le h1
  | fin m st cd=>
    rcases h with ⟨h0,e,h1,rfl⟩ | ⟨h0,h1⟩
    · exact .inl ⟨h0,e,h1,rfl⟩
    · exact .inr ⟨h0,h1.and hp⟩
theorem fo_stp (d:Nat) (m:MS):Fo d (stpM m) (stpM (addL d m)):=by
  unfold stpM
  split
  · rename_i h
    refine .inr ⟨Z,?_⟩
    split
    · exact ⟨[],by simp [addL]⟩
    · exact ⟨[],by simp [addL]⟩
  · rename_i h
    rw [if_neg (by show ¬ m.left+d=0;omega)]
    refine ⟨d,Nat.le_refl _,?_⟩
    have:m.left+d - 1=m.left - 1+d:=by omega
    show ER.ok () { addL d m with left:=m.left+d - 1 }=.ok () (addL d { m with left:=m.left - 1 })
    rw [this];rfl
def Con (v:Int) (m:MS):ER Int→Prop
  | .out=>True
  | .ok a m2=>a=v∧∃ e,m=addL e m2
  | .fin m2 st _=>st=0∧∃ w,m.out=m2.out++w
theorem Con.and {c v:Int} {m:MS} {r:ER Int} {k:Int→MS→ER Int} (h:Con c m r) (hk:∀ m2,Con v m2 (k c m2)):Con v m (r.and k):=by
  cases r with
  | out=>trivial
  | fin m2 st cd=>exact h
  | ok a m2=>
    obtain ⟨rfl,e,rfl⟩:=h
    have h3:=hk m2
    show Con v _ (k a m2)
    cases hr:k a m2 with
    | out=>trivial
    | fin m3 st cd=>rw [hr] at h3;exact h3
    | ok b m3=>rw [hr] at h3;obtain ⟨h4,g,h5⟩:=h3;exact ⟨h4,g+e,by rw [h5];simp only [addL,Nat.add_assoc]⟩
theorem Con.fo {v:Int} {m:MS} {r:ER Int} {d:Nat} (h:Con v m r):Fo d r (.ok v (addL d m)):=by
  cases r with
  | out=>trivial
  | ok a m2=>obtain ⟨rfl,e,rfl⟩:=h;exact ⟨e+d,by omega,by simp only [addL,Nat.add_assoc]⟩
  | fin m2 st cd=>obtain ⟨h0,w,hw⟩:=h;exact .inr ⟨h0,w,hw⟩
section
variable {p:Prg}
theorem idxOf_map {α β:Type} {g:α→β} {q:β→Bool}:∀ {l:List α} {k:Nat},idxOf q (l.map g) k=idxOf (fun x=>q (g x)) l k
  | [],_=>rfl
  | x::r,k=>by rw [List.map_cons,idxOf,idxOf,idxOf_map]
theorem calI_fold (nm:Str):calI (foldP p) nm=calI p nm:=by
  show idxOf _ (p.funcs.map (fdF p)) 0=_
  rw [idxOf_map];rfl
theorem fun_fold (i:Nat):(foldP p).funcs.getD i fn0=fdF p (p.funcs.getD i fn0):=by
  show (p.funcs.map (fdF p)).getD i fn0=_
  rw [List.getD_eq_getElem?_getD,List.getD_eq_getElem?_getD,List.getElem?_map]
  cases p.funcs[i]? <;> rfl
theorem fdX_0 (f:Fnc):fdX p f ex0=ex0:=by
  have h:numP p f (ex0.withA (fdXs p f ex0.args))=none:=by unfold numP ex0;simp [Ex.withA,Ex.kind]
  rw [fdX_none h];rfl
theorem argE_fold (f:Fnc) (l:List Ex) (i:Nat):argE (fdXs p f l) i=fdX p f (argE l i):=by
  unfold argE
  rw [fdXs_map,List.getD_eq_getElem?_getD,List.getD_eq_getElem?_getD,List.getElem?_map]
  cases l[i]? with
  | none=>exact (fdX_0 f).symm
  | some x=>rfl
def FoS (p:Prg) (S S':Sem):Prop:=(∀ f x d m,Fo d (S.e f x m) (S'.e (fdF p f) (fdX p f x) (addL d m)))∧(∀ i vs d m,Fo d (S.c i vs m) (S'.c i vs (addL d m)))∧(∀ f x d m,Fo d (S.t f x m) (S'.t (fdF p f) (fdS p f x) (addL d m)))∧∀ f c b d m,Fo d (S.w f c b m) (S'.w (fdF p f) (fdX p f c) (fdSs p f b) (addL d m))
theorem fo_all {E E':Ex→MS→ER Int} {F:Ex→Ex} (hE:∀ x d m,Fo d (E x m) (E' (F x) (addL d m))) (hK:∀ x m,Kp m (E' x m)):∀ (l:List Ex) (d:Nat) (m:MS),Fo d (evalAll E l m) (evalAll E' (l.map F) (addL d m))
  | [],d,m=>by rw [List.map_nil,evalAll,evalAll];exact Fo.ok
  | x::r,d,m=>by
    rw [List.map_cons,evalAll,evalAll]
    exact (hE x d m).and (fun v m1 e _=>(fo_all hE hK r e m1).and (fun _ _ _ _=>Fo.ok) fun _ _=>Kp.rfl_ok) fun v m1=>(kp_all hK _ m1).and fun _ _=>Kp.rfl_ok
theorem fo_run {T T':Stm→MS→ER (Int×Int)} {F:Stm→Stm} (hT:∀ x d m,Fo d (T x m) (T' (F x) (addL d m))) (hK:∀ x m,Kp m (T' x m)):∀ (l:List Stm) (d:Nat) (m:MS),Fo d (runAll T l m) (runAll T' (l.map F) (addL d m))
  | [],d,m=>by rw [List.map_nil,runAll,runAll];exact Fo.ok
  | x::r,d,m=>by
    rw [List.map_cons,runAll,runAll]
    refine (hT x d m).and (fun y m1 e _=>?_) fun y m1=>?_
    · split
      · exact fo_run hT hK r e m1
      · exact Fo.ok
    · split
      · exact kp_run hK _ m1
      · exact Kp.rfl_ok
theorem fo_get (d:Nat) (m:MS):Fo d (getI m) (getI (addL d m)):=by
  obtain ⟨g,a,f,inp,l,c,o⟩:=m
  cases inp <;> exact ⟨d,Nat.le_refl _,rfl⟩
theorem sem_num {n:Nat} {f:Fnc} {x:Ex} (hx:x.kind=1) (m:MS):(sem (foldP p) OPp (n+1)).e f x m=if m.left=0 then .fin m 0 0 else .ok x.num { m with left:=m.left - 1 }:=by
  show (stpM m).and (fun _ m=>vX (foldP p) OPp (sem (foldP p) OPp n) f x m)=_
  unfold stpM
  split
  · rfl
  · show vX _ _ _ _ _ _=_
    rw [vX,if_pos hx]
theorem con_of {n:Nat} {f:Fnc} {x:Ex} (hS:FoS p (sem p OPp n) (sem (foldP p) OPp n)) (hx:(fdX p f x).kind=1) (m:MS):Con (fdX p f x).num m ((sem p OPp n).e f x m):=by
  have h:=hS.1 f x 0 m
  cases n with
  | zero=>trivial
  | succ n=>
    rw [sem_num hx] at h
    have e0:addL 0 m=m:=rfl
    rw [e0] at h
    cases hr:(sem p OPp (n+1)).e f x m with
    | out=>trivial
    | ok a m2=>
      rw [hr] at h
      obtain ⟨e,_,h2⟩:=h
      split at h2
      · cases h2
      · rename_i h0
        injection h2 with h2 h3
        refine ⟨h2.symm,e+1,?_⟩
        obtain ⟨g2,a2,f2,i2,l2,c2,o2⟩:=m2
        obtain ⟨g1,a1,f1,i1,l1,c1,o1⟩:=m
        simp only [addL,MS.mk.injEq] at h3 h0 ⊢
        obtain ⟨q1,q2,q3,q4,q5,q6,q7⟩:=h3
        exact ⟨q1,q2,q3,q4,by omega,q6,q7⟩
    | fin m2 st cd=>
      rw [hr] at h
      rcases h with ⟨h1,e,_,h2⟩ | ⟨h1,h2⟩
      · split at h2
        · injection h2 with _ h3 _;exact absurd h3.symm h1
        · cases h2
      · refine ⟨h1,?_⟩
        split at h2
        · exact h2
        · exact h2
theorem mean_glo {f:Fnc} {nm:Str} {i:Int} (h1:(meanP p f nm).1.1=3) (h2:gkOf p (meanP p f nm).1.2=1) (m:MS):nameV p f nm m=gnumOf p (meanP p f nm).1.2:=by
  unfold meanP at h1 h2 ⊢
  split at h1
  · cases h1
  rename_i k1
  rw [if_neg k1] at h2 ⊢
  split at h1
  · cases h1
  rename_i k2
  rw [if_neg k2] at h2 ⊢
  cases hf:(ents p).find? fun e=>decide (e.1=nm) with
  | none=>rw [hf] at h1;cases h1
  | some e=>
    rw [hf] at h1 h2
    simp only at h1 h2 ⊢
    have hs:¬ 0≤slotP f nm:=by rw [slotP,if_neg k1,if_neg k2];decide
    have hg:∃ k:Nat,e.2=((3:Int),(k:Int))∧gloI p nm=(k:Int)∧k < p.globals.length:=by
      rw [ents,List.find?_append] at hf
      cases hg:(p.globals.mapIdx fun i g=>(g.name,((3:Int),(i:Int)))).find? fun e=>decide (e.1=nm) with
      | none=>
        rw [hg] at hf
        have:=List.mem_of_find?_eq_some hf
        obtain ⟨i,hi⟩:=List.getElem?_of_mem this
        rw [List.getElem?_mapIdx] at hi
        cases hq:p.funcs[i]? with
        | none=>rw [hq] at hi;cases hi
        | some y=>rw [hq] at hi;simp at hi;rw [← hi] at h1;cases h1
      | some e'=>
        rw [hg] at hf
        obtain rfl:e'=e:=by simpa using hf
        obtain ⟨hp,i,hi,he,hlt⟩:=List.find?_eq_some_iff_getElem.1 hg
        rw [List.getElem_mapIdx] at he
        have hl:i < p.globals.length:=by simpa using hi
        refine ⟨i,by rw [← he],?_,hl⟩
        have:=idxOf_hit (p:=fun g:Glo=>decide (g.name=nm)) (l:=p.globals) (k:=i) (j:=0) (a:=p.globals[i]) (fun j b hj hb=>by
          obtain ⟨hb1,rfl⟩:=List.getElem?_eq_some_iff.1 hb
          have:=hlt j hj
          rw [List.getElem_mapIdx] at this
          simpa using this) (List.getElem?_eq_getElem hl) (by rw [← he] at hp;simpa using hp)
        rw [gloI,this];simp
    obtain ⟨k,e1,e2,e3⟩:=hg
    rw [e1] at h2 ⊢
    simp only at h2 ⊢
    have hgk:=gkOf_at (p:=p) (List.getElem?_eq_getElem e3)
    have hgn:=gnumOf_at (p:=p) (List.getElem?_eq_getElem e3)
    rw [nameV,if_neg hs,e2,Int.toNat_natCast,List.getD_eq_getElem?_getD,List.getElem?_eq_getElem e3]
    simp only [Option.getD_some]
    rw [if_pos (by rw [← hgk];exact h2),hgn]
theorem num_2 {f:Fnc} {x:Ex} (h:x.kind=2):numP p f x=if (meanP p f x.name).1.1=3∧gkOf p (meanP p f x.name).1.2=1 then some (gnumOf p (meanP p f x.name).1.2) else none:=by rw [numP,if_pos h]
theorem num_0 {f:Fnc} {x:Ex} (h2:¬ x.kind=2) (h6:¬ x.kind=6) (h7:¬ x.kind=7):numP p f x=none:=by rw [numP,if_neg h2,if_neg h6,if_neg h7]
theorem num_6n {f:Fnc} {x:Ex} (h2:¬ x.kind=2) (h6:x.kind=6) (ha:x.args=[]):numP p f x=none:=by rw [numP,if_neg h2,if_pos h6,ha]
theorem num_7n {f:Fnc} {x:Ex} (h2:¬ x.kind=2) (h6:¬ x.kind=6) (h7:x.kind=7) (ha:x.args=[]∨∃ a,x.args=[a]):numP p f x=none:=by
  rw [numP,if_neg h2,if_neg h6,if_pos h7]
  rcases ha with ha | ⟨a,ha⟩ <;> rw [ha]
theorem con_vX {n:Nat} {f:Fnc} {x:Ex} {v:Int} (hS:FoS p (sem p OPp n) (sem (foldP p) OPp n)) (h:numP p f (x.withA (fdXs p f x.args))=some v) (m:MS):Con v m (vX p OPp (sem p OPp n) f x m):=by
  obtain ⟨k,o,u,nm,ar⟩:=x
  unfold vX
  simp only [Ex.kind,Ex.op,Ex.num,Ex.name,Ex.args]
  by_cases h2:k=2
  · subst h2
    rw [num_2 rfl] at h
    show Con v m (.ok (nameV p f nm m) m)
    split at h
    · rename_i h3
      injection h with h
      exact ⟨(mean_glo (p:=p) (f:=f) (nm:=nm) (i:=0) h3.1 h3.2 m).trans h,0,rfl⟩
    · cases h
  by_cases h6:k=6
  · subst h6
    show Con v m (((sem p OPp n).e f (argE ar 0) m).and fun a m=>.ok ((OPp o a 0).getD 0) m)
    cases ar with
    | nil=>exact absurd ((num_6n (p:=p) (f:=f) (x:=.mk 6 o u nm []) (show ¬ (6:Int)=2 by decide) rfl rfl).symm.trans h) (fun e=>by cases e)
    | cons a0 ar=>
      rw [num_6 (x:=(Ex.mk 6 o u nm (a0::ar)).withA _) (a:=fdX p f a0) (show ¬ (6:Int)=2 by decide) rfl rfl] at h
      split at h
      · rename_i h3
        injection h with h
        refine (con_of hS h3.1 m).and fun m2=>?_
        refine ⟨?_,0,Z⟩
        have h4:(oprF o 0).1=0:=h3.2
        rw [OPp,if_pos h4];exact h
      · cases h
  by_cases h7:k=7
  · subst h7
    show Con v m (((sem p OPp n).e f (argE ar 0) m).and fun a m=>if o=20∧a=0 then .ok 0 m else if o=21∧a≠0 then .ok 1 m else ((sem p OPp n).e f (argE ar 1) m).and fun b m=>match OPp o a b with | some v=>.ok v m | none=>.fin m 1 2)
    match ar,h with
    | [],h=>exact absurd ((num_7n (p:=p) (f:=f) (x:=.mk 7 o u nm []) (show ¬ (7:Int)=2 by decide) (show ¬ (7:Int)=6 by decide) rfl (.inl rfl)).symm.trans h) (fun e=>by cases e)
    | [a0],h=>exact absurd ((num_7n (p:=p) (f:=f) (x:=.mk 7 o u nm [fdX p f a0]) (show ¬ (7:Int)=2 by decide) (show ¬ (7:Int)=6 by decide) rfl (.inr ⟨_,rfl⟩)).symm.trans h) (fun e=>by cases e)
    | a0::b0::ar,h=>
      rw [num_7 (x:=(Ex.mk 7 o u nm (a0::b0::ar)).withA _) (a:=fdX p f a0) (b:=fdX p f b0) (show ¬ (7:Int)=2 by decide) (show ¬ (7:Int)=6 by decide) rfl rfl rfl] at h
      split at h
      · rename_i ha
        refine (con_of hS ha m).and fun m2=>?_
        split at h
        · rename_i hb
          split at h
          · rename_i hz
            injection h with h
            have h:opP o (fdX p f a0).num (fdX p f b0).num=v:=h
            have hz:(oprF o (fdX p f b0).num).1=0:=hz
            split
            · rename_i h20
              refine ⟨?_,0,Z⟩
              rw [← h,h20.1,h20.2];simp [opP,holdB]
            split
            · rename_i h21
              refine ⟨?_,0,Z⟩
              rw [← h,h21.1];simp [opP,holdB,h21.2]
            · refine (con_of hS hb m2).and fun m3=>?_
              rw [OPp,if_pos hz]
              exact ⟨h,0,rfl⟩
          · cases h
        · split at h
          · rename_i h20
            have h20:o=20∧(fdX p f a0).num=0:=h20
            injection h with h
            rw [if_pos h20]
            exact ⟨h,0,rfl⟩
          split at h
          · rename_i h20 h21
            have h20:¬ (o=20∧(fdX p f a0).num=0):=h20
            have h21:o=21∧(fdX p f a0).num≠0:=h21
            injection h with h
            rw [if_neg h20,if_pos h21]
            exact ⟨h,0,rfl⟩
          · cases h
      · cases h
  rw [num_0 (x:=(Ex.mk k o u nm ar).withA _) h2 h6 h7] at h;cases h
theorem vX_with {q:Prg} {OP:Int→Int→Int→Option Int} {S:Sem} {f:Fnc} {x:Ex} {l:List Ex} {m:MS}:vX q OP S f (x.withA l) m=if x.kind=1 then .ok x.num m
  else if x.kind=2 then .ok (nameV q f x.name m) m
  else if x.kind=3 then (S.e f (argE l 0) m).and fun i m=>if ((arrG q x.name m).length:Int)≤i then .fin m 1 1 else .ok ((arrG q x.name m).getD i.toNat 0) m
  else if x.kind=4 then (evalAll (S.e f) l m).and fun vs m=>S.c (calI q x.name).toNat vs m
  else if x.kind=5 then getI m
  else if x.kind=6 then (S.e f (argE l 0) m).and fun a m=>.ok ((OP x.op a 0).getD 0) m
  else (S.e f (argE l 0) m).and fun a m=>if x.op=20∧a=0 then .ok 0 m else if x.op=21∧a≠0 then .ok 1 m
    else (S.e f (argE l 1) m).and fun b m=>match OP x.op a b with | some v=>.ok v m | none=>.fin m 1 2:=by cases x;rfl
theorem fo_vX {n:Nat} {f:Fnc} {x:Ex} {d:Nat} (hS:FoS p (sem p OPp n) (sem (foldP p) OPp n)) (m:MS):Fo d (vX p OPp (sem p OPp n) f x m) (vX (foldP p) OPp (sem (foldP p) OPp n) (fdF p f) (x.withA (fdXs p f x.args)) (addL d m)):=by
  have hK:=kp_sem (p:=foldP p) (OP:=OPp) n
  obtain ⟨hE,hC,hT,hW⟩:=hS
  obtain ⟨kE,kC,kT,kW⟩:=hK
  have n1:(1:Int)≠0:=by decide
  rw [vX_with]
  unfold vX
  simp only [argE_fold,calI_fold]
  split
  · exact Fo.ok
  split
  · exact Fo.ok
  split
  · refine (hE _ _ _ _).and (fun i m e _=>?_) fun i m=>?_
    · show Fo e _ (if ((arrG p x.name m).length:Int)≤i then .fin (addL e m) 1 1 else .ok ((arrG p x.name m).getD i.toNat 0) (addL e m))
      split
      · exact Fo.fin n1
      · exact Fo.ok
    · split
      · exact Kp.rfl_fin
      · exact Kp.rfl_ok
  split
  · rw [fdXs_map]
    exact (fo_all (fun x d m=>hE f x d m) (kE _) _ _ _).and (fun vs m e _=>hC _ _ _ _) fun vs m=>kC _ _ _
  split
  · exact fo_get d m
  split
  · exact (hE _ _ _ _).and (fun a m e _=>Fo.ok) fun a m=>Kp.rfl_ok
  · refine (hE _ _ _ _).and (fun a m e _=>?_) fun a m=>?_
    · split
      · exact Fo.ok
      split
      · exact Fo.ok
      · refine (hE _ _ _ _).and (fun b m e _=>?_) fun b m=>?_
        · cases OPp x.op a b with
          | some v=>exact Fo.ok
          | none=>exact Fo.fin n1
        · split
          · exact Kp.rfl_ok
          · exact Kp.rfl_fin
    · split
      · exact Kp.rfl_ok
      split
      · exact Kp.rfl_ok
      · refine (kE _ _ _).and fun b m=>?_
        split
        · exact Kp.rfl_ok
        · exact Kp.rfl_fin
theorem sX_fold {q:Prg} {S:Sem} {f g:Fnc} {x:Stm} {m:MS}:sX q S g (fdS p f x) m=if x.kind=1 then (S.e g (argE (fdXs p f x.exprs) 0) m).and fun v m=>.ok (0,0) (setV q g x.name v m)
  else if x.kind=2 then (S.e g (argE (fdXs p f x.exprs) 0) m).and fun i m=>if ((arrG q x.name m).length:Int)≤i then .fin m 1 1
    else (S.e g (argE (fdXs p f x.exprs) 1) m).and fun v m=>.ok (0,0) { m with arr:=m.arr.set (gloI q x.name).toNat ((arrG q x.name m).set i.toNat v) }
  else if x.kind=3 then (S.e g (argE (fdXs p f x.exprs) 0) m).and fun v m=>if v≠0 then runAll (S.t g) (fdSs p f x.body) m else runAll (S.t g) (fdSs p f x.els) m
  else if x.kind=4 then S.w g (argE (fdXs p f x.exprs) 0) (fdSs p f x.body) m
  else if x.kind=5 then (evalAll (S.e g) (fdXs p f x.exprs) m).and fun vs m=>(S.c (calI q x.name).toNat vs m).and fun _ m=>.ok (0,0) m
  else if x.kind=6 then (S.e g (argE (fdXs p f x.exprs) 0) m).and fun v m=>.ok (3,v) m
  else if x.kind=7 then (S.e g (argE (fdXs p f x.exprs) 0) m).and fun v m=>if 20000≤m.out.length then .fin m 5 0 else .ok (0,0) { m with out:=m.out++[UInt8.ofNat v.toNat] }
  else if x.kind=8 then (S.e g (argE (fdXs p f x.exprs) 0) m).and fun v m=>.fin m 1 v
  else if x.kind=9 then .ok (1,0) m
  else .ok (2,0) m:=by cases x;rfl
theorem fo_sX {n:Nat} {f:Fnc} {x:Stm} {d:Nat} (hS:FoS p (sem p OPp n) (sem (foldP p) OPp n)) (m:MS):Fo d (sX p (sem p OPp n) f x m) (sX (foldP p) (sem (foldP p) OPp n) (fdF p f) (fdS p f x) (addL d m)):=by
  have hK:=kp_sem (p:=foldP p) (OP:=OPp) n
  obtain ⟨hE,hC,hT,hW⟩:=hS
  obtain ⟨kE,kC,kT,kW⟩:=hK
  have n1:(1:Int)≠0:=by decide
  have n5:(5:Int)≠0:=by decide
  have hR:=fun l d m=>fo_run (fun x d m=>hT f x d m) (kT (fdF p f)) l d m
  have kR:=fun f=>kp_run (T:=(sem (foldP p) OPp n).t f) (kT f)
  rw [sX_fold]
  unfold sX
  simp only [argE_fold,calI_fold]
  split
  · refine (hE _ _ _ _).and (fun v m e _=>?_) fun v m=>?_
    · show Fo e (.ok (0,0) (setV p f x.name v m)) (.ok (0,0) (setV p f x.name v (addL e m)))
      unfold setV;split <;> exact ⟨e,Nat.le_refl _,rfl⟩
    · unfold setV;split <;> exact ⟨Nat.le_refl _,[],by simp⟩
  split
  · refine (hE _ _ _ _).and (fun i m e _=>?_) fun i m=>?_
    · show Fo e _ (if ((arrG p x.name m).length:Int)≤i then .fin (addL e m) 1 1 else _)
      split
      · exact Fo.fin n1
      · exact (hE _ _ _ _).and (fun v m e _=>⟨e,Nat.le_refl _,rfl⟩) fun v m=>⟨Nat.le_refl _,[],by simp⟩
    · split
      · exact Kp.rfl_fin
      · exact (kE _ _ _).and fun v m=>⟨Nat.le_refl _,[],by simp⟩
  split
  · rw [fdSs_map,fdSs_map]
    refine (hE _ _ _ _).and (fun v m e _=>?_) fun v m=>?_
    · split
      · exact hR _ _ _
      · exact hR _ _ _
    · split
      · exact kR _ _ _
      · exact kR _ _ _
  split
  · exact hW _ _ _ _ _
  split
  · rw [fdXs_map]
    exact (fo_all (fun x d m=>hE f x d m) (kE _) _ _ _).and (fun vs m e _=>(hC _ _ _ _).and (fun _ m e _=>Fo.ok) fun _ m=>Kp.rfl_ok) fun vs m=>(kC _ _ _).and fun _ m=>Kp.rfl_ok
  split
  · exact (hE _ _ _ _).and (fun v m e _=>Fo.ok) fun v m=>Kp.rfl_ok
  split
  · refine (hE _ _ _ _).and (fun v m e _=>?_) fun v m=>?_
    · show Fo e _ (if 20000≤m.out.length then .fin (addL e m) 5 0 else _)
      split
      · exact Fo.fin n5
      · exact ⟨e,Nat.le_refl _,rfl⟩
    · split
      · exact Kp.rfl_fin
      · exact ⟨Nat.le_refl _,_,rfl⟩
  split
  · exact (hE _ _ _ _).and (fun v m e _=>Fo.fin n1) fun v m=>Kp.rfl_fin
  split
  · exact Fo.ok
  · exact Fo.ok
theorem fo_sem:∀ n,FoS p (sem p OPp n) (sem (foldP p) OPp n)
  | 0=>⟨fun _ _ _ _=>trivial,fun _ _ _ _=>trivial,fun _ _ _ _=>trivial,fun _ _ _ _ _=>trivial⟩
  | n+1=>by
    have hS:=fo_sem n
    have hK:=kp_sem (p:=foldP p) (OP:=OPp) n
    refine ⟨fun f x d m=>?_,fun i vs d m=>?_,fun f x d m=>(fo_stp d m).and (fun _ m e _=>fo_sX hS m) fun _ m=>kp_sX hK _ _ m,fun f c b d m=>?_⟩
    · cases h:numP p f (x.withA (fdXs p f x.args)) with
      | none=>
        rw [fdX_none h]
        exact (fo_stp d m).and (fun _ m e _=>fo_vX hS m) fun _ m=>kp_vX hK _ _ m
      | some v=>
        rw [fdX_some h]
        refine (fo_stp d m).and (k':=fun _ m=>vX (foldP p) OPp (sem (foldP p) OPp n) (fdF p f) (.mk 1 0 v [] []) m) (fun _ m e _=>?_) fun _ m=>kp_vX hK _ _ m
        have e1:vX (foldP p) OPp (sem (foldP p) OPp n) (fdF p f) (.mk 1 0 v [] []) (addL e m)=.ok v (addL e m):=rfl
        rw [e1]
        exact (con_vX hS h m).fo
    · obtain ⟨hE,hC,hT,hW⟩:=hS
      obtain ⟨kE,kC,kT,kW⟩:=hK
      show Fo d (cX p (sem p OPp n) i vs m) (cX (foldP p) (sem (foldP p) OPp n) i vs (addL d m))
      unfold cX
      rw [fun_fold]
      show Fo d _ (if m.calls=100 then .fin (addL d m) 1 3 else _)
      split
      · exact Fo.fin (by decide)
      · have hb:(fdF p (p.funcs.getD i fn0)).body=(p.funcs.getD i fn0).body.map (fdS p (p.funcs.getD i fn0)):=fdSs_map ..
        rw [hb]
        exact (fo_run (fun x d m=>hT _ x d m) (kT _) _ d { m with frm:=fitF ((p.funcs.getD i fn0).params.length+(p.funcs.getD i fn0).locals.length) vs,calls:=m.calls+1 }).and (fun y m1 e _=>⟨e,Nat.le_refl _,rfl⟩) fun y m1=>⟨Nat.le_refl _,[],by simp⟩
    · obtain ⟨hE,hC,hT,hW⟩:=hS
      obtain ⟨kE,kC,kT,kW⟩:=hK
      show Fo d (wX (sem p OPp n) f c b m) (wX (sem (foldP p) OPp n) (fdF p f) (fdX p f c) (fdSs p f b) (addL d m))
      unfold wX
      refine (hE _ _ _ _).and (fun v m e _=>?_) fun v m=>?_
      · split
        · exact Fo.ok
        · have hb:=fdSs_map p f b
          refine Fo.and (by rw [hb];exact fo_run (fun x d m=>hT f x d m) (kT _) b e m) (fun y m e _=>?_) fun y m=>?_
          · split
            · exact Fo.ok
            split
            · exact Fo.ok
            · exact hW _ _ _ _ _
          · split
            · exact Kp.rfl_ok
            split
            · exact Kp.rfl_ok
            · exact kW _ _ _ _
      · split
        · exact Kp.rfl_ok
        · refine (kp_run (kT _) _ _).and fun y m=>?_
          split
          · exact Kp.rfl_ok
          split
          · exact Kp.rfl_ok
          · exact kW _ _ _ _
theorem fold_run {n main a:Nat} {inp:Str} {o o':Str} {st cd st' cd':Int} {k k':Nat} (hn:2 * a+1 < n) (h:outM a (runP p OPp n main inp a)=(o,st,cd,k)) (h':outM a (runP (foldP p) OPp n main inp a)=(o',st',cd',k')) :
    (st≠0→o'=o∧st'=st∧cd'=cd∧k'≤k)∧(st=0→∃ w,o'=o++w):=by
  have h1:=(no_sem (p:=p) (OP:=OPp) n).2.1 main [] (begM p inp a) (by show 2 * a+1 < n;omega)
  have h2:=(no_sem (p:=foldP p) (OP:=OPp) n).2.1 main [] (begM (foldP p) inp a) (by show 2 * a+1 < n;omega)
  have hf:=(fo_sem (p:=p) n).2.1 main [] 0 (begM p inp a)
  have e:addL 0 (begM p inp a)=begM (foldP p) inp a:=rfl
  rw [e] at hf
  unfold runP at h h'
  cases hr:(sem p OPp n).c main [] (begM p inp a) with
  | out=>rw [hr] at h1;exact h1.elim
  | ok v m=>
    rw [hr] at h hf
    obtain ⟨g,_,hg⟩:=hf
    rw [hg] at h'
    simp only [outM,Prod.mk.injEq] at h h'
    obtain ⟨rfl,rfl,rfl,rfl⟩:=h
    obtain ⟨rfl,rfl,rfl,rfl⟩:=h'
    exact ⟨fun _=>⟨rfl,rfl,rfl,by show a - (m.left+g)≤a - m.left;omega⟩,fun h=>absurd h (by decide)⟩
  | fin m s0 c0=>
    rw [hr] at h hf
    simp only [outM,Prod.mk.injEq] at h
    obtain ⟨rfl,rfl,rfl,rfl⟩:=h
    rcases hf with ⟨h3,g,_,hg⟩ | ⟨h3,hg⟩
    · rw [hg] at h'
      simp only [outM,Prod.mk.injEq] at h'
      obtain ⟨rfl,rfl,rfl,rfl⟩:=h'
      exact ⟨fun _=>⟨rfl,rfl,rfl,by show a - (m.left+g)≤a - m.left;omega⟩,fun h=>absurd h h3⟩
    · refine ⟨fun h=>absurd h3 h,fun _=>?_⟩
      cases hr2:(sem (foldP p) OPp n).c main [] (begM (foldP p) inp a) with
      | out=>rw [hr2] at h2;exact h2.elim
      | ok v m2=>
        rw [hr2] at h' hg
        simp only [outM,Prod.mk.injEq] at h'
        obtain ⟨rfl,rfl,rfl,rfl⟩:=h'
        exact hg
      | fin m2 s2 c2=>
        rw [hr2] at h' hg
        simp only [outM,Prod.mk.injEq] at h'
        obtain ⟨rfl,rfl,rfl,rfl⟩:=h'
        exact hg
end
end Go.Proofs.YtpdnijphccdiiaaGreatDoor
namespace Go.FL
open Go Go.RowKit
section
variable {P:Program} {TT:TyTab} {D n:Nat} {Q:APost} {fr:Fr} {L K:Hl} {s s0:World} {ops:Array Oper} {rest:List Oper} {d ty:Nat} {pos:String} {af:Array Edge} {v:Value} {g:Option (Nat×Bool)} {fuel:Nat} {listed:Array Bool}
def AP (P:Program) (D:Nat) (f:FuncId) (args:List Value) (L:Hl) (s:World) (R:Value→Hl→World→Prop) (X:List PanicEntry→Hl→World→Prop):Prop:=
  FnOK P f∧(OKL D L s→Calls P f args.toArray (fill L s) fun e w'=>∃ L' s',w'=fill L' s'∧OKL D L' s'∧Le D s s'∧((∃ v,e=.returned v∧R v L' s')∨∃ ch,e=.panicked ch∧X ch L' s'))
theorem AP.mono {f:FuncId} {args:List Value} {R R':Value→Hl→World→Prop} {X X':List PanicEntry→Hl→World→Prop} (h:AP P D f args L s R X) (hr:∀ v L' s',Le D s s'→R v L' s'→R' v L' s') (hx:∀ ch L' s',Le D s s'→X ch L' s'→X' ch L' s'):AP P D f args L s R' X':=
  ⟨h.1,fun ho=>(h.2 ho).mono fun _ _ ⟨L',s',h2,h3,h4,h5⟩=>⟨L',s',h2,h3,h4,h5.imp (fun ⟨v,a,b⟩=>⟨v,a,hr _ _ _ h4 b⟩) fun ⟨ch,a,b⟩=>⟨ch,a,hx _ _ _ h4 b⟩⟩⟩
theorem JO_callP {f:FuncId} {x:Operand} {xs:List Operand} {first captured vs:List Value} {ts:Array TypeId} {R:Value→Hl→World→Prop} {X:List PanicEntry→Hl→World→Prop} (hx:lk fr x=some (.func (.func f) first.toArray captured.toArray)) (hv:lks fr xs=some vs)
    (hd:Nat.blt d n=true) (h:AP P D f (first++vs++captured) L s R X) (kx:∀ ch L' s',Le D s s'→X ch L' s'→∀ fr',Q (.panic ch) fr' L' s') (k:∀ v L' s',Le D s s'→R v L' s'→JO P TT D n ops Q rest ((d,v)::fr) L' s') :
    JO P TT D n ops Q (⟨some d,.call { callee:=.value x,args:=xs.toArray,argTypes:=ts },ty,pos,af,none⟩::rest) fr L s:=fun hT a hr ho=>by
  obtain ⟨⟨fn,h1,h2,h3⟩,hc⟩:=h
  have hρ:∀ x v,lk fr x=some v→a.eval x=v:=fun x v hx=>hr.ev hx
  simp only [wpList,Region.wanted,if_true]
  refine .inl ?_
  have hrun:(execOp a.eval ⟨some d,.call { callee:=.value x,args:=xs.toArray,argTypes:=ts },ty,pos,af,none⟩).run P (fill L s)=.ok (.enter f (first++vs++captured).toArray) (fill L s):=by
    have h2':¬ fn.name = "runtime.NumGoroutine" := by simpa using h2
    have h3':¬ fn.body=none:=by intro e;simp [e] at h3
    simp [execOp,resolve,Deferred.ofValue,invoke,callFunc,hρ x _ hx,lks_map hρ hv,h1,h2',h3']
  simp only [Oper.wp,hrun,Oper.upon]
  refine (hc ho).mono ?_
  rintro e w' ⟨L',s',rfl,h4,h5,h6⟩
  rcases h6 with ⟨v,rfl,h6⟩ | ⟨ch,rfl,h6⟩
  · exact k v L' s' h5 h6 hT _ (hr.put hd v) h4
  · exact ⟨fr,L',s',hr,h4,rfl,kx _ _ _ h5 h6 fr⟩
theorem JB_callP {i:Nat} {f:FuncId} {x:Operand} {xs:List Operand} {first captured vs:List Value} {ts:Array TypeId} {R:Value→Hl→World→Prop} {X:List PanicEntry→Hl→World→Prop} (hi:ops[i]?=some ⟨some d,.call { callee:=.value x,args:=xs.toArray,argTypes:=ts },ty,pos,af,g⟩) (hg:GOK ops fr g)
    (hx:lk fr x=some (.func (.func f) first.toArray captured.toArray)) (hv:lks fr xs=some vs) (hd:Nat.blt d n=true) (h:AP P D f (first++vs++captured) L s R X) (kx:∀ ch L' s',Le D s s'→X ch L' s'→∀ fr',Q (.panic ch) fr' L' s')
    (k:∀ v L' s',Le D s s'→R v L' s'→(∀ x∈K,x∈L→x∈L')∧JA P TT D n ops Q K s0 fuel (listed.setIfInBounds i true) ((d,v)::fr) L' s') :
    JB P TT D n ops Q K s0 fuel listed i fr L s:=fun hT a hf ho hl hK=>by
  obtain ⟨⟨fn,h1,h2,h3⟩,hc⟩:=h
  have hρ:∀ x v,lk fr x=some v→a.eval x=v:=fun x v hx=>hf.ev hx
  simp only [wpOp,hi,hg.wanted hf,if_true]
  refine .inl ?_
  have hrun:(execOp a.eval ⟨some d,.call { callee:=.value x,args:=xs.toArray,argTypes:=ts },ty,pos,af,g⟩).run P (fill L s)=.ok (.enter f (first++vs++captured).toArray) (fill L s):=by
    have h2':¬ fn.name = "runtime.NumGoroutine" := by simpa using h2
    have h3':¬ fn.body=none:=by intro e;simp [e] at h3
    simp [execOp,resolve,Deferred.ofValue,invoke,callFunc,hρ x _ hx,lks_map hρ hv,h1,h2',h3']
  simp only [Oper.wp,hrun,Oper.upon]
  refine (hc ho).mono ?_
  rintro e w' ⟨L',s',rfl,h4,h5,h6⟩
  rcases h6 with ⟨v,rfl,h6⟩ | ⟨ch,rfl,h6⟩
  · obtain ⟨k1,k2⟩:=k v L' s' h5 h6
    have hK2:∀ x∈K,x∈L':=fun x hx=>k1 x hx (hK x hx)
    exact ⟨⟨L',s',rfl,h4,hl.trans h5,hK2⟩,k2 hT _ (hf.put hd v) h4 (hl.trans h5) hK2⟩
  · exact ⟨hf.bare,L',s',h4,rfl,kx _ _ _ h5 h6⟩
theorem AP.mid {f:FuncId} {args:List Value} {R:Value→Hl→World→Prop} {Z:List PanicEntry→Hl→World→Prop} (X M Y:Hl) (h:AP P D f args (M++(X++Y)) s (fun v L' s'=>∃ M',L'=M'++(X++Y)∧R v M' s') fun ch L' s'=>∃ M',L'=M'++(X++Y)∧Z ch M' s') :
    AP P D f args (X++(M++Y)) s (fun v L' s'=>∃ M',L'=X++(M'++Y)∧R v M' s') fun ch L' s'=>∃ M',L'=X++(M'++Y)∧Z ch M' s':=by
  have hp:∀ M':Hl,(X++(M'++Y)).Perm (M'++(X++Y)):=fun M'=>by
    rw [← List.append_assoc,← List.append_assoc]
    exact (List.perm_append_comm).append_right Y
  refine ⟨h.1,fun ho=>?_⟩
  rw [fill_perm (hp M) _ ho]
  refine (h.2 (ho.perm (hp M))).mono ?_
  rintro e w' ⟨L',s',rfl,h3,h4,h5⟩
  rcases h5 with ⟨v,h1,M',rfl,h6⟩ | ⟨ch,h1,M',rfl,h6⟩
  · exact ⟨X++(M'++Y),s',(fill_perm (hp M').symm _ h3),h3.perm (hp M').symm,h4,.inl ⟨v,h1,M',rfl,h6⟩⟩
  · exact ⟨X++(M'++Y),s',(fill_perm (hp M').symm _ h3),h3.perm (hp M').symm,h4,.inr ⟨ch,h1,M',rfl,h6⟩⟩
theorem QE_bldE {K:Hl} {t:Nat} (hu:P.underlying t=some (.struct #[])) (hz:(P.info? t).bind (fun i=>i.zero)=some (Value.agg #[])):QE P TT D fr (.build t #[]) ty K s0 (.agg #[]):=
  QE.pure fun hT dst pos af g ρ hρ w=>by
    obtain ⟨i,h1,h2⟩:=Option.bind_eq_some_iff.1 hz
    simp [execOp,Instr.build,underlying,hu,zeroValue,typeInfo,h1,h2,Instr.fill,Value.cells]
theorem QE_mif {K:Hl} {t:Nat} {x:Operand} {v:Value} (hu:P.underlying t=some (.struct #[])) (hx:lk fr x=some v):QE P TT D fr (.makeInterface t x) ty K s0 (.iface t v):=
  QE.pure fun hT dst pos af g ρ hρ w=>by simp [execOp,Instr.makeInterface,underlying,hu,hρ x _ hx]
theorem JO_panic {dst:Option Nat} {x:Operand} {t:TypeId} {u:Value} (hx:lk fr x=some (.iface t u)) (h:∀ fr',Q (.panic [{ v:=.iface t u,recovered:=false }]) fr' L s):JO P TT D n ops Q (⟨dst,.panic x,ty,pos,af,none⟩::rest) fr L s:=fun hT a hr ho=>by
  simp only [wpList,Region.wanted,if_true]
  refine .inl ?_
  have hrun:(execOp a.eval ⟨dst,.panic x,ty,pos,af,none⟩).run P (fill L s)=.halt (.panic (.iface t u)) (fill L s):=by
    simp [execOp,hr.ev hx,run_panic_iface]
  simp only [Oper.wp,hrun,Oper.upon]
  exact ⟨fr,L,s,hr,ho,rfl,h fr⟩
def retP (TT:TyTab) (D:Nat) (rs:List ResultVar) (s0:World) (R:Value→Hl→World→Prop) (X:List PanicEntry→Hl→World→Prop):APost
  | .panic ch,_,L,s=>∃ A L',L.Perm (A++L')∧Le D s0 s∧∀ s',Le D s s'→X ch L' s'
  | e,fr,L,s=>retQ TT D rs s0 R e fr L s
theorem retP_mk {rs:List ResultVar} {R:Value→Hl→World→Prop} {X:List PanicEntry→Hl→World→Prop} {e:Exit} {vs:List Value} (A L':Hl) (he:e=.normal∨e=.ret) (h:Res TT fr L rs vs) (hL:L=A++L') (hl:Le D s0 s) (hR:∀ s',Le D s s'→R (resV vs) L' s'):retP TT D rs s0 R X e fr L s:=by
  rcases he with rfl | rfl
  · exact retQ_mk A L' (.inl rfl) h hL hl hR
  · exact retQ_mk A L' (.inr rfl) h hL hl hR
theorem retP_x {rs:List ResultVar} {R:Value→Hl→World→Prop} {X:List PanicEntry→Hl→World→Prop} {ch:List PanicEntry} (A L':Hl) (hL:L.Perm (A++L')) (hl:Le D s0 s) (hX:∀ s',Le D s s'→X ch L' s'):retP TT D rs s0 R X (.panic ch) fr L s:=⟨A,L',hL,hl,hX⟩
theorem thenQ_p {J:Fr→Hl→World→Prop} {ch:List PanicEntry} (h:Q (.panic ch) fr L s):thenQ J Q (.panic ch) fr L s:=h
theorem blockQ_p {id:Nat} {ch:List PanicEntry} (h:Q (.panic ch) fr L s):blockQ id Q (.panic ch) fr L s:=h
theorem AP_enter {f:FuncId} {fn:Func} {c:Code} {args:List Value} {R:Value→Hl→World→Prop} {X:List PanicEntry→Hl→World→Prop} (hT:TabOK P TT) (hf:P.funcs[f]?=some fn) (hn:(fn.name == "runtime.NumGoroutine")=false) (hb:fn.body=some c) (hnt:fn.ntmps=n) (hle:Nat.ble args.length n=true) {rs:List ResultVar} (hrs:fn.results.toList=rs) (fr0:Fr) (hfr:slots 0 args=fr0)
    (h:JC P TT D n (retP TT D rs s R X) c fr0 L s):AP P D f args L s R X:=by
  subst hfr;subst hrs
  refine ⟨⟨fn,hf,hn,by simp [hb]⟩,fun ho=>calls_of_wp hf hb ?_⟩
  have hle':args.length≤n:=Nat.le_of_ble_eq_true hle
  have hr:FrRel n { tmps:=args.toArray++Array.replicate (fn.ntmps - args.toArray.size) undef,defers:=[] } (slots 0 args):=by
    refine ⟨by simp [hnt];omega,Z,fun t ht v hv=>?_,fun t v hv=>?_⟩
    · rw [flook_slots] at hv
      simp at hv
      obtain ⟨hlt,_⟩:=List.getElem?_eq_some_iff.1 hv
      simp [Array.getElem?_append,hlt]
      exact (List.getElem?_eq_some_iff.1 hv).2
    · rw [flook_slots] at hv
      simp at hv
      obtain ⟨hlt,_⟩:=List.getElem?_eq_some_iff.1 hv
      omega
  refine wp_mono (h hT _ hr ho) ?_
  rintro e a w ⟨fr',L1,s1,k1,k2,rfl,hq⟩
  have good:∀ {e:Exit},retQ TT D fn.results.toList s R e fr' L1 s1→bodyPost P fn (fun e w'=>∃ L' s',w'=fill L' s'∧OKL D L' s'∧Le D s s'∧((∃ v,e=.returned v∧R v L' s')∨∃ ch,e=.panicked ch∧X ch L' s')) e a (fill L1 s1):=by
    rintro e ⟨he,vs,A,L',hres,rfl,hle1,hR⟩
    obtain ⟨d1,d2,d3⟩:=drop_own k2
    have hrun:(results fn a.tmps).run P (fill (A++L') s1)=.ok (resV vs) (fill (A++L') s1):=by
      have h1:=Res.run hT k1 k2 hres
      have h2:(fn.results.mapM (resF a.tmps)).run P (fill (A++L') s1)=.ok vs.toArray (fill (A++L') s1):=by
        rw [Array.mapM_eq_mapM_toList]
        simp only [map_eq_pure_bind,Sem.run_bind,h1,Result.andThen_ok,Sem.run_pure]
      rw [results_eq]
      simp only [Sem.run_bind,h2,Result.andThen_ok,Sem.run_pure]
      congr 1
      match vs with
      | []=>rfl
      | [v]=>rfl
      | v::u::r=>simp [resV]
    have hpost:∃ v,(results fn a.tmps).run P (fill (A++L') s1)=.ok v (fill (A++L') s1)∧∃ L'_1 s',fill (A++L') s1=fill L'_1 s'∧OKL D L'_1 s'∧Le D s s'∧((∃ v_1,Ending.returned v=.returned v_1∧R v_1 L'_1 s')∨∃ ch,Ending.returned v=.panicked ch∧X ch L'_1 s'):=
      ⟨_,hrun,L',fill A s1,d1,d2,hle1.trans d3,.inl ⟨_,rfl,hR _ d3⟩⟩
    rcases he with rfl | rfl
    · exact ⟨k1.defers,hpost⟩
    · exact ⟨k1.defers,hpost⟩
  cases e with
  | panic ch=>
    obtain ⟨A,L',hp,hle1,hX⟩:=hq
    obtain ⟨d1,d2,d3⟩:=drop_own (k2.perm hp)
    rw [fill_perm hp _ k2]
    exact ⟨k1.defers,L',fill A s1,d1,d2,hle1.trans d3,.inr ⟨ch,rfl,hX _ d3⟩⟩
  | _=>exact good hq
end
theorem QE_iaS {P:Program} {TT:TyTab} {D:Nat} {fr:Fr} {K:Hl} {s0:World} {ty t e b off len cap:Nat} {x y:Operand} {ti te:TI} {ik:IntKind} {i:Int} (hx:lk fr x=some (.slice (some ⟨b,off,none⟩) len cap)) (hy:lk fr y=some (.int ik i)) (ht:tlook TT t=some ti) (hk:ti.kind=.sl e) (he:tlook TT e=some te)
    (hs:te.size=1) (h0:0≤i) (h1:i < len):QE P TT D fr (.indexAddr t x y) ty K s0 (.pointer (some ⟨b,off+i.toNat,none⟩)):=by
  obtain ⟨j,rfl⟩:=Int.eq_ofNat_of_zero_le h0
  exact QE_ia1 hx hy ht hk he hs O
end Go.FL
namespace Go.Proofs.YtpdnijphccdiiaaGreatDoor
open Go Go.FL
theorem nth_w0 {l:List Int} {i:Int} (h0:0≤i) (h:i < l.length):nth (wv l) (0+i.toNat)=some (.int .u32 (l.getD i.toNat 0)):=by
  have hl:i.toNat < l.length:=by omega
  rw [Nat.zero_add,nth_eq,List.getD_eq_getElem?_getD];simp [wv,hl]
theorem spl_w0 {l:List Int} {i:Int} (v:Int) (h0:0≤i) (h:i < l.length):splice (wv l) (0+i.toNat) [.int .u32 v]=wv (l.set i.toNat v):=by
  have hl:i.toNat < l.length:=by omega
  rw [Nat.zero_add,splice_eq _ _ _ (by simp [wv];omega)]
  simp only [wv,List.map_set]
  rw [List.set_eq_take_append_cons_drop]
  simp [hl]
theorem ble_w0 {l:List Int} {i:Int} (h0:0≤i) (h:i < l.length):Nat.ble (0+i.toNat+1) (wv l).length=true:=by
  rw [Nat.ble_eq];simp [wv];omega
theorem w64y {a:Int} (h1:0≤a) (h2:a < 18446744073709551616):IntKind.u64.wrap a=a:=by simp [IntKind.wrap,IntKind.bits,IntKind.signed];omega
theorem u8w {x:Int} (h:U32 x):IntKind.u8.wrap x=((UInt8.ofNat x.toNat).toNat:Int):=by
  obtain ⟨h1,h2⟩:=h
  rw [IntKind.wrap_u8]
  simp [UInt8.toNat_ofNat']
  omega
open Go.FL
attribute [local irreducible] JC JO JA JB thenQ blockQ retQ AC fill CellsAt QE Ev Mid
def CallV (p:Prg) (V:World→Ex→List Value→Prop) (s:World) (nm:Str) (args:List Ex) (w:Value):Prop:=∃ be bi A n c k fk,w=.func (.func 130) #[] #[.pointer (some ⟨be,0,none⟩),.pointer (some ⟨bi,0,none⟩)]∧CellsAt s be 0 [.slice A n c]∧CellsAt s bi 0 [.int .i64 ((k:Nat):Int)]∧Sl 1 V s A n c args∧calI p nm=(k:Int)∧p.funcs[k]?=some fk∧args.length=fk.params.length
inductive ViE (p:Prg) (f:Fnc) (V:World→Ex→List Value→Prop) (s:World) (x:Ex):Value→Prop
  | num (b:Nat) (A1:Option Addr) (n1 c1:Nat) (hk:x.kind=1) (hc:CellsAt s b 0 [.int .i64 x.kind,.int .i64 x.op,.int .u32 x.num,St x.name,.slice A1 n1 c1]) (hu:U32 x.num):ViE p f V s x (.func (.func 162) #[] #[.pointer (some ⟨b,0,none⟩)])
  | slot (b:Nat) (hk:x.kind=2) (h0:0≤slotP f x.name) (hl:slotP f x.name < ((f.params.length+f.locals.length:Nat):Int)) (hc:CellsAt s b 0 [.int .i64 (slotP f x.name)]):ViE p f V s x (.func (.func 192) #[] #[.pointer (some ⟨b,0,none⟩)])
  | con (b k:Nat) (g:Glo) (A n c) (hk:x.kind=2) (hs:¬ 0≤slotP f x.name) (hg:gloI p x.name=(k:Int)) (hp:p.globals[k]?=some g) (h1:g.kind=1) (hc:CellsAt s b 0 [.int .i64 g.kind,St g.name,.int .u32 g.num,.slice A n c]) (hu:U32 g.num):ViE p f V s x (.func (.func 193) #[] #[.pointer (some ⟨b,0,none⟩)])
  | var (b k:Nat) (g:Glo) (hk:x.kind=2) (hs:¬ 0≤slotP f x.name) (hg:gloI p x.name=(k:Int)) (hp:p.globals[k]?=some g) (h1:¬ g.kind=1) (hc:CellsAt s b 0 [.int .i64 (k:Int)]):ViE p f V s x (.func (.func 194) #[] #[.pointer (some ⟨b,0,none⟩)])
  | idx (b1 b2 k:Nat) (g:Glo) (A n c) (hk:x.kind=3) (hg:gloI p x.name=(k:Int)) (hp:p.globals[k]?=some g) (h3:g.kind=3) (h1:CellsAt s b1 0 [.int .i64 (k:Int)]) (h2:CellsAt s b2 0 [.slice A n c]) (hA:Sl 1 V s A n c x.args) (hn:0 < n):ViE p f V s x (.func (.func 164) #[] #[.pointer (some ⟨b1,0,none⟩),.pointer (some ⟨b2,0,none⟩)])
  | call (w:Value) (hk:x.kind=4) (h:CallV p V s x.name x.args w):ViE p f V s x w
  | get (hk:x.kind=5):ViE p f V s x (.func (.func 165) #[] #[])
  | una (b1 b2:Nat) (A1:Option Addr) (n1 c1:Nat) (A n c) (hk:x.kind=6) (h1:CellsAt s b1 0 [.int .i64 x.kind,.int .i64 x.op,.int .u32 x.num,St x.name,.slice A1 n1 c1]) (h2:CellsAt s b2 0 [.slice A n c]) (hA:Sl 1 V s A n c x.args) (hn:0 < n):ViE p f V s x (.func (.func 166) #[] #[.pointer (some ⟨b1,0,none⟩),.pointer (some ⟨b2,0,none⟩)])
  | bin (b1 b2 b3:Nat) (v1 v2:Value) (hk:x.kind=7) (h1:CellsAt s b1 0 [v1]) (h2:CellsAt s b2 0 [.int .i64 x.op]) (h3:CellsAt s b3 0 [v2]) (hv1:V s (argE x.args 0) [v1]) (hv2:V s (argE x.args 1) [v2]) (ho:4≤x.op∧x.op≤21):ViE p f V s x (.func (.func 195) #[] #[.pointer (some ⟨b1,0,none⟩),.pointer (some ⟨b2,0,none⟩),.pointer (some ⟨b3,0,none⟩)])
def VeR (p:Prg) (f:Fnc):Nat→World→Ex→List Value→Prop
  | 0,_,_,_=>False
  | d+1,s,x,cs=>∃ b w,cs=[.func (.func 123) #[] #[.pointer (some ⟨b,0,none⟩)]]∧CellsAt s b 0 [w]∧ViE p f (VeR p f d) s x w
inductive ViS (p:Prg) (f:Fnc) (E:World→Ex→List Value→Prop) (V:World→Stm→List Value→Prop) (s:World) (x:Stm):Value→Prop
  | setl (b1 b2:Nat) (v:Value) (hk:x.kind=1) (h0:0≤slotP f x.name) (hl:slotP f x.name < ((f.params.length+f.locals.length:Nat):Int)) (h1:CellsAt s b1 0 [v]) (h2:CellsAt s b2 0 [.int .i64 (slotP f x.name)]) (hv:E s (argE x.exprs 0) [v]):ViS p f E V s x (.func (.func 125) #[] #[.pointer (some ⟨b1,0,none⟩),.pointer (some ⟨b2,0,none⟩)])
  | setg (b1 b2 k:Nat) (g:Glo) (v:Value) (hk:x.kind=1) (hs:¬ 0≤slotP f x.name) (hg:gloI p x.name=(k:Int)) (hp:p.globals[k]?=some g) (hg2:g.kind=2) (h1:CellsAt s b1 0 [v]) (h2:CellsAt s b2 0 [.int .i64 (k:Int)]) (hv:E s (argE x.exprs 0) [v]):ViS p f E V s x (.func (.func 126) #[] #[.pointer (some ⟨b1,0,none⟩),.pointer (some ⟨b2,0,none⟩)])
  | store (b1 b2 k:Nat) (g:Glo) (A n c) (hk:x.kind=2) (hg:gloI p x.name=(k:Int)) (hp:p.globals[k]?=some g) (h3:g.kind=3) (h1:CellsAt s b1 0 [.int .i64 (k:Int)]) (h2:CellsAt s b2 0 [.slice A n c]) (hA:Sl 1 E s A n c x.exprs) (hn:1 < n):ViS p f E V s x (.func (.func 86) #[] #[.pointer (some ⟨b1,0,none⟩),.pointer (some ⟨b2,0,none⟩)])
  | cond (b1 b2 b3:Nat) (A n c B m e G k i) (hk:x.kind=3) (h1:CellsAt s b1 0 [.slice A n c]) (h2:CellsAt s b2 0 [.slice B m e]) (h3:CellsAt s b3 0 [.slice G k i]) (hA:Sl 1 E s A n c x.exprs) (hn:0 < n) (hB:Sl 1 V s B m e x.body) (hG:Sl 1 V s G k i x.els):ViS p f E V s x (.func (.func 88) #[] #[.pointer (some ⟨b1,0,none⟩),.pointer (some ⟨b2,0,none⟩),.pointer (some ⟨b3,0,none⟩)])
  | loop (b1 b2:Nat) (A n c B m e) (hk:x.kind=4) (h1:CellsAt s b1 0 [.slice A n c]) (h2:CellsAt s b2 0 [.slice B m e]) (hA:Sl 1 E s A n c x.exprs) (hn:0 < n) (hB:Sl 1 V s B m e x.body):ViS p f E V s x (.func (.func 90) #[] #[.pointer (some ⟨b1,0,none⟩),.pointer (some ⟨b2,0,none⟩)])
  | call (b1:Nat) (w:Value) (hk:x.kind=5) (h1:CellsAt s b1 0 [w]) (h:CallV p E s x.name x.exprs w):ViS p f E V s x (.func (.func 92) #[] #[.pointer (some ⟨b1,0,none⟩)])
  | ret (b1:Nat) (A n c) (hk:x.kind=6) (h1:CellsAt s b1 0 [.slice A n c]) (hA:Sl 1 E s A n c x.exprs) (hn:0 < n):ViS p f E V s x (.func (.func 93) #[] #[.pointer (some ⟨b1,0,none⟩)])
  | put (b1:Nat) (A n c) (hk:x.kind=7) (h1:CellsAt s b1 0 [.slice A n c]) (hA:Sl 1 E s A n c x.exprs) (hn:0 < n):ViS p f E V s x (.func (.func 94) #[] #[.pointer (some ⟨b1,0,none⟩)])
  | stop (b1:Nat) (A n c) (hk:x.kind=8) (h1:CellsAt s b1 0 [.slice A n c]) (hA:Sl 1 E s A n c x.exprs) (hn:0 < n):ViS p f E V s x (.func (.func 95) #[] #[.pointer (some ⟨b1,0,none⟩)])
  | brk (hk:x.kind=9):ViS p f E V s x (.func (.func 96) #[] #[])
  | cont (hk:x.kind=10):ViS p f E V s x (.func (.func 97) #[] #[])
def VsR (p:Prg) (f:Fnc):Nat→World→Stm→List Value→Prop
  | 0,_,_,_=>False
  | d+1,s,x,cs=>∃ b w,cs=[.func (.func 49) #[] #[.pointer (some ⟨b,0,none⟩)]]∧CellsAt s b 0 [w]∧ViS p f (VeR p f d) (VsR p f d) s x w
def FnV (p:Prg) (s:World) (f:Fnc) (cs:List Value):Prop:=∃ d A n c,cs=[.int .i64 ((f.params.length+f.locals.length:Nat):Int),.slice A n c]∧Sl 1 (VsR p f d) s A n c f.body
theorem CallV.le {D:Nat} {p:Prg} {V:World→Ex→List Value→Prop} {s s':World} {nm:Str} {args:List Ex} {w:Value} (hl:Le D s s') (hV:∀ x cs,V s x cs→V s' x cs) (h:CallV p V s nm args w):CallV p V s' nm args w:=by
  obtain ⟨be,bi,A,n,c,k,fk,h1,h2,h3,h4,h5⟩:=h
  exact ⟨be,bi,A,n,c,k,fk,h1,h2.le hl,h3.le hl,Sl.le (fun x cs h=>hV x cs h) h4 hl,h5⟩
theorem ViE.le {D:Nat} {p:Prg} {f:Fnc} {V:World→Ex→List Value→Prop} {s s':World} {x:Ex} {w:Value} (hl:Le D s s') (hV:∀ x cs,V s x cs→V s' x cs) (h:ViE p f V s x w):ViE p f V s' x w:=by
  have hS:∀ {A n c l},Sl 1 V s A n c l→Sl 1 V s' A n c l:=fun h=>Sl.le (fun x cs h=>hV x cs h) h hl
  cases h with
  | num b A1 n1 c1 hk hc hu=>exact .num b A1 n1 c1 hk (hc.le hl) hu
  | slot b hk h0 hl' hc=>exact .slot b hk h0 hl' (hc.le hl)
  | con b k g A n c hk hs hg hp h1 hc hu=>exact .con b k g A n c hk hs hg hp h1 (hc.le hl) hu
  | var b k g hk hs hg hp h1 hc=>exact .var b k g hk hs hg hp h1 (hc.le hl)
  | idx b1 b2 k g A n c hk hg hp h3 h1 h2 hA hn=>exact .idx b1 b2 k g A n c hk hg hp h3 (h1.le hl) (h2.le hl) (hS hA) hn
  | call w hk h=>exact .call w hk (h.le hl hV)
  | get hk=>exact .get hk
  | una b1 b2 A1 n1 c1 A n c hk h1 h2 hA hn=>exact .una b1 b2 A1 n1 c1 A n c hk (h1.le hl) (h2.le hl) (hS hA) hn
  | bin b1 b2 b3 v1 v2 hk h1 h2 h3 hv1 hv2 ho=>exact .bin b1 b2 b3 v1 v2 hk (h1.le hl) (h2.le hl) (h3.le hl) (hV _ _ hv1) (hV _ _ hv2) ho
theorem VeR.le {D:Nat} {p:Prg} {f:Fnc} {s s':World} (hl:Le D s s'):∀ {d:Nat} {x:Ex} {cs:List Value},VeR p f d s x cs→VeR p f d s' x cs
  | 0,_,_,h=>h
  | _+1,_,_,⟨b,w,h1,h2,h3⟩=>⟨b,w,h1,h2.le hl,h3.le hl fun _ _ h=>VeR.le hl h⟩
theorem ViS.le {D:Nat} {p:Prg} {f:Fnc} {E:World→Ex→List Value→Prop} {V:World→Stm→List Value→Prop} {s s':World} {x:Stm} {w:Value} (hl:Le D s s') (hE:∀ x cs,E s x cs→E s' x cs) (hV:∀ x cs,V s x cs→V s' x cs) (h:ViS p f E V s x w):ViS p f E V s' x w:=by
  have hS:∀ {A n c l},Sl 1 E s A n c l→Sl 1 E s' A n c l:=fun h=>Sl.le (fun x cs h=>hE x cs h) h hl
  have hT:∀ {A n c l},Sl 1 V s A n c l→Sl 1 V s' A n c l:=fun h=>Sl.le (fun x cs h=>hV x cs h) h hl
  cases h with
  | setl b1 b2 v hk h0 hl' h1 h2 hv=>exact .setl b1 b2 v hk h0 hl' (h1.le hl) (h2.le hl) (hE _ _ hv)
  | setg b1 b2 k g v hk hs hg hp hg2 h1 h2 hv=>exact .setg b1 b2 k g v hk hs hg hp hg2 (h1.le hl) (h2.le hl) (hE _ _ hv)
  | store b1 b2 k g A n c hk hg hp h3 h1 h2 hA hn=>exact .store b1 b2 k g A n c hk hg hp h3 (h1.le hl) (h2.le hl) (hS hA) hn
  | cond b1 b2 b3 A n c B m e G k i hk h1 h2 h3 hA hn hB hG=>exact .cond b1 b2 b3 A n c B m e G k i hk (h1.le hl) (h2.le hl) (h3.le hl) (hS hA) hn (hT hB) (hT hG)
  | loop b1 b2 A n c B m e hk h1 h2 hA hn hB=>exact .loop b1 b2 A n c B m e hk (h1.le hl) (h2.le hl) (hS hA) hn (hT hB)
  | call b1 w hk h1 h=>exact .call b1 w hk (h1.le hl) (h.le hl hE)
  | ret b1 A n c hk h1 hA hn=>exact .ret b1 A n c hk (h1.le hl) (hS hA) hn
  | put b1 A n c hk h1 hA hn=>exact .put b1 A n c hk (h1.le hl) (hS hA) hn
  | stop b1 A n c hk h1 hA hn=>exact .stop b1 A n c hk (h1.le hl) (hS hA) hn
  | brk hk=>exact .brk hk
  | cont hk=>exact .cont hk
theorem VsR.le {D:Nat} {p:Prg} {f:Fnc} {s s':World} (hl:Le D s s'):∀ {d:Nat} {x:Stm} {cs:List Value},VsR p f d s x cs→VsR p f d s' x cs
  | 0,_,_,h=>h
  | _+1,_,_,⟨b,w,h1,h2,h3⟩=>⟨b,w,h1,h2.le hl,h3.le hl (fun _ _ h=>VeR.le hl h) fun _ _ h=>VsR.le hl h⟩
theorem FnV.le {D:Nat} {p:Prg} {s s':World} (hl:Le D s s') {f:Fnc} {cs:List Value} (h:FnV p s f cs):FnV p s' f cs:=by
  obtain ⟨d,A,n,c,h1,h2⟩:=h
  exact ⟨d,A,n,c,h1,Sl.le (fun _ _ h=>VsR.le hl h) h2 hl⟩
def VeS (p:Prg) (f:Fnc) (d:Nat) (s:World) (A:Option Addr) (n c:Nat) (l:List Ex):Prop:=Sl 1 (VeR p f d) s A n c l
def VsS (p:Prg) (f:Fnc) (d:Nat) (s:World) (A:Option Addr) (n c:Nat) (l:List Stm):Prop:=Sl 1 (VsR p f d) s A n c l
theorem VeS.le {D:Nat} {p:Prg} {f:Fnc} {d:Nat} {s s':World} {A:Option Addr} {n c:Nat} {l:List Ex} (h:VeS p f d s A n c l) (hl:Le D s s'):VeS p f d s' A n c l:=Sl.le (fun _ _ h=>VeR.le hl h) h hl
theorem VsS.le {D:Nat} {p:Prg} {f:Fnc} {d:Nat} {s s':World} {A:Option Addr} {n c:Nat} {l:List Stm} (h:VsS p f d s A n c l) (hl:Le D s s'):VsS p f d s' A n c l:=Sl.le (fun _ _ h=>VsR.le hl h) h hl
theorem VeR.func {p:Prg} {f:Fnc} {d:Nat} {s:World} {x:Ex} {v:Value} (h:VeR p f d s x [v]):∃ b,v=.func (.func 123) #[] #[.pointer (some ⟨b,0,none⟩)]:=by
  cases d with
  | zero=>exact h.elim
  | succ d=>obtain ⟨b,w,h1,_⟩:=h;exact ⟨b,by simpa using h1⟩
theorem VsR.func {p:Prg} {f:Fnc} {d:Nat} {s:World} {x:Stm} {v:Value} (h:VsR p f d s x [v]):∃ b,v=.func (.func 49) #[] #[.pointer (some ⟨b,0,none⟩)]:=by
  cases d with
  | zero=>exact h.elim
  | succ d=>obtain ⟨b,w,h1,_⟩:=h;exact ⟨b,by simpa using h1⟩
theorem VeS.at_ {p:Prg} {f:Fnc} {d:Nat} {s:World} {A:Option Addr} {n c:Nat} {l:List Ex} {k:Nat} (h:VeS p f d s A n c l) (hk:k < n):∃ B off b,A=some ⟨B,off,none⟩∧CellsAt s B (off+k) [.func (.func 123) #[] #[.pointer (some ⟨b,0,none⟩)]]∧VeR p f d s (argE l k) [.func (.func 123) #[] #[.pointer (some ⟨b,0,none⟩)]]:=by
  have hl:k < l.length:=by rw [← h.1];exact hk
  obtain ⟨B,off,cs,h1,h2,h3,h4⟩:=h.2.2.2 k l[k] (List.getElem?_eq_getElem hl)
  have e:argE l k=l[k]:=by rw [argE,List.getD_eq_getElem?_getD,List.getElem?_eq_getElem hl];rfl
  match cs,h3 with
  | [v],_=>
    obtain ⟨b,rfl⟩:=h4.func
    exact ⟨B,off,b,h1,by rw [Nat.mul_one] at h2;exact h2,by rw [e];exact h4⟩
theorem VsS.at_ {p:Prg} {f:Fnc} {d:Nat} {s:World} {A:Option Addr} {n c:Nat} {l:List Stm} {k:Nat} (h:VsS p f d s A n c l) (hk:k < n):∃ B off b x,A=some ⟨B,off,none⟩∧l[k]?=some x∧CellsAt s B (off+k) [.func (.func 49) #[] #[.pointer (some ⟨b,0,none⟩)]]∧VsR p f d s x [.func (.func 49) #[] #[.pointer (some ⟨b,0,none⟩)]]:=by
  have hl:k < l.length:=by rw [← h.1];exact hk
  obtain ⟨B,off,cs,h1,h2,h3,h4⟩:=h.2.2.2 k l[k] (List.getElem?_eq_getElem hl)
  match cs,h3 with
  | [v],_=>
    obtain ⟨b,rfl⟩:=h4.func
    exact ⟨B,off,b,l[k],h1,List.getElem?_eq_getElem hl,by rw [Nat.mul_one] at h2;exact h2,h4⟩
structure MC where
  bm:Nat
  bg:Nat
  bf:Nat
  ba:Nat
  Af:Option Addr
  nF:Nat
  cF:Nat
  ng:Nat
  nf:Nat
  ab:List (Option Nat)
def MBv (c:MC) (N:Nat) (res:Int) (m:MS) (iv ov:Value) (st cd:Int) (fv:Value):Nat×Obj:=(c.bm,cb [.slice c.Af c.nF c.cF,.slice (some ⟨c.bg,0,none⟩) c.ng c.ng,.slice (some ⟨c.ba,0,none⟩) c.ng c.ng,fv,.int .u32 res,.int .i64 (m.calls:Int),iv,.int .i64 (m.left:Int),ov,.int .i64 st,.int .u32 cd,.int .i64 ((N:Int) - (m.left:Int))] 51)
abbrev MB (c:MC) (N:Nat) (res:Int) (m:MS) (iv ov:Value) (st cd:Int):Nat×Obj:=MBv c N res m iv ov st cd (.slice (some ⟨c.bf,0,none⟩) c.nf c.nf)
def MGb (c:MC) (m:MS):Nat×Obj:=(c.bg,cb (wv m.glo) 29)
def MFb (c:MC) (m:MS):Nat×Obj:=(c.bf,cb (wv m.frm) 29)
def arrL:List (Option Nat)→List (List Int)→Hl
  | some b::r,l::ls=>(b,cb (wv l) 29)::arrL r ls
  | none::r,_::ls=>arrL r ls
  | _,_=>[]
def arrV:List (Option Nat)→List Glo→List Value
  | some b::r,g::gs=>.slice (some ⟨b,0,none⟩) g.num.toNat g.num.toNat::arrV r gs
  | none::r,_::gs=>.slice none 0 0::arrV r gs
  | _,_=>[]
structure MG (p:Prg) (c:MC) (N:Nat) (m:MS) (iv ov:Value) (R:Hl) (s:World):Prop where
  inp:∃ A n q,iv=.slice A n q∧Bts s A n q m.inp
  out:∃ Mo,R=arrL c.ab m.arr++Mo∧FL.Own 5 1 Mo ov m.out.length (bv m.out)
  ug:∀ x∈m.glo,U32 x
  uf:∀ x∈m.frm,U32 x
  ua:∀ l∈m.arr,∀ x∈l,U32 x
  ng:c.ng=p.globals.length
  lg:m.glo.length=c.ng
  lf:m.frm.length=c.nf
  lb:c.ab.length=c.ng
  la:m.arr.length=c.ng
  ar:∀ (k:Nat) (g:Glo),p.globals[k]?=some g→g.kind=3→(∃ b,c.ab[k]?=some (some b))∧(m.arr.getD k []).length=g.num.toNat
  lo:m.out.length≤20000
  lc:m.calls≤100
  ll:m.left≤N
  lN:N≤50000000
structure CT (p:Prg) (c:MC) (s:World):Prop where
  fn:Sl 2 (FnV p) s c.Af c.nF c.cF p.funcs
  ar:CellsAt s c.ba 0 (arrV c.ab p.globals)
  fs:∀ f∈p.funcs,f.params.length+f.locals.length≤100
  gu:∀ g∈p.globals,U32 g.num
theorem MG.le {D:Nat} {p:Prg} {c:MC} {N:Nat} {m:MS} {iv ov:Value} {R:Hl} {s s':World} (h:MG p c N m iv ov R s) (hl:Le D s s'):MG p c N m iv ov R s':=by
  obtain ⟨A,n,q,h1,h2⟩:=h.inp
  exact ⟨⟨A,n,q,h1,h2.le hl⟩,h.out,h.ug,h.uf,h.ua,h.ng,h.lg,h.lf,h.lb,h.la,h.ar,h.lo,h.lc,h.ll,h.lN⟩
theorem CT.le {D:Nat} {p:Prg} {c:MC} {s s':World} (h:CT p c s) (hl:Le D s s'):CT p c s':=⟨Sl.le (fun _ _ h=>FnV.le hl h) h.fn hl,h.ar.le hl,h.fs,h.gu⟩
def PanE (ch:List PanicEntry):Prop:=ch=[{ v:=.iface 117 (.agg #[]),recovered:=false }]
def FIN (c:MC) (N:Nat) (m:MS) (st cd:Int) (Z:Hl):Prop:=∃ u0 u1 u2 u3 u4 u5 u6 u7 ov Mo K,Z.Perm ((c.bm,cb [u0,u1,u2,u3,u4,u5,u6,u7,ov,.int .i64 st,.int .u32 cd,.int .i64 ((N:Int) - (m.left:Int))] 51)::(Mo++K))∧FL.Own 5 1 Mo ov m.out.length (bv m.out)∧m.out.length≤20000∧m.left≤N
theorem MG.finv {p:Prg} {c:MC} {N:Nat} {m:MS} {iv ov:Value} {R:Hl} {s:World} (h:MG p c N m iv ov R s) (res st cd:Int) (fv:Value) (X:Hl):FIN c N m st cd (MBv c N res m iv ov st cd fv::(X++R)):=by
  obtain ⟨Mo,rfl,hO⟩:=h.out
  refine ⟨_,_,_,_,_,_,_,_,ov,Mo,X++arrL c.ab m.arr,List.Perm.cons _ ?_,hO,h.lo,h.ll⟩
  rw [← List.append_assoc]
  exact List.perm_append_comm
theorem MG.fin {p:Prg} {c:MC} {N:Nat} {m:MS} {iv ov:Value} {R:Hl} {s:World} (h:MG p c N m iv ov R s) (res st cd:Int):FIN c N m st cd (MB c N res m iv ov st cd::MGb c m::MFb c m::R):=h.finv res st cd _ [MGb c m,MFb c m]
theorem FIN.app {c:MC} {N:Nat} {m:MS} {st cd:Int} {Z:Hl} (h:FIN c N m st cd Z) (X:Hl):FIN c N m st cd (Z++X):=by
  obtain ⟨u0,u1,u2,u3,u4,u5,u6,u7,ov,Mo,K,h1,h2⟩:=h
  exact ⟨u0,u1,u2,u3,u4,u5,u6,u7,ov,Mo,K++X,by simpa [List.append_assoc] using h1.append_right X,h2⟩
def MC.wf (c:MC) (bf nf:Nat):MC:={ c with bf:=bf,nf:=nf }
theorem FIN.wf {c:MC} {bf nf N:Nat} {m:MS} {st cd:Int} {Z:Hl} (h:FIN (c.wf bf nf) N m st cd Z):FIN c N m st cd Z:=h
def okE (p:Prg) (c:MC) (N:Nat) {α:Type} (r:ER α) (V:α→Value→Prop) (RS:α→Int) (X L:Hl) (v:Value) (L':Hl) (s':World):Prop:=∃ a m' iv ov R,r=.ok a m'∧V a v∧L'=X++(MB c N (RS a) m' iv ov 0 0::MGb c m'::MFb c m'::(R++L))∧MG p c N m' iv ov R s'
def finE (c:MC) (N:Nat) {α:Type} (r:ER α) (X L:Hl) (ch:List PanicEntry) (L':Hl) (_:World):Prop:=PanE ch∧∃ m' st cd Z,r=.fin m' st cd∧L'=X++(Z++L)∧FIN c N m' st cd Z
theorem AP.fr {p:Prg} {D:Nat} {g:FuncId} {args:List Value} {s:World} {c:MC} {N:Nat} {res:Int} {m:MS} {iv ov:Value} {R:Hl} {α:Type} {r:ER α} {V:α→Value→Prop} {RS:α→Int} (h:∀ L,AP Tryz.prog D g args (MB c N res m iv ov 0 0::MGb c m::MFb c m::(R++L)) s (okE p c N r V RS [] L) (finE c N r [] L)) (X L:Hl):AP Tryz.prog D g args (X++(MB c N res m iv ov 0 0::MGb c m::MFb c m::(R++L))) s (okE p c N r V RS X L) (finE c N r X L):=
  (AP.mid (R:=fun v M' s'=>∃ a m' iv ov R,r=.ok a m'∧V a v∧M'=MB c N (RS a) m' iv ov 0 0::MGb c m'::MFb c m'::R∧MG p c N m' iv ov R s') (Z:=fun ch M' _=>PanE ch∧∃ m' st cd,r=.fin m' st cd∧FIN c N m' st cd M') X (MB c N res m iv ov 0 0::MGb c m::MFb c m::R) L
    ((h (X++L)).mono (fun v L' s' _ ⟨a,m',iv,ov,R,h1,h2,h3,h4⟩=>⟨_,h3,a,m',iv,ov,R,h1,h2,rfl,h4⟩) fun ch L' s' _ ⟨h1,m',st,cd,Z,h2,h3,h4⟩=>⟨Z,h3,h1,m',st,cd,h2,h4⟩)).mono
    (fun v L' s' _ ⟨M',h0,a,m',iv,ov,R,h1,h2,h3,h4⟩=>⟨a,m',iv,ov,R,h1,h2,by rw [h0,h3];rfl,h4⟩) fun ch L' s' _ ⟨M',h0,h1,m',st,cd,h2,h3⟩=>⟨h1,m',st,cd,M',h2,h0,h3⟩
def VE (a:Int) (v:Value):Prop:=v=.int .u32 a∧U32 a
def VS (y:Int×Int) (v:Value):Prop:=v=.int .i64 y.1∧U32 y.2∧(y.1≠3→y.2=0)
def RE (_:Int):Int:=0
def RS (y:Int×Int):Int:=y.2
def EOK (p:Prg) (D n:Nat):Prop:=∀ (L:Hl) (s:World) (c:MC) (N:Nat) (f:Fnc) (d:Nat) (x:Ex) (b:Nat) (m:MS) (iv ov:Value) (R:Hl),CT p c s→c.nf=f.params.length+f.locals.length→VeR p f d s x [.func (.func 123) #[] #[.pointer (some ⟨b,0,none⟩)]]→MG p c N m iv ov R s→(sem p OPp n).e f x m≠.out →
  AP Tryz.prog D 123 [.pointer (some ⟨c.bm,0,none⟩),.pointer (some ⟨b,0,none⟩)] (MB c N 0 m iv ov 0 0::MGb c m::MFb c m::(R++L)) s (okE p c N ((sem p OPp n).e f x m) VE RE [] L) (finE c N ((sem p OPp n).e f x m) [] L)
def TOK (p:Prg) (D n:Nat):Prop:=∀ (L:Hl) (s:World) (c:MC) (N:Nat) (f:Fnc) (d:Nat) (x:Stm) (b:Nat) (m:MS) (iv ov:Value) (R:Hl),CT p c s→c.nf=f.params.length+f.locals.length→VsR p f d s x [.func (.func 49) #[] #[.pointer (some ⟨b,0,none⟩)]]→MG p c N m iv ov R s→(sem p OPp n).t f x m≠.out →
  AP Tryz.prog D 49 [.pointer (some ⟨c.bm,0,none⟩),.pointer (some ⟨b,0,none⟩)] (MB c N 0 m iv ov 0 0::MGb c m::MFb c m::(R++L)) s (okE p c N ((sem p OPp n).t f x m) VS RS [] L) (finE c N ((sem p OPp n).t f x m) [] L)
def COK (p:Prg) (D n:Nat):Prop:=∀ (L:Hl) (s:World) (c:MC) (N k:Nat) (fk:Fnc) (vs:List Int) (A:Option Addr) (n1 c1:Nat) (m:MS) (iv ov:Value) (R:Hl),CT p c s→Wds s A n1 c1 vs→p.funcs[k]?=some fk→vs.length=fk.params.length→MG p c N m iv ov R s→(sem p OPp n).c k vs m≠.out →
  AP Tryz.prog D 52 [.pointer (some ⟨c.bm,0,none⟩),.int .i64 (k:Int),.slice A n1 c1] (MB c N 0 m iv ov 0 0::MGb c m::MFb c m::(R++L)) s (okE p c N ((sem p OPp n).c k vs m) VE RE [] L) (finE c N ((sem p OPp n).c k vs m) [] L)
theorem er_out {α β:Type} {a:ER α} {k:α→MS→ER β} {r:ER β} (h:r=a.and k) (hr:r≠.out):a≠.out:=by rintro rfl;exact hr h
theorem er_fin {α β:Type} {a:ER α} {k:α→MS→ER β} {r:ER β} {m:MS} {st cd:Int} (h:r=a.and k) (h2:a=.fin m st cd):r=.fin m st cd:=by rw [h,h2];rfl
theorem MG.stp {p:Prg} {c:MC} {N:Nat} {m:MS} {iv ov:Value} {R:Hl} {s:World} (h:MG p c N m iv ov R s):MG p c N { m with left:=m.left - 1 } iv ov R s:=⟨h.inp,h.out,h.ug,h.uf,h.ua,h.ng,h.lg,h.lf,h.lb,h.la,h.ar,h.lo,h.lc,Nat.le_trans (Nat.sub_le _ _) h.ll,h.lN⟩
theorem mstop_ap (D:Nat) (X:Hl) (s:World) (c:MC) (N:Nat) (res:Int) (m:MS) (iv ov:Value) (st cd:Int) (fv:Value):AP Tryz.prog D 53 [.pointer (some ⟨c.bm,0,none⟩),.int .i64 st,.int .u32 cd] (MBv c N res m iv ov 0 0 fv::X) s (fun _ _ _=>False) fun ch L' _=>PanE ch∧L'=MBv c N res m iv ov st cd fv::X:=by
 refine AP_enter (TT:=TT) (fn:=Tryz.f53) TT_ok Tryz.func53 V Z Tryz.ntmps53 Z (rs:=[]) Z [(0,_),(1,_),(2,_)] Z<|Sr<|Zqm Z Z<|Zqm Z Z<|Zqm Z Z<|Zqm Z Z<|Zqni Z Z<|Wb Y5<|JO_q (QE_fa Z Z Z Z) Z<|Wt 0 [_,_,_,_,_,_,_,_,_,_,_,_] Y9<|Zqni Z Z<|Wb Y5<|JO_q (QE_fa Z Z Z Z) Z<|Wt 0 [_,_,_,_,_,_,_,_,_,_,_,_] Y9<|Nt<|Zr<|JO_q (QE_bldE V V) Z<|JO_q (QE_mif V Z) Z ?_
 refine JO_panic Z (fun fr9=>?_)
 repeat (first | refine thenQ_p ?_ | refine blockQ_p ?_)
 refine retP_x [] _ (List.Perm.refl _) (Lr D) (fun sR hS2=>?_)
 exact ⟨rfl,rfl⟩
theorem mstep_ap (D:Nat) (X:Hl) (s:World) (c:MC) (N:Nat) (res:Int) (m:MS) (iv ov:Value) (hl:m.left≤N) (hN:N≤50000000):AP Tryz.prog D 50 [.pointer (some ⟨c.bm,0,none⟩)] (MB c N res m iv ov 0 0::X) s (fun _ L' _=>¬ m.left=0∧L'=MB c N res { m with left:=m.left - 1 } iv ov 0 0::X) fun ch L' _=>PanE ch∧m.left=0∧L'=MB c N res m iv ov 0 0::X:=by
 refine AP_enter (TT:=TT) (fn:=Tryz.f50) TT_ok Tryz.func50 V Z Tryz.ntmps50 Z (rs:=[]) Z [(0,_)] Z<|Zs<|Sr<|Zqm Z Z<|Zqni Z Z<|Wb Y5<|Wl 0 Y6<|Zqeq Z Z Z<|Nt<|?_
 refine JC_ifD Z (fun c1=>?_) (fun c1=>?_)
 ·
  have h0:=c1
  refine Zr<|JO_q (QE_bldE V V) Z<|JO_q (QE_mif V Z) Z ?_
  refine JO_panic Z (fun fr9=>?_)
  repeat (first | refine thenQ_p ?_ | refine blockQ_p ?_)
  refine retP_x [] _ (List.Perm.refl _) (Lr D) (fun sR hS2=>?_)
  exact ⟨rfl,by omega,rfl⟩
 have h0:=c1
 refine Zk<|Zt<|Sr<|Zqm Z Z<|Zqni Z Z<|Wb Y5<|Wl 0 Y6<|JO_q (QE_cast (QE_sub' Z Z (w64 O O)) (congrArg (Value.int .i64) (show (m.left:Int) - 1=((m.left - 1:Nat):Int) by omega))) Z<|Zqni Z Z<|Wb Y5<|Wt 0 [_,_,_,_,_,_,_,_,_,_,_,_] Y9<|Nt<|Zr<|Zqm Z Z<|Zqni Z Z<|Wb Y5<|JO_q (QE_fa Z Z Z Z) Z<|Wl 0 Y6<|JO_q (QE_cast (QE_add' Z Z (w64 O O)) (congrArg (Value.int .i64) (show (N:Int) - (m.left:Int)+1=(N:Int) - ((m.left - 1:Nat):Int) by omega))) Z ?_
 refine Zqni Z Z<|Wb Y5<|JO_q (QE_fa Z Z Z Z) Z<|Wt 0 [_,_,_,_,_,_,_,_,_,_,_,_] Y9<|Zn ?_
 refine retP_mk [] _ (.inl Z) (.nil) Z (Lr D) (fun sR hS2=>?_)
 exact ⟨by omega,rfl⟩
theorem mstop_fr (D:Nat) (X Y:Hl) (s:World) (c:MC) (N:Nat) (res:Int) (m:MS) (iv ov:Value) (st cd:Int) {fv:Value}:AP Tryz.prog D 53 [.pointer (some ⟨c.bm,0,none⟩),.int .i64 st,.int .u32 cd] (X++(MBv c N res m iv ov 0 0 fv::Y)) s (fun _ _ _=>False) fun ch L' _=>PanE ch∧L'=X++(MBv c N res m iv ov st cd fv::Y):=
  (AP.mid (R:=fun _ _ _=>False) (Z:=fun ch M' _=>PanE ch∧M'=[MBv c N res m iv ov st cd fv]) X [MBv c N res m iv ov 0 0 fv] Y ((mstop_ap D (X++Y) s c N res m iv ov st cd fv).mono (fun _ _ _ _ h=>h.elim) fun ch L' s' _ h=>⟨[MBv c N res m iv ov st cd fv],h.2,h.1,rfl⟩)).mono
    (fun _ _ _ _ ⟨_,_,h⟩=>h) fun ch L' s' _ ⟨M',h0,h1,h2⟩=>⟨h1,by rw [h0,h2];rfl⟩
theorem VeR.opn {p:Prg} {f:Fnc} {d b:Nat} {s:World} {x:Ex} (h:VeR p f d s x [.func (.func 123) #[] #[.pointer (some ⟨b,0,none⟩)]]):∃ e w,CellsAt s b 0 [w]∧ViE p f (VeR p f e) s x w:=by
  cases d with
  | zero=>exact h.elim
  | succ e=>
    obtain ⟨b2,w,h1,h2,h3⟩:=h
    simp only [List.cons.injEq,Value.func.injEq,Array.mk.injEq,Value.pointer.injEq,Option.some.injEq,Addr.mk.injEq,and_true,true_and] at h1
    subst h1
    exact ⟨e,w,h2,h3⟩
theorem VsR.opn {p:Prg} {f:Fnc} {d b:Nat} {s:World} {x:Stm} (h:VsR p f d s x [.func (.func 49) #[] #[.pointer (some ⟨b,0,none⟩)]]):∃ e w,CellsAt s b 0 [w]∧ViS p f (VeR p f e) (VsR p f e) s x w:=by
  cases d with
  | zero=>exact h.elim
  | succ e=>
    obtain ⟨b2,w,h1,h2,h3⟩:=h
    simp only [List.cons.injEq,Value.func.injEq,Array.mk.injEq,Value.pointer.injEq,Option.some.injEq,Addr.mk.injEq,and_true,true_and] at h1
    subst h1
    exact ⟨e,w,h2,h3⟩
def VOK (p:Prg) (D n:Nat):Prop:=∀ (L:Hl) (s:World) (c:MC) (N:Nat) (f:Fnc) (d:Nat) (x:Ex) (w:Value) (m:MS) (iv ov:Value) (R:Hl),CT p c s→c.nf=f.params.length+f.locals.length→ViE p f (VeR p f d) s x w→MG p c N m iv ov R s→vX p OPp (sem p OPp n) f x m≠.out →
  ∃ kk cap,w=.func (.func kk) #[] cap.toArray∧AP Tryz.prog D kk (.pointer (some ⟨c.bm,0,none⟩)::cap) (MB c N 0 m iv ov 0 0::MGb c m::MFb c m::(R++L)) s (okE p c N (vX p OPp (sem p OPp n) f x m) VE RE [] L) (finE c N (vX p OPp (sem p OPp n) f x m) [] L)
def SOK (p:Prg) (D n:Nat):Prop:=∀ (L:Hl) (s:World) (c:MC) (N:Nat) (f:Fnc) (d:Nat) (x:Stm) (w:Value) (m:MS) (iv ov:Value) (R:Hl),CT p c s→c.nf=f.params.length+f.locals.length→ViS p f (VeR p f d) (VsR p f d) s x w→MG p c N m iv ov R s→sX p (sem p OPp n) f x m≠.out →
  ∃ kk cap,w=.func (.func kk) #[] cap.toArray∧AP Tryz.prog D kk (.pointer (some ⟨c.bm,0,none⟩)::cap) (MB c N 0 m iv ov 0 0::MGb c m::MFb c m::(R++L)) s (okE p c N (sX p (sem p OPp n) f x m) VS RS [] L) (finE c N (sX p (sem p OPp n) f x m) [] L)
theorem estep_ap (p:Prg) (D n:Nat) (ih:VOK p D n) (L:Hl) (s:World) (c:MC) (N:Nat) (f:Fnc) (d:Nat) (x:Ex) (b:Nat) (m:MS) (iv ov:Value) (R:Hl) (hC:CT p c s) (hn:c.nf=f.params.length+f.locals.length) (hv:VeR p f d s x [.func (.func 123) #[] #[.pointer (some ⟨b,0,none⟩)]]) (hM:MG p c N m iv ov R s) (hr:(sem p OPp (n+1)).e f x m≠.out):AP Tryz.prog D 123 [.pointer (some ⟨c.bm,0,none⟩),.pointer (some ⟨b,0,none⟩)] (MB c N 0 m iv ov 0 0::MGb c m::MFb c m::(R++L)) s (okE p c N ((sem p OPp (n+1)).e f x m) VE RE [] L) (finE c N ((sem p OPp (n+1)).e f x m) [] L):=by
 obtain ⟨r,hq⟩:∃ r,r=(sem p OPp (n+1)).e f x m:=⟨_,rfl⟩
 rw [← hq] at hr ⊢
 change r=(stpM m).and _ at hq
 obtain ⟨e,w,hcb,hw⟩:=hv.opn
 refine AP_enter (TT:=TT) (fn:=Tryz.f123) TT_ok Tryz.func123 V Z Tryz.ntmps123 Z (rs:=[.tmp 3]) Z [(0,_),(1,_)] Z<|Sr<|At Z Z<|Sr<|Zqm Z Z<|?_
 refine JO_callP (first:=[]) (captured:=[]) Z Z Z (mstep_ap D _ _ c N _ m iv ov hM.ll hM.lN) ?_ ?_
 ·
  rintro _ _ sx1 hx1 ⟨hp,g0,rfl⟩ fr9
  repeat (first | refine thenQ_p ?_ | refine blockQ_p ?_)
  refine retP_x [] _ (List.Perm.refl _) hx1 (fun sR hS2=>?_)
  exact ⟨hp,m,0,0,_,by rw [hq,stpM,if_pos g0];rfl,rfl,hM.fin _ _ _⟩
 rintro _ _ s1 h1 ⟨g0,rfl⟩
 rw [stpM,if_neg g0] at hq
 simp only [ER.and] at hq
 have hM1:=(hM.le h1).stp
 refine Nt<|Sr<|?_
 obtain ⟨kk,cap,rfl,hI⟩:=ih L _ c N f e x w _ iv ov R (hC.le h1) hn (hw.le h1 fun _ _ h=>VeR.le h1 h) hM1 (by rw [← hq];exact hr)
 rw [← hq] at hI
 refine JO_q (QE_ldsR0 Z Z Z (hcb.le h1) Z) Z<|Zqm Z Z ?_
 refine JO_callP (first:=[]) (captured:=cap) Z Z Z (hI) ?_ ?_
 ·
  rintro _ _ sx2 hx2 ⟨hp,m1,st1,cd1,Z1,he1,rfl,hF1⟩ fr9
  repeat (first | refine thenQ_p ?_ | refine blockQ_p ?_)
  refine retP_x [] _ (List.Perm.refl _) (h1.t hx2) (fun sR hS2=>?_)
  exact ⟨hp,m1,st1,cd1,Z1,he1,rfl,hF1⟩
 rintro _ _ s2 h2 ⟨a1,m1,iv1,ov1,R1,he1,⟨rfl,hu1⟩,rfl,hM2⟩
 refine At Z Z<|Zo<|?_
 refine retP_mk [] _ (.inr Z) (.tmp Z (.nil)) Z (h1.t h2) (fun sR hS2=>?_)
 exact ⟨a1,m1,iv1,ov1,R1,he1,⟨rfl,hu1⟩,rfl,hM2.le ((Lr D).t hS2)⟩
theorem tstep_ap (p:Prg) (D n:Nat) (ih:SOK p D n) (L:Hl) (s:World) (c:MC) (N:Nat) (f:Fnc) (d:Nat) (x:Stm) (b:Nat) (m:MS) (iv ov:Value) (R:Hl) (hC:CT p c s) (hn:c.nf=f.params.length+f.locals.length) (hv:VsR p f d s x [.func (.func 49) #[] #[.pointer (some ⟨b,0,none⟩)]]) (hM:MG p c N m iv ov R s) (hr:(sem p OPp (n+1)).t f x m≠.out):AP Tryz.prog D 49 [.pointer (some ⟨c.bm,0,none⟩),.pointer (some ⟨b,0,none⟩)] (MB c N 0 m iv ov 0 0::MGb c m::MFb c m::(R++L)) s (okE p c N ((sem p OPp (n+1)).t f x m) VS RS [] L) (finE c N ((sem p OPp (n+1)).t f x m) [] L):=by
 obtain ⟨r,hq⟩:∃ r,r=(sem p OPp (n+1)).t f x m:=⟨_,rfl⟩
 rw [← hq] at hr ⊢
 change r=(stpM m).and _ at hq
 obtain ⟨e,w,hcb,hw⟩:=hv.opn
 refine AP_enter (TT:=TT) (fn:=Tryz.f49) TT_ok Tryz.func49 V Z Tryz.ntmps49 Z (rs:=[.tmp 3]) Z [(0,_),(1,_)] Z<|Sr<|At Z Z<|Sr<|Zqm Z Z<|?_
 refine JO_callP (first:=[]) (captured:=[]) Z Z Z (mstep_ap D _ _ c N _ m iv ov hM.ll hM.lN) ?_ ?_
 ·
  rintro _ _ sx1 hx1 ⟨hp,g0,rfl⟩ fr9
  repeat (first | refine thenQ_p ?_ | refine blockQ_p ?_)
  refine retP_x [] _ (List.Perm.refl _) hx1 (fun sR hS2=>?_)
  exact ⟨hp,m,0,0,_,by rw [hq,stpM,if_pos g0];rfl,rfl,hM.fin _ _ _⟩
 rintro _ _ s1 h1 ⟨g0,rfl⟩
 rw [stpM,if_neg g0] at hq
 simp only [ER.and] at hq
 have hM1:=(hM.le h1).stp
 refine Nt<|Sr<|?_
 obtain ⟨kk,cap,rfl,hI⟩:=ih L _ c N f e x w _ iv ov R (hC.le h1) hn (hw.le h1 (fun _ _ h=>VeR.le h1 h) (fun _ _ h=>VsR.le h1 h)) hM1 (by rw [← hq];exact hr)
 rw [← hq] at hI
 refine JO_q (QE_ldsR0 Z Z Z (hcb.le h1) Z) Z<|Zqm Z Z ?_
 refine JO_callP (first:=[]) (captured:=cap) Z Z Z (hI) ?_ ?_
 ·
  rintro _ _ sx2 hx2 ⟨hp,m1,st1,cd1,Z1,he1,rfl,hF1⟩ fr9
  repeat (first | refine thenQ_p ?_ | refine blockQ_p ?_)
  refine retP_x [] _ (List.Perm.refl _) (h1.t hx2) (fun sR hS2=>?_)
  exact ⟨hp,m1,st1,cd1,Z1,he1,rfl,hF1⟩
 rintro _ _ s2 h2 ⟨a1,m1,iv1,ov1,R1,he1,⟨rfl,hu1⟩,rfl,hM2⟩
 refine At Z Z<|Zo<|?_
 refine retP_mk [] _ (.inr Z) (.tmp Z (.nil)) Z (h1.t h2) (fun sR hS2=>?_)
 exact ⟨a1,m1,iv1,ov1,R1,he1,⟨rfl,hu1⟩,rfl,hM2.le ((Lr D).t hS2)⟩
end Go.Proofs.YtpdnijphccdiiaaGreatDoor
