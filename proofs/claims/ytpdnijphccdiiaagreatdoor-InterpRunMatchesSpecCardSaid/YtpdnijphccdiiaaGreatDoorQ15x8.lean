/- Part 8. -/
import Derived.Test.YtpdnijphccdiiaaGreatDoorQ15x7
import Derived.ProofKit
import Derived.OpenShut
import Derived.SizedLaws
import Derived.Deep.Slices
import Derived.Test.YtpdnijphccdiiaaGreatDoorRows
set_option linter.unusedVariables false
set_option linter.unusedSimpArgs false
set_option linter.unnecessarySimpa false
set_option maxRecDepth 100000
set_option maxHeartbeats 8000000
namespace Go.Proofs.YtpdnijphccdiiaaGreatDoor
open Go.FL
attribute [local irreducible] JC JO JA JB qaJ qaw qbM AC fill CellsAt QE Ev Mid
section
variable{p:Prg}{f:Fnc}
theorem qhG{nm:Str}(h:(qaz p f nm).1.1=1∨(qaz p f nm).1.1=2):(if (qaz p f nm).1.1=1 then (qaz p f nm).1.2 else (f.params.length:Int)+(qaz p f nm).1.2)=qa4 f nm:=by
  have h0:=qg1 h
  unfold qa4 at h0
  unfold qaz qa4
  by_cases h1:0≤qbb (fun y=>decide (nm=y)) f.params 0
  · simp only [if_pos h1];rfl
  · by_cases h2:0≤qbb (fun y=>decide (nm=y)) f.locals 0
    · simp only [if_neg h1,if_pos h2];rfl
    · rw [if_neg h1,if_neg h2] at h0;omega
def MeD(p:Prg)(f:Fnc)(nm:Str)(u c:Int):Prop:=(((qaz p f nm).1.1=1∨(qaz p f nm).1.1=2)∧(∃ j:Nat,qa4 f nm=(j:Int)∧j < f.params.length+f.locals.length)∧(u=1∨u=2))∨(¬ 0≤qa4 f nm∧∃ (k:Nat) (g:Glo),(qaz p f nm).1=(3,(k:Int))∧qdi p nm=(k:Int)∧p.globals[k]?=some g∧((g.kind=1∧u=2)∨(g.kind=2∧(u=1∨u=2))∨(g.kind=3∧u=3)))∨∃ (k:Nat) (fk:Fnc),(qaz p f nm).1=(4,(k:Int))∧qhx p nm=(k:Int)∧p.funcs[k]?=some fk∧u=4∧c=(fk.params.length:Int)
theorem qgm(hP:POK p){u:Use}(h:qeg p f u=0)(hu:u.2.1≠0):MeD p f u.1 u.2.1 u.2.2:=by
  obtain ⟨a1,a2,a3⟩:=qhB h hu
  rcases qdh a1 with k1 | ⟨k1,k,k2,k3⟩ | ⟨k1,k,k2,k3⟩
  · refine .inl ⟨k1,?_,by unfold qcb at a2;omega⟩
    obtain ⟨j,hj⟩:=Int.eq_ofNat_of_zero_le (qg1 k1)
    have:=qim f u.1
    exact ⟨j,hj,by omega⟩
  · have e:=qfi k1 k2
    obtain ⟨g,hg⟩:∃ g,p.globals[k]?=some g:=⟨_,List.getElem?_eq_getElem k3⟩
    have hk:=hP.gk g (List.mem_of_getElem? hg)
    rw [e] at a2
    have e1:=qeL hg
    refine .inr (.inl ⟨qjk e (.inl Z),k,g,e,(qlt hP.nd e).1,hg,?_⟩)
    unfold qcb at a2
    simp only at a2
    omega
  · have e:=qfi k1 k2
    obtain ⟨g,hg⟩:∃ g,p.funcs[k]?=some g:=⟨_,List.getElem?_eq_getElem k3⟩
    rw [e] at a2 a3
    have e1:=qfR (p:=p) (i:=(k:Int)) rfl hg
    refine .inr (.inr ⟨k,g,e,(qk9 hP.nd e).1,hg,?_⟩)
    unfold qcb at a2
    simp only at a2 a3
    rw [e1] at a3
    omega
theorem md2(hP:POK p){x:Ex}(h:XOK p f x)(hk:x.kind=2):(((qaz p f x.name).1.1=1∨(qaz p f x.name).1.1=2)∧∃ j:Nat,qa4 f x.name=(j:Int)∧j < f.params.length+f.locals.length)∨(¬ 0≤qa4 f x.name∧∃ (k:Nat) (g:Glo),(qaz p f x.name).1=(3,(k:Int))∧qdi p x.name=(k:Int)∧p.globals[k]?=some g):=by
 have hu:qdk x=(x.name,2,0):=by rw [qdk,if_pos hk]
 have:=h.use;rw [hu] at this
 rcases qgm hP this (show (2:Int)≠0 by decide) with ⟨a,b,_⟩ | ⟨a,k,g,b,c,e,_⟩ | ⟨_,_,_,_,_,c,_⟩
 · exact .inl ⟨a,b⟩
 · exact .inr ⟨a,k,g,b,c,e⟩
 · cases c
theorem md3(hP:POK p){x:Ex}(h:XOK p f x)(hk:x.kind=3):∃ (k:Nat) (g:Glo),(qaz p f x.name).1=(3,(k:Int))∧qdi p x.name=(k:Int)∧p.globals[k]?=some g∧g.kind=3:=by
 have hu:qdk x=(x.name,3,0):=by rw [qdk,if_neg O,if_pos hk]
 have:=h.use;rw [hu] at this
 rcases qgm hP this (show (3:Int)≠0 by decide) with ⟨_,_,a⟩ | ⟨a,k,g,b,c,e,d⟩ | ⟨_,_,_,_,_,c,_⟩
 · rcases a with a | a <;> cases a
 · exact ⟨k,g,b,c,e,by simp only at d;omega⟩
 · cases c
theorem md4(hP:POK p){x:Ex}(h:XOK p f x)(hk:x.kind=4):∃ (k:Nat) (fk:Fnc),(qaz p f x.name).1=(4,(k:Int))∧qhx p x.name=(k:Int)∧p.funcs[k]?=some fk∧x.args.length=fk.params.length:=by
 have hu:qdk x=(x.name,4,(x.args.length:Int)):=by rw [qdk,if_neg O,if_neg O,if_pos hk]
 have:=h.use;rw [hu] at this
 rcases qgm hP this (show (4:Int)≠0 by decide) with ⟨_,_,a⟩ | ⟨a,k,g,b,c,e,d⟩ | ⟨k,fk,b,c,e,_,d⟩
 · rcases a with a | a <;> cases a
 · simp only at d;omega
 · exact ⟨k,fk,b,c,e,by simp only at d;omega⟩
theorem sd1(hP:POK p){x:Stm}(h:StOK p f x)(hk:x.kind=1):(((qaz p f x.name).1.1=1∨(qaz p f x.name).1.1=2)∧∃ j:Nat,qa4 f x.name=(j:Int)∧j < f.params.length+f.locals.length)∨(¬ 0≤qa4 f x.name∧∃ (k:Nat) (g:Glo),(qaz p f x.name).1=(3,(k:Int))∧qdi p x.name=(k:Int)∧p.globals[k]?=some g∧g.kind=2):=by
 have hu:qdd x=(x.name,1,0):=by rw [qdd,if_pos hk]
 have:=h.use;rw [hu] at this
 rcases qgm hP this (show (1:Int)≠0 by decide) with ⟨a,b,_⟩ | ⟨a,k,g,b,c,e,d⟩ | ⟨_,_,_,_,_,c,_⟩
 · exact .inl ⟨a,b⟩
 · exact .inr ⟨a,k,g,b,c,e,by simp only at d;omega⟩
 · cases c
theorem sd2(hP:POK p){x:Stm}(h:StOK p f x)(hk:x.kind=2):∃ (k:Nat) (g:Glo),(qaz p f x.name).1=(3,(k:Int))∧qdi p x.name=(k:Int)∧p.globals[k]?=some g∧g.kind=3:=by
 have hu:qdd x=(x.name,3,0):=by rw [qdd,if_neg O,if_pos hk]
 have:=h.use;rw [hu] at this
 rcases qgm hP this (show (3:Int)≠0 by decide) with ⟨_,_,a⟩ | ⟨a,k,g,b,c,e,d⟩ | ⟨_,_,_,_,_,c,_⟩
 · rcases a with a | a <;> cases a
 · exact ⟨k,g,b,c,e,by simp only at d;omega⟩
 · cases c
theorem sd5(hP:POK p){x:Stm}(h:StOK p f x)(hk:x.kind=5):∃ (k:Nat) (fk:Fnc),(qaz p f x.name).1=(4,(k:Int))∧qhx p x.name=(k:Int)∧p.funcs[k]?=some fk∧x.exprs.length=fk.params.length:=by
 have hu:qdd x=(x.name,4,(x.exprs.length:Int)):=by rw [qdd,if_neg O,if_neg O,if_pos hk]
 have:=h.use;rw [hu] at this
 rcases qgm hP this (show (4:Int)≠0 by decide) with ⟨_,_,a⟩ | ⟨a,k,g,b,c,e,d⟩ | ⟨k,fk,b,c,e,_,d⟩
 · rcases a with a | a <;> cases a
 · simp only at d;omega
 · exact ⟨k,fk,b,c,e,by simp only at d;omega⟩
theorem XOK.sh{x:Ex}(h:XOK p f x):1≤x.kind∧x.kind≤7∧x.args.length≤6∧(x.kind=3→x.args.length=1)∧(x.kind=6→x.args.length=1∧1≤x.op∧x.op≤3)∧(x.kind=7→x.args.length=2∧4≤x.op∧x.op≤21):=by
 obtain ⟨h1,h2,h3,h4,h5,h6⟩:=qb5 (qdx h.1).1
 have h7:=qjn x.kind
 refine ⟨h1,h2,by omega,fun hk=>?_,fun hk=>⟨?_,h5 hk⟩,fun hk=>⟨?_,h6 hk⟩⟩
 · rw [hk] at h3 h4;change 1≤_ at h3;change _≤1 at h4;omega
 · rw [hk] at h3 h4;change 1≤_ at h3;change _≤1 at h4;omega
 · rw [hk] at h3 h4;change 2≤_ at h3;change _≤2 at h4;omega
theorem qqG(k:Int):qcA k≤6:=by
 unfold qcA;repeat' split
 all_goals omega
theorem StOK.sh{x:Stm}(h:StOK p f x):1≤x.kind∧x.kind≤10∧x.exprs.length≤6∧((x.kind=1∨x.kind=3∨x.kind=4∨x.kind=6∨x.kind=7∨x.kind=8)→x.exprs.length=1)∧(x.kind=2→x.exprs.length=2)∧(x.name≠[]↔x.kind=1∨x.kind=2∨x.kind=5):=by
  obtain ⟨⟨lv,hv⟩,_⟩:=h
  have hC:=(qcI hv).2.1
  obtain ⟨h1,h2,h3,h4,_,_⟩:=qcl hC
  have h7:=qqG x.kind
  refine ⟨h1,h2,by omega,fun hk=>?_,fun hk=>?_,?_⟩
  · have e1:qbO x.kind=1:=by rw [qbO,if_neg O,if_neg O]
    have e2:qcA x.kind=1:=by rw [qcA,if_neg O,if_neg O,if_neg O]
    omega
  · rw [hk] at h3 h4;change 2≤_ at h3;change _≤2 at h4;omega
  · unfold stC at hC
    rw [if_neg O] at hC
    have hn:qcc x.kind=true↔x.kind=1∨x.kind=2∨x.kind=5:=by simp [qcc,or_assoc]
    rw [← hn]
    cases hb:qcc x.kind with
    | true=>
      refine ⟨fun _=>rfl,fun _ he=>?_⟩
      rw [hb,he] at hC
      simp [qaT] at hC
    | false=>
      refine ⟨fun he=>?_,fun h=>by cases h⟩
      rw [hb] at hC
      simp [he] at hC
section
variable{S:Sem}{m:MS}
theorem qrN{nm:Str}{j:Nat}(h:qa4 f nm=(j:Int)):qgY p f nm m=m.frm.getD j 0:=by
 rw [qgY,if_pos O,h,Int.toNat_natCast]
theorem qqv{nm:Str}{k:Nat}{g:Glo}(h:¬ 0≤qa4 f nm)(hg:qdi p nm=(k:Int))(hp:p.globals[k]?=some g):qgY p f nm m=if g.kind=1 then g.num else m.glo.getD k 0:=by
 rw [qgY,if_neg h,hg,Int.toNat_natCast,List.getD_eq_getElem?_getD,hp,Option.getD_some]
theorem qsE{l:List Ex}(h:l.length=1):l=[qbA l 0]:=by
 match l,h with
 | [a],_=>rfl
theorem qpm{l:List Ex}(h:l.length=2):l=[qbA l 0,qbA l 1]:=by
 match l,h with
 | [a,b],_=>rfl
theorem qh9{E:Ex→MS→ER Int}{l:List Ex}{α:Type}{K:Int→MS→ER α}(h:l.length=1):(E (qbA l 0) m).and K=(qaD E l m).and fun vs m=>K (vs.getD 0 0) m:=by
 rw [qsE h,qaD,ER.and_assoc]
 congr 1
theorem qu8{E:Ex→MS→ER Int}{l:List Ex}{α:Type}{K:Int→Int→MS→ER α}(h:l.length=2):((E (qbA l 0) m).and fun a m=>(E (qbA l 1) m).and fun b m=>K a b m)=(qaD E l m).and fun vs m=>K (vs.getD 0 0) (vs.getD 1 0) m:=by
 rw [qpm h,qaD,ER.and_assoc]
 show _=(E (qbA l 0) m).and _
 congr 1
 funext a m
 rw [qaD,ER.and_assoc,ER.and_assoc]
 congr 1
theorem qcg{E:Ex→MS→ER Int}:∀ {l:List Ex} {m m':MS} {vs:List Int},qaD E l m=.ok vs m'→vs.length=l.length
 | [],m,m',vs,h=>by rw [qaD] at h;injection h with h _;subst h;rfl
 | x::r,m,m',vs,h=>by
  rw [qaD] at h
  cases hx:E x m with
  | out=>rw [hx] at h;cases h
  | fin _ _ _=>rw [hx] at h;cases h
  | ok a m1=>
   rw [hx] at h
   simp only [ER.and] at h
   cases hr:qaD E r m1 with
   | out=>rw [hr] at h;cases h
   | fin _ _ _=>rw [hr] at h;cases h
   | ok ws m2=>
    rw [hr] at h
    simp only [] at h
    injection h with h _
    rw [← h,List.length_cons,List.length_cons,qcg hr]
theorem qt8{x:Ex}(hk:x.kind=1):vX p OPp S f x m=.ok x.num m:=by rw [vX,if_pos hk]
theorem qtA{x:Ex}(hk:x.kind=2):vX p OPp S f x m=.ok (qgY p f x.name m) m:=by rw [vX,if_neg O,if_pos hk]
theorem qsU{x:Ex}(hk:x.kind=5):vX p OPp S f x m=qjD m:=by rw [vX,if_neg O,if_neg O,if_neg O,if_neg O,if_pos hk]
theorem quN{x:Ex}(hk:x.kind=3)(hl:x.args.length=1):vX p OPp S f x m=(qaD (S.e f) x.args m).and fun vs m=>if ((qd1 p x.name m).length:Int)≤vs.getD 0 0 then .fin m 1 1 else .ok ((qd1 p x.name m).getD (vs.getD 0 0).toNat 0) m:=by
 rw [vX,if_neg O,if_neg O,if_pos hk,qh9 hl]
theorem qsW{x:Ex}(h:(x.kind=6∧x.args.length=1∧1≤x.op∧x.op≤3)∨(x.kind=7∧x.args.length=2∧x.op < 20)):vX p OPp S f x m=(qaD (S.e f) x.args m).and fun vs m=>if (qee x.op (vs.getD 1 0)).1=0 then .ok (opP x.op (vs.getD 0 0) (vs.getD 1 0)) m else .fin m 1 2:=by
  rcases h with ⟨hk,hl,ho1,ho2⟩ | ⟨hk,hl,ho⟩
  · rw [qpx hk,qh9 hl]
    cases he:qaD (S.e f) x.args m with
    | out=>rfl
    | fin _ _ _=>rfl
    | ok vs m1=>
      have hv:=qcg he
      have e1:vs.getD 1 0=0:=by rw [List.getD_eq_getElem?_getD,List.getElem?_eq_none O];rfl
      have e2:(qee x.op 0).1=0:=by rw [qee,if_neg O,if_neg O]
      simp only [ER.and,e1,if_pos e2]
  · rw [qkl hk,← qu8 (K:=fun a b m=>if (qee x.op b).1=0 then .ok (opP x.op a b) m else .fin m 1 2) hl]
    congr 1
    funext a m
    rw [if_neg O,if_neg O]
theorem qtK(a b:Int):opP 20 a b=if a≠0∧b≠0 then 1 else 0:=by
 by_cases h1:a=0 <;> by_cases h2:b=0 <;> simp [opP,qdw,h1,h2]
theorem qtO(a b:Int):opP 21 a b=if a≠0∨b≠0 then 1 else 0:=by
 by_cases h1:a=0 <;> by_cases h2:b=0 <;> simp [opP,qdw,h1,h2]
theorem qu7{x:Ex}(hk:x.kind=7)(hl:x.args.length=2)(ho:20≤x.op)(ho2:x.op≤21):vX p OPp S f x m=(qaD (S.e f) (x.args.take 1) m).and fun vs m=>if (!decide (vs.getD 0 0=0))=decide (x.op=21) then .ok (if decide (x.op=21)=true then 1 else 0) m else (S.e f (qbA x.args 1) m).and fun b m=>.ok (if (!decide (b=0))=true then 1 else 0) m:=by
  have ht:x.args.take 1=[qbA x.args 0]:=by
    have:=qpm hl
    rw [this];rfl
  rw [qkl hk,ht,qaD,ER.and_assoc]
  congr 1
  funext a m
  show _=(if (!decide (a=0))=decide (x.op=21) then ER.ok (if decide (x.op=21)=true then 1 else 0) m else (S.e f (qbA x.args 1) m).and fun b m=>.ok (if (!decide (b=0))=true then 1 else 0) m)
  rcases (by omega:x.op=20∨x.op=21) with h | h
  · rw [h]
    by_cases ha:a=0
    · subst ha;rfl
    · have e:∀ b,(qee 20 b).1=0:=fun b=>by rw [qee,if_neg O,if_neg O]
      rw [if_neg (by simp [ha]),if_neg (by simp),if_neg (by simp [ha])]
      congr 1
      funext b m
      rw [if_pos (e b),qtK]
      by_cases hb:b=0 <;> simp [ha,hb]
  · rw [h]
    by_cases ha:a=0
    · subst ha
      have e:∀ b,(qee 21 b).1=0:=fun b=>by rw [qee,if_neg O,if_neg O]
      rw [if_neg (by simp),if_neg (by simp),if_neg (by simp)]
      have hf:(fun b m=>if (qee 21 b).1=0 then ER.ok (opP 21 0 b) m else .fin m 1 2)=fun b m=>ER.ok (if (!decide (b=0))=true then 1 else 0) m:=by
        funext b m
        rw [if_pos (e b),qtO]
        cases Decidable.em (b=0) with
        | inl hb=>rw [if_neg (by simp [hb]),if_neg (by simp [hb])]
        | inr hb=>rw [if_pos (.inr hb),if_pos (by simp [hb])]
      rw [hf]
    · rw [if_neg (by simp),if_pos ⟨rfl,ha⟩,if_pos (by simp [ha])];rfl
end
end
open Go.Proofs.Tryz
theorem qb8(D:Nat)(L:Hl)(s:World)(a0 a1 a2 a3 a4 a5:Option Addr)(b0 d0 b1 d1 b2 d2 b3 d3 b4 d4 b5 d5:Nat)(l ca va st cd st1 cd1:Int)(dn:Bool):AC prog D 31 [.agg #[.slice a0 b0 d0,.slice a1 b1 d1,.slice a2 b2 d2,.slice a3 b3 d3,.slice a4 b4 d4,.slice a5 b5 d5,.int .i64 l,.int .i64 ca,.int .u32 va,.bool dn,.int .i64 st,.int .u32 cd],.int .i64 st1,.int .u32 cd1] L s fun v L' _=>v=.agg #[.slice a0 b0 d0,.slice a1 b1 d1,.slice a2 b2 d2,.slice a3 b3 d3,.slice a4 b4 d4,.slice a5 b5 d5,.int .i64 l,.int .i64 ca,.int .u32 va,.bool true,.int .i64 st1,.int .u32 cd1]∧L=L':=by
 refine qai (fn:=f31) qao func31 V Z ntmps31 Z (rs:=[.cell 6 73]) Z [(0,_),(1,_),(2,_)] Z<|Sr<|qaq Z Z ?_
 intro β1 s1 h1
 refine qaj Z [_,_,_,_,_,_,_,_,_,_,_,_] Z Z ?_
 intro β2 s2 h2
 refine Nt<|Sr<|Wb Y5<|Wt 1 [_,_,_,_,_,_,_,_,_,_,_,_] Y9<|Nt<|Sr<|Zqm Z Z<|Wb Y5<|Wt 1 [_,_,_,_,_,_,_,_,_,_,_,_] Y9<|Nt<|Sr<|Zqm Z Z<|Wb Y5<|Wt 1 [_,_,_,_,_,_,_,_,_,_,_,_] Y9<|Nt<|Sr<|qac (qag 1 [_,_,_,_,_,_,_,_,_,_,_,_] Z Z Z Z Z) Z<|Wt 0 [_,_,_,_,_,_,_,_,_,_,_,_] Y9<|Nt<|Zo<|?_
 refine rR [_,_] L (.agg (us:=[_,_,_,_,_,_,_,_,_,_,_,_]) 0 Z Z Z Z Z (.nil)) Z (h1.t h2) fun _ hS2=>?_
 exact ⟨rfl,rfl⟩
theorem qla(D:Nat)(L:Hl)(s:World)(a0 a1 a2 a3 a4 a5:Option Addr)(b0 d0 b1 d1 b2 d2 b3 d3 b4 d4 b5 d5:Nat)(l:Nat)(hl:l≤50000000)(ca va st cd:Int):AC prog D 104 [.agg #[.slice a0 b0 d0,.slice a1 b1 d1,.slice a2 b2 d2,.slice a3 b3 d3,.slice a4 b4 d4,.slice a5 b5 d5,.int .i64 (l:Int),.int .i64 ca,.int .u32 va,.bool false,.int .i64 0,.int .u32 0]] L s fun v L' _=>L=L'∧∃ (dn:Bool) (l':Int),v=.agg #[.slice a0 b0 d0,.slice a1 b1 d1,.slice a2 b2 d2,.slice a3 b3 d3,.slice a4 b4 d4,.slice a5 b5 d5,.int .i64 l',.int .i64 ca,.int .u32 va,.bool dn,.int .i64 0,.int .u32 0]∧(dn=true→l=0∧l'=(l:Int))∧(dn=false→¬ l=0∧l'=((l - 1:Nat):Int)):=by
 refine qai (fn:=f104) qao func104 V Z ntmps104 Z (rs:=[.cell 2 73]) Z [(0,_)] Z<|Sr<|qaq Z Z ?_
 intro β1 s1 h1
 refine qaj Z [_,_,_,_,_,_,_,_,_,_,_,_] Z Z ?_
 intro β2 s2 h2
 refine Nt<|Zs<|Sr<|Wb Y5<|Wl 1 Y6<|qar Z Z Z<|Nt<|?_
 refine qaa Z (fun c3=>?_) (fun c3=>?_)
 ·
  have h0:=c3
  refine Sr<|qac (qag 1 [_,_,_,_,_,_,_,_,_,_,_,_] Z Z Z Z Z) Z<|Jc Z Z Z (qb8 D _ _ _ _ _ _ _ _ _ _ _ _ _ _ _ _ _ _ _ _ _ _ _ _ _ _ _ _) ?_
  rintro _ _ s4 h4 ⟨rfl,rfl⟩
  refine Wt 0 [_,_,_,_,_,_,_,_,_,_,_,_] Y9<|Nt<|Zo<|Zu<|?_
  refine rR [_,_] L (.agg (us:=[_,_,_,_,_,_,_,_,_,_,_,_]) 0 Z Z Z Z Z (.nil)) Z (h1.t h2|>.t h4) fun _ hS2=>?_
  first
    | exact ⟨rfl,true,_,rfl,fun _=>⟨by omega,rfl⟩,fun h=>by cases h⟩
    | exact ⟨rfl,false,_,rfl,fun h=>(by cases h),fun _=>⟨by omega,rfl⟩⟩
 have h0:=c3
 refine Zk<|Zt<|Sr<|Wb Y5<|Wl 1 Y6<|qac (qae (qbd Z Z (w64 O O)) (congrArg (Value.int .i64) (show (l:Int) - 1=((l - 1:Nat):Int) by omega))) Z<|Wb Y5<|Wt 1 [_,_,_,_,_,_,_,_,_,_,_,_] Y9<|Nt<|Sr<|qac (qag 1 [_,_,_,_,_,_,_,_,_,_,_,_] Z Z Z Z Z) Z<|Wt 0 [_,_,_,_,_,_,_,_,_,_,_,_] Y9<|Nt<|Zo<|?_
 refine rR [_,_] L (.agg (us:=[_,_,_,_,_,_,_,_,_,_,_,_]) 0 Z Z Z Z Z (.nil)) Z (h1.t h2) fun _ hS2=>?_
 first
   | exact ⟨rfl,true,_,rfl,fun _=>⟨by omega,rfl⟩,fun h=>by cases h⟩
   | exact ⟨rfl,false,_,rfl,fun h=>(by cases h),fun _=>⟨by omega,rfl⟩⟩
theorem qiK(D:Nat)(L:Hl)(s:World)(d:Nat)(p:Prg)(Ag Af:Option Addr)(ng cg nf cf:Nat)(hGl:Glos s Ag ng cg p.globals)(hFn:Fncs d s Af nf cf p.funcs)(fi:Nat)(f:Fnc)(hf:p.funcs[fi]?=some f)(k i:Int)(j:Nat)(hj:(if k=1 then i else (f.params.length:Int)+i)=(j:Int))(hjb:j≤1000000):AC prog D 139 [.agg #[.slice Ag ng cg,.slice Af nf cf],.int .i64 (fi:Int),.agg #[.int .i64 k,.int .i64 i]] L s fun v L' _=>v=.int .i64 (j:Int)∧L=L':=by
 have hfl:=(List.getElem?_eq_some_iff.1 hf).1
 have hn2:=hFn.1
 have hfn:fi < nf:=by omega
 obtain ⟨b,off,x9,B1,m1,d1,B2,m2,d2,B3,m3,d3,rfl,hx9,hcx,hpx,hlx,hbx,hnl⟩:=Fncs.at_ hFn hfn
 obtain rfl:f=x9:=Option.some.inj (hf.symm.trans hx9)
 have hp1:=hpx.1
 refine qai (fn:=f139) qao func139 V Z ntmps139 Z (rs:=[.tmp 6]) Z [(0,_),(1,_),(2,_)] Z<|Sr<|qaq Z Z ?_
 intro β1 s1 h1
 refine qaq Z Z ?_
 intro β2 s2 h2
 refine At Z Z<|Zs<|Sr<|W0 Y5<|Wl 0 Y6<|qar Z Z Z<|Nt<|?_
 refine qaa Z (fun c3=>?_) (fun c3=>?_)
 ·
  rw [if_pos c3] at hj
  refine Sr<|Wb Y5<|Wl 0 Y6<|At Z Z<|Zo<|Zu<|?_
  refine rR [_,_] L (.t1 Z) Z (h1.t h2) fun _ hS2=>?_
  first
    | exact ⟨congrArg (Value.int .i64) hj,rfl⟩
    | exact ⟨congrArg (Value.int .i64) (by rw [hp1];exact hj),rfl⟩
 rw [if_neg c3] at hj
 refine Zk<|Zt<|Zs<|qay qad 11 Z _ (fun _ h=>h) ?_
 intro s4 h4
 refine za 0 Z (We Y4) Z<|za 1 Z (Wd 1 Y5) Z<|za 2 Z (qan Z) Z<|za 3 Z (qap Z Z Z Z Z Z hfn) Z<|za 4 Z (qbs Z Z Z Z) Z<|za 5 Z (qaC 1 Z Z Z (hcx.le (h1.t h2|>.t h4)) Z) Z<|za 6 Z (qbR Z Z Z) Z<|za 7 Z (We Y4) Z<|za 8 Z (Wd 0 Y5) Z<|za 9 Z (qaR Z Z (w64 O O)) Z<|za 10 Z (qaM Z) Z<|qal V<|Zt<|Zo<|?_
 refine rR [_,_] L (.t1 Z) Z (h1.t h2|>.t h4) fun _ hS2=>?_
 first
   | exact ⟨congrArg (Value.int .i64) hj,rfl⟩
   | exact ⟨congrArg (Value.int .i64) (by rw [hp1];exact hj),rfl⟩
def EVr(p:Prg)(D n:Nat):Prop:=∀ (L:Hl) (s:World) (c:DN) (N fl d e fi:Nat) (f:Fnc) (x:Ex) (A:Option Addr) (n1 c1:Nat) (fv:Value) (m:MS) (iv ov:Slc) (va:Int) (R:Hl),CR p d c s→p.funcs[fi]?=some f→fl=f.params.length+f.locals.length→Exs e s A n1 c1 x.args→U32 x.num→XOK p f x→MR p c N fl fv m iv ov R s→(sem p OPp n).e f x m≠.out→AC prog D 137 [.agg #[.slice c.Ag c.ng c.cg,.slice c.Af c.nf c.cf,.slice c.vv.1 c.vv.2.1 c.vv.2.2,.slice c.av.1 c.av.2.1 c.av.2.2,.slice iv.1 iv.2.1 iv.2.2,.slice ov.1 ov.2.1 ov.2.2,.int .i64 (m.left:Int),.int .i64 (m.calls:Int),.int .u32 va,.bool false,.int .i64 0,.int .u32 0],.int .i64 (fi:Int),fv,.agg #[.int .i64 x.kind,.int .i64 x.op,.int .u32 x.num,St x.name,.slice A n1 c1]] (R++L) s (okR p c N fl fv ((sem p OPp n).e f x m) (Value.int .u32) WE [] L)
structure EG where
 k:Nat
 pre:List Int
 iv:Slc
 ov:Slc
 l:Int
 ca:Int
 va:Int
 dn:Bool
 st:Int
 cd:Int
 R:Hl
 v:Value
 M:Hl
theorem qbP(p:Prg)(D n:Nat)(hE:EVr p D n)(L:Hl)(s:World)(c:DN)(N fl d e fi:Nat)(f:Fnc)(xs:List Ex)(A:Option Addr)(n1 c1:Nat)(fv:Value)(m:MS)(iv ov:Slc)(va:Int)(R:Hl)(hC:CR p d c s)(hf:p.funcs[fi]?=some f)(hfl:fl=f.params.length+f.locals.length)(hM:MR p c N fl fv m iv ov R s)(hX:Exs e s A n1 c1 xs)(hO:∀ y∈xs,XOK p f y)(hnb:xs.length≤1000)(hr:qaD ((sem p OPp n).e f) xs m≠.out):AC prog D 138 [.agg #[.slice c.Ag c.ng c.cg,.slice c.Af c.nf c.cf,.slice c.vv.1 c.vv.2.1 c.vv.2.2,.slice c.av.1 c.av.2.1 c.av.2.2,.slice iv.1 iv.2.1 iv.2.2,.slice ov.1 ov.2.1 ov.2.2,.int .i64 (m.left:Int),.int .i64 (m.calls:Int),.int .u32 va,.bool false,.int .i64 0,.int .u32 0],.int .i64 (fi:Int),fv,.slice A n1 c1] (R++L) s (okR p c N fl fv (qaD ((sem p OPp n).e f) xs m) mkS WL [] L):=by
 obtain ⟨r,hq⟩:∃ r,r=qaD ((sem p OPp n).e f) xs m:=⟨_,rfl⟩
 rw [← hq] at hr ⊢
 have hn1:=hX.1
 have hb1:=hX.2.1
 have hb2:=hX.2.2.1
 refine qai (fn:=f138) qao func138 V Z ntmps138 Z (rs:=[.cell 8 73,.tmp 9]) Z [(0,_),(1,_),(2,_),(3,_)] Z<|Sr<|qaq Z Z ?_
 intro β1 s1 h1
 refine qaj Z [_,_,_,_,_,_,_,_,_,_,_,_] Z Z ?_
 intro β2 s2 h2
 refine At Z Z<|Sr<|At Z Z<|Zs<|Sr<|At Z Z<|Zp<|?_
 refine qav (γ:=EG) (fun g=>[(1,_),(2,_),(3,_),(4,_),(8,_),(9,_),(10,g.v),(11,.int .i64 (g.k:Int))]) (fun g=>_::(_,cb [.slice c.Ag c.ng c.cg,.slice c.Af c.nf c.cf,.slice c.vv.1 c.vv.2.1 c.vv.2.2,.slice c.av.1 c.av.2.1 c.av.2.2,.slice g.iv.1 g.iv.2.1 g.iv.2.2,.slice g.ov.1 g.ov.2.1 g.ov.2.2,.int .i64 g.l,.int .i64 g.ca,.int .u32 g.va,.bool g.dn,.int .i64 g.st,.int .u32 g.cd] 73)::(g.M++(g.R++L))) (fun g tw=>Le D s2 tw∧(g.k≤n1∧FL.Own 29 1 g.M g.v g.k (wv g.pre)∧g.pre.length=g.k∧(g.dn=false→∃ m',(∀ x∈g.pre,U32 x)∧g.l=(m'.left:Int)∧g.ca=(m'.calls:Int)∧g.st=0∧g.cd=0∧MR p c N fl fv m' g.iv g.ov g.R tw∧r=(qaD ((sem p OPp n).e f) (xs.drop g.k) m').and fun vs m=>.ok (g.pre++vs) m)∧(g.dn=true→FinR N r g.ov g.l g.st g.cd g.R))) (fun g=>n1 - g.k) (fun _ _ _ h hl=>⟨h.1.trans hl,⟨h.2.1,h.2.2.1,h.2.2.2.1,fun h9=>(by obtain ⟨m',q1,q2,q3,q4,q5,q6,q7⟩:=h.2.2.2.2.1 h9;exact ⟨m',q1,q2,q3,q4,q5,q6.le hl,q7⟩),h.2.2.2.2.2⟩⟩) ⟨0,[],iv,ov,(m.left:Int),(m.calls:Int),va,false,0,0,R,.slice none 0 0,[]⟩ (.c6 Z Z Z Z Z Z (.c2 Z Z (.nil _))) Z ⟨Le.refl _,⟨Nat.zero_le _,.nil,Z,fun _=>⟨m,fun x hx=>(by cases hx),Z,Z,Z,Z,hM.le (h1.t h2),by rw [hq,List.drop_zero,ql3]⟩,fun h=>by cases h⟩⟩ ?_
 intro g s3 I3
 obtain ⟨j,pre,ivk,ovk,lk,cak,vak,dnk,stk,cdk,Rk,vk,Mk⟩:=g
 obtain ⟨hj0,hOk,hpl,hok,hfn⟩:=I3.2
 simp only at hj0 hOk hpl hok hfn
 obtain ⟨Av,cv,rfl,_,_⟩:=Own.slice hOk
 dsimp only
 refine Zs<|Sr<|Zqm Z Z<|Zqm Z Z<|Ws Y4<|qbh Z Z Z<|Zqm Z Z<|?_
 refine qak (t:=17) Z (fun c4=>?_) (fun c4=>?_)
 ·
  refine Zg Z Z<|Wb Y5<|Zg Z Z<|Wl 1 Y6<|Zg Z Z<|qbV Z Z<|ZqT Z Z Z<|Nt<|?_
  refine qcH Z (fun c5=>?_) (fun c5=>?_)
  ·
   obtain rfl:=c5
   obtain ⟨mk,hup,rfl,rfl,rfl,rfl,hMk,hq⟩:=hok rfl
   have hj:j < n1:=by omega
   rw [qpk O] at hq
   obtain ⟨e9,b9,o9,y,A9,n9,c9,he9,hAe,hy,hcE,hyX,hyu,_⟩:=Exs.at_ (hX.le (h1.t h2|>.t I3.1)) hj
   subst hAe
   have hye:qbA xs j=y:=by rw [qbA,List.getD_eq_getElem?_getD,hy];rfl
   rw [hye] at hq
   refine Zk<|Zt<|Zs<|Zp<|Sr<|At Z Z<|Zs<|qay qad 13 Z ([]:Hl) (fun x hx=>by cases hx) ?_
   intro s6 h6
   refine za 1 Z (qan Z) Z<|za 2 Z (qan Z) Z<|za 3 Z (qan Z) Z<|za 4 Z (qan Z) Z<|za 5 Z (qap Z Z Z Z Z Z hj) Z<|za 6 Z (qau Z Z Z (hcE.le h6) Z) Z<|qax 0 V<|qe3 Z Tt (qag 1 [_,_,_,_,_,_,_,_,_,_,_,_] Z Z Z Z Z) Z<|qax 7 V<|Jb Z Tt Z Z Z (AC.frR (fun L=>hE L _ c N fl d e9 fi f y A9 n9 c9 fv mk _ _ _ _ (hC.le (h1.t h2|>.t I3.1|>.t h6)) hf hfl (hyX.le h6) hyu (hO y (List.mem_of_getElem? hy)) (hMk.le h6) (qaW hq hr)) (_::_::Mk) _) ?_
   rintro _ _ s7 h7 ⟨u7,iv7,ov7,lf7,ca7,va7,dn7,so7,cd7,M7,rfl,rfl,ok7,fn7⟩
   refine ⟨(fun x hx=>by cases hx),?_⟩
   simp only [cQ9,nQ9]
   refine za 8 Z (qan Z) Z<|za 9 Z (qaX Z Z) Z<|za 10 Z (qaX Z Z) Z<|qax 11 V<|Wu Z Tt 1 [_,_,_,_,_,_,_,_,_,_,_,_] Y9 (fun x hx=>by cases hx)<|za 12 Z (qaM Z) Z<|qal V<|Zt<|Zr<|Zqm Z Z<|Zqm Z Z<|qbk [(_,_)] [_] Z Z Z Z Z Z Z Z Z ?_
   intro β8 s8 h8 hc8
   refine qba (sz:=1) [_,_] Mk _ Z Z Z Z Z Z Z hOk (Row.of_cells (hc8.le (Lr D)) Z Z) ⟨by simp [ti29];omega,by omega⟩ Z ?_
   intro v9 M9 s9 h9 oq
   obtain ⟨A8,c8,rfl,_,_⟩:=Own.slice oq
   simp only [cQ9,nQ9]
   refine Zqa Z Z<|Zn<|Zb<|Zt<|Zr<|Zqm Z Z<|qaF Z Z Z (w64 O O)<|Zqa Z Z<|Zn<|?_
   refine qab ⟨⟨j+1,pre++[u7],iv7,ov7,lf7,ca7,va7,dn7,so7,cd7,M7,_,M9⟩,[],kp,Z,⟨(I3.1.t h6|>.t h7|>.t h8|>.t h9),⟨by show j+1≤n1;omega,by rw [qsy];exact oq,by simp;omega,fun h=>(by obtain ⟨a8,m8,q1,⟨q2,q3⟩,q4,q5,q6,q7,q8⟩:=ok7 h;subst q2;exact ⟨m8,fun x hx=>(by rcases List.mem_append.1 hx with hx | hx;exact hup x hx;cases List.mem_singleton.1 hx;exact q3),q4,q5,q6,q7,q8.le (h8.t h9),by rw [hq,q1] <;> rfl⟩),fun h=>(fn7 h).and hq⟩⟩,(by show n1 - (j+1) < n1 - j;omega)⟩
  have hnd:dnk=true:=c5
  refine Zl<|Zv<|Zv<|Zd<|Zt<|Zs<|qbC [_,_] Mk _ ?_
  intro s10 h10 hpub10
  simp only [cQ9,nQ9]
  refine Zr<|qac (qag 1 [_,_,_,_,_,_,_,_,_,_,_,_] Z Z Z Z Z) Z<|Zqm Z Z<|Wt 0 [_,_,_,_,_,_,_,_,_,_,_,_] Y9<|At Z Z<|Zo<|?_
  refine rR [_,_] _ (.agg (us:=[_,_,_,_,_,_,_,_,_,_,_,_]) 0 Z Z Z Z Z (.t1 Z)) Z (h1.t h2|>.t I3.1|>.t h10) fun _ hS2=>?_
  first
    | exact ⟨(_,_,_),ivk,ovk,lk,cak,vak,dnk,stk,cdk,Rk,rfl,rfl,fun h=>(by rw [hnd] at h;cases h),hfn⟩
    | exact ⟨(_,_,_),ivk,ovk,lk,cak,vak,dnk,stk,cdk,Rk,rfl,rfl,fun h=>(by
        obtain ⟨mk,hup,q1,q2,q3,q4,hMk,hq⟩:=hok h
        rw [List.drop_eq_nil_of_le O,qaD] at hq
        simp only [ER.and,List.append_nil] at hq
        have hW:=Own.wds (hpl▸hOk) hup (Pub.le hpub10 ((Lr D).t hS2))
        exact ⟨pre,mk,hq,(by rw [hpl] at hW;exact hW),q1,q2,q3,q4,hMk.le (h10.t hS2)⟩),hfn⟩
 refine Wf Y4<|Wf Y4<|Wf Y4<|ZqF Z Z Z<|Nt<|Zz Z<|Zl<|Zv<|Zv<|Zd<|Zt<|Zs<|qbC [_,_] Mk _ ?_
 intro s11 h11 hpub11
 simp only [cQ9,nQ9]
 refine Zr<|qac (qag 1 [_,_,_,_,_,_,_,_,_,_,_,_] Z Z Z Z Z) Z<|Zqm Z Z<|Wt 0 [_,_,_,_,_,_,_,_,_,_,_,_] Y9<|At Z Z<|Zo<|?_
 refine rR [_,_] _ (.agg (us:=[_,_,_,_,_,_,_,_,_,_,_,_]) 0 Z Z Z Z Z (.t1 Z)) Z (h1.t h2|>.t I3.1|>.t h11) fun _ hS2=>?_
 first
   | exact ⟨(_,_,_),ivk,ovk,lk,cak,vak,dnk,stk,cdk,Rk,rfl,rfl,fun h=>(by rw [hnd] at h;cases h),hfn⟩
   | exact ⟨(_,_,_),ivk,ovk,lk,cak,vak,dnk,stk,cdk,Rk,rfl,rfl,fun h=>(by
       obtain ⟨mk,hup,q1,q2,q3,q4,hMk,hq⟩:=hok h
       rw [List.drop_eq_nil_of_le O,qaD] at hq
       simp only [ER.and,List.append_nil] at hq
       have hW:=Own.wds (hpl▸hOk) hup (Pub.le hpub11 ((Lr D).t hS2))
       exact ⟨pre,mk,hq,(by rw [hpl] at hW;exact hW),q1,q2,q3,q4,hMk.le (h11.t hS2)⟩),hfn⟩
def CLr(p:Prg)(D n:Nat):Prop:=∀ (L:Hl) (s:World) (c:DN) (N fl d k:Nat) (fk:Fnc) (vs:List Int) (A:Option Addr) (n1 c1:Nat) (fv:Value) (m:MS) (iv ov:Slc) (va:Int) (R:Hl),CR p d c s→Wds s A n1 c1 vs→p.funcs[k]?=some fk→vs.length=fk.params.length→MR p c N fl fv m iv ov R s→(sem p OPp n).c k vs m≠.out→AC Tryz.prog D 29 [.agg #[.slice c.Ag c.ng c.cg,.slice c.Af c.nf c.cf,.slice c.vv.1 c.vv.2.1 c.vv.2.2,.slice c.av.1 c.av.2.1 c.av.2.2,.slice iv.1 iv.2.1 iv.2.2,.slice ov.1 ov.2.1 ov.2.2,.int .i64 (m.left:Int),.int .i64 (m.calls:Int),.int .u32 va,.bool false,.int .i64 0,.int .u32 0],.int .i64 (k:Int),.slice A n1 c1] (R++L) s (okR p c N fl fv ((sem p OPp n).c k vs m) (Value.int .u32) WE [] L)
theorem qkt{x a b c:Nat×Obj}{R R':Hl}(hx:x∈(a::b::c::R).take 3):x∈a::b::c::R':=List.mem_append_left R' (show x∈[a,b,c] from hx)
theorem at3{x y z:Nat×Obj}{W:Hl}{i:Nat}{o:Nat×Obj}(h:W[i]?=some o):(x::y::z::W)[i+3]?=some o:=h
theorem at4{x y z a:Nat×Obj}{W:Hl}{i:Nat}{o:Nat×Obj}(h:W[i]?=some o):(x::y::z::a::W)[i+4]?=some o:=h
theorem t01(b:Bool):U32 (if b=true then 1 else 0):=by cases b <;> exact ⟨by decide,by decide⟩
theorem qcU{l:List Int}{k:Nat}{x:Int}(h:l[k]?=some x):l.getD k 0=x:=by rw [List.getD_eq_getElem?_getD,h];rfl
theorem qn7(p:Prg)(D n:Nat)(hE:EVr p D n)(hK:CLr p D n)(L:Hl)(s:World)(c:DN)(N fl d e fi:Nat)(f:Fnc)(x:Ex)(A:Option Addr)(n1 c1:Nat)(fv:Value)(m:MS)(iv ov:Slc)(va:Int)(R:Hl)(hC:CR p d c s)(hf:p.funcs[fi]?=some f)(hfl:fl=f.params.length+f.locals.length)(hM:MR p c N fl fv m iv ov R s)(hX:Exs e s A n1 c1 x.args)(hu:U32 x.num)(hxo:XOK p f x)(hr:(sem p OPp (n+1)).e f x m≠.out):AC Tryz.prog D 137 [.agg #[.slice c.Ag c.ng c.cg,.slice c.Af c.nf c.cf,.slice c.vv.1 c.vv.2.1 c.vv.2.2,.slice c.av.1 c.av.2.1 c.av.2.2,.slice iv.1 iv.2.1 iv.2.2,.slice ov.1 ov.2.1 ov.2.2,.int .i64 (m.left:Int),.int .i64 (m.calls:Int),.int .u32 va,.bool false,.int .i64 0,.int .u32 0],.int .i64 (fi:Int),fv,.agg #[.int .i64 x.kind,.int .i64 x.op,.int .u32 x.num,St x.name,.slice A n1 c1]] (R++L) s (okR p c N fl fv ((sem p OPp (n+1)).e f x m) (Value.int .u32) WE [] L):=by
 obtain ⟨r,hq⟩:∃ r,r=(sem p OPp (n+1)).e f x m:=⟨_,rfl⟩
 rw [← hq] at hr ⊢
 change r=(qgi m).and fun _ m=>vX p OPp (sem p OPp n) f x m at hq
 obtain ⟨Ai,ni,qi⟩:=iv
 have hI:Bts s Ai ni qi m.inp:=hM.inp
 dsimp only
 obtain ⟨k1,k7,hal,ks3,ks6,ks7⟩:=hxo.sh
 have hn1:=hX.1
 have hni:=hI.1
 have hPK:=hC.ok.pok
 have hsz9:=hC.ok.sz f (List.mem_of_getElem? hf)
 have hll:=hM.ll
 have hlN:=hM.lN
 refine qai (fn:=Tryz.f137) qao Tryz.func137 V Z Tryz.ntmps137 Z (rs:=[.cell 8 73,.tmp 9]) Z [(0,_),(1,_),(2,_),(3,_)] Z<|Sr<|qaq Z Z ?_
 intro β1 s1 h1
 refine qaq Z Z ?_
 intro β2 s2 h2
 refine qaj Z [_,_,_,_,_,_,_,_,_,_,_,_] Z Z ?_
 intro β3 s3 h3
 refine At Z Z<|Sr<|qac (qag 2 [_,_,_,_,_,_,_,_,_,_,_,_] Z Z Z Z Z) Z<|Jc Z Z Z (qla D _ _ _ _ _ _ _ _ _ _ _ _ _ _ _ _ _ _ _ _ m.left O _ _ 0 0) ?_
 rintro _ _ s4 h4 ⟨rfl,dn1,l1,rfl,ht1,hf1⟩
 refine Wt 2 [_,_,_,_,_,_,_,_,_,_,_,_] Y9<|Nt<|Zs<|Sr<|Wb Y5<|Wl 2 Y6<|Nt<|?_
 refine qcf Z (fun c5=>?_) (fun c5=>?_)
 ·
  obtain rfl:=c5
  obtain ⟨h0,rfl⟩:=ht1 rfl
  refine Sr<|qac (qag 2 [_,_,_,_,_,_,_,_,_,_,_,_] Z Z Z Z Z) Z<|Wt 0 [_,_,_,_,_,_,_,_,_,_,_,_] Y9<|At Z Z<|Zo<|Zu<|?_
  refine rR [_,_,_] _ (.agg (us:=[_,_,_,_,_,_,_,_,_,_,_,_]) 0 Z Z Z Z Z (.t1 Z)) Z (h1.t h2|>.t h3|>.t h4) fun _ hS2=>?_
  exact ⟨0,(_,_,_),(_,_,_),_,_,_,true,_,_,R,rfl,rfl,fun h=>(by cases h),fun _=>hM.fin (by rw [hq,qgi,if_pos h0];rfl)⟩
 obtain rfl:=c5
 obtain ⟨h0,rfl⟩:=hf1 rfl
 rw [qgi,if_neg h0] at hq
 simp only [ER.and] at hq
 have hM1:=hM.stp
 refine Zk<|Zt<|Zs<|Sr<|W0 Y5<|Wl 1 Y6<|qar Z Z Z<|Nt<|?_
 refine qaa Z (fun c6=>?_) (fun c6=>?_)
 ·
  rw [qt8 c6] at hq
  refine Zs<|qbJ qad 5 Z [0] (by intro x hx;exact qaY hx) ?_
  intro s7 h7
  refine za 0 Z (qag 1 [_,_,_,_,_,_,_,_,_,_,_,_] Z Z Z Z Z) Z<|za 1 Z (We Y4) Z<|za 2 Z (Wd 0 Y5) Z<|qax 3 V<|Wu Z Tt 0 [_,_,_,_,_,_,_,_,_,_,_,_] Y9 (sM (qmw (sbE _)))<|za 4 Z (qaM Z) Z<|qal V<|Zt<|Zo<|Zu<|?_
  refine rR [_,_,_] _ (.agg (us:=[_,_,_,_,_,_,_,_,_,_,_,_]) 0 Z Z Z Z Z (.t1 Z)) Z (h1.t h2|>.t h3|>.t h4|>.t h7) fun _ hS2=>?_
  exact ⟨x.num,(_,_,_),(_,_,_),_,_,_,false,_,_,R,rfl,rfl,fun _=>⟨_,_,hq,⟨rfl,hu⟩,rfl,rfl,rfl,rfl,hM1.le (h1.t h2|>.t h3|>.t h4|>.t h7|>.t hS2)⟩,fun h=>(by cases h)⟩
 have hk1:=c6
 refine Zk<|Zt<|Zs<|Sr<|W0 Y5<|Wl 1 Y6<|qar Z Z Z<|Nt<|?_
 refine qaa Z (fun c8=>?_) (fun c8=>?_)
 ·
  have hk5:=c8
  rw [qsU hk5] at hq
  refine Zs<|Sr<|Wb Y5<|Wl 2 Y6<|Ws Y4<|qar Z Z Z<|Nt<|?_
  refine qaa Z (fun c9=>?_) (fun c9=>?_)
  ·
   have hE9:m.inp=[]:=List.eq_nil_of_length_eq_zero O
   rw [show qjD { m with left:=m.left - 1 }=.ok 4294967295 { m with left:=m.left - 1 } from by simp only [qjD,hE9]] at hq
   refine Sr<|qac (qag 2 [_,_,_,_,_,_,_,_,_,_,_,_] Z Z Z Z Z) Z<|Wt 0 [_,_,_,_,_,_,_,_,_,_,_,_] Y9<|At Z Z<|Zo<|Zu<|Zu<|?_
   refine rR [_,_,_] _ (.agg (us:=[_,_,_,_,_,_,_,_,_,_,_,_]) 0 Z Z Z Z Z (.t1 Z)) Z (h1.t h2|>.t h3|>.t h4) fun _ hS2=>?_
   exact ⟨4294967295,(_,_,_),(_,_,_),_,_,_,false,_,_,R,rfl,rfl,fun _=>⟨_,_,hq,⟨rfl,⟨by decide,by decide⟩⟩,rfl,rfl,rfl,rfl,hM1.le (h1.t h2|>.t h3|>.t h4|>.t hS2)⟩,fun h=>(by cases h)⟩
  have h0n:0 < ni:=by omega
  obtain ⟨b,off,ch,hAi,hch,hcc⟩:=Bts.at_ hI h0n
  subst hAi
  obtain ⟨l,hl⟩:∃ l,m.inp=ch::l:=by
    cases h:m.inp with
    | nil=>rw [h] at hch;cases hch
    | cons y l=>rw [h] at hch;simp at hch;exact ⟨l,by rw [hch]⟩
  rw [hl] at hI
  rw [show qjD { m with left:=m.left - 1 }=.ok (ch.toNat:Int) { m with left:=m.left - 1,inp:=l } from by simp only [qjD,hl]] at hq
  refine Zk<|Zt<|Sr<|Wb Y5<|Wl 2 Y6<|qac (qas Z Z Z Z Z Z h0n) Z<|qac (qah Z Z Z (hcc.le (h1.t h2|>.t h3|>.t h4)) Z) Z<|At Z Z<|Sr<|Wb Y5<|Wl 2 Y6<|qac (qpI Z Z Z Z Z (show 1≤ni by omega)) Z<|Wb Y5<|Wt 2 [_,_,_,_,_,_,_,_,_,_,_,_] Y9<|Nt<|Sr<|qac (qag 2 [_,_,_,_,_,_,_,_,_,_,_,_] Z Z Z Z Z) Z<|Zqm Z Z ?_
  refine qac (qae (qdI Z Z Z Z Z) (congrArg (Value.int .u32) (show IntKind.u32.wrap (ch.toNat:Int)=(ch.toNat:Int) by rw [IntKind.wrap_u32];have:=ch.toNat_lt;omega))) Z<|Wt 0 [_,_,_,_,_,_,_,_,_,_,_,_] Y9<|At Z Z<|Zo<|Zu<|?_
  refine rR [_,_,_] _ (.agg (us:=[_,_,_,_,_,_,_,_,_,_,_,_]) 0 Z Z Z Z Z (.t1 Z)) Z (h1.t h2|>.t h3|>.t h4) fun _ hS2=>?_
  exact ⟨_,(_,_,_),(_,_,_),_,_,_,false,_,_,R,rfl,rfl,fun _=>⟨_,_,hq,⟨rfl,⟨by omega,by have:=ch.toNat_lt;omega⟩⟩,rfl,rfl,rfl,rfl,(hM1.rd hI.tail).le (h1.t h2|>.t h3|>.t h4|>.t hS2)⟩,fun h=>(by cases h)⟩
 have hk5:=c8
 refine Zk<|Zt<|Sr<|qac (qam [] [_,_] Z Z Z Z Z Z) Z<|qaj Z [_,_] Z Z ?_
 intro β10 s10 h10
 refine Wt 0 [_,_] Y9<|Nt<|Zs<|Sr<|W0 Y5<|Wl 2 Y6<|Jc Z Z Z (qcY D _ _ _ _ _) ?_
 rintro _ _ s11 h11 ⟨rfl,rfl⟩
 refine Nt<|?_
 refine qaa Z (fun c12=>?_) (fun c12=>?_)
 ·
  have hmn:=c12
  refine Zr<|W0 Y5<|qac (qag 3 [_,_] Z Z Z Z Z) Z<|Zqm Z Z<|Wb Y5<|Wl 2 Y6<|Jc Z Z Z (qfB D _ _ d p c.Ag _ c.ng c.cg c.nf c.cf (hC.gl.le (h1.t h2|>.t h3|>.t h4|>.t h10|>.t h11)) (hC.fn.le (h1.t h2|>.t h3|>.t h4|>.t h10|>.t h11)) fi f hf x.name) ?_
  rintro _ _ s13 h13 ⟨rfl,rfl⟩
  refine Wt 0 [_,_] Y9<|Nt<|Zs<|Sr<|W0 Y5<|Wl 2 Y6<|qar Z Z Z<|Nt<|?_
  refine qaa Z (fun c14=>?_) (fun c14=>?_)
  ·
   have hk2:=c14
   refine Zs<|Sr<|W0 Y5<|Wl 0 Y6<|qar Z Z Z<|Nt<|?_
   refine qaa Z (fun c15=>?_) (fun c15=>?_)
   ·
    obtain ⟨hns,k,g,hme,hgl,hp⟩:=(md2 hPK hxo hk2).resolve_left (fun h=>by have:=c15;rcases h.1 with h | h <;> omega)
    obtain ⟨b,cap,ys,i,e1,hkg,hbi,hnt,hu9,hbl,_⟩:=hM1.var hC.pu hp
    rw [qtA hk2,qqv hns hgl hp] at hq
    refine Zs<|qbJ qad 9 Z [1] (by intro x hx;exact qaY hx) ?_
    intro s16 h16
    refine za 0 Z (qag 2 [_,_,_,_,_,_,_,_,_,_,_,_] Z Z Z Z Z) Z<|za 1 Z (We Y4) Z<|za 2 Z (qae (Wd 2 Y5) (congrArg mkS e1)) Z<|za 3 Z (We Y4) Z<|za 4 Z (qae (Wd 0 Y5) (by rw [hme])) Z<|za 5 Z (qas Z Z Z Z Z Z hkg) Z<|za 6 Z (qdE (i+3) Z (at3 (hbi L)) Z Z hnt) Z<|qax 7 V<|Wu Z Tt 1 [_,_,_,_,_,_,_,_,_,_,_,_] Y9 (sM (qdC (sbE _)))<|za 8 Z (qaM Z) Z<|qal V<|Zt<|Zo<|Zu<|Zu<|?_
    refine rR [_,_,_,_] _ (.agg (us:=[_,_,_,_,_,_,_,_,_,_,_,_]) 1 Z Z Z Z Z (.t1 Z)) Z (h1.t h2|>.t h3|>.t h4|>.t h10|>.t h11|>.t h13|>.t h16) fun _ hS2=>?_
    exact ⟨_,(_,_,_),(_,_,_),_,_,_,false,_,_,R,rfl,rfl,fun _=>⟨_,_,hq,⟨rfl,hu9⟩,rfl,rfl,rfl,rfl,hM1.le (h1.t h2|>.t h3|>.t h4|>.t h10|>.t h11|>.t h13|>.t h16|>.t hS2)⟩,fun h=>(by cases h)⟩
   obtain ⟨hk12,j,hsl,hjl⟩:=(md2 hPK hxo hk2).resolve_right (fun ⟨_,k,g,h,_⟩=>c15 (by rw [h]))
   obtain ⟨b,cap,ys,i,e1,hbi,hnt,hu9,hbl,_⟩:=hM1.slt (k:=j) O
   rw [qtA hk2,qrN hsl] at hq
   refine Zk<|Zt<|Zs<|qbJ qad 11 Z [1] (by intro x hx;exact qaY hx) ?_
   intro s17 h17
   refine za 0 Z (qag 2 [_,_,_,_,_,_,_,_,_,_,_,_] Z Z Z Z Z) Z<|za 1 Z (qae (qan Z) e1) Z<|za 2 Z (qbp Z Z Z Z) Z<|za 3 Z (qag 2 [_,_] Z Z Z Z Z) Z<|za 4 Z (qan Z) Z<|za 5 Z (qag 0 [_,_] Z Z Z Z Z) Z<|qax 6 V<|Jb Z Tt Z Z Z (qiK D _ _ d p c.Ag _ c.ng c.cg c.nf c.cf (hC.gl.le (h1.t h2|>.t h3|>.t h4|>.t h10|>.t h11|>.t h13|>.t h17)) (hC.fn.le (h1.t h2|>.t h3|>.t h4|>.t h10|>.t h11|>.t h13|>.t h17)) fi f hf _ _ j (by rw [qhG hk12];exact hsl) O) ?_
   rintro _ _ s18 h18 ⟨rfl,rfl⟩
   refine ⟨fun _ _ h=>h,?_⟩
   refine za 7 Z (qas Z Z Z Z Z Z (show j < fl by omega)) Z<|za 8 Z (qdE (i+3) Z (at3 (hbi L)) Z Z hnt) Z<|qax 9 V<|Wu Z Tt 1 [_,_,_,_,_,_,_,_,_,_,_,_] Y9 (sM (qdC (sbE _)))<|za 10 Z (qaM Z) Z<|qal V<|Zt<|Zo<|Zu<|?_
   refine rR [_,_,_,_] _ (.agg (us:=[_,_,_,_,_,_,_,_,_,_,_,_]) 1 Z Z Z Z Z (.t1 Z)) Z (h1.t h2|>.t h3|>.t h4|>.t h10|>.t h11|>.t h13|>.t h17|>.t h18) fun _ hS2=>?_
   exact ⟨_,(_,_,_),(_,_,_),_,_,_,false,_,_,R,rfl,rfl,fun _=>⟨_,_,hq,⟨rfl,hu9⟩,rfl,rfl,rfl,rfl,hM1.le (h1.t h2|>.t h3|>.t h4|>.t h10|>.t h11|>.t h13|>.t h17|>.t h18|>.t hS2)⟩,fun h=>(by cases h)⟩
  have hk2:¬ x.kind=2:=by omega
  refine Zk<|Zt<|Sr<|W0 Y5<|Wl 2 Y6<|qac (qae (v':=.bool false) (qa9 Z Z) (bZ O)) Z<|Zqm Z Z<|Wf Y4<|Wf Y4<|Wf Y4<|ZqF Z Z Z<|At Z Z<|Sr<|Wb Y5<|Wl 2 Y6<|At Z Z<|Zs<|Sr<|Zqm Z Z<|Nt<|Zz Z<|Zk<|Zt<|Sr<|At Z Z<|Zs<|?_
  rcases (by omega:x.kind=3∨x.kind=4) with hk3 | hk4
  ·
   rw [quN hk3 (ks3 hk3)] at hq
   refine Zr<|qac (qag 3 [_,_,_,_,_,_,_,_,_,_,_,_] Z Z Z Z Z) Z<|Zqm Z Z<|Zqm Z Z<|Zqm Z Z<|Jc Z Z Z (AC.frR (fun L=>qbP p D n hE L _ c N fl d e fi f x.args A n1 c1 fv _ _ _ _ R (hC.le (h1.t h2|>.t h3|>.t h4|>.t h10|>.t h11|>.t h13)) hf hfl (hM1.le (h1.t h2|>.t h3|>.t h4|>.t h10|>.t h11|>.t h13)) (hX.le (h1.t h2|>.t h3|>.t h4|>.t h10|>.t h11|>.t h13)) hxo.args O (qaW hq hr)) [_,_,_,_] _) ?_
   rintro _ _ s19 h19 ⟨⟨Aw,nw,cw⟩,iv19,ov19,lf19,ca19,va19,dn19,so19,cd19,M19,rfl,rfl,ok19,fn19⟩
   simp only [cQ9,nQ9]
   refine Zqm Z Z<|Zqx Z Z Z<|Zqx Z Z Z<|Wt 3 [_,_,_,_,_,_,_,_,_,_,_,_] Y9<|At Z Z<|Zs<|Sr<|Wb Y5<|Wl 3 Y6<|Nt<|?_
   refine qcf Z (fun c20=>?_) (fun c20=>?_)
   ·
    obtain rfl:=c20
    have hF:=fn19 rfl
    refine Sr<|qac (qag 3 [_,_,_,_,_,_,_,_,_,_,_,_] Z Z Z Z Z) Z<|Wt 1 [_,_,_,_,_,_,_,_,_,_,_,_] Y9<|At Z Z<|Zo<|Zu<|?_
    refine rR [_,_,_,_] _ (.agg (us:=[_,_,_,_,_,_,_,_,_,_,_,_]) 1 Z Z Z Z Z (.t1 Z)) Z (h1.t h2|>.t h3|>.t h4|>.t h10|>.t h11|>.t h13|>.t h19) fun _ hS2=>?_
    exact ⟨0,(_,_,_),(_,_,_),_,_,_,true,_,_,M19,rfl,rfl,fun h=>(by cases h),fun _=>hF.and hq⟩
   obtain rfl:=c20
   obtain ⟨vs,m2,he2,hW2,rfl,rfl,rfl,rfl,hM2⟩:=ok19 rfl
   rw [he2] at hq
   simp only [ER.and] at hq
   have hvl:=qcg he2
   have hW2:Wds _ Aw nw cw vs:=hW2
   have hnw:=hW2.1
   dsimp only [mkS]
   obtain ⟨bw,ow,x0,hAw,hx0,hcw,hx0u⟩:=Wds.at_ hW2 (show 0 < nw by omega)
   subst hAw
   have e0:=qcU hx0
   rw [e0] at hq
   have hx00:=hx0u.1
   have hx01:=hx0u.2
   obtain ⟨k,g,hme,hgl,hp,g3⟩:=md3 hPK hxo hk3
   obtain ⟨ba,ca9,bA,iA,eav,hkg,hcA,hal2,hsz,huA,hbiA,_⟩:=hM2.ary (hC.le (h1.t h2|>.t h3|>.t h4|>.t h10|>.t h11|>.t h13|>.t h19)) hp g3
   rw [show qd1 p x.name m2=m2.arr.getD k [] from by rw [qd1,hgl,Int.toNat_natCast]] at hq
   refine Zk<|Zt<|Zs<|Sr<|W0 Y5<|Wl 2 Y6<|qac (qae (v':=.bool false) (qa9 Z Z) (bZ O)) Z<|Nt<|Zz Z<|Zk<|Zt<|Zs<|Sr<|W0 Y5<|Wl 2 Y6<|qac (qae (v':=.bool true) (qa9 Z Z) (bT hk3)) Z<|Nt<|Zy Z<|Zs<|Zs<|qay qad 13 Z _ (fun _ h=>h) ?_
   intro s21 h21
   refine za 0 Z (qan Z) Z<|za 1 Z (qas Z Z Z Z Z Z (show 0 < nw by omega)) Z<|za 2 Z (qah Z Z Z (hcw.le h21) Z) Z<|za 3 Z (qbl Z Z Z Z Z (qsx O O)) Z<|za 4 Z (We Y4) Z<|za 5 Z (qae (Wd 3 Y5) (congrArg mkS eav)) Z<|za 6 Z (We Y4) Z<|za 7 Z (qae (Wd 0 Y5) (by rw [hme])) Z<|za 8 Z (qas Z Z Z Z Z Z hkg) Z<|za 9 Z (qah Z Z Z (hcA.le h21) Z) Z<|za 10 Z (qbR Z Z Z) Z<|za 11 Z (qbl Z Z Z Z Z (qsx O O)) Z<|za 12 Z (qtl Z Z) Z<|qal V<|Zt ?_
   refine qaa Z (fun c22=>?_) (fun c22=>?_)
   ·
    rw [if_pos (by have:=c22;omega)] at hq
    refine Sr<|qac (qag 3 [_,_,_,_,_,_,_,_,_,_,_,_] Z Z Z Z Z) Z<|Jc Z Z Z (qb8 D _ _ _ _ _ _ _ _ _ _ _ _ _ _ _ _ _ _ _ _ _ _ _ _ _ _ _ _) ?_
    rintro _ _ s23 h23 ⟨rfl,rfl⟩
    refine Wt 1 [_,_,_,_,_,_,_,_,_,_,_,_] Y9<|At Z Z<|Zo<|Zu<|Zu<|?_
    refine rR [_,_,_,_] _ (.agg (us:=[_,_,_,_,_,_,_,_,_,_,_,_]) 1 Z Z Z Z Z (.t1 Z)) Z (h1.t h2|>.t h3|>.t h4|>.t h10|>.t h11|>.t h13|>.t h19|>.t h21|>.t h23) fun _ hS2=>?_
    exact ⟨0,(_,_,_),(_,_,_),_,_,_,true,_,_,M19,rfl,rfl,fun h=>(by cases h),fun _=>hM2.fin hq⟩
   have g9:=c22
   rw [if_neg O] at hq
   refine Zk<|Zt<|Zs<|qbJ qad 14 Z [1] (by intro x hx;exact qaY hx) ?_
   intro s24 h24
   refine za 0 Z (qag 2 [_,_,_,_,_,_,_,_,_,_,_,_] Z Z Z Z Z) Z<|za 1 Z (We Y4) Z<|za 2 Z (qae (Wd 2 Y5) (congrArg mkS eav)) Z<|za 3 Z (We Y4) Z<|za 4 Z (qae (Wd 0 Y5) (by rw [hme])) Z<|za 5 Z (qas Z Z Z Z Z Z hkg) Z<|za 6 Z (qah Z Z Z (hcA.le (h21.t h24)) Z) Z<|za 7 Z (qan Z) Z<|za 8 Z (qas Z Z Z Z Z Z (show 0 < nw by omega)) Z<|za 9 Z (qah Z Z Z (hcw.le (h21.t h24)) Z) Z<|za 10 Z (qdz Z Z Z Z Z Z hx00 (show x0 < ((g.num.toNat:Nat):Int) by omega)) Z ?_
   refine za 11 Z (qdE (iA+3) Z (at3 (hbiA L)) Z Z (qhk hx00 O)) Z<|qax 12 V<|Wu Z Tt 1 [_,_,_,_,_,_,_,_,_,_,_,_] Y9 (sM (qdC (sbE _)))<|za 13 Z (qaM Z) Z<|qal V<|Zt<|Zo<|Zu<|?_
   refine rR [_,_,_,_] _ (.agg (us:=[_,_,_,_,_,_,_,_,_,_,_,_]) 1 Z Z Z Z Z (.t1 Z)) Z (h1.t h2|>.t h3|>.t h4|>.t h10|>.t h11|>.t h13|>.t h19|>.t h21|>.t h24) fun _ hS2=>?_
   exact ⟨_,(_,_,_),(_,_,_),_,_,_,false,_,_,M19,rfl,rfl,fun _=>⟨_,_,hq,⟨rfl,huA _⟩,rfl,rfl,rfl,rfl,hM2.le (h21.t h24|>.t hS2)⟩,fun h=>(by cases h)⟩
  obtain ⟨k,fk,hme4,hgl4,hpk,hal4⟩:=md4 hPK hxo hk4
  rw [qkG hk4,hgl4,Int.toNat_natCast] at hq
  refine Zr<|qac (qag 3 [_,_,_,_,_,_,_,_,_,_,_,_] Z Z Z Z Z) Z<|Zqm Z Z<|Zqm Z Z<|Zqm Z Z<|Jc Z Z Z (AC.frR (fun L=>qbP p D n hE L _ c N fl d e fi f x.args A n1 c1 fv _ _ _ _ R (hC.le (h1.t h2|>.t h3|>.t h4|>.t h10|>.t h11|>.t h13)) hf hfl (hM1.le (h1.t h2|>.t h3|>.t h4|>.t h10|>.t h11|>.t h13)) (hX.le (h1.t h2|>.t h3|>.t h4|>.t h10|>.t h11|>.t h13)) hxo.args O (qaW hq hr)) [_,_,_,_] _) ?_
  rintro _ _ s25 h25 ⟨⟨Aw,nw,cw⟩,iv25,ov25,lf25,ca25,va25,dn25,so25,cd25,M25,rfl,rfl,ok25,fn25⟩
  simp only [cQ9,nQ9]
  refine Zqm Z Z<|Zqx Z Z Z<|Zqx Z Z Z<|Wt 3 [_,_,_,_,_,_,_,_,_,_,_,_] Y9<|At Z Z<|Zs<|Sr<|Wb Y5<|Wl 3 Y6<|Nt<|?_
  refine qcf Z (fun c26=>?_) (fun c26=>?_)
  ·
   obtain rfl:=c26
   have hF:=fn25 rfl
   refine Sr<|qac (qag 3 [_,_,_,_,_,_,_,_,_,_,_,_] Z Z Z Z Z) Z<|Wt 1 [_,_,_,_,_,_,_,_,_,_,_,_] Y9<|At Z Z<|Zo<|Zu<|?_
   refine rR [_,_,_,_] _ (.agg (us:=[_,_,_,_,_,_,_,_,_,_,_,_]) 1 Z Z Z Z Z (.t1 Z)) Z (h1.t h2|>.t h3|>.t h4|>.t h10|>.t h11|>.t h13|>.t h25) fun _ hS2=>?_
   exact ⟨0,(_,_,_),(_,_,_),_,_,_,true,_,_,M25,rfl,rfl,fun h=>(by cases h),fun _=>hF.and hq⟩
  obtain rfl:=c26
  obtain ⟨vs,m2,he2,hW2,rfl,rfl,rfl,rfl,hM2⟩:=ok25 rfl
  rw [he2] at hq
  simp only [ER.and] at hq
  have hvl:=qcg he2
  have hW2:Wds _ Aw nw cw vs:=hW2
  have hnw:=hW2.1
  dsimp only [mkS]
  refine Zk<|Zt<|Zs<|Sr<|W0 Y5<|Wl 2 Y6<|qac (qae (v':=.bool true) (qa9 Z Z) (bT hk4)) Z<|Nt<|Zy Z<|Sr<|qac (qag 3 [_,_,_,_,_,_,_,_,_,_,_,_] Z Z Z Z Z) Z<|Wb Y5<|qac (qae (Wd 0 Y5) (by rw [hme4])) Z<|Zqm Z Z<|Jc Z Z Z (AC.frR (fun L=>hK L _ c N fl d k fk vs _ _ _ fv m2 _ _ _ _ (hC.le (h1.t h2|>.t h3|>.t h4|>.t h10|>.t h11|>.t h13|>.t h25)) (hW2.le (Lr D)) hpk O (hM2.le (Lr D)) (hq▸hr)) [_,_,_,_] _) ?_
  rintro _ _ s27 h27 ⟨u27,iv27,ov27,lf27,ca27,va27,dn27,so27,cd27,M27,rfl,rfl,ok27,fn27⟩
  simp only [cQ9,nQ9]
  refine Zqx Z Z Z<|Zqx Z Z Z<|Wt 1 [_,_,_,_,_,_,_,_,_,_,_,_] Y9<|At Z Z<|Zo<|Zu<|?_
  refine rR [_,_,_,_] _ (.agg (us:=[_,_,_,_,_,_,_,_,_,_,_,_]) 1 Z Z Z Z Z (.t1 Z)) Z (h1.t h2|>.t h3|>.t h4|>.t h10|>.t h11|>.t h13|>.t h25|>.t h27) fun _ hS2=>?_
  exact ⟨u27,iv27,ov27,lf27,ca27,va27,dn27,so27,cd27,M27,rfl,rfl,fun h=>(by obtain ⟨a8,m8,q1,q2,q3,q4,q5,q6,q7⟩:=ok27 h;exact ⟨a8,m8,hq.trans q1,q2,q3,q4,q5,q6,q7.le ((Lr D).t hS2)⟩),fun h=>(by obtain ⟨m8,q1,q2⟩:=fn27 h;exact ⟨m8,hq.trans q1,q2⟩)⟩
 have hmn:=c12
 refine Zk<|Zt<|Zs<|Sr<|W0 Y5<|Wl 2 Y6<|qac (qae (v':=.bool false) (qa9 Z Z) (bZ O)) Z<|Nt<|Zz Z<|?_
 have hk2:¬ x.kind=2:=by omega
 refine Zk<|Zt<|Sr<|W0 Y5<|Wl 2 Y6<|qar Z Z Z<|Zqm Z Z<|?_
 refine qak (t:=84) Z (fun c28=>?_) (fun c28=>?_)
 ·
  refine Zg Z Z<|Wb Y5<|Zg Z Z<|Wl 2 Y6<|Zg Z Z<|qfa Z Z Z<|ZqT Z Z Z<|At Z Z<|Sr<|Wb Y5<|Wl 2 Y6<|At Z Z<|Zs<|Sr<|Zqm Z Z<|Nt<|?_
  refine qaa Z (fun c29=>?_) (fun c29=>?_)
  ·
   have hk7:x.kind=7:=by omega
   have hsh:=c29
   rw [qu7 hk7 (ks7 hk7).1 hsh (ks7 hk7).2.2] at hq
   refine Zr<|Wb Y5<|Wl 2 Y6<|qac (qji Z Z Z Z Z (show 1≤c1 by have:=(ks7 hk7).1;have:=hX.2.1;omega)) Z<|At Z Z<|Sr<|At Z Z<|Sr<|qac (qag 3 [_,_,_,_,_,_,_,_,_,_,_,_] Z Z Z Z Z) Z<|Zqm Z Z<|Zqm Z Z<|Zqm Z Z<|?_
   refine Jc Z Z Z (AC.frR (fun L=>qbP p D n hE L _ c N fl d e fi f (x.args.take 1) A 1 c1 fv _ _ _ _ R (hC.le (h1.t h2|>.t h3|>.t h4|>.t h10|>.t h11)) hf hfl (hM1.le (h1.t h2|>.t h3|>.t h4|>.t h10|>.t h11)) (show Exs e _ A 1 c1 (x.args.take 1) from Sl.take (hX.le (h1.t h2|>.t h3|>.t h4|>.t h10|>.t h11)) O) (fun y hy=>hxo.args y (List.mem_of_mem_take hy)) (by rw [List.length_take];omega) (qaW hq hr)) [_,_,_,_] _) ?_
   rintro _ _ s30 h30 ⟨⟨Aw,nw,cw⟩,iv30,ov30,lf30,ca30,va30,dn30,so30,cd30,M30,rfl,rfl,ok30,fn30⟩
   simp only [cQ9,nQ9]
   refine Zqm Z Z<|Zqx Z Z Z<|Zqx Z Z Z<|Wt 3 [_,_,_,_,_,_,_,_,_,_,_,_] Y9<|At Z Z<|Zs<|Sr<|Wb Y5<|Wl 3 Y6<|Nt<|?_
   refine qcf Z (fun c31=>?_) (fun c31=>?_)
   ·
    obtain rfl:=c31
    have hF:=fn30 rfl
    refine Sr<|qac (qag 3 [_,_,_,_,_,_,_,_,_,_,_,_] Z Z Z Z Z) Z<|Wt 1 [_,_,_,_,_,_,_,_,_,_,_,_] Y9<|At Z Z<|Zo<|Zu<|?_
    refine rR [_,_,_,_] _ (.agg (us:=[_,_,_,_,_,_,_,_,_,_,_,_]) 1 Z Z Z Z Z (.t1 Z)) Z (h1.t h2|>.t h3|>.t h4|>.t h10|>.t h11|>.t h30) fun _ hS2=>?_
    exact ⟨0,(_,_,_),(_,_,_),_,_,_,true,_,_,M30,rfl,rfl,fun h=>(by cases h),fun _=>hF.and hq⟩
   obtain rfl:=c31
   obtain ⟨vs,m2,he2,hW2,rfl,rfl,rfl,rfl,hM2⟩:=ok30 rfl
   rw [he2] at hq
   simp only [ER.and] at hq
   have hvl:=qcg he2
   have hW2:Wds _ Aw nw cw vs:=hW2
   have hnw:=hW2.1
   dsimp only [mkS]
   rw [List.length_take] at hvl
   obtain ⟨bw,ow,x0,hAw,hx0,hcw,hx0u⟩:=Wds.at_ hW2 (show 0 < nw by omega)
   subst hAw
   have e0:=qcU hx0
   rw [e0] at hq
   have hx00:=hx0u.1
   have hx01:=hx0u.2
   refine Zk<|Zt<|Zs<|Sr<|W0 Y5<|Wl 2 Y6<|qac (qae (v':=.bool false) (qa9 Z Z) (bZ O)) Z<|Nt<|Zz Z<|Zk<|Zt<|Zs<|Sr<|W0 Y5<|Wl 2 Y6<|qac (qae (v':=.bool false) (qa9 Z Z) (bZ O)) Z<|Nt<|Zz Z<|Zk<|Zt<|Zs<|Sr<|qac (qae (v':=.bool true) (qan Z) (bT hsh)) Z<|Nt<|Zy Z<|Zs<|Zs<|qay qad 8 Z _ (fun _ h=>h) ?_
   intro s32 h32
   refine za 0 Z (qan Z) Z<|za 1 Z (qas Z Z Z Z Z Z (show 0 < nw by omega)) Z<|za 2 Z (qah Z Z Z (hcw.le h32) Z) Z<|za 3 Z (qec Z Z) Z<|za 4 Z (We Y4) Z<|za 5 Z (Wd 2 Y5) Z<|za 6 Z (qa9 Z Z) Z<|za 7 Z (qtc Z Z Z Z) Z<|qal V<|Zt ?_
   refine qaa Z (fun c33=>?_) (fun c33=>?_)
   ·
    rw [if_pos c33] at hq
    refine Zs<|qbJ qad 7 Z [1] (by intro x hx;exact qaY hx) ?_
    intro s34 h34
    refine za 0 Z (qag 2 [_,_,_,_,_,_,_,_,_,_,_,_] Z Z Z Z Z) Z<|za 1 Z (We Y4) Z<|za 2 Z (Wd 1 Y5) Z<|za 3 Z (qa9 Z Z) Z<|qax 4 V<|Jb Z Tt Z Z Z (qb4 D _ _ _) ?_
    rintro _ _ s35 h35 ⟨rfl,rfl⟩
    refine ⟨fun _ _ h=>h,?_⟩
    refine qax 5 V<|Wu Z Tt 1 [_,_,_,_,_,_,_,_,_,_,_,_] Y9 (sM (qdC (sbE _)))<|za 6 Z (qaM Z) Z<|qal V<|Zt<|Zo<|Zu<|Zu<|?_
    refine rR [_,_,_,_] _ (.agg (us:=[_,_,_,_,_,_,_,_,_,_,_,_]) 1 Z Z Z Z Z (.t1 Z)) Z (h1.t h2|>.t h3|>.t h4|>.t h10|>.t h11|>.t h30|>.t h32|>.t h34|>.t h35) fun _ hS2=>?_
    exact ⟨_,(_,_,_),(_,_,_),_,_,_,false,_,_,M30,rfl,rfl,fun _=>⟨_,_,hq,⟨rfl,t01 _⟩,rfl,rfl,rfl,rfl,hM2.le (h32.t h34|>.t h35|>.t hS2)⟩,fun h=>(by cases h)⟩
   rw [if_neg c33] at hq
   obtain ⟨e9,b9,o9,y,A9,n9,c9,he9,hAe,hy,hcE,hyX,hyu,_⟩:=Exs.at_ (k:=1) (hX.le (h1.t h2|>.t h3|>.t h4|>.t h10|>.t h11|>.t h30|>.t h32)) (show 1 < n1 by have:=(ks7 hk7).1;omega)
   subst hAe
   have h1n:1 < n1:=by have:=(ks7 hk7).1;omega
   have hye:qbA x.args 1=y:=by rw [qbA,List.getD_eq_getElem?_getD,hy];rfl
   rw [hye] at hq
   refine Zk<|Zt<|Sr<|At Z Z<|Zs<|qa2 qad 13 Z 3 ?_
   intro s36 h36
   refine za 1 Z (qan Z) Z<|za 2 Z (qan Z) Z<|za 3 Z (We Y4) Z<|za 4 Z (Wd 2 Y5) Z<|za 5 Z (qap Z Z Z Z Z Z h1n) Z<|za 6 Z (qau Z Z Z (hcE.le h36) Z) Z<|qax 0 V<|qe3 Z Tt (qag 3 [_,_,_,_,_,_,_,_,_,_,_,_] Z Z Z Z Z) Z<|qax 7 V<|Jb Z Tt Z Z Z (AC.frR (fun L=>hE L _ c N fl d e9 fi f y A9 n9 c9 fv m2 _ _ _ _ (hC.le (h1.t h2|>.t h3|>.t h4|>.t h10|>.t h11|>.t h30|>.t h32|>.t h36)) hf hfl (hyX.le h36) hyu (hxo.args y (List.mem_of_getElem? hy)) (hM2.le (h32.t h36)) (qaW hq hr)) [_,_,_,_] _) ?_
   rintro _ _ s37 h37 ⟨u37,iv37,ov37,lf37,ca37,va37,dn37,so37,cd37,M37,rfl,rfl,ok37,fn37⟩
   refine ⟨(fun x hx _=>qkt hx),?_⟩
   simp only [cQ9,nQ9]
   refine za 8 Z (qan Z) Z<|za 9 Z (qaX Z Z) Z<|za 10 Z (qaX Z Z) Z<|qax 11 V<|Wu Z Tt 3 [_,_,_,_,_,_,_,_,_,_,_,_] Y9 (sM (qdC (sb0 _)))<|za 12 Z (qaM Z) Z<|qal V<|Zt<|Zs<|qbJ qad 6 Z [1] (by intro x hx;exact qaY hx) ?_
   intro s38 h38
   refine za 0 Z (qag 2 [_,_,_,_,_,_,_,_,_,_,_,_] Z Z Z Z Z) Z<|za 1 Z (qan Z) Z<|za 2 Z (qec Z Z) Z<|qax 3 V<|Jb Z Tt Z Z Z (qb4 D _ _ _) ?_
   rintro _ _ s39 h39 ⟨rfl,rfl⟩
   refine ⟨fun _ _ h=>h,?_⟩
   refine qax 4 V<|Wu Z Tt 1 [_,_,_,_,_,_,_,_,_,_,_,_] Y9 (sM (qdC (sbE _)))<|za 5 Z (qaM Z) Z<|qal V<|Zt<|Zo<|Zu<|?_
   refine rR [_,_,_,_] _ (.agg (us:=[_,_,_,_,_,_,_,_,_,_,_,_]) 1 Z Z Z Z Z (.t1 Z)) Z (h1.t h2|>.t h3|>.t h4|>.t h10|>.t h11|>.t h30|>.t h32|>.t h36|>.t h37|>.t h38|>.t h39) fun _ hS2=>?_
   exact ⟨_,iv37,ov37,lf37,ca37,va37,dn37,so37,cd37,M37,rfl,rfl,fun h=>(by obtain ⟨a8,m8,q1,⟨q2,_⟩,q3,q4,q5,q6,q7⟩:=ok37 h;exact ⟨_,m8,by rw [hq,q1] <;> rfl,⟨by rw [q2],t01 _⟩,q3,q4,q5,q6,q7.le (h38.t h39|>.t hS2)⟩),fun h=>(fn37 h).and hq⟩
  have hk7:x.kind=7:=by omega
  rw [qsW (.inr ⟨hk7,(ks7 hk7).1,by have:=c29;omega⟩)] at hq
  refine Zk<|Zt<|Sr<|At Z Z<|Sr<|qac (qag 3 [_,_,_,_,_,_,_,_,_,_,_,_] Z Z Z Z Z) Z<|Zqm Z Z<|Zqm Z Z<|Zqm Z Z<|Jc Z Z Z (AC.frR (fun L=>qbP p D n hE L _ c N fl d e fi f x.args A n1 c1 fv _ _ _ _ R (hC.le (h1.t h2|>.t h3|>.t h4|>.t h10|>.t h11)) hf hfl (hM1.le (h1.t h2|>.t h3|>.t h4|>.t h10|>.t h11)) (hX.le (h1.t h2|>.t h3|>.t h4|>.t h10|>.t h11)) hxo.args O (qaW hq hr)) [_,_,_,_] _) ?_
  rintro _ _ s40 h40 ⟨⟨Aw,nw,cw⟩,iv40,ov40,lf40,ca40,va40,dn40,so40,cd40,M40,rfl,rfl,ok40,fn40⟩
  simp only [cQ9,nQ9]
  refine Zqm Z Z<|Zqx Z Z Z<|Zqx Z Z Z<|Wt 3 [_,_,_,_,_,_,_,_,_,_,_,_] Y9<|At Z Z<|Zs<|Sr<|Wb Y5<|Wl 3 Y6<|Nt<|?_
  refine qcf Z (fun c41=>?_) (fun c41=>?_)
  ·
   obtain rfl:=c41
   have hF:=fn40 rfl
   refine Sr<|qac (qag 3 [_,_,_,_,_,_,_,_,_,_,_,_] Z Z Z Z Z) Z<|Wt 1 [_,_,_,_,_,_,_,_,_,_,_,_] Y9<|At Z Z<|Zo<|Zu<|?_
   refine rR [_,_,_,_] _ (.agg (us:=[_,_,_,_,_,_,_,_,_,_,_,_]) 1 Z Z Z Z Z (.t1 Z)) Z (h1.t h2|>.t h3|>.t h4|>.t h10|>.t h11|>.t h40) fun _ hS2=>?_
   exact ⟨0,(_,_,_),(_,_,_),_,_,_,true,_,_,M40,rfl,rfl,fun h=>(by cases h),fun _=>hF.and hq⟩
  obtain rfl:=c41
  obtain ⟨vs,m2,he2,hW2,rfl,rfl,rfl,rfl,hM2⟩:=ok40 rfl
  rw [he2] at hq
  simp only [ER.and] at hq
  have hvl:=qcg he2
  have hW2:Wds _ Aw nw cw vs:=hW2
  have hnw:=hW2.1
  dsimp only [mkS]
  obtain ⟨bw,ow,x0,hAw,hx0,hcw,hx0u⟩:=Wds.at_ hW2 (show 0 < nw by omega)
  subst hAw
  have e0:=qcU hx0
  rw [e0] at hq
  have hx00:=hx0u.1
  have hx01:=hx0u.2
  refine Zk<|Zt<|Zs<|Sr<|W0 Y5<|Wl 2 Y6<|qac (qae (v':=.bool false) (qa9 Z Z) (bZ O)) Z<|Nt<|Zz Z<|Zk<|Zt<|Zs<|Sr<|W0 Y5<|Wl 2 Y6<|qac (qae (v':=.bool false) (qa9 Z Z) (bZ O)) Z<|Nt<|Zz Z<|Zk<|Zt<|Zs<|Sr<|qac (qae (v':=.bool false) (qan Z) (bZ O)) Z<|Nt<|Zz Z<|Zk<|Zt<|Sr<|At Z Z<|Zs<|Sr<|Zqm Z Z<|Ws Y4<|qar Z Z Z<|Nt<|?_
  refine qaa Z (fun c42=>?_) (fun c42=>?_)
  ·
   have g7:nw=2:=by have:=c42;omega
   obtain ⟨b2w,o2w,y1,hAw1,hy1,hcw1,hy1u⟩:=Wds.at_ hW2 (show 1 < nw by omega)
   simp only [Option.some.injEq,Addr.mk.injEq,and_true] at hAw1
   obtain ⟨hA1,hA2⟩:=hAw1
   subst hA1
   subst hA2
   rw [qcU hy1] at hq
   have hop:1≤x.op∧x.op≤21:=by rcases (by omega:x.kind=6∨x.kind=7) with h | h;have:=ks6 h;omega;have:=ks7 h;omega
   refine Zr<|Zqm Z Z<|qac (qas Z Z Z Z Z Z (show 1 < nw by omega)) Z<|qac (qah Z Z Z (hcw1.le (Lr D)) Z) Z<|At Z Z<|Zs<|qay qad 12 Z _ (fun _ h=>h) ?_
   intro s43 h43
   refine za 0 Z (We Y4) Z<|za 1 Z (Wd 2 Y5) Z<|za 2 Z (qan Z) Z<|za 3 Z (qas Z Z Z Z Z Z (show 0 < nw by omega)) Z<|za 4 Z (qah Z Z Z (hcw.le h43) Z) Z<|za 5 Z (qan Z) Z<|qax 6 V<|Jb Z Tt Z Z Z (qfk D _ _ x.op x0 y1 hx0u hy1u hop) ?_
   rintro _ _ s44 h44 ⟨rfl,rfl⟩
   refine ⟨fun _ _ h=>h,?_⟩
   refine za 7 Z (qan Z) Z<|za 8 Z (qaX Z Z) Z<|za 9 Z (qaX Z Z) Z<|za 10 Z (qaM Z) Z<|za 11 Z (qaM Z) Z<|qal V<|Zt<|Zs<|Sr<|Zqm Z Z<|qbV Z Z<|Nt<|?_
   refine qaP Z (fun c45=>?_) (fun c45=>?_)
   ·
    rw [if_neg c45] at hq
    refine Sr<|qac (qag 3 [_,_,_,_,_,_,_,_,_,_,_,_] Z Z Z Z Z) Z<|Jc Z Z Z (qb8 D _ _ _ _ _ _ _ _ _ _ _ _ _ _ _ _ _ _ _ _ _ _ _ _ _ _ _ _) ?_
    rintro _ _ s46 h46 ⟨rfl,rfl⟩
    refine Wt 1 [_,_,_,_,_,_,_,_,_,_,_,_] Y9<|At Z Z<|Zo<|Zu<|?_
    refine rR [_,_,_,_] _ (.agg (us:=[_,_,_,_,_,_,_,_,_,_,_,_]) 1 Z Z Z Z Z (.t1 Z)) Z (h1.t h2|>.t h3|>.t h4|>.t h10|>.t h11|>.t h40|>.t h43|>.t h44|>.t h46) fun _ hS2=>?_
    exact ⟨0,(_,_,_),(_,_,_),_,_,_,true,_,_,M40,rfl,rfl,fun h=>(by cases h),fun _=>hM2.fin hq⟩
   have g9:=c45
   rw [if_pos g9] at hq
   refine Zk<|Zt<|Sr<|qac (qag 3 [_,_,_,_,_,_,_,_,_,_,_,_] Z Z Z Z Z) Z<|Zqm Z Z<|Wt 1 [_,_,_,_,_,_,_,_,_,_,_,_] Y9<|At Z Z<|Zo<|?_
   refine rR [_,_,_,_] _ (.agg (us:=[_,_,_,_,_,_,_,_,_,_,_,_]) 1 Z Z Z Z Z (.t1 Z)) Z (h1.t h2|>.t h3|>.t h4|>.t h10|>.t h11|>.t h40|>.t h43|>.t h44) fun _ hS2=>?_
   exact ⟨_,(_,_,_),(_,_,_),_,_,_,false,_,_,M40,rfl,rfl,fun _=>⟨_,_,hq,⟨if_pos g9,qf8 hx0u hy1u⟩,rfl,rfl,rfl,rfl,hM2.le (h43.t h44|>.t hS2)⟩,fun h=>(by cases h)⟩
  rw [show vs.getD 1 0=0 from by rw [List.getD_eq_getElem?_getD,List.getElem?_eq_none (by have:=c42;rcases (by omega:x.kind=6∨x.kind=7) with h | h;have:=(ks6 h).1;omega;have:=(ks7 h).1;omega)];rfl] at hq
  have hop:1≤x.op∧x.op≤21:=by rcases (by omega:x.kind=6∨x.kind=7) with h | h;have:=ks6 h;omega;have:=ks7 h;omega
  refine Zk<|Zt<|Zs<|qay qad 12 Z _ (fun _ h=>h) ?_
  intro s47 h47
  refine za 0 Z (We Y4) Z<|za 1 Z (Wd 2 Y5) Z<|za 2 Z (qan Z) Z<|za 3 Z (qas Z Z Z Z Z Z (show 0 < nw by omega)) Z<|za 4 Z (qah Z Z Z (hcw.le h47) Z) Z<|za 5 Z (qan Z) Z<|qax 6 V<|Jb Z Tt Z Z Z (qfk D _ _ x.op x0 0 hx0u ⟨by decide,by decide⟩ hop) ?_
  rintro _ _ s48 h48 ⟨rfl,rfl⟩
  refine ⟨fun _ _ h=>h,?_⟩
  refine za 7 Z (qan Z) Z<|za 8 Z (qaX Z Z) Z<|za 9 Z (qaX Z Z) Z<|za 10 Z (qaM Z) Z<|za 11 Z (qaM Z) Z<|qal V<|Zt<|Zs<|Sr<|Zqm Z Z<|qbV Z Z<|Nt<|?_
  refine qaP Z (fun c49=>?_) (fun c49=>?_)
  ·
   rw [if_neg c49] at hq
   refine Sr<|qac (qag 3 [_,_,_,_,_,_,_,_,_,_,_,_] Z Z Z Z Z) Z<|Jc Z Z Z (qb8 D _ _ _ _ _ _ _ _ _ _ _ _ _ _ _ _ _ _ _ _ _ _ _ _ _ _ _ _) ?_
   rintro _ _ s50 h50 ⟨rfl,rfl⟩
   refine Wt 1 [_,_,_,_,_,_,_,_,_,_,_,_] Y9<|At Z Z<|Zo<|Zu<|?_
   refine rR [_,_,_,_] _ (.agg (us:=[_,_,_,_,_,_,_,_,_,_,_,_]) 1 Z Z Z Z Z (.t1 Z)) Z (h1.t h2|>.t h3|>.t h4|>.t h10|>.t h11|>.t h40|>.t h47|>.t h48|>.t h50) fun _ hS2=>?_
   exact ⟨0,(_,_,_),(_,_,_),_,_,_,true,_,_,M40,rfl,rfl,fun h=>(by cases h),fun _=>hM2.fin hq⟩
  have g9:=c49
  rw [if_pos g9] at hq
  refine Zk<|Zt<|Sr<|qac (qag 3 [_,_,_,_,_,_,_,_,_,_,_,_] Z Z Z Z Z) Z<|Zqm Z Z<|Wt 1 [_,_,_,_,_,_,_,_,_,_,_,_] Y9<|At Z Z<|Zo<|?_
  refine rR [_,_,_,_] _ (.agg (us:=[_,_,_,_,_,_,_,_,_,_,_,_]) 1 Z Z Z Z Z (.t1 Z)) Z (h1.t h2|>.t h3|>.t h4|>.t h10|>.t h11|>.t h40|>.t h47|>.t h48) fun _ hS2=>?_
  exact ⟨_,(_,_,_),(_,_,_),_,_,_,false,_,_,M40,rfl,rfl,fun _=>⟨_,_,hq,⟨if_pos g9,qf8 hx0u ⟨by decide,by decide⟩⟩,rfl,rfl,rfl,rfl,hM2.le (h47.t h48|>.t hS2)⟩,fun h=>(by cases h)⟩
 refine Wf Y4<|Wf Y4<|Wf Y4<|ZqF Z Z Z<|At Z Z<|Sr<|Wb Y5<|Wl 2 Y6<|At Z Z<|Zs<|Sr<|Zqm Z Z<|Nt<|Zz Z<|?_
 have hk6:x.kind=6:=by omega
 rw [qsW (.inl ⟨hk6,ks6 hk6⟩)] at hq
 refine Zk<|Zt<|Sr<|At Z Z<|Sr<|qac (qag 3 [_,_,_,_,_,_,_,_,_,_,_,_] Z Z Z Z Z) Z<|Zqm Z Z<|Zqm Z Z<|Zqm Z Z<|Jc Z Z Z (AC.frR (fun L=>qbP p D n hE L _ c N fl d e fi f x.args A n1 c1 fv _ _ _ _ R (hC.le (h1.t h2|>.t h3|>.t h4|>.t h10|>.t h11)) hf hfl (hM1.le (h1.t h2|>.t h3|>.t h4|>.t h10|>.t h11)) (hX.le (h1.t h2|>.t h3|>.t h4|>.t h10|>.t h11)) hxo.args O (qaW hq hr)) [_,_,_,_] _) ?_
 rintro _ _ s51 h51 ⟨⟨Aw,nw,cw⟩,iv51,ov51,lf51,ca51,va51,dn51,so51,cd51,M51,rfl,rfl,ok51,fn51⟩
 simp only [cQ9,nQ9]
 refine Zqm Z Z<|Zqx Z Z Z<|Zqx Z Z Z<|Wt 3 [_,_,_,_,_,_,_,_,_,_,_,_] Y9<|At Z Z<|Zs<|Sr<|Wb Y5<|Wl 3 Y6<|Nt<|?_
 refine qcf Z (fun c52=>?_) (fun c52=>?_)
 ·
  obtain rfl:=c52
  have hF:=fn51 rfl
  refine Sr<|qac (qag 3 [_,_,_,_,_,_,_,_,_,_,_,_] Z Z Z Z Z) Z<|Wt 1 [_,_,_,_,_,_,_,_,_,_,_,_] Y9<|At Z Z<|Zo<|Zu<|?_
  refine rR [_,_,_,_] _ (.agg (us:=[_,_,_,_,_,_,_,_,_,_,_,_]) 1 Z Z Z Z Z (.t1 Z)) Z (h1.t h2|>.t h3|>.t h4|>.t h10|>.t h11|>.t h51) fun _ hS2=>?_
  exact ⟨0,(_,_,_),(_,_,_),_,_,_,true,_,_,M51,rfl,rfl,fun h=>(by cases h),fun _=>hF.and hq⟩
 obtain rfl:=c52
 obtain ⟨vs,m2,he2,hW2,rfl,rfl,rfl,rfl,hM2⟩:=ok51 rfl
 rw [he2] at hq
 simp only [ER.and] at hq
 have hvl:=qcg he2
 have hW2:Wds _ Aw nw cw vs:=hW2
 have hnw:=hW2.1
 dsimp only [mkS]
 obtain ⟨bw,ow,x0,hAw,hx0,hcw,hx0u⟩:=Wds.at_ hW2 (show 0 < nw by omega)
 subst hAw
 have e0:=qcU hx0
 rw [e0] at hq
 have hx00:=hx0u.1
 have hx01:=hx0u.2
 refine Zk<|Zt<|Zs<|Sr<|W0 Y5<|Wl 2 Y6<|qac (qae (v':=.bool false) (qa9 Z Z) (bZ O)) Z<|Nt<|Zz Z<|Zk<|Zt<|Zs<|Sr<|W0 Y5<|Wl 2 Y6<|qac (qae (v':=.bool false) (qa9 Z Z) (bZ O)) Z<|Nt<|Zz Z<|Zk<|Zt<|Zs<|Sr<|Zqm Z Z<|Nt<|Zz Z<|Zk<|Zt<|Sr<|At Z Z<|Zs<|Sr<|Zqm Z Z<|Ws Y4<|qar Z Z Z<|Nt<|?_
 refine qaa Z (fun c53=>?_) (fun c53=>?_)
 ·
  have g7:nw=2:=by have:=c53;omega
  obtain ⟨b2w,o2w,y1,hAw1,hy1,hcw1,hy1u⟩:=Wds.at_ hW2 (show 1 < nw by omega)
  simp only [Option.some.injEq,Addr.mk.injEq,and_true] at hAw1
  obtain ⟨hA1,hA2⟩:=hAw1
  subst hA1
  subst hA2
  rw [qcU hy1] at hq
  have hop:1≤x.op∧x.op≤21:=by rcases (by omega:x.kind=6∨x.kind=7) with h | h;have:=ks6 h;omega;have:=ks7 h;omega
  refine Zr<|Zqm Z Z<|qac (qas Z Z Z Z Z Z (show 1 < nw by omega)) Z<|qac (qah Z Z Z (hcw1.le (Lr D)) Z) Z<|At Z Z<|Zs<|qay qad 12 Z _ (fun _ h=>h) ?_
  intro s54 h54
  refine za 0 Z (We Y4) Z<|za 1 Z (Wd 2 Y5) Z<|za 2 Z (qan Z) Z<|za 3 Z (qas Z Z Z Z Z Z (show 0 < nw by omega)) Z<|za 4 Z (qah Z Z Z (hcw.le h54) Z) Z<|za 5 Z (qan Z) Z<|qax 6 V<|Jb Z Tt Z Z Z (qfk D _ _ x.op x0 y1 hx0u hy1u hop) ?_
  rintro _ _ s55 h55 ⟨rfl,rfl⟩
  refine ⟨fun _ _ h=>h,?_⟩
  refine za 7 Z (qan Z) Z<|za 8 Z (qaX Z Z) Z<|za 9 Z (qaX Z Z) Z<|za 10 Z (qaM Z) Z<|za 11 Z (qaM Z) Z<|qal V<|Zt<|Zs<|Sr<|Zqm Z Z<|qbV Z Z<|Nt<|?_
  refine qaP Z (fun c56=>?_) (fun c56=>?_)
  ·
   rw [if_neg c56] at hq
   refine Sr<|qac (qag 3 [_,_,_,_,_,_,_,_,_,_,_,_] Z Z Z Z Z) Z<|Jc Z Z Z (qb8 D _ _ _ _ _ _ _ _ _ _ _ _ _ _ _ _ _ _ _ _ _ _ _ _ _ _ _ _) ?_
   rintro _ _ s57 h57 ⟨rfl,rfl⟩
   refine Wt 1 [_,_,_,_,_,_,_,_,_,_,_,_] Y9<|At Z Z<|Zo<|Zu<|?_
   refine rR [_,_,_,_] _ (.agg (us:=[_,_,_,_,_,_,_,_,_,_,_,_]) 1 Z Z Z Z Z (.t1 Z)) Z (h1.t h2|>.t h3|>.t h4|>.t h10|>.t h11|>.t h51|>.t h54|>.t h55|>.t h57) fun _ hS2=>?_
   exact ⟨0,(_,_,_),(_,_,_),_,_,_,true,_,_,M51,rfl,rfl,fun h=>(by cases h),fun _=>hM2.fin hq⟩
  have g9:=c56
  rw [if_pos g9] at hq
  refine Zk<|Zt<|Sr<|qac (qag 3 [_,_,_,_,_,_,_,_,_,_,_,_] Z Z Z Z Z) Z<|Zqm Z Z<|Wt 1 [_,_,_,_,_,_,_,_,_,_,_,_] Y9<|At Z Z<|Zo<|?_
  refine rR [_,_,_,_] _ (.agg (us:=[_,_,_,_,_,_,_,_,_,_,_,_]) 1 Z Z Z Z Z (.t1 Z)) Z (h1.t h2|>.t h3|>.t h4|>.t h10|>.t h11|>.t h51|>.t h54|>.t h55) fun _ hS2=>?_
  exact ⟨_,(_,_,_),(_,_,_),_,_,_,false,_,_,M51,rfl,rfl,fun _=>⟨_,_,hq,⟨if_pos g9,qf8 hx0u hy1u⟩,rfl,rfl,rfl,rfl,hM2.le (h54.t h55|>.t hS2)⟩,fun h=>(by cases h)⟩
 rw [show vs.getD 1 0=0 from by rw [List.getD_eq_getElem?_getD,List.getElem?_eq_none (by have:=c53;rcases (by omega:x.kind=6∨x.kind=7) with h | h;have:=(ks6 h).1;omega;have:=(ks7 h).1;omega)];rfl] at hq
 have hop:1≤x.op∧x.op≤21:=by rcases (by omega:x.kind=6∨x.kind=7) with h | h;have:=ks6 h;omega;have:=ks7 h;omega
 refine Zk<|Zt<|Zs<|qay qad 12 Z _ (fun _ h=>h) ?_
 intro s58 h58
 refine za 0 Z (We Y4) Z<|za 1 Z (Wd 2 Y5) Z<|za 2 Z (qan Z) Z<|za 3 Z (qas Z Z Z Z Z Z (show 0 < nw by omega)) Z<|za 4 Z (qah Z Z Z (hcw.le h58) Z) Z<|za 5 Z (qan Z) Z<|qax 6 V<|Jb Z Tt Z Z Z (qfk D _ _ x.op x0 0 hx0u ⟨by decide,by decide⟩ hop) ?_
 rintro _ _ s59 h59 ⟨rfl,rfl⟩
 refine ⟨fun _ _ h=>h,?_⟩
 refine za 7 Z (qan Z) Z<|za 8 Z (qaX Z Z) Z<|za 9 Z (qaX Z Z) Z<|za 10 Z (qaM Z) Z<|za 11 Z (qaM Z) Z<|qal V<|Zt<|Zs<|Sr<|Zqm Z Z<|qbV Z Z<|Nt<|?_
 refine qaP Z (fun c60=>?_) (fun c60=>?_)
 ·
  rw [if_neg c60] at hq
  refine Sr<|qac (qag 3 [_,_,_,_,_,_,_,_,_,_,_,_] Z Z Z Z Z) Z<|Jc Z Z Z (qb8 D _ _ _ _ _ _ _ _ _ _ _ _ _ _ _ _ _ _ _ _ _ _ _ _ _ _ _ _) ?_
  rintro _ _ s61 h61 ⟨rfl,rfl⟩
  refine Wt 1 [_,_,_,_,_,_,_,_,_,_,_,_] Y9<|At Z Z<|Zo<|Zu<|?_
  refine rR [_,_,_,_] _ (.agg (us:=[_,_,_,_,_,_,_,_,_,_,_,_]) 1 Z Z Z Z Z (.t1 Z)) Z (h1.t h2|>.t h3|>.t h4|>.t h10|>.t h11|>.t h51|>.t h58|>.t h59|>.t h61) fun _ hS2=>?_
  exact ⟨0,(_,_,_),(_,_,_),_,_,_,true,_,_,M51,rfl,rfl,fun h=>(by cases h),fun _=>hM2.fin hq⟩
 have g9:=c60
 rw [if_pos g9] at hq
 refine Zk<|Zt<|Sr<|qac (qag 3 [_,_,_,_,_,_,_,_,_,_,_,_] Z Z Z Z Z) Z<|Zqm Z Z<|Wt 1 [_,_,_,_,_,_,_,_,_,_,_,_] Y9<|At Z Z<|Zo<|?_
 refine rR [_,_,_,_] _ (.agg (us:=[_,_,_,_,_,_,_,_,_,_,_,_]) 1 Z Z Z Z Z (.t1 Z)) Z (h1.t h2|>.t h3|>.t h4|>.t h10|>.t h11|>.t h51|>.t h58|>.t h59) fun _ hS2=>?_
 exact ⟨_,(_,_,_),(_,_,_),_,_,_,false,_,_,M51,rfl,rfl,fun _=>⟨_,_,hq,⟨if_pos g9,qf8 hx0u ⟨by decide,by decide⟩⟩,rfl,rfl,rfl,rfl,hM2.le (h58.t h59|>.t hS2)⟩,fun h=>(by cases h)⟩
def SLr(p:Prg)(D n:Nat):Prop:=∀ (L:Hl) (s:World) (c:DN) (N fl d e fi:Nat) (f:Fnc) (x:Stm) (A1:Option Addr) (n1 c1:Nat) (A2:Option Addr) (n2 c2:Nat) (A3:Option Addr) (n3 c3:Nat) (fv:Value) (m:MS) (iv ov:Slc) (va:Int) (R:Hl),CR p d c s→p.funcs[fi]?=some f→fl=f.params.length+f.locals.length→Exs e s A1 n1 c1 x.exprs→Stms e s A2 n2 c2 x.body→Stms e s A3 n3 c3 x.els→StOK p f x→MR p c N fl fv m iv ov R s→x.kind≠4→sX p (sem p OPp n) f x m≠.out→AC prog D 106 [.agg #[.slice c.Ag c.ng c.cg,.slice c.Af c.nf c.cf,.slice c.vv.1 c.vv.2.1 c.vv.2.2,.slice c.av.1 c.av.2.1 c.av.2.2,.slice iv.1 iv.2.1 iv.2.2,.slice ov.1 ov.2.1 ov.2.2,.int .i64 (m.left:Int),.int .i64 (m.calls:Int),.int .u32 va,.bool false,.int .i64 0,.int .u32 0],.int .i64 (fi:Int),fv,.agg #[.int .i64 x.kind,St x.name,.slice A1 n1 c1,.slice A2 n2 c2,.slice A3 n3 c3]] (R++L) s (okR p c N fl fv (sX p (sem p OPp n) f x m) (Value.int .i64) WS [] L)
def WLr(p:Prg)(D n:Nat):Prop:=∀ (L:Hl) (s:World) (c:DN) (N fl d e fi:Nat) (f:Fnc) (x:Stm) (A1:Option Addr) (n1 c1:Nat) (A2:Option Addr) (n2 c2:Nat) (A3:Option Addr) (n3 c3:Nat) (fv:Value) (m:MS) (iv ov:Slc) (va:Int) (R:Hl),CR p d c s→p.funcs[fi]?=some f→fl=f.params.length+f.locals.length→Exs e s A1 n1 c1 x.exprs→Stms e s A2 n2 c2 x.body→Stms e s A3 n3 c3 x.els→StOK p f x→MR p c N fl fv m iv ov R s→x.kind=4→(sem p OPp n).w f (qbA x.exprs 0) x.body m≠.out→AC prog D 105 [.agg #[.slice c.Ag c.ng c.cg,.slice c.Af c.nf c.cf,.slice c.vv.1 c.vv.2.1 c.vv.2.2,.slice c.av.1 c.av.2.1 c.av.2.2,.slice iv.1 iv.2.1 iv.2.2,.slice ov.1 ov.2.1 ov.2.2,.int .i64 (m.left:Int),.int .i64 (m.calls:Int),.int .u32 va,.bool false,.int .i64 0,.int .u32 0],.int .i64 (fi:Int),fv,.agg #[.int .i64 x.kind,St x.name,.slice A1 n1 c1,.slice A2 n2 c2,.slice A3 n3 c3]] (R++L) s (okR p c N fl fv ((sem p OPp n).w f (qbA x.exprs 0) x.body m) (Value.int .i64) WS [] L)
def XLr(p:Prg)(D n:Nat):Prop:=∀ (L:Hl) (s:World) (c:DN) (N fl d e fi:Nat) (f:Fnc) (xs:List Stm) (A:Option Addr) (n1 c1:Nat) (fv:Value) (m:MS) (iv ov:Slc) (va:Int) (R:Hl),CR p d c s→p.funcs[fi]?=some f→fl=f.params.length+f.locals.length→Stms e s A n1 c1 xs→(∀ y∈xs,StOK p f y)→MR p c N fl fv m iv ov R s→qbi ((sem p OPp n).t f) xs m≠.out→AC prog D 59 [.agg #[.slice c.Ag c.ng c.cg,.slice c.Af c.nf c.cf,.slice c.vv.1 c.vv.2.1 c.vv.2.2,.slice c.av.1 c.av.2.1 c.av.2.2,.slice iv.1 iv.2.1 iv.2.2,.slice ov.1 ov.2.1 ov.2.2,.int .i64 (m.left:Int),.int .i64 (m.calls:Int),.int .u32 va,.bool false,.int .i64 0,.int .u32 0],.int .i64 (fi:Int),fv,.slice A n1 c1] (R++L) s (okR p c N fl fv (qbi ((sem p OPp n).t f) xs m) (Value.int .i64) WS [] L)
structure XG where
 k:Nat
 m:MS
 iv:Slc
 ov:Slc
 va:Int
 R:Hl
theorem qum{x a b c d:Nat×Obj}{R R':Hl}(hx:x∈(a::b::c::d::R).take 4):x∈a::b::c::d::R':=List.mem_append_left R' (show x∈[a,b,c,d] from hx)
theorem w00{s:World}{va:Int}:WS s (0,0) 0 va:=⟨rfl,⟨by decide,by decide⟩,fun h=>absurd h Dc,fun _=>rfl⟩
theorem qnh(p:Prg)(D n:Nat)(L:Hl)(s:World)(c:DN)(N fl d e fi:Nat)(f:Fnc)(hS:∀ j,n=j+1→SLr p D j∧WLr p D j)(xs:List Stm)(A:Option Addr)(n1 c1:Nat)(fv:Value)(m:MS)(iv ov:Slc)(va:Int)(R:Hl)(hC:CR p d c s)(hf:p.funcs[fi]?=some f)(hfl:fl=f.params.length+f.locals.length)(hM:MR p c N fl fv m iv ov R s)(hX:Stms e s A n1 c1 xs)(hO:∀ y∈xs,StOK p f y)(hr:qbi ((sem p OPp n).t f) xs m≠.out):AC prog D 59 [.agg #[.slice c.Ag c.ng c.cg,.slice c.Af c.nf c.cf,.slice c.vv.1 c.vv.2.1 c.vv.2.2,.slice c.av.1 c.av.2.1 c.av.2.2,.slice iv.1 iv.2.1 iv.2.2,.slice ov.1 ov.2.1 ov.2.2,.int .i64 (m.left:Int),.int .i64 (m.calls:Int),.int .u32 va,.bool false,.int .i64 0,.int .u32 0],.int .i64 (fi:Int),fv,.slice A n1 c1] (R++L) s (okR p c N fl fv (qbi ((sem p OPp n).t f) xs m) (Value.int .i64) WS [] L):=by
 obtain ⟨r,hq⟩:∃ r,r=qbi ((sem p OPp n).t f) xs m:=⟨_,rfl⟩
 rw [← hq] at hr ⊢
 have hn1:=hX.1
 have hb1:=hX.2.1
 have hb2:=hX.2.2.1
 refine qai (fn:=f59) qao func59 V Z ntmps59 Z (rs:=[.cell 8 73,.tmp 9]) Z [(0,_),(1,_),(2,_),(3,_)] Z<|Sr<|qaq Z Z ?_
 intro β1 s1 h1
 refine qaj Z [_,_,_,_,_,_,_,_,_,_,_,_] Z Z ?_
 intro β2 s2 h2
 refine At Z Z<|Zs<|Sr<|At Z Z<|Zp<|?_
 refine qav (γ:=XG) (fun g=>[(1,_),(2,_),(3,_),(4,_),(8,_),(9,_),(10,.int .i64 (g.k:Int))]) (fun g=>_::(_,cb [.slice c.Ag c.ng c.cg,.slice c.Af c.nf c.cf,.slice c.vv.1 c.vv.2.1 c.vv.2.2,.slice c.av.1 c.av.2.1 c.av.2.2,.slice g.iv.1 g.iv.2.1 g.iv.2.2,.slice g.ov.1 g.ov.2.1 g.ov.2.2,.int .i64 (g.m.left:Int),.int .i64 (g.m.calls:Int),.int .u32 g.va,.bool false,.int .i64 0,.int .u32 0] 73)::(g.R++L)) (fun g tw=>Le D s2 tw∧(g.k≤n1∧MR p c N fl fv g.m g.iv g.ov g.R tw∧r=qbi ((sem p OPp n).t f) (xs.drop g.k) g.m)) (fun g=>n1 - g.k) (fun _ _ _ h hl=>⟨h.1.trans hl,⟨h.2.1,h.2.2.1.le hl,h.2.2.2⟩⟩) ⟨0,m,iv,ov,va,R⟩ (.c6 Z Z Z Z Z Z (.cons Z (.nil _))) Z ⟨Le.refl _,⟨Nat.zero_le _,hM.le (h1.t h2),hq⟩⟩ ?_
 intro g s3 I3
 obtain ⟨j,mk,ivk,ovk,vak,Rk⟩:=g
 obtain ⟨hj0,hMk,hq⟩:=I3.2
 simp only at hj0 hMk hq
 dsimp only
 have hll:=hMk.ll
 have hlN:=hMk.lN
 refine Zs<|Sr<|Zqm Z Z<|Zqm Z Z<|Ws Y4<|qbh Z Z Z<|Nt<|?_
 refine qaa Z (fun c4=>?_) (fun c4=>?_)
 ·
  have hj:j < n1:=by omega
  obtain ⟨e9,b9,o9,y,A4,n4,c4,A5,n5,c5,A6,n6,c6,he9,hAe,hy,hcE,hy1,hy2,hy3,_⟩:=Stms.at_ (hX.le (h1.t h2|>.t I3.1)) hj
  subst hAe
  rw [qpO hy] at hq
  obtain ⟨n',rfl⟩:∃ i,n=i+1:=by
    cases n with
    | zero=>exact absurd hq hr
    | succ i=>exact ⟨i,rfl⟩
  obtain ⟨hS1,hS2⟩:=hS n' rfl
  change r=((qgi mk).and fun _ m=>sX p (sem p OPp n') f y m).and _ at hq
  rw [ER.and_assoc] at hq
  refine Zk<|Zt<|Zs<|Zp<|Sr<|qac (qag 1 [_,_,_,_,_,_,_,_,_,_,_,_] Z Z Z Z Z) Z<|Jc Z Z Z (qla D _ _ _ _ _ _ _ _ _ _ _ _ _ _ _ _ _ _ _ _ mk.left O _ _ 0 0) ?_
  rintro _ _ s5 h5 ⟨rfl,dn1,l1,rfl,ht1,hf1⟩
  refine Wt 1 [_,_,_,_,_,_,_,_,_,_,_,_] Y9<|Nt<|Zs<|Sr<|Wb Y5<|Wl 1 Y6<|Nt<|?_
  refine qcf Z (fun c6=>?_) (fun c6=>?_)
  ·
   obtain rfl:=c6
   obtain ⟨h0,rfl⟩:=ht1 rfl
   refine Sr<|qac (qag 1 [_,_,_,_,_,_,_,_,_,_,_,_] Z Z Z Z Z) Z<|Wt 0 [_,_,_,_,_,_,_,_,_,_,_,_] Y9<|At Z Z<|Zo<|Zu<|Zc<|Zu<|Zu<|Zc<|Zu<|?_
   refine rR [_,_] _ (.agg (us:=[_,_,_,_,_,_,_,_,_,_,_,_]) 0 Z Z Z Z Z (.t1 Z)) Z (h1.t h2|>.t I3.1|>.t h5) fun _ hS2=>?_
   exact ⟨0,(_,_,_),(_,_,_),_,_,_,true,_,_,Rk,rfl,rfl,fun h=>(by cases h),fun _=>hMk.fin (by rw [hq,qgi,if_pos h0];rfl)⟩
  obtain rfl:=c6
  obtain ⟨h0,rfl⟩:=hf1 rfl
  rw [qgi,if_neg h0] at hq
  simp only [ER.and] at hq
  have hM1:=hMk.stp
  refine Zk<|Zt<|Sr<|At Z Z<|Zs<|Sr<|Zqm Z Z<|Zqm Z Z<|qac (qap Z Z Z Z Z Z hj) Z<|W0 Y5<|qac (qah Z Z Z (hcE.le h5) Z) Z<|qar Z Z Z<|Nt<|?_
  refine qaa Z (fun c7=>?_) (fun c7=>?_)
  ·
   have hk4:y.kind=4:=c7
   rw [qlE hk4] at hq
   refine qay qad 13 Z ([]:Hl) (fun x hx=>by cases hx) ?_
   intro s8 h8
   refine za 1 Z (qan Z) Z<|za 2 Z (qan Z) Z<|za 3 Z (qan Z) Z<|za 4 Z (qan Z) Z<|za 5 Z (qap Z Z Z Z Z Z hj) Z<|za 6 Z (qau Z Z Z (hcE.le (h5.t h8)) Z) Z<|qax 0 V<|qe3 Z Tt (qag 1 [_,_,_,_,_,_,_,_,_,_,_,_] Z Z Z Z Z) Z<|qax 7 V<|Jb Z Tt Z Z Z (AC.frR (fun L=>hS2 L _ c N fl d e9 fi f y A4 n4 c4 A5 n5 c5 A6 n6 c6 fv _ _ _ _ _ (hC.le (h1.t h2|>.t I3.1|>.t h5|>.t h8)) hf hfl (hy1.le (h5.t h8)) (hy2.le (h5.t h8)) (hy3.le (h5.t h8)) (hO y (List.mem_of_getElem? hy)) (hM1.le (h5.t h8)) hk4 (qaW hq hr)) [_,_] _) ?_
   rintro _ _ s9 h9 ⟨u9,iv9,ov9,lf9,ca9,va9,dn9,so9,cd9,M9,rfl,rfl,ok9,fn9⟩
   refine ⟨(fun x hx=>by cases hx),?_⟩
   simp only [cQ9,nQ9]
   refine za 8 Z (qan Z) Z<|za 9 Z (qaX Z Z) Z<|za 10 Z (qaX Z Z) Z<|qax 11 V<|Wu Z Tt 1 [_,_,_,_,_,_,_,_,_,_,_,_] Y9 (fun x hx=>by cases hx)<|za 12 Z (qaM Z) Z<|qal V<|Zt<|Sr<|Wb Y5<|Wl 1 Y6<|Zqm Z Z<|?_
   refine qc9 (t:=53) Z (fun c10=>?_) (fun c10=>?_)
   ·
    refine Wf Y4<|Wf Y4<|ZqT Z Z Z<|Nt<|Zy Z<|?_
    obtain rfl:dn9=true:=by assumption
    have hF:=fn9 rfl
    refine Sr<|qac (qag 1 [_,_,_,_,_,_,_,_,_,_,_,_] Z Z Z Z Z) Z<|Zqm Z Z<|Wt 0 [_,_,_,_,_,_,_,_,_,_,_,_] Y9<|At Z Z<|Zo<|Zc<|Zu<|Zu<|Zc<|Zu<|?_
    refine rR [_,_] _ (.agg (us:=[_,_,_,_,_,_,_,_,_,_,_,_]) 0 Z Z Z Z Z (.t1 Z)) Z (h1.t h2|>.t I3.1|>.t h5|>.t h8|>.t h9) fun _ hS2=>?_
    exact ⟨u9,(_,_,_),(_,_,_),_,_,_,true,_,_,M9,rfl,rfl,fun h=>(by cases h),fun _=>hF.and hq⟩
   refine Zg Z Z<|Zqm Z Z<|Zg Z Z<|qb2 Z Z Z<|ZqF Z Z Z<|Nt<|?_
   refine qaP Z (fun c11=>?_) (fun c11=>?_)
   ·
    obtain rfl:dn9=false:=by assumption
    obtain ⟨y8,m8,q1,hw8,rfl,rfl,rfl,rfl,hM8⟩:=ok9 rfl
    obtain ⟨rfl,q3,q4,q5⟩:=hw8
    rw [q1] at hq
    simp only [ER.and] at hq
    rw [if_neg (by have:=c11;exact this)] at hq
    refine Sr<|qac (qag 1 [_,_,_,_,_,_,_,_,_,_,_,_] Z Z Z Z Z) Z<|Zqm Z Z<|Wt 0 [_,_,_,_,_,_,_,_,_,_,_,_] Y9<|At Z Z<|Zo<|Zc<|Zu<|Zu<|Zc<|Zu<|?_
    refine rR [_,_] _ (.agg (us:=[_,_,_,_,_,_,_,_,_,_,_,_]) 0 Z Z Z Z Z (.t1 Z)) Z (h1.t h2|>.t I3.1|>.t h5|>.t h8|>.t h9) fun _ hS2=>?_
    exact ⟨_,(_,_,_),(_,_,_),_,_,_,false,_,_,M9,rfl,rfl,fun _=>⟨_,_,hq,⟨rfl,q3,q4,q5⟩,rfl,rfl,rfl,rfl,hM8.le ((Lr D).t hS2)⟩,fun h=>(by cases h)⟩
   obtain rfl:dn9=false:=by assumption
   obtain ⟨y8,m8,q1,hw8,rfl,rfl,rfl,rfl,hM8⟩:=ok9 rfl
   obtain ⟨rfl,q3,q4,q5⟩:=hw8
   rw [q1] at hq
   simp only [ER.and] at hq
   rw [if_pos (by have:=c11;exact this)] at hq
   refine Zk<|Zb<|Zt<|Zr<|Zqm Z Z<|qaF Z Z Z (w64 O O)<|Zqa Z Z<|Zn<|?_
   refine qab ⟨⟨j+1,m8,iv9,ov9,va9,M9⟩,[],kp,Z,⟨(I3.1.t h5|>.t h8|>.t h9),⟨by show j+1≤n1;omega,hM8.le (Lr D),hq⟩⟩,(by show n1 - (j+1) < n1 - j;omega)⟩
  have hk4:¬ y.kind=4:=c7
  refine qay qad 13 Z ([]:Hl) (fun x hx=>by cases hx) ?_
  intro s12 h12
  refine za 1 Z (qan Z) Z<|za 2 Z (qan Z) Z<|za 3 Z (qan Z) Z<|za 4 Z (qan Z) Z<|za 5 Z (qap Z Z Z Z Z Z hj) Z<|za 6 Z (qau Z Z Z (hcE.le (h5.t h12)) Z) Z<|qax 0 V<|qe3 Z Tt (qag 1 [_,_,_,_,_,_,_,_,_,_,_,_] Z Z Z Z Z) Z<|qax 7 V<|Jb Z Tt Z Z Z (AC.frR (fun L=>hS1 L _ c N fl d e9 fi f y A4 n4 c4 A5 n5 c5 A6 n6 c6 fv _ _ _ _ _ (hC.le (h1.t h2|>.t I3.1|>.t h5|>.t h12)) hf hfl (hy1.le (h5.t h12)) (hy2.le (h5.t h12)) (hy3.le (h5.t h12)) (hO y (List.mem_of_getElem? hy)) (hM1.le (h5.t h12)) hk4 (qaW hq hr)) [_,_] _) ?_
  rintro _ _ s13 h13 ⟨u13,iv13,ov13,lf13,ca13,va13,dn13,so13,cd13,M13,rfl,rfl,ok13,fn13⟩
  refine ⟨(fun x hx=>by cases hx),?_⟩
  simp only [cQ9,nQ9]
  refine za 8 Z (qan Z) Z<|za 9 Z (qaX Z Z) Z<|za 10 Z (qaX Z Z) Z<|qax 11 V<|Wu Z Tt 1 [_,_,_,_,_,_,_,_,_,_,_,_] Y9 (fun x hx=>by cases hx)<|za 12 Z (qaM Z) Z<|qal V<|Zt<|Sr<|Wb Y5<|Wl 1 Y6<|Zqm Z Z<|?_
  refine qc9 (t:=53) Z (fun c14=>?_) (fun c14=>?_)
  ·
   refine Wf Y4<|Wf Y4<|ZqT Z Z Z<|Nt<|Zy Z<|?_
   obtain rfl:dn13=true:=by assumption
   have hF:=fn13 rfl
   refine Sr<|qac (qag 1 [_,_,_,_,_,_,_,_,_,_,_,_] Z Z Z Z Z) Z<|Zqm Z Z<|Wt 0 [_,_,_,_,_,_,_,_,_,_,_,_] Y9<|At Z Z<|Zo<|Zc<|Zu<|Zu<|Zc<|Zu<|?_
   refine rR [_,_] _ (.agg (us:=[_,_,_,_,_,_,_,_,_,_,_,_]) 0 Z Z Z Z Z (.t1 Z)) Z (h1.t h2|>.t I3.1|>.t h5|>.t h12|>.t h13) fun _ hS2=>?_
   exact ⟨u13,(_,_,_),(_,_,_),_,_,_,true,_,_,M13,rfl,rfl,fun h=>(by cases h),fun _=>hF.and hq⟩
  refine Zg Z Z<|Zqm Z Z<|Zg Z Z<|qb2 Z Z Z<|ZqF Z Z Z<|Nt<|?_
  refine qaP Z (fun c15=>?_) (fun c15=>?_)
  ·
   obtain rfl:dn13=false:=by assumption
   obtain ⟨y8,m8,q1,hw8,rfl,rfl,rfl,rfl,hM8⟩:=ok13 rfl
   obtain ⟨rfl,q3,q4,q5⟩:=hw8
   rw [q1] at hq
   simp only [ER.and] at hq
   rw [if_neg (by have:=c15;exact this)] at hq
   refine Sr<|qac (qag 1 [_,_,_,_,_,_,_,_,_,_,_,_] Z Z Z Z Z) Z<|Zqm Z Z<|Wt 0 [_,_,_,_,_,_,_,_,_,_,_,_] Y9<|At Z Z<|Zo<|Zc<|Zu<|Zu<|Zc<|Zu<|?_
   refine rR [_,_] _ (.agg (us:=[_,_,_,_,_,_,_,_,_,_,_,_]) 0 Z Z Z Z Z (.t1 Z)) Z (h1.t h2|>.t I3.1|>.t h5|>.t h12|>.t h13) fun _ hS2=>?_
   exact ⟨_,(_,_,_),(_,_,_),_,_,_,false,_,_,M13,rfl,rfl,fun _=>⟨_,_,hq,⟨rfl,q3,q4,q5⟩,rfl,rfl,rfl,rfl,hM8.le ((Lr D).t hS2)⟩,fun h=>(by cases h)⟩
  obtain rfl:dn13=false:=by assumption
  obtain ⟨y8,m8,q1,hw8,rfl,rfl,rfl,rfl,hM8⟩:=ok13 rfl
  obtain ⟨rfl,q3,q4,q5⟩:=hw8
  rw [q1] at hq
  simp only [ER.and] at hq
  rw [if_pos (by have:=c15;exact this)] at hq
  refine Zk<|Zb<|Zt<|Zr<|Zqm Z Z<|qaF Z Z Z (w64 O O)<|Zqa Z Z<|Zn<|?_
  refine qab ⟨⟨j+1,m8,iv13,ov13,va13,M13⟩,[],kp,Z,⟨(I3.1.t h5|>.t h12|>.t h13),⟨by show j+1≤n1;omega,hM8.le (Lr D),hq⟩⟩,(by show n1 - (j+1) < n1 - j;omega)⟩
 rw [List.drop_eq_nil_of_le O,qbi] at hq
 refine Zl<|Zv<|Zv<|Zd<|Zt<|Sr<|qac (qag 1 [_,_,_,_,_,_,_,_,_,_,_,_] Z Z Z Z Z) Z<|Wt 0 [_,_,_,_,_,_,_,_,_,_,_,_] Y9<|At Z Z<|Zo<|?_
 refine rR [_,_] _ (.agg (us:=[_,_,_,_,_,_,_,_,_,_,_,_]) 0 Z Z Z Z Z (.t1 Z)) Z (h1.t h2|>.t I3.1) fun _ hS2=>?_
 exact ⟨0,(_,_,_),(_,_,_),_,_,_,false,_,_,Rk,rfl,rfl,fun _=>⟨_,_,hq,w00,rfl,rfl,rfl,rfl,hMk.le ((Lr D).t hS2)⟩,fun h=>(by cases h)⟩
structure LG where
 j:Nat
 m:MS
 iv:Slc
 ov:Slc
 va:Int
 R:Hl
theorem qlk(p:Prg)(D n:Nat)(L:Hl)(s:World)(c:DN)(N fl d e fi:Nat)(f:Fnc)(ih:∀ j,j < n→EVr p D j∧XLr p D j)(x:Stm)(A1:Option Addr)(n1 c1:Nat)(A2:Option Addr)(n2 c2:Nat)(A3:Option Addr)(n3 c3:Nat)(fv:Value)(m:MS)(iv ov:Slc)(va:Int)(R:Hl)(hC:CR p d c s)(hf:p.funcs[fi]?=some f)(hfl:fl=f.params.length+f.locals.length)(hM:MR p c N fl fv m iv ov R s)(hX1:Exs e s A1 n1 c1 x.exprs)(hX2:Stms e s A2 n2 c2 x.body)(hxo:StOK p f x)(hk4:x.kind=4)(hr:(sem p OPp n).w f (qbA x.exprs 0) x.body m≠.out):AC prog D 105 [.agg #[.slice c.Ag c.ng c.cg,.slice c.Af c.nf c.cf,.slice c.vv.1 c.vv.2.1 c.vv.2.2,.slice c.av.1 c.av.2.1 c.av.2.2,.slice iv.1 iv.2.1 iv.2.2,.slice ov.1 ov.2.1 ov.2.2,.int .i64 (m.left:Int),.int .i64 (m.calls:Int),.int .u32 va,.bool false,.int .i64 0,.int .u32 0],.int .i64 (fi:Int),fv,.agg #[.int .i64 x.kind,St x.name,.slice A1 n1 c1,.slice A2 n2 c2,.slice A3 n3 c3]] (R++L) s (okR p c N fl fv ((sem p OPp n).w f (qbA x.exprs 0) x.body m) (Value.int .i64) WS [] L):=by
 obtain ⟨r,hq⟩:∃ r,r=(sem p OPp n).w f (qbA x.exprs 0) x.body m:=⟨_,rfl⟩
 rw [← hq] at hr ⊢
 obtain ⟨_,_,_,hl1,_,_⟩:=hxo.sh
 have hl1:=hl1 O
 have hn1:=hX1.1
 have h0n:0 < n1:=by omega
 obtain ⟨e9,b9,o9,y,A9,n9,c9,he9,hAe,hy,hcE,hyX,hyu,_⟩:=Exs.at_ hX1 h0n
 subst hAe
 have hye:qbA x.exprs 0=y:=by rw [qbA,List.getD_eq_getElem?_getD,hy];rfl
 rw [hye] at hq
 refine qai (fn:=f105) qao func105 V Z ntmps105 Z (rs:=[.cell 8 73,.tmp 9]) Z [(0,_),(1,_),(2,_),(3,_)] Z<|Sr<|qaq Z Z ?_
 intro β1 s1 h1
 refine qaq Z Z ?_
 intro β2 s2 h2
 refine qaj Z [_,_,_,_,_,_,_,_,_,_,_,_] Z Z ?_
 intro β3 s3 h3
 refine At Z Z<|Zp<|?_
 refine qav (γ:=LG) (fun g=>[(1,_),(2,_),(4,_),(7,_),(8,_),(9,_)]) (fun g=>_::_::(_,cb [.slice c.Ag c.ng c.cg,.slice c.Af c.nf c.cf,.slice c.vv.1 c.vv.2.1 c.vv.2.2,.slice c.av.1 c.av.2.1 c.av.2.2,.slice g.iv.1 g.iv.2.1 g.iv.2.2,.slice g.ov.1 g.ov.2.1 g.ov.2.2,.int .i64 (g.m.left:Int),.int .i64 (g.m.calls:Int),.int .u32 g.va,.bool false,.int .i64 0,.int .u32 0] 73)::(g.R++L)) (fun g tw=>Le D s3 tw∧(g.j≤n∧MR p c N fl fv g.m g.iv g.ov g.R tw∧r=(sem p OPp g.j).w f y x.body g.m)) (fun g=>g.j) (fun _ _ _ h hl=>⟨h.1.trans hl,⟨h.2.1,h.2.2.1.le hl,h.2.2.2⟩⟩) ⟨n,m,iv,ov,va,R⟩ (.c6 Z Z Z Z Z Z (.nil _)) Z ⟨Le.refl _,⟨Nat.le_refl _,hM.le (h1.t h2|>.t h3),hq⟩⟩ ?_
 intro g s4 I4
 obtain ⟨j,mk,ivk,ovk,vak,Rk⟩:=g
 obtain ⟨hj0,hMk,hq⟩:=I4.2
 simp only at hj0 hMk hq
 dsimp only
 obtain ⟨i,rfl⟩:∃ i,j=i+1:=by
   cases j with
   | zero=>exact absurd hq hr
   | succ i=>exact ⟨i,rfl⟩
 change r=wX (sem p OPp i) f y x.body mk at hq
 rw [wX] at hq
 obtain ⟨hE,hXL⟩:=ih i O
 refine Zp<|Sr<|At Z Z<|Zs<|qa2 qad 13 Z 2 ?_
 intro s5 h5
 refine za 1 Z (qan Z) Z<|za 2 Z (qan Z) Z<|za 3 Z (We Y4) Z<|za 4 Z (Wd 1 Y5) Z<|za 5 Z (qap Z Z Z Z Z Z h0n) Z<|za 6 Z (qau Z Z Z (hcE.le (h1.t h2|>.t h3|>.t I4.1|>.t h5)) Z) Z<|qax 0 V<|qe3 Z Tt (qag 2 [_,_,_,_,_,_,_,_,_,_,_,_] Z Z Z Z Z) Z<|qax 7 V<|Jb Z Tt Z Z Z (AC.frR (fun L=>hE L _ c N fl d e9 fi f y A9 n9 c9 fv _ _ _ _ _ (hC.le (h1.t h2|>.t h3|>.t I4.1|>.t h5)) hf hfl (hyX.le (h1.t h2|>.t h3|>.t I4.1|>.t h5)) hyu (hxo.exprs y (List.mem_of_getElem? hy)) (hMk.le h5) (qaW hq hr)) [_,_,_] _) ?_
 rintro _ _ s6 h6 ⟨u6,iv6,ov6,lf6,ca6,va6,dn6,so6,cd6,M6,rfl,rfl,ok6,fn6⟩
 refine ⟨(fun x hx _=>qfy hx),?_⟩
 simp only [cQ9,nQ9]
 refine za 8 Z (qan Z) Z<|za 9 Z (qaX Z Z) Z<|za 10 Z (qaX Z Z) Z<|qax 11 V<|Wu Z Tt 2 [_,_,_,_,_,_,_,_,_,_,_,_] Y9 (sM (qmw (sb0 _)))<|za 12 Z (qaM Z) Z<|qal V<|Zt<|Zs<|Sr<|Wb Y5<|Wl 2 Y6<|Zqm Z Z<|?_
 refine qc9 (t:=25) Z (fun c7=>?_) (fun c7=>?_)
 ·
  refine Wf Y4<|Wf Y4<|ZqT Z Z Z<|Nt<|Zy Z<|?_
  obtain rfl:dn6=true:=by assumption
  have hF:=fn6 rfl
  refine Sr<|qac (qag 2 [_,_,_,_,_,_,_,_,_,_,_,_] Z Z Z Z Z) Z<|Wt 0 [_,_,_,_,_,_,_,_,_,_,_,_] Y9<|At Z Z<|Zo<|Zu<|Zc<|Zu<|Zc<|?_
  refine rR [_,_,_] _ (.agg (us:=[_,_,_,_,_,_,_,_,_,_,_,_]) 0 Z Z Z Z Z (.t1 Z)) Z (h1.t h2|>.t h3|>.t I4.1|>.t h5|>.t h6) fun _ hS2=>?_
  exact ⟨0,(_,_,_),(_,_,_),_,_,_,true,_,_,M6,rfl,rfl,fun h=>(by cases h),fun _=>hF.and hq⟩
 refine Zg Z Z<|Zqm Z Z<|Zg Z Z<|qar Z Z Z<|ZqF Z Z Z<|Nt<|?_
 refine qaa Z (fun c8=>?_) (fun c8=>?_)
 ·
  obtain rfl:dn6=false:=by assumption
  obtain ⟨y8,m8,q1,hw8,rfl,rfl,rfl,rfl,hM8⟩:=ok6 rfl
  obtain ⟨rfl,q3⟩:=hw8
  rw [q1] at hq
  simp only [ER.and] at hq
  rw [if_pos (by have:=c8;exact this)] at hq
  refine Sr<|qac (qag 2 [_,_,_,_,_,_,_,_,_,_,_,_] Z Z Z Z Z) Z<|Wt 0 [_,_,_,_,_,_,_,_,_,_,_,_] Y9<|At Z Z<|Zo<|Zu<|Zc<|Zu<|Zc<|?_
  refine rR [_,_,_] _ (.agg (us:=[_,_,_,_,_,_,_,_,_,_,_,_]) 0 Z Z Z Z Z (.t1 Z)) Z (h1.t h2|>.t h3|>.t I4.1|>.t h5|>.t h6) fun _ hS2=>?_
  exact ⟨0,(_,_,_),(_,_,_),_,_,_,false,_,_,M6,rfl,rfl,fun _=>⟨_,_,hq,w00,rfl,rfl,rfl,rfl,hM8.le ((Lr D).t hS2)⟩,fun h=>(by cases h)⟩
 obtain rfl:dn6=false:=by assumption
 obtain ⟨y8,m8,q1,hw8,rfl,rfl,rfl,rfl,hM8⟩:=ok6 rfl
 obtain ⟨rfl,q3⟩:=hw8
 rw [q1] at hq
 simp only [ER.and] at hq
 rw [if_neg (by have:=c8;exact this)] at hq
 refine Zk<|Zt<|Sr<|At Z Z<|Sr<|qac (qag 2 [_,_,_,_,_,_,_,_,_,_,_,_] Z Z Z Z Z) Z<|Zqm Z Z<|Zqm Z Z<|Wb Y5<|Wl 1 Y6<|Jc Z Z Z (AC.frR (fun L=>hXL L _ c N fl d e fi f x.body A2 n2 c2 fv _ _ _ _ _ (hC.le (h1.t h2|>.t h3|>.t I4.1|>.t h5|>.t h6)) hf hfl (hX2.le (h1.t h2|>.t h3|>.t I4.1|>.t h5|>.t h6)) hxo.body (hM8.le (Lr D)) (qaW hq hr)) [_,_,_] _) ?_
 rintro _ _ s9 h9 ⟨u9,iv9,ov9,lf9,ca9,va9,dn9,so9,cd9,M9,rfl,rfl,ok9,fn9⟩
 simp only [cQ9,nQ9]
 refine Zqm Z Z<|Zqx Z Z Z<|Zqx Z Z Z<|Wt 2 [_,_,_,_,_,_,_,_,_,_,_,_] Y9<|At Z Z<|Zs<|Sr<|Wb Y5<|Wl 2 Y6<|Zqm Z Z<|?_
 refine qc9 (t:=41) Z (fun c10=>?_) (fun c10=>?_)
 ·
  refine Wf Y4<|Wf Y4<|ZqT Z Z Z<|Nt<|Zy Z<|?_
  obtain rfl:dn9=true:=by assumption
  have hF:=fn9 rfl
  refine Sr<|qac (qag 2 [_,_,_,_,_,_,_,_,_,_,_,_] Z Z Z Z Z) Z<|Wt 0 [_,_,_,_,_,_,_,_,_,_,_,_] Y9<|At Z Z<|Zo<|Zu<|Zc<|Zu<|Zc<|?_
  refine rR [_,_,_] _ (.agg (us:=[_,_,_,_,_,_,_,_,_,_,_,_]) 0 Z Z Z Z Z (.t1 Z)) Z (h1.t h2|>.t h3|>.t I4.1|>.t h5|>.t h6|>.t h9) fun _ hS2=>?_
  exact ⟨0,(_,_,_),(_,_,_),_,_,_,true,_,_,M9,rfl,rfl,fun h=>(by cases h),fun _=>hF.and hq⟩
 refine Zg Z Z<|Zqm Z Z<|Zg Z Z<|qar Z Z Z<|ZqF Z Z Z<|Nt<|?_
 refine qaa Z (fun c11=>?_) (fun c11=>?_)
 ·
  obtain rfl:dn9=false:=by assumption
  obtain ⟨y9,m9,q6,hw9,rfl,rfl,rfl,rfl,hM9⟩:=ok9 rfl
  obtain ⟨rfl,q7,q8,q9⟩:=hw9
  rw [q6] at hq
  simp only [ER.and] at hq
  rw [if_pos (by have:=c11;exact this)] at hq
  refine Sr<|qac (qag 2 [_,_,_,_,_,_,_,_,_,_,_,_] Z Z Z Z Z) Z<|Wt 0 [_,_,_,_,_,_,_,_,_,_,_,_] Y9<|At Z Z<|Zo<|Zu<|Zc<|Zu<|Zc<|?_
  refine rR [_,_,_] _ (.agg (us:=[_,_,_,_,_,_,_,_,_,_,_,_]) 0 Z Z Z Z Z (.t1 Z)) Z (h1.t h2|>.t h3|>.t I4.1|>.t h5|>.t h6|>.t h9) fun _ hS2=>?_
  exact ⟨0,(_,_,_),(_,_,_),_,_,_,false,_,_,M9,rfl,rfl,fun _=>⟨_,_,hq,w00,rfl,rfl,rfl,rfl,hM9.le ((Lr D).t hS2)⟩,fun h=>(by cases h)⟩
 obtain rfl:dn9=false:=by assumption
 obtain ⟨y9,m9,q6,hw9,rfl,rfl,rfl,rfl,hM9⟩:=ok9 rfl
 obtain ⟨rfl,q7,q8,q9⟩:=hw9
 rw [q6] at hq
 simp only [ER.and] at hq
 rw [if_neg (by have:=c11;exact this)] at hq
 refine Zk<|Zt<|Sr<|Zqm Z Z<|qar Z Z Z<|Nt<|?_
 refine qaa Z (fun c12=>?_) (fun c12=>?_)
 ·
  have g47:=c12
  rw [if_pos g47] at hq
  refine Sr<|qac (qag 2 [_,_,_,_,_,_,_,_,_,_,_,_] Z Z Z Z Z) Z<|Wt 0 [_,_,_,_,_,_,_,_,_,_,_,_] Y9<|At Z Z<|Zo<|Zc<|Zu<|Zc<|?_
  refine rR [_,_,_] _ (.agg (us:=[_,_,_,_,_,_,_,_,_,_,_,_]) 0 Z Z Z Z Z (.t1 Z)) Z (h1.t h2|>.t h3|>.t I4.1|>.t h5|>.t h6|>.t h9) fun _ hS2=>?_
  exact ⟨3,(_,_,_),(_,_,_),_,_,_,false,_,_,M9,rfl,rfl,fun _=>⟨_,_,hq,⟨g47.symm,q7,q8,q9⟩,rfl,rfl,rfl,rfl,hM9.le ((Lr D).t hS2)⟩,fun h=>(by cases h)⟩
 rw [if_neg c12] at hq
 refine Zk<|Zb<|?_
 refine qab ⟨⟨i,m9,iv9,ov9,va9,M9⟩,[],kp,Z,⟨(I4.1.t h5|>.t h6|>.t h9),⟨by show i≤n;omega,hM9.le (Lr D),hq⟩⟩,(by show i < i+1;omega)⟩
theorem qu2{p:Prg}{S:Sem}{f:Fnc}{x:Stm}{m:MS}(h1:8 < x.kind)(h2:x.kind≤10):sX p S f x m=.ok (x.kind - 8,0) m:=by
 rw [sX,if_neg O,if_neg O,if_neg O,if_neg O,if_neg O,if_neg O,if_neg O,if_neg O]
 rcases (by omega:x.kind=9∨x.kind=10) with h | h
 · rw [if_pos h,h];rfl
 · rw [if_neg O,h];rfl
section
variable{p:Prg}{S:Sem}{f:Fnc}{x:Stm}{m:MS}
theorem sX_1(hk:x.kind=1)(hl:x.exprs.length=1):sX p S f x m=(qaD (S.e f) x.exprs m).and fun vs m=>.ok (0,0) (qmz p f x.name (vs.getD 0 0) m):=by
 rw [sX,if_pos hk,qh9 hl]
theorem sX_2(hk:x.kind=2):sX p S f x m=(S.e f (qbA x.exprs 0) m).and fun i m=>if ((qd1 p x.name m).length:Int)≤i then .fin m 1 1 else (S.e f (qbA x.exprs 1) m).and fun v m=>.ok (0,0) { m with arr:=m.arr.set (qdi p x.name).toNat ((qd1 p x.name m).set i.toNat v) }:=by
 rw [sX,if_neg O,if_pos hk]
theorem sX_3(hk:x.kind=3)(hl:x.exprs.length=1):sX p S f x m=(qaD (S.e f) x.exprs m).and fun vs m=>if vs.getD 0 0≠0 then qbi (S.t f) x.body m else qbi (S.t f) x.els m:=by
 rw [sX,if_neg O,if_neg O,if_pos hk,qh9 hl]
theorem sX_5(hk:x.kind=5):sX p S f x m=(qaD (S.e f) x.exprs m).and fun vs m=>(S.c (qhx p x.name).toNat vs m).and fun _ m=>.ok (0,0) m:=by
 rw [sX,if_neg O,if_neg O,if_neg O,if_neg O,if_pos hk]
theorem sX_6(hk:x.kind=6)(hl:x.exprs.length=1):sX p S f x m=(qaD (S.e f) x.exprs m).and fun vs m=>.ok (3,vs.getD 0 0) m:=by
 rw [sX,if_neg O,if_neg O,if_neg O,if_neg O,if_neg O,if_pos hk,qh9 hl]
theorem sX_7(hk:x.kind=7)(hl:x.exprs.length=1):sX p S f x m=(qaD (S.e f) x.exprs m).and fun vs m=>if 20000≤m.out.length then .fin m 5 0 else .ok (0,0) { m with out:=m.out++[UInt8.ofNat (vs.getD 0 0).toNat] }:=by
 rw [sX,if_neg O,if_neg O,if_neg O,if_neg O,if_neg O,if_neg O,if_pos hk,qh9 hl]
theorem sX_8(hk:x.kind=8)(hl:x.exprs.length=1):sX p S f x m=(qaD (S.e f) x.exprs m).and fun vs m=>.fin m 1 (vs.getD 0 0):=by
 rw [sX,if_neg O,if_neg O,if_neg O,if_neg O,if_neg O,if_neg O,if_neg O,if_pos hk,qh9 hl]
end
theorem u8r{x:Int}(h:U32 x):IntKind.u8.wrap (x.tmod 256)=((UInt8.ofNat x.toNat).toNat:Int):=by
 obtain ⟨h1,h2⟩:=h
 have e:x.tmod 256=x % 256:=Int.tmod_eq_emod_of_nonneg h1
 rw [e,IntKind.wrap_u8]
 simp [UInt8.toNat_ofNat']
 omega
theorem MR.put{p:Prg}{c:DN}{N fl:Nat}{fv:Value}{m:MS}{iv ov:Slc}{R:Hl}{s:World}(h:MR p c N fl fv m iv ov R s){Mg Mf K:Hl}(hOg:FL.Own 29 1 Mg (mkS c.vv) p.globals.length (wv (vrs p m.glo)))(hOf:FL.Own 29 1 Mf fv fl (wv m.frm)){b:UInt8}{ov':Slc}{M':Hl}(hl:m.out.length < 20000)(hO:FL.Own 5 1 M' (mkS ov') (m.out++[b]).length (bv (m.out++[b]))):MR p c N fl fv { m with out:=m.out++[b] } iv ov' (M'++(Mg++(Mf++(qb1 c.ab m.arr++K)))) s:=⟨h.inp,⟨M',Mg,Mf,K,List.Perm.refl _,hO,hOg,hOf⟩,h.ug,h.uf,h.ua,h.lg,h.lf,h.lb,h.la,h.ar,by simp;omega,h.lc,h.ll,h.lN⟩
theorem qlz(p:Prg)(D n:Nat)(hE:EVr p D n)(hK:CLr p D n)(hXL:XLr p D n)(L:Hl)(s:World)(c:DN)(N fl d e fi:Nat)(f:Fnc)(x:Stm)(A1:Option Addr)(n1 c1:Nat)(A2:Option Addr)(n2 c2:Nat)(A3:Option Addr)(n3 c3:Nat)(fv:Value)(m:MS)(iv ov:Slc)(va:Int)(R:Hl)(hC:CR p d c s)(hf:p.funcs[fi]?=some f)(hfl:fl=f.params.length+f.locals.length)(hM:MR p c N fl fv m iv ov R s)(hX1:Exs e s A1 n1 c1 x.exprs)(hX2:Stms e s A2 n2 c2 x.body)(hX3:Stms e s A3 n3 c3 x.els)(hxo:StOK p f x)(hk4:x.kind≠4)(hr:sX p (sem p OPp n) f x m≠.out):AC Tryz.prog D 106 [.agg #[.slice c.Ag c.ng c.cg,.slice c.Af c.nf c.cf,.slice c.vv.1 c.vv.2.1 c.vv.2.2,.slice c.av.1 c.av.2.1 c.av.2.2,.slice iv.1 iv.2.1 iv.2.2,.slice ov.1 ov.2.1 ov.2.2,.int .i64 (m.left:Int),.int .i64 (m.calls:Int),.int .u32 va,.bool false,.int .i64 0,.int .u32 0],.int .i64 (fi:Int),fv,.agg #[.int .i64 x.kind,St x.name,.slice A1 n1 c1,.slice A2 n2 c2,.slice A3 n3 c3]] (R++L) s (okR p c N fl fv (sX p (sem p OPp n) f x m) (Value.int .i64) WS [] L):=by
 obtain ⟨r,hq⟩:∃ r,r=sX p (sem p OPp n) f x m:=⟨_,rfl⟩
 rw [← hq] at hr ⊢
 obtain ⟨k1,k10,hel,hl1,hl2,hnm⟩:=hxo.sh
 have hn1:=hX1.1
 have hPK:=hC.ok.pok
 have hsz9:=hC.ok.sz f (List.mem_of_getElem? hf)
 refine qai (fn:=Tryz.f106) qao Tryz.func106 V Z Tryz.ntmps106 Z (rs:=[.cell 8 73,.tmp 9]) Z [(0,_),(1,_),(2,_),(3,_)] Z<|Sr<|qaq Z Z ?_
 intro β1 s1 h1
 refine qaq Z Z ?_
 intro β2 s2 h2
 refine qaj Z [_,_,_,_,_,_,_,_,_,_,_,_] Z Z ?_
 intro β3 s3 h3
 refine At Z Z<|Zs<|Sr<|W0 Y5<|Wl 1 Y6<|qbv Z Z Z<|Nt<|?_
 refine qaa Z (fun c4=>?_) (fun c4=>?_)
 ·
  rw [qu2 (by have:=c4;omega) k10] at hq
  refine Zs<|qbJ qad 6 Z [0] (by intro x hx;exact qaY hx) ?_
  intro s5 h5
  refine za 0 Z (qag 1 [_,_,_,_,_,_,_,_,_,_,_,_] Z Z Z Z Z) Z<|za 1 Z (qbp Z Z Z Z) Z<|za 2 Z (Wd 0 Y5) Z<|za 3 Z (qbd Z Z (w64 O O)) Z<|qax 4 V<|Wu Z Tt 0 [_,_,_,_,_,_,_,_,_,_,_,_] Y9 (sM (qmw (sbE _)))<|za 5 Z (qaM Z) Z<|qal V<|Zt<|Zo<|Zu<|?_
  refine rR [_,_,_] _ (.agg (us:=[_,_,_,_,_,_,_,_,_,_,_,_]) 0 Z Z Z Z Z (.t1 Z)) Z (h1.t h2|>.t h3|>.t h5) fun _ hS2=>?_
  exact ⟨_,(_,_,_),(_,_,_),_,_,_,false,_,_,R,rfl,rfl,fun _=>⟨_,_,hq,⟨rfl,⟨(by show (0:Int)≤0;decide),(by show (0:Int) < 4294967296;decide)⟩,fun h=>absurd h (by show ¬ x.kind - 8=3;omega),fun _=>rfl⟩,rfl,rfl,rfl,rfl,hM.le (h1.t h2|>.t h3|>.t h5|>.t hS2)⟩,fun h=>(by cases h)⟩
 have h8:x.kind≤8:=by have:=c4;omega
 refine Zk<|Zt<|Sr<|qac (qam [] [_,_] Z Z Z Z Z Z) Z<|qaj Z [_,_] Z Z ?_
 intro β6 s6 h6
 refine Wt 0 [_,_] Y9<|Nt<|Zs<|Sr<|Wb Y5<|Wl 2 Y6<|qti Z Z Z<|Nt<|?_
 refine qaP Z (fun c7=>?_) (fun c7=>?_)
 ·
  have hkn:=hnm.1 c7
  refine Zr<|W0 Y5<|qac (qag 3 [_,_] Z Z Z Z Z) Z<|Zqm Z Z<|Wb Y5<|Wl 2 Y6<|Jc Z Z Z (qfB D _ _ d p c.Ag _ c.ng c.cg c.nf c.cf (hC.gl.le (h1.t h2|>.t h3|>.t h6)) (hC.fn.le (h1.t h2|>.t h3|>.t h6)) fi f hf x.name) ?_
  rintro _ _ s8 h8 ⟨rfl,rfl⟩
  refine Wt 0 [_,_] Y9<|Nt<|Zs<|Sr<|W0 Y5<|Wl 2 Y6<|qar Z Z Z<|Nt<|?_
  refine qaa Z (fun c9=>?_) (fun c9=>?_)
  ·
   have hk2:=c9
   obtain ⟨k,g,hme,hgl,hp,g3⟩:=sd2 hPK hxo hk2
   have hl2:=hl2 hk2
   have h0n:0 < n1:=by omega
   have h1n:1 < n1:=by omega
   obtain ⟨e9,b9,o9,y,A9,n9,c9,he9,hAe,hy,hcE,hyX,hyu,_⟩:=Exs.at_ (hX1.le (h1.t h2|>.t h3|>.t h6|>.t h8)) h0n
   subst hAe
   obtain ⟨e9b,b9b,o9b,y2,A8,n8,c8,he9b,hAe2,hy2,hcE2,hy2X,hy2u,_⟩:=Exs.at_ (hX1.le (h1.t h2|>.t h3|>.t h6|>.t h8)) h1n
   simp only [Option.some.injEq,Addr.mk.injEq,and_true] at hAe2
   obtain ⟨hA1,hA2⟩:=hAe2
   subst hA1
   subst hA2
   have hye:qbA x.exprs 0=y:=by rw [qbA,List.getD_eq_getElem?_getD,hy];rfl
   have hye2:qbA x.exprs 1=y2:=by rw [qbA,List.getD_eq_getElem?_getD,hy2];rfl
   rw [sX_2 hk2,hye,hye2] at hq
   refine Sr<|At Z Z<|Zs<|qa2 qad 13 Z 3 ?_
   intro s10 h10
   refine za 1 Z (qan Z) Z<|za 2 Z (qan Z) Z<|za 3 Z (We Y4) Z<|za 4 Z (Wd 2 Y5) Z<|za 5 Z (qap Z Z Z Z Z Z h0n) Z<|za 6 Z (qau Z Z Z (hcE.le h10) Z) Z<|qax 0 V<|qe3 Z Tt (qag 3 [_,_,_,_,_,_,_,_,_,_,_,_] Z Z Z Z Z) Z<|qax 7 V<|Jb Z Tt Z Z Z (AC.frR (fun L=>hE L _ c N fl d e9 fi f y A9 n9 c9 fv _ _ _ _ _ (hC.le (h1.t h2|>.t h3|>.t h6|>.t h8|>.t h10)) hf hfl (hyX.le h10) hyu (hxo.exprs y (List.mem_of_getElem? hy)) (hM.le (h1.t h2|>.t h3|>.t h6|>.t h8|>.t h10)) (qaW hq hr)) [_,_,_,_] _) ?_
   rintro _ _ s11 h11 ⟨u11,iv11,ov11,lf11,ca11,va11,dn11,so11,cd11,M11,rfl,rfl,ok11,fn11⟩
   refine ⟨(fun x hx _=>qkt hx),?_⟩
   simp only [cQ9,nQ9]
   refine za 8 Z (qan Z) Z<|za 9 Z (qaX Z Z) Z<|za 10 Z (qaX Z Z) Z<|qax 11 V<|Wu Z Tt 3 [_,_,_,_,_,_,_,_,_,_,_,_] Y9 (sM (qdC (sb0 _)))<|za 12 Z (qaM Z) Z<|qal V<|Zt<|Zs<|Sr<|Wb Y5<|Wl 3 Y6<|Nt<|?_
   refine qcf Z (fun c12=>?_) (fun c12=>?_)
   ·
    obtain rfl:=c12
    have hF:=fn11 rfl
    refine Sr<|qac (qag 3 [_,_,_,_,_,_,_,_,_,_,_,_] Z Z Z Z Z) Z<|Wt 1 [_,_,_,_,_,_,_,_,_,_,_,_] Y9<|At Z Z<|Zo<|Zu<|Zu<|?_
    refine rR [_,_,_,_] _ (.agg (us:=[_,_,_,_,_,_,_,_,_,_,_,_]) 1 Z Z Z Z Z (.t1 Z)) Z (h1.t h2|>.t h3|>.t h6|>.t h8|>.t h10|>.t h11) fun _ hS2=>?_
    exact ⟨0,(_,_,_),(_,_,_),_,_,_,true,_,_,M11,rfl,rfl,fun h=>(by cases h),fun _=>hF.and hq⟩
   obtain rfl:dn11=false:=by assumption
   obtain ⟨i8,m2,q1,hw8,rfl,rfl,rfl,rfl,hM2⟩:=ok11 rfl
   obtain ⟨rfl,hi1u⟩:=hw8
   rw [q1] at hq
   simp only [ER.and] at hq
   have hi10:=hi1u.1
   have hi11:=hi1u.2
   obtain ⟨ba,ca9,bA,iA,eav,hkg,hcA,hal2,hsz,huA,hbiA,_⟩:=hM2.ary (hC.le (h1.t h2|>.t h3|>.t h6|>.t h8|>.t h10|>.t h11)) hp g3
   rw [show qd1 p x.name m2=m2.arr.getD k [] from by rw [qd1,hgl,Int.toNat_natCast]] at hq
   refine Zk<|Zt<|Zs<|Sr<|Zqm Z Z<|qac (qbl Z Z Z Z Z (qsx O O)) Z<|Wb Y5<|qac (qae (Wd 3 Y5) (congrArg mkS eav)) Z<|Wb Y5<|qac (qae (Wd 0 Y5) (by rw [hme])) Z<|qac (qas Z Z Z Z Z Z hkg) Z<|qac (qah Z Z Z (hcA.le (Lr D)) Z) Z<|Ws Y4<|qac (qbl Z Z Z Z Z (qsx O O)) Z<|qfa Z Z Z<|Nt<|?_
   refine qaa Z (fun c13=>?_) (fun c13=>?_)
   ·
    rw [if_pos (by have:=c13;omega)] at hq
    refine Sr<|qac (qag 3 [_,_,_,_,_,_,_,_,_,_,_,_] Z Z Z Z Z) Z<|Jc Z Z Z (qb8 D _ _ _ _ _ _ _ _ _ _ _ _ _ _ _ _ _ _ _ _ _ _ _ _ _ _ _ _) ?_
    rintro _ _ s14 h14 ⟨rfl,rfl⟩
    refine Wt 1 [_,_,_,_,_,_,_,_,_,_,_,_] Y9<|At Z Z<|Zo<|Zu<|Zu<|?_
    refine rR [_,_,_,_] _ (.agg (us:=[_,_,_,_,_,_,_,_,_,_,_,_]) 1 Z Z Z Z Z (.t1 Z)) Z (h1.t h2|>.t h3|>.t h6|>.t h8|>.t h10|>.t h11|>.t h14) fun _ hS2=>?_
    exact ⟨0,(_,_,_),(_,_,_),_,_,_,true,_,_,M11,rfl,rfl,fun h=>(by cases h),fun _=>hM2.fin hq⟩
   have g9:=c13
   rw [if_neg O] at hq
   refine Zk<|Zt<|Sr<|At Z Z<|Zs<|qa2 qad 13 Z 3 ?_
   intro s15 h15
   refine za 1 Z (qan Z) Z<|za 2 Z (qan Z) Z<|za 3 Z (We Y4) Z<|za 4 Z (Wd 2 Y5) Z<|za 5 Z (qap Z Z Z Z Z Z h1n) Z<|za 6 Z (qau Z Z Z (hcE2.le (h10.t h11|>.t h15)) Z) Z<|qax 0 V<|qe3 Z Tt (qag 3 [_,_,_,_,_,_,_,_,_,_,_,_] Z Z Z Z Z) Z<|qax 7 V ?_
   refine Jb Z Tt Z Z Z (AC.frR (fun L=>hE L _ c N fl d e9b fi f y2 A8 n8 c8 fv _ _ _ _ _ (hC.le (h1.t h2|>.t h3|>.t h6|>.t h8|>.t h10|>.t h11|>.t h15)) hf hfl (hy2X.le (h10.t h11|>.t h15)) hy2u (hxo.exprs y2 (List.mem_of_getElem? hy2)) (hM2.le h15) (qaW hq hr)) [_,_,_,_] _) ?_
   rintro _ _ s16 h16 ⟨u16,iv16,ov16,lf16,ca16,va16,dn16,so16,cd16,M16,rfl,rfl,ok16,fn16⟩
   refine ⟨(fun x hx _=>qkt hx),?_⟩
   simp only [cQ9,nQ9]
   refine za 8 Z (qan Z) Z<|za 9 Z (qaX Z Z) Z<|za 10 Z (qaX Z Z) Z<|qax 11 V<|Wu Z Tt 3 [_,_,_,_,_,_,_,_,_,_,_,_] Y9 (sM (qdC (sb0 _)))<|za 12 Z (qaM Z) Z<|qal V<|Zt<|Zs<|Sr<|Wb Y5<|Wl 3 Y6<|qbV Z Z<|Nt<|?_
   refine qcH Z (fun c17=>?_) (fun c17=>?_)
   ·
    obtain rfl:dn16=false:=by assumption
    obtain ⟨v8,m3,q1,hw8,rfl,rfl,rfl,rfl,hM3⟩:=ok16 rfl
    obtain ⟨rfl,hv1u⟩:=hw8
    rw [q1] at hq
    simp only [ER.and] at hq
    obtain ⟨ba2,ca92,bA2,iA2,eav2,_,hcA2,hal3,_,_,hbiA2,hset⟩:=hM3.ary (hC.le (h1.t h2|>.t h3|>.t h6|>.t h8|>.t h10|>.t h11|>.t h15|>.t h16)) hp g3
    rw [hgl,Int.toNat_natCast,show qd1 p x.name m3=m3.arr.getD k [] from by rw [qd1,hgl,Int.toNat_natCast]] at hq
    obtain ⟨R9,hs9,hM9⟩:=hset (u11).toNat u16 hv1u
    refine Zr<|Wb Y5<|qac (qae (Wd 3 Y5) (congrArg mkS eav2)) Z<|Wb Y5<|qac (qae (Wd 0 Y5) (by rw [hme])) Z<|qac (qas Z Z Z Z Z Z hkg) Z<|qac (qah Z Z Z (hcA2.le (Lr D)) Z) Z<|Zqm Z Z<|Zqm Z Z<|qac (qdz Z Z Z Z Z Z hi10 (show u11 < ((g.num.toNat:Nat):Int) by omega)) Z<|qro (iA2+4) _ Z Z (at4 (hbiA2 L)) Z Z (qfN hi10 O) Z (qfx _ hi10 O) (congrArg (fun z=>_::_::_::_::z) (hs9 L))<|Nt<|Sr<|qac (qag 3 [_,_,_,_,_,_,_,_,_,_,_,_] Z Z Z Z Z) Z ?_
    refine Wt 1 [_,_,_,_,_,_,_,_,_,_,_,_] Y9<|At Z Z<|Zo<|Zu<|?_
    refine rR [_,_,_,_] _ (.agg (us:=[_,_,_,_,_,_,_,_,_,_,_,_]) 1 Z Z Z Z Z (.t1 Z)) Z (h1.t h2|>.t h3|>.t h6|>.t h8|>.t h10|>.t h11|>.t h15|>.t h16) fun _ hS2=>?_
    exact ⟨0,(_,_,_),(_,_,_),_,_,_,false,_,_,R9,rfl,rfl,fun _=>⟨_,_,hq,w00,rfl,rfl,rfl,rfl,hM9.le ((Lr D).t hS2)⟩,fun h=>(by cases h)⟩
   refine Zk<|Zt<|Sr<|qac (qag 3 [_,_,_,_,_,_,_,_,_,_,_,_] Z Z Z Z Z) Z<|Wt 1 [_,_,_,_,_,_,_,_,_,_,_,_] Y9<|At Z Z<|Zo<|Zu<|?_
   refine rR [_,_,_,_] _ (.agg (us:=[_,_,_,_,_,_,_,_,_,_,_,_]) 1 Z Z Z Z Z (.t1 Z)) Z (h1.t h2|>.t h3|>.t h6|>.t h8|>.t h10|>.t h11|>.t h15|>.t h16) fun _ hS2=>?_
   obtain rfl:dn16=true:=by assumption
   exact ⟨0,(_,_,_),(_,_,_),_,_,_,true,_,_,M16,rfl,rfl,fun h=>(by cases h),fun _=>(fn16 rfl).and hq⟩
  refine Zk<|Zt<|Sr<|At Z Z<|Zs<|?_
  rcases (by omega:x.kind=1∨x.kind=5) with hk1 | hk5
  ·
   have hl1:=hl1 O
   rw [sX_1 hk1 hl1] at hq
   refine Zr<|qac (qag 3 [_,_,_,_,_,_,_,_,_,_,_,_] Z Z Z Z Z) Z<|Zqm Z Z<|Zqm Z Z<|Wb Y5<|Wl 2 Y6<|Jc Z Z Z (AC.frR (fun L=>qbP p D n hE L _ c N fl d e fi f x.exprs A1 n1 c1 fv _ _ _ _ R (hC.le (h1.t h2|>.t h3|>.t h6|>.t h8)) hf hfl (hM.le (h1.t h2|>.t h3|>.t h6|>.t h8)) (hX1.le (h1.t h2|>.t h3|>.t h6|>.t h8)) hxo.exprs O (qaW hq hr)) [_,_,_,_] _) ?_
   rintro _ _ s19 h19 ⟨⟨Aw,nw,cw⟩,iv19,ov19,lf19,ca19,va19,dn19,so19,cd19,M19,rfl,rfl,ok19,fn19⟩
   simp only [cQ9,nQ9]
   refine Zqm Z Z<|Zqx Z Z Z<|Zqx Z Z Z<|Wt 3 [_,_,_,_,_,_,_,_,_,_,_,_] Y9<|At Z Z<|Zs<|Sr<|Wb Y5<|Wl 3 Y6<|Nt<|?_
   refine qcf Z (fun c20=>?_) (fun c20=>?_)
   ·
    obtain rfl:=c20
    have hF:=fn19 rfl
    refine Sr<|qac (qag 3 [_,_,_,_,_,_,_,_,_,_,_,_] Z Z Z Z Z) Z<|Wt 1 [_,_,_,_,_,_,_,_,_,_,_,_] Y9<|At Z Z<|Zo<|Zu<|?_
    refine rR [_,_,_,_] _ (.agg (us:=[_,_,_,_,_,_,_,_,_,_,_,_]) 1 Z Z Z Z Z (.t1 Z)) Z (h1.t h2|>.t h3|>.t h6|>.t h8|>.t h19) fun _ hS2=>?_
    exact ⟨0,(_,_,_),(_,_,_),_,_,_,true,_,_,M19,rfl,rfl,fun h=>(by cases h),fun _=>hF.and hq⟩
   obtain rfl:=c20
   obtain ⟨vs,m2,he2,hW2,rfl,rfl,rfl,rfl,hM2⟩:=ok19 rfl
   rw [he2] at hq
   simp only [ER.and] at hq
   have hvl:=qcg he2
   have hW2:Wds _ Aw nw cw vs:=hW2
   have hnw:=hW2.1
   dsimp only [mkS]
   obtain ⟨bw,ow,x0,hAw,hx0,hcw,hx0u⟩:=Wds.at_ hW2 (show 0 < nw by omega)
   subst hAw
   have e0:=qcU hx0
   rw [e0] at hq
   have hx00:=hx0u.1
   have hx01:=hx0u.2
   refine Zk<|Zt<|Zs<|Sr<|W0 Y5<|Wl 2 Y6<|Nt<|Zp<|Sr<|qac (qae (v':=.bool true) (qa9 Z Z) (bT hk1)) Z<|At Z Z<|Zy Z<|Sr<|W0 Y5<|Wl 0 Y6<|qar Z Z Z<|Nt<|?_
   refine qaa Z (fun c21=>?_) (fun c21=>?_)
   ·
    obtain ⟨hns,k,g,hme,hgl,hp,g2⟩:=(sd1 hPK hxo hk1).resolve_left (fun h=>by have:=c21;rcases h.1 with h | h <;> omega)
    obtain ⟨b,cap,ys,i,e1,hkg,hbi,hnt,hu9,hbl,hset⟩:=hM2.var hC.pu hp
    obtain ⟨ws,R9,hws,hs9,hM9⟩:=hset x0 hx0u O
    rw [qmz,if_neg hns,hgl,Int.toNat_natCast] at hq
    refine qa2 qad 9 Z 4 ?_
    intro s22 h22
    refine za 0 Z (We Y4) Z<|za 1 Z (qae (Wd 3 Y5) (congrArg mkS e1)) Z<|za 2 Z (We Y4) Z<|za 3 Z (qae (Wd 0 Y5) (by rw [hme])) Z<|za 4 Z (qan Z) Z<|za 5 Z (qas Z Z Z Z Z Z (show 0 < nw by omega)) Z<|za 6 Z (qah Z Z Z (hcw.le h22) Z) Z<|za 7 Z (qas Z Z Z Z Z Z hkg) Z<|qax 8 V<|qf9 Z Tt (i+4) _ Z Z (at4 (hbi L)) Z Z hbl Z hws (congrArg (fun z=>_::_::_::_::z) (hs9 L)) (fun x hx=>qum hx)<|qal V<|Zb<|Zt<|Sr<|?_
    refine qac (qag 3 [_,_,_,_,_,_,_,_,_,_,_,_] Z Z Z Z Z) Z<|Wt 1 [_,_,_,_,_,_,_,_,_,_,_,_] Y9<|At Z Z<|Zo<|?_
    refine rR [_,_,_,_] _ (.agg (us:=[_,_,_,_,_,_,_,_,_,_,_,_]) 1 Z Z Z Z Z (.t1 Z)) Z (h1.t h2|>.t h3|>.t h6|>.t h8|>.t h19|>.t h22) fun _ hS2=>?_
    exact ⟨0,(_,_,_),(_,_,_),_,_,_,false,_,_,R9,rfl,rfl,fun _=>⟨_,_,hq,w00,rfl,rfl,rfl,rfl,hM9.le (h22.t hS2)⟩,fun h=>(by cases h)⟩
   obtain ⟨hk12,j,hsl,hjl⟩:=(sd1 hPK hxo hk1).resolve_right (fun ⟨_,k,g,h,_⟩=>c21 (by rw [h]))
   obtain ⟨b,cap,ys,i,e1,hbi,hnt,hu9,hbl,hset⟩:=hM2.slt (k:=j) O
   obtain ⟨ws,R9,hws,hs9,hM9⟩:=hset x0 hx0u
   rw [qmz,if_pos O,hsl,Int.toNat_natCast] at hq
   refine qa2 qad 11 Z 4 ?_
   intro s24 h24
   refine za 0 Z (qae (qan Z) e1) Z<|za 1 Z (qbp Z Z Z Z) Z<|za 2 Z (qag 3 [_,_] Z Z Z Z Z) Z<|za 3 Z (qan Z) Z<|za 4 Z (qag 0 [_,_] Z Z Z Z Z) Z<|za 6 Z (qan Z) Z<|za 7 Z (qas Z Z Z Z Z Z (show 0 < nw by omega)) Z<|za 8 Z (qah Z Z Z (hcw.le h24) Z) Z<|qax 5 V<|Jb Z Tt Z Z Z (qiK D _ _ d p c.Ag _ c.ng c.cg c.nf c.cf (hC.gl.le (h1.t h2|>.t h3|>.t h6|>.t h8|>.t h19|>.t h24)) (hC.fn.le (h1.t h2|>.t h3|>.t h6|>.t h8|>.t h19|>.t h24)) fi f hf _ _ j (by rw [qhG hk12];exact hsl) O) ?_
   rintro _ _ s25 h25 ⟨rfl,rfl⟩
   refine ⟨fun _ _ h=>h,?_⟩
   refine za 9 Z (qas Z Z Z Z Z Z (show j < fl by omega)) Z<|qax 10 V<|qf9 Z Tt (i+4) _ Z Z (at4 (hbi L)) Z Z hbl Z hws (congrArg (fun z=>_::_::_::_::z) (hs9 L)) (fun x hx=>qum hx)<|qal V<|Zb<|Zt<|Sr<|qac (qag 3 [_,_,_,_,_,_,_,_,_,_,_,_] Z Z Z Z Z) Z<|Wt 1 [_,_,_,_,_,_,_,_,_,_,_,_] Y9<|At Z Z<|Zo<|?_
   refine rR [_,_,_,_] _ (.agg (us:=[_,_,_,_,_,_,_,_,_,_,_,_]) 1 Z Z Z Z Z (.t1 Z)) Z (h1.t h2|>.t h3|>.t h6|>.t h8|>.t h19|>.t h24|>.t h25) fun _ hS2=>?_
   exact ⟨0,(_,_,_),(_,_,_),_,_,_,false,_,_,R9,rfl,rfl,fun _=>⟨_,_,hq,w00,rfl,rfl,rfl,rfl,hM9.le (h24.t h25|>.t hS2)⟩,fun h=>(by cases h)⟩
  obtain ⟨k,fk,hme5,hgl5,hpk,hal5⟩:=sd5 hPK hxo hk5
  rw [sX_5 hk5,hgl5,Int.toNat_natCast] at hq
  refine Zr<|qac (qag 3 [_,_,_,_,_,_,_,_,_,_,_,_] Z Z Z Z Z) Z<|Zqm Z Z<|Zqm Z Z<|Wb Y5<|Wl 2 Y6<|Jc Z Z Z (AC.frR (fun L=>qbP p D n hE L _ c N fl d e fi f x.exprs A1 n1 c1 fv _ _ _ _ R (hC.le (h1.t h2|>.t h3|>.t h6|>.t h8)) hf hfl (hM.le (h1.t h2|>.t h3|>.t h6|>.t h8)) (hX1.le (h1.t h2|>.t h3|>.t h6|>.t h8)) hxo.exprs O (qaW hq hr)) [_,_,_,_] _) ?_
  rintro _ _ s27 h27 ⟨⟨Aw,nw,cw⟩,iv27,ov27,lf27,ca27,va27,dn27,so27,cd27,M27,rfl,rfl,ok27,fn27⟩
  simp only [cQ9,nQ9]
  refine Zqm Z Z<|Zqx Z Z Z<|Zqx Z Z Z<|Wt 3 [_,_,_,_,_,_,_,_,_,_,_,_] Y9<|At Z Z<|Zs<|Sr<|Wb Y5<|Wl 3 Y6<|Nt<|?_
  refine qcf Z (fun c28=>?_) (fun c28=>?_)
  ·
   obtain rfl:=c28
   have hF:=fn27 rfl
   refine Sr<|qac (qag 3 [_,_,_,_,_,_,_,_,_,_,_,_] Z Z Z Z Z) Z<|Wt 1 [_,_,_,_,_,_,_,_,_,_,_,_] Y9<|At Z Z<|Zo<|Zu<|?_
   refine rR [_,_,_,_] _ (.agg (us:=[_,_,_,_,_,_,_,_,_,_,_,_]) 1 Z Z Z Z Z (.t1 Z)) Z (h1.t h2|>.t h3|>.t h6|>.t h8|>.t h27) fun _ hS2=>?_
   exact ⟨0,(_,_,_),(_,_,_),_,_,_,true,_,_,M27,rfl,rfl,fun h=>(by cases h),fun _=>hF.and hq⟩
  obtain rfl:=c28
  obtain ⟨vs,m2,he2,hW2,rfl,rfl,rfl,rfl,hM2⟩:=ok27 rfl
  rw [he2] at hq
  simp only [ER.and] at hq
  have hvl:=qcg he2
  have hW2:Wds _ Aw nw cw vs:=hW2
  have hnw:=hW2.1
  dsimp only [mkS]
  refine Zk<|Zt<|Zs<|Sr<|W0 Y5<|Wl 2 Y6<|Nt<|Zp<|Sr<|qac (qae (v':=.bool false) (qa9 Z Z) (bZ O)) Z<|At Z Z<|Zz Z<|Sr<|qac (qae (v':=.bool false) (qa9 Z Z) (bZ O)) Z<|At Z Z<|Zz Z<|Sr<|qac (qae (v':=.bool true) (qa9 Z Z) (bT hk5)) Z<|At Z Z<|Zy Z<|Zr<|qac (qag 3 [_,_,_,_,_,_,_,_,_,_,_,_] Z Z Z Z Z) Z<|Wb Y5<|qac (qae (Wd 0 Y5) (by rw [hme5])) Z<|Zqm Z Z ?_
  refine Jc Z Z Z (AC.frR (fun L=>hK L _ c N fl d k fk vs _ _ _ fv m2 _ _ _ _ (hC.le (h1.t h2|>.t h3|>.t h6|>.t h8|>.t h27)) (hW2.le (Lr D)) hpk O (hM2.le (Lr D)) (qaW hq hr)) [_,_,_,_] _) ?_
  rintro _ _ s29 h29 ⟨u29,iv29,ov29,lf29,ca29,va29,dn29,so29,cd29,M29,rfl,rfl,ok29,fn29⟩
  simp only [cQ9,nQ9]
  refine Zqm Z Z<|Zqx Z Z Z<|Zqx Z Z Z<|Wt 3 [_,_,_,_,_,_,_,_,_,_,_,_] Y9<|Zn<|Zb<|Zt<|Sr<|qac (qag 3 [_,_,_,_,_,_,_,_,_,_,_,_] Z Z Z Z Z) Z<|Wt 1 [_,_,_,_,_,_,_,_,_,_,_,_] Y9<|At Z Z<|Zo<|?_
  refine rR [_,_,_,_] _ (.agg (us:=[_,_,_,_,_,_,_,_,_,_,_,_]) 1 Z Z Z Z Z (.t1 Z)) Z (h1.t h2|>.t h3|>.t h6|>.t h8|>.t h27|>.t h29) fun _ hS2=>?_
  exact ⟨0,iv29,ov29,lf29,ca29,va29,dn29,so29,cd29,M29,rfl,rfl,fun h=>(by obtain ⟨a8,m8,q1,_,q3,q4,q5,q6,q7⟩:=ok29 h;exact ⟨_,m8,by rw [hq,q1] <;> rfl,w00,q3,q4,q5,q6,q7.le ((Lr D).t hS2)⟩),fun h=>(fn29 h).and hq⟩
 have hkn:¬ (x.kind=1∨x.kind=2∨x.kind=5):=fun h=>hnm.2 h c7
 refine Zk<|Zt<|Zs<|Sr<|W0 Y5<|Wl 2 Y6<|qac (qae (v':=.bool false) (qa9 Z Z) (bZ O)) Z<|Nt<|Zz Z<|Zk<|Zt<|Sr<|At Z Z<|Zs<|?_
 rcases (by omega:x.kind=3∨x.kind=6∨x.kind=7∨x.kind=8) with hk3 | hk6 | hk7 | hk8
 ·
  have hl1:=hl1 O
  rw [sX_3 hk3 hl1] at hq
  refine Zr<|qac (qag 3 [_,_,_,_,_,_,_,_,_,_,_,_] Z Z Z Z Z) Z<|Zqm Z Z<|Zqm Z Z<|Wb Y5<|Wl 2 Y6<|Jc Z Z Z (AC.frR (fun L=>qbP p D n hE L _ c N fl d e fi f x.exprs A1 n1 c1 fv _ _ _ _ R (hC.le (h1.t h2|>.t h3|>.t h6)) hf hfl (hM.le (h1.t h2|>.t h3|>.t h6)) (hX1.le (h1.t h2|>.t h3|>.t h6)) hxo.exprs O (qaW hq hr)) [_,_,_,_] _) ?_
  rintro _ _ s30 h30 ⟨⟨Aw,nw,cw⟩,iv30,ov30,lf30,ca30,va30,dn30,so30,cd30,M30,rfl,rfl,ok30,fn30⟩
  simp only [cQ9,nQ9]
  refine Zqm Z Z<|Zqx Z Z Z<|Zqx Z Z Z<|Wt 3 [_,_,_,_,_,_,_,_,_,_,_,_] Y9<|At Z Z<|Zs<|Sr<|Wb Y5<|Wl 3 Y6<|Nt<|?_
  refine qcf Z (fun c31=>?_) (fun c31=>?_)
  ·
   obtain rfl:=c31
   have hF:=fn30 rfl
   refine Sr<|qac (qag 3 [_,_,_,_,_,_,_,_,_,_,_,_] Z Z Z Z Z) Z<|Wt 1 [_,_,_,_,_,_,_,_,_,_,_,_] Y9<|At Z Z<|Zo<|Zu<|?_
   refine rR [_,_,_,_] _ (.agg (us:=[_,_,_,_,_,_,_,_,_,_,_,_]) 1 Z Z Z Z Z (.t1 Z)) Z (h1.t h2|>.t h3|>.t h6|>.t h30) fun _ hS2=>?_
   exact ⟨0,(_,_,_),(_,_,_),_,_,_,true,_,_,M30,rfl,rfl,fun h=>(by cases h),fun _=>hF.and hq⟩
  obtain rfl:=c31
  obtain ⟨vs,m2,he2,hW2,rfl,rfl,rfl,rfl,hM2⟩:=ok30 rfl
  rw [he2] at hq
  simp only [ER.and] at hq
  have hvl:=qcg he2
  have hW2:Wds _ Aw nw cw vs:=hW2
  have hnw:=hW2.1
  dsimp only [mkS]
  obtain ⟨bw,ow,x0,hAw,hx0,hcw,hx0u⟩:=Wds.at_ hW2 (show 0 < nw by omega)
  subst hAw
  have e0:=qcU hx0
  rw [e0] at hq
  have hx00:=hx0u.1
  have hx01:=hx0u.2
  refine Zk<|Zt<|Zs<|Sr<|W0 Y5<|Wl 2 Y6<|Nt<|Zp<|Sr<|qac (qae (v':=.bool false) (qa9 Z Z) (bZ O)) Z<|At Z Z<|Zz Z<|Sr<|qac (qae (v':=.bool true) (qa9 Z Z) (bT hk3)) Z<|At Z Z<|Zy Z<|Zs<|Sr<|Zqm Z Z<|qac (qas Z Z Z Z Z Z (show 0 < nw by omega)) Z<|qac (qah Z Z Z (hcw.le (Lr D)) Z) Z<|qb2 Z Z Z<|Nt<|?_
  refine qaP Z (fun c32=>?_) (fun c32=>?_)
  ·
   rw [if_pos c32] at hq
   refine Sr<|qac (qag 3 [_,_,_,_,_,_,_,_,_,_,_,_] Z Z Z Z Z) Z<|Zqm Z Z<|Zqm Z Z<|Wb Y5<|Wl 2 Y6<|Jc Z Z Z (AC.frR (fun L=>hXL L _ c N fl d e fi f x.body A2 n2 c2 fv _ _ _ _ _ (hC.le (h1.t h2|>.t h3|>.t h6|>.t h30)) hf hfl (hX2.le (h1.t h2|>.t h3|>.t h6|>.t h30)) hxo.body (hM2.le (Lr D)) (hq▸hr)) [_,_,_,_] _) ?_
   rintro _ _ s33 h33 ⟨u33,iv33,ov33,lf33,ca33,va33,dn33,so33,cd33,M33,rfl,rfl,ok33,fn33⟩
   simp only [cQ9,nQ9]
   refine Zqx Z Z Z<|Zqx Z Z Z<|Wt 1 [_,_,_,_,_,_,_,_,_,_,_,_] Y9<|At Z Z<|Zo<|Zu<|Zc<|Zu<|?_
   refine rR [_,_,_,_] _ (.agg (us:=[_,_,_,_,_,_,_,_,_,_,_,_]) 1 Z Z Z Z Z (.t1 Z)) Z (h1.t h2|>.t h3|>.t h6|>.t h30|>.t h33) fun _ hS2=>?_
   exact ⟨u33,iv33,ov33,lf33,ca33,va33,dn33,so33,cd33,M33,rfl,rfl,fun h=>(by obtain ⟨a8,m8,q1,q2,q3,q4,q5,q6,q7⟩:=ok33 h;exact ⟨a8,m8,hq.trans q1,q2,q3,q4,q5,q6,q7.le ((Lr D).t hS2)⟩),fun h=>(by obtain ⟨m8,q1,q2⟩:=fn33 h;exact ⟨m8,hq.trans q1,q2⟩)⟩
  rw [if_neg (fun h=>h c32)] at hq
  refine Zk<|Zt<|Sr<|qac (qag 3 [_,_,_,_,_,_,_,_,_,_,_,_] Z Z Z Z Z) Z<|Zqm Z Z<|Zqm Z Z<|Wb Y5<|Wl 2 Y6<|Jc Z Z Z (AC.frR (fun L=>hXL L _ c N fl d e fi f x.els A3 n3 c3 fv _ _ _ _ _ (hC.le (h1.t h2|>.t h3|>.t h6|>.t h30)) hf hfl (hX3.le (h1.t h2|>.t h3|>.t h6|>.t h30)) hxo.els (hM2.le (Lr D)) (hq▸hr)) [_,_,_,_] _) ?_
  rintro _ _ s34 h34 ⟨u34,iv34,ov34,lf34,ca34,va34,dn34,so34,cd34,M34,rfl,rfl,ok34,fn34⟩
  simp only [cQ9,nQ9]
  refine Zqx Z Z Z<|Zqx Z Z Z<|Wt 1 [_,_,_,_,_,_,_,_,_,_,_,_] Y9<|At Z Z<|Zo<|Zc<|Zu<|?_
  refine rR [_,_,_,_] _ (.agg (us:=[_,_,_,_,_,_,_,_,_,_,_,_]) 1 Z Z Z Z Z (.t1 Z)) Z (h1.t h2|>.t h3|>.t h6|>.t h30|>.t h34) fun _ hS2=>?_
  exact ⟨u34,iv34,ov34,lf34,ca34,va34,dn34,so34,cd34,M34,rfl,rfl,fun h=>(by obtain ⟨a8,m8,q1,q2,q3,q4,q5,q6,q7⟩:=ok34 h;exact ⟨a8,m8,hq.trans q1,q2,q3,q4,q5,q6,q7.le ((Lr D).t hS2)⟩),fun h=>(by obtain ⟨m8,q1,q2⟩:=fn34 h;exact ⟨m8,hq.trans q1,q2⟩)⟩
 ·
  have hl1:=hl1 O
  rw [sX_6 hk6 hl1] at hq
  refine Zr<|qac (qag 3 [_,_,_,_,_,_,_,_,_,_,_,_] Z Z Z Z Z) Z<|Zqm Z Z<|Zqm Z Z<|Wb Y5<|Wl 2 Y6<|Jc Z Z Z (AC.frR (fun L=>qbP p D n hE L _ c N fl d e fi f x.exprs A1 n1 c1 fv _ _ _ _ R (hC.le (h1.t h2|>.t h3|>.t h6)) hf hfl (hM.le (h1.t h2|>.t h3|>.t h6)) (hX1.le (h1.t h2|>.t h3|>.t h6)) hxo.exprs O (qaW hq hr)) [_,_,_,_] _) ?_
  rintro _ _ s35 h35 ⟨⟨Aw,nw,cw⟩,iv35,ov35,lf35,ca35,va35,dn35,so35,cd35,M35,rfl,rfl,ok35,fn35⟩
  simp only [cQ9,nQ9]
  refine Zqm Z Z<|Zqx Z Z Z<|Zqx Z Z Z<|Wt 3 [_,_,_,_,_,_,_,_,_,_,_,_] Y9<|At Z Z<|Zs<|Sr<|Wb Y5<|Wl 3 Y6<|Nt<|?_
  refine qcf Z (fun c36=>?_) (fun c36=>?_)
  ·
   obtain rfl:=c36
   have hF:=fn35 rfl
   refine Sr<|qac (qag 3 [_,_,_,_,_,_,_,_,_,_,_,_] Z Z Z Z Z) Z<|Wt 1 [_,_,_,_,_,_,_,_,_,_,_,_] Y9<|At Z Z<|Zo<|Zu<|?_
   refine rR [_,_,_,_] _ (.agg (us:=[_,_,_,_,_,_,_,_,_,_,_,_]) 1 Z Z Z Z Z (.t1 Z)) Z (h1.t h2|>.t h3|>.t h6|>.t h35) fun _ hS2=>?_
   exact ⟨0,(_,_,_),(_,_,_),_,_,_,true,_,_,M35,rfl,rfl,fun h=>(by cases h),fun _=>hF.and hq⟩
  obtain rfl:=c36
  obtain ⟨vs,m2,he2,hW2,rfl,rfl,rfl,rfl,hM2⟩:=ok35 rfl
  rw [he2] at hq
  simp only [ER.and] at hq
  have hvl:=qcg he2
  have hW2:Wds _ Aw nw cw vs:=hW2
  have hnw:=hW2.1
  dsimp only [mkS]
  obtain ⟨bw,ow,x0,hAw,hx0,hcw,hx0u⟩:=Wds.at_ hW2 (show 0 < nw by omega)
  subst hAw
  have e0:=qcU hx0
  rw [e0] at hq
  have hx00:=hx0u.1
  have hx01:=hx0u.2
  refine Zk<|Zt<|Zs<|Sr<|W0 Y5<|Wl 2 Y6<|Nt<|Zp<|Sr<|qac (qae (v':=.bool false) (qa9 Z Z) (bZ O)) Z<|At Z Z<|Zz Z<|Sr<|qac (qae (v':=.bool false) (qa9 Z Z) (bZ O)) Z<|At Z Z<|Zz Z<|Sr<|qac (qae (v':=.bool false) (qa9 Z Z) (bZ O)) Z<|At Z Z<|Zz Z<|Sr<|qac (qae (v':=.bool true) (qa9 Z Z) (bT hk6)) Z<|At Z Z<|Zy Z<|Sr<|Zqm Z Z<|qac (qas Z Z Z Z Z Z (show 0 < nw by omega)) Z ?_
  refine qac (qah Z Z Z (hcw.le (Lr D)) Z) Z<|Wb Y5<|Wt 3 [_,_,_,_,_,_,_,_,_,_,_,_] Y9<|Nt<|Sr<|qac (qag 3 [_,_,_,_,_,_,_,_,_,_,_,_] Z Z Z Z Z) Z<|Wt 1 [_,_,_,_,_,_,_,_,_,_,_,_] Y9<|At Z Z<|Zo<|Zc<|Zu<|?_
  refine rR [_,_,_,_] _ (.agg (us:=[_,_,_,_,_,_,_,_,_,_,_,_]) 1 Z Z Z Z Z (.t1 Z)) Z (h1.t h2|>.t h3|>.t h6|>.t h35) fun _ hS2=>?_
  exact ⟨3,(_,_,_),(_,_,_),_,_,_,false,_,_,M35,rfl,rfl,fun _=>⟨_,_,hq,⟨rfl,hx0u,fun _=>rfl,fun h=>absurd rfl h⟩,rfl,rfl,rfl,rfl,hM2.le ((Lr D).t hS2)⟩,fun h=>(by cases h)⟩
 ·
  have hl1:=hl1 O
  rw [sX_7 hk7 hl1] at hq
  refine Zr<|qac (qag 3 [_,_,_,_,_,_,_,_,_,_,_,_] Z Z Z Z Z) Z<|Zqm Z Z<|Zqm Z Z<|Wb Y5<|Wl 2 Y6<|Jc Z Z Z (AC.frR (fun L=>qbP p D n hE L _ c N fl d e fi f x.exprs A1 n1 c1 fv _ _ _ _ R (hC.le (h1.t h2|>.t h3|>.t h6)) hf hfl (hM.le (h1.t h2|>.t h3|>.t h6)) (hX1.le (h1.t h2|>.t h3|>.t h6)) hxo.exprs O (qaW hq hr)) [_,_,_,_] _) ?_
  rintro _ _ s37 h37 ⟨⟨Aw,nw,cw⟩,iv37,ov37,lf37,ca37,va37,dn37,so37,cd37,M37,rfl,rfl,ok37,fn37⟩
  simp only [cQ9,nQ9]
  refine Zqm Z Z<|Zqx Z Z Z<|Zqx Z Z Z<|Wt 3 [_,_,_,_,_,_,_,_,_,_,_,_] Y9<|At Z Z<|Zs<|Sr<|Wb Y5<|Wl 3 Y6<|Nt<|?_
  refine qcf Z (fun c38=>?_) (fun c38=>?_)
  ·
   obtain rfl:=c38
   have hF:=fn37 rfl
   refine Sr<|qac (qag 3 [_,_,_,_,_,_,_,_,_,_,_,_] Z Z Z Z Z) Z<|Wt 1 [_,_,_,_,_,_,_,_,_,_,_,_] Y9<|At Z Z<|Zo<|Zu<|?_
   refine rR [_,_,_,_] _ (.agg (us:=[_,_,_,_,_,_,_,_,_,_,_,_]) 1 Z Z Z Z Z (.t1 Z)) Z (h1.t h2|>.t h3|>.t h6|>.t h37) fun _ hS2=>?_
   exact ⟨0,(_,_,_),(_,_,_),_,_,_,true,_,_,M37,rfl,rfl,fun h=>(by cases h),fun _=>hF.and hq⟩
  obtain rfl:=c38
  obtain ⟨vs,m2,he2,hW2,rfl,rfl,rfl,rfl,hM2⟩:=ok37 rfl
  rw [he2] at hq
  simp only [ER.and] at hq
  have hvl:=qcg he2
  have hW2:Wds _ Aw nw cw vs:=hW2
  have hnw:=hW2.1
  dsimp only [mkS]
  obtain ⟨bw,ow,x0,hAw,hx0,hcw,hx0u⟩:=Wds.at_ hW2 (show 0 < nw by omega)
  subst hAw
  have e0:=qcU hx0
  rw [e0] at hq
  have hx00:=hx0u.1
  have hx01:=hx0u.2
  obtain ⟨Mo,Mg,Mf,Kj,hpR,hO,hOg,hOf⟩:=hM2.own
  have hon:=qf1 hO
  have hlo2:=hM2.lo
  refine Zk<|Zt<|Zs<|Sr<|W0 Y5<|Wl 2 Y6<|Nt<|Zp<|Sr<|qac (qae (v':=.bool false) (qa9 Z Z) (bZ O)) Z<|At Z Z<|Zz Z<|Sr<|qac (qae (v':=.bool false) (qa9 Z Z) (bZ O)) Z<|At Z Z<|Zz Z<|Sr<|qac (qae (v':=.bool false) (qa9 Z Z) (bZ O)) Z<|At Z Z<|Zz Z<|Sr<|qac (qae (v':=.bool false) (qa9 Z Z) (bZ O)) Z<|At Z Z<|Zz Z<|Sr<|qac (qae (v':=.bool true) (qa9 Z Z) (bT hk7)) Z ?_
  refine At Z Z<|Zy Z<|Zs<|Sr<|Wb Y5<|Wl 3 Y6<|Ws Y4<|qar Z Z Z<|Nt ?_
  refine qaa Z (fun c39=>?_) (fun c39=>?_)
  ·
   rw [if_pos (by have:=c39;omega)] at hq
   refine Sr<|qac (qag 3 [_,_,_,_,_,_,_,_,_,_,_,_] Z Z Z Z Z) Z<|Jc Z Z Z (qb8 D _ _ _ _ _ _ _ _ _ _ _ _ _ _ _ _ _ _ _ _ _ _ _ _ _ _ _ _) ?_
   rintro _ _ s40 h40 ⟨rfl,rfl⟩
   refine Wt 1 [_,_,_,_,_,_,_,_,_,_,_,_] Y9<|At Z Z<|Zo<|Zu<|Zc<|Zu<|?_
   refine rR [_,_,_,_] _ (.agg (us:=[_,_,_,_,_,_,_,_,_,_,_,_]) 1 Z Z Z Z Z (.t1 Z)) Z (h1.t h2|>.t h3|>.t h6|>.t h37|>.t h40) fun _ hS2=>?_
   exact ⟨0,(_,_,_),(_,_,_),_,_,_,true,_,_,M37,rfl,rfl,fun h=>(by cases h),fun _=>hM2.fin hq⟩
  have g9:=c39
  rw [if_neg O] at hq
  refine Zk<|Zt<|qdG (List.Perm.append_left [_,_,_,_] (List.Perm.append_right L hpR)) ?_
  simp only [List.cons_append,List.nil_append,List.append_assoc]
  refine qa2 qad 11 Z 3 ?_
  intro s41 h41
  refine za 0 Z (We Y4) Z<|za 2 Z (qan Z) Z<|za 3 Z (qas Z Z Z Z Z Z (show 0 < nw by omega)) Z<|za 4 Z (qah Z Z Z (hcw.le h41) Z) Z<|za 5 Z (qhD Z Z O) Z<|za 6 Z (qae (qdI Z Z Z Z Z) (congrArg (Value.int .u8) (u8r hx0u))) Z ?_
  refine qfl 1 7 V ?_ ?_
  ·
   refine qe3 Z Tt (Wd 3 Y5) Z<|qax 7 V<|qhX Z Tt [(_,_)] [_] Z Z Z Z Z Z Z Z Z ?_
   intro β42 s42 h42 hc42
   refine qax 8 V<|qe7 Z Tt (sz:=1) [_,_,_,_] Mo _ Z Z Z Z Z Z Z hO (Row.of_cells (hc42.le (Lr D)) Z Z) ⟨by simp [ti5];omega,by omega⟩ Z (fun A2 x hx _=>qkt hx) ?_
   intro v9 M9 s43 h43 oq
   obtain ⟨A8,c8,rfl,_,_⟩:=Own.slice oq
   simp only [cQ9,nQ9]
   refine za 9 Z (We Y4) Z<|qax 10 V<|Wu Z Tt 3 [_,_,_,_,_,_,_,_,_,_,_,_] Y9 (sM (qdC (sb0 _)))<|qal V<|Zb<|Zt<|Sr<|qac (qag 3 [_,_,_,_,_,_,_,_,_,_,_,_] Z Z Z Z Z) Z<|Wt 1 [_,_,_,_,_,_,_,_,_,_,_,_] Y9<|At Z Z<|Zo<|?_
   refine rR [_,_,_,_] _ (.agg (us:=[_,_,_,_,_,_,_,_,_,_,_,_]) 1 Z Z Z Z Z (.t1 Z)) Z (h1.t h2|>.t h3|>.t h6|>.t h37|>.t h41|>.t h42|>.t h43) fun _ hS2=>?_
   refine ⟨0,(_,_,_),(_,_,_),_,_,_,false,_,_,M9++(Mg++(Mf++(qb1 c.ab m2.arr++Kj))),Z,by simp only [List.append_assoc,List.nil_append] <;> rfl,fun _=>⟨_,_,hq,w00,Z,Z,Z,Z,?_⟩,fun h=>(by cases h)⟩
   exact (hM2.put hOg hOf O (by rw [List.length_append,qu6];exact oq)).le (h41.t h42|>.t h43|>.t hS2)
  refine qhX Z Tt [(_,_)] [_] Z Z Z Z Z Z Z Z Z ?_
  intro β44 s44 h44 hc44
  refine qax 1 V<|qe3 Z Tt (Wd 3 Y5) Z<|qax 8 V<|qe7 Z Tt (sz:=1) [_,_,_,_] Mo _ Z Z Z Z Z Z Z hO (Row.of_cells (hc44.le (Lr D)) Z Z) ⟨by simp [ti5];omega,by omega⟩ Z (fun A2 x hx _=>qkt hx) ?_
  intro v9 M9 s45 h45 oq
  obtain ⟨A8,c8,rfl,_,_⟩:=Own.slice oq
  simp only [cQ9,nQ9]
  refine za 9 Z (We Y4) Z<|qax 10 V<|Wu Z Tt 3 [_,_,_,_,_,_,_,_,_,_,_,_] Y9 (sM (qdC (sb0 _)))<|qal V<|Zb<|Zt<|Sr<|qac (qag 3 [_,_,_,_,_,_,_,_,_,_,_,_] Z Z Z Z Z) Z<|Wt 1 [_,_,_,_,_,_,_,_,_,_,_,_] Y9<|At Z Z<|Zo<|?_
  refine rR [_,_,_,_] _ (.agg (us:=[_,_,_,_,_,_,_,_,_,_,_,_]) 1 Z Z Z Z Z (.t1 Z)) Z (h1.t h2|>.t h3|>.t h6|>.t h37|>.t h41|>.t h44|>.t h45) fun _ hS2=>?_
  refine ⟨0,(_,_,_),(_,_,_),_,_,_,false,_,_,M9++(Mg++(Mf++(qb1 c.ab m2.arr++Kj))),Z,by simp only [List.append_assoc,List.nil_append] <;> rfl,fun _=>⟨_,_,hq,w00,Z,Z,Z,Z,?_⟩,fun h=>(by cases h)⟩
  exact (hM2.put hOg hOf O (by rw [List.length_append,qu6];exact oq)).le (h41.t h44|>.t h45|>.t hS2)
 have hl1:=hl1 O
 rw [sX_8 hk8 hl1] at hq
 refine Zr<|qac (qag 3 [_,_,_,_,_,_,_,_,_,_,_,_] Z Z Z Z Z) Z<|Zqm Z Z<|Zqm Z Z<|Wb Y5<|Wl 2 Y6<|Jc Z Z Z (AC.frR (fun L=>qbP p D n hE L _ c N fl d e fi f x.exprs A1 n1 c1 fv _ _ _ _ R (hC.le (h1.t h2|>.t h3|>.t h6)) hf hfl (hM.le (h1.t h2|>.t h3|>.t h6)) (hX1.le (h1.t h2|>.t h3|>.t h6)) hxo.exprs O (qaW hq hr)) [_,_,_,_] _) ?_
 rintro _ _ s46 h46 ⟨⟨Aw,nw,cw⟩,iv46,ov46,lf46,ca46,va46,dn46,so46,cd46,M46,rfl,rfl,ok46,fn46⟩
 simp only [cQ9,nQ9]
 refine Zqm Z Z<|Zqx Z Z Z<|Zqx Z Z Z<|Wt 3 [_,_,_,_,_,_,_,_,_,_,_,_] Y9<|At Z Z<|Zs<|Sr<|Wb Y5<|Wl 3 Y6<|Nt<|?_
 refine qcf Z (fun c47=>?_) (fun c47=>?_)
 ·
  obtain rfl:=c47
  have hF:=fn46 rfl
  refine Sr<|qac (qag 3 [_,_,_,_,_,_,_,_,_,_,_,_] Z Z Z Z Z) Z<|Wt 1 [_,_,_,_,_,_,_,_,_,_,_,_] Y9<|At Z Z<|Zo<|Zu<|?_
  refine rR [_,_,_,_] _ (.agg (us:=[_,_,_,_,_,_,_,_,_,_,_,_]) 1 Z Z Z Z Z (.t1 Z)) Z (h1.t h2|>.t h3|>.t h6|>.t h46) fun _ hS2=>?_
  exact ⟨0,(_,_,_),(_,_,_),_,_,_,true,_,_,M46,rfl,rfl,fun h=>(by cases h),fun _=>hF.and hq⟩
 obtain rfl:=c47
 obtain ⟨vs,m2,he2,hW2,rfl,rfl,rfl,rfl,hM2⟩:=ok46 rfl
 rw [he2] at hq
 simp only [ER.and] at hq
 have hvl:=qcg he2
 have hW2:Wds _ Aw nw cw vs:=hW2
 have hnw:=hW2.1
 dsimp only [mkS]
 obtain ⟨bw,ow,x0,hAw,hx0,hcw,hx0u⟩:=Wds.at_ hW2 (show 0 < nw by omega)
 subst hAw
 have e0:=qcU hx0
 rw [e0] at hq
 have hx00:=hx0u.1
 have hx01:=hx0u.2
 refine Zk<|Zt<|Zs<|Sr<|W0 Y5<|Wl 2 Y6<|Nt<|Zp<|Sr<|qac (qae (v':=.bool false) (qa9 Z Z) (bZ O)) Z<|At Z Z<|Zz Z<|Sr<|qac (qae (v':=.bool false) (qa9 Z Z) (bZ O)) Z<|At Z Z<|Zz Z<|Sr<|qac (qae (v':=.bool false) (qa9 Z Z) (bZ O)) Z<|At Z Z<|Zz Z<|Sr<|qac (qae (v':=.bool false) (qa9 Z Z) (bZ O)) Z<|At Z Z<|Zz Z<|Sr<|qac (qae (v':=.bool false) (qa9 Z Z) (bZ O)) Z ?_
 refine At Z Z<|Zz Z<|Sr<|qac (qae (v':=.bool true) (qa9 Z Z) (bT hk8)) Z<|At Z Z<|Zy Z<|Zs<|qbJ qad 7 Z [1] (by intro x hx;exact qaY hx) ?_
 intro s48 h48
 refine za 0 Z (qag 2 [_,_,_,_,_,_,_,_,_,_,_,_] Z Z Z Z Z) Z<|za 1 Z (qan Z) Z<|za 2 Z (qas Z Z Z Z Z Z (show 0 < nw by omega)) Z<|za 3 Z (qah Z Z Z (hcw.le h48) Z) Z<|qax 4 V<|Jb Z Tt Z Z Z (qb8 D _ _ _ _ _ _ _ _ _ _ _ _ _ _ _ _ _ _ _ _ _ _ _ _ _ _ _ _) ?_
 rintro _ _ s49 h49 ⟨rfl,rfl⟩
 refine ⟨fun _ _ h=>h,?_⟩
 refine qax 5 V<|Wu Z Tt 1 [_,_,_,_,_,_,_,_,_,_,_,_] Y9 (sM (qdC (sbE _)))<|za 6 Z (qaM Z) Z<|qal V<|Zt<|Zo<|Zc<|Zu<|?_
 refine rR [_,_,_,_] _ (.agg (us:=[_,_,_,_,_,_,_,_,_,_,_,_]) 1 Z Z Z Z Z (.t1 Z)) Z (h1.t h2|>.t h3|>.t h6|>.t h46|>.t h48|>.t h49) fun _ hS2=>?_
 exact ⟨0,(_,_,_),(_,_,_),_,_,_,true,_,_,M46,rfl,rfl,fun h=>(by cases h),fun _=>hM2.fin hq⟩
theorem pmC{R Mo Mg Mf Ar K Mk L:Hl}(h:R.Perm (Mo++(Mg++(Mf++(Ar++K))))):(Mk++(R++L)).Perm ((Mk++(Mo++(Mg++(Ar++K))))++(Mf++L)):=by
 rw [List.append_assoc]
 refine List.Perm.append_left Mk ((h.append_right L).trans ?_)
 simp only [List.append_assoc]
 refine List.Perm.append_left Mo (List.Perm.append_left Mg ?_)
 have:=List.perm_append_comm_assoc Mf (Ar++K) L
 simpa only [List.append_assoc] using this
theorem pmD{Mk Mo Mg Ar K:Hl}:(Mk++(Mo++(Mg++(Ar++K)))).Perm (Mo++(Mg++(Mk++(Ar++K)))):=
 (List.perm_append_comm_assoc Mk Mo _).trans (List.Perm.append_left Mo (List.perm_append_comm_assoc Mk Mg _))
theorem MR.call{p:Prg}{c:DN}{N fl fl':Nat}{fv vk:Value}{m:MS}{iv ov:Slc}{R:Hl}{s:World}(h:MR p c N fl fv m iv ov R s){Mo Mg Mk K:Hl}{l:List Int}(hO:FL.Own 5 1 Mo (mkS ov) m.out.length (bv m.out))(hOg:FL.Own 29 1 Mg (mkS c.vv) p.globals.length (wv (vrs p m.glo)))(hOk:FL.Own 29 1 Mk vk fl' (wv l))(hl:l.length=fl')(hu:∀ x∈l,U32 x)(hc:¬ m.calls=100):MR p c N fl' vk { m with frm:=l,calls:=m.calls+1 } iv ov (Mk++(Mo++(Mg++(qb1 c.ab m.arr++K)))) s:=⟨h.inp,⟨Mo,Mg,Mk,K,pmD,hO,hOg,hOk⟩,h.ug,hu,h.ua,h.lg,hl,h.lb,h.la,h.ar,h.lo,by have:=h.lc;show m.calls+1≤100;omega,h.ll,h.lN⟩
theorem MR.back{p:Prg}{c:DN}{N fl fl':Nat}{fv vk:Value}{m m0:MS}{iv ov iv0 ov0:Slc}{R R0 Mf:Hl}{s s0:World}(h:MR p c N fl' vk m iv ov R s)(h0:MR p c N fl fv m0 iv0 ov0 R0 s0)(hOf:FL.Own 29 1 Mf fv fl (wv m0.frm)):MR p c N fl fv { m with frm:=m0.frm,calls:=m0.calls } iv ov (R++Mf) s:=by
 obtain ⟨Mo,Mg,Mk,K,h1,h2,h3,h4⟩:=h.own
 refine ⟨h.inp,⟨Mo,Mg,Mf,K++Mk,(h1.append_right Mf).trans ?_,h2,h3,hOf⟩,h.ug,h0.uf,h.ua,h.lg,h0.lf,h.lb,h.la,h.ar,h.lo,h0.lc,h.ll,h.lN⟩
 simp only [List.append_assoc]
 refine List.Perm.append_left Mo (List.Perm.append_left Mg ?_)
 have e1:=List.perm_append_comm (l₁:=Mk++(qb1 c.ab m.arr++K)) (l₂:=Mf)
 have e2:=List.Perm.append_left Mf (List.perm_append_comm (l₁:=Mk) (l₂:=qb1 c.ab m.arr++K))
 simpa only [List.append_assoc] using e1.trans e2
structure FG where
 k:Nat
 v:Value
 M:Hl
theorem qqc{vs:List Int}{a b:Nat}(h:vs.length=a):vs++List.replicate b 0=qft (a+b) vs:=by
 rw [qft,List.take_of_length_le O,show a+b - vs.length=b by omega]
theorem qnF(p:Prg)(D n:Nat)(hXL:XLr p D n)(L:Hl)(s:World)(c:DN)(N fl d k:Nat)(fk:Fnc)(vs:List Int)(A:Option Addr)(n1 c1:Nat)(fv:Value)(m:MS)(iv ov:Slc)(va:Int)(R:Hl)(hC:CR p d c s)(hW:Wds s A n1 c1 vs)(hp:p.funcs[k]?=some fk)(hl:vs.length=fk.params.length)(hM:MR p c N fl fv m iv ov R s)(hr:(sem p OPp (n+1)).c k vs m≠.out):AC Tryz.prog D 29 [.agg #[.slice c.Ag c.ng c.cg,.slice c.Af c.nf c.cf,.slice c.vv.1 c.vv.2.1 c.vv.2.2,.slice c.av.1 c.av.2.1 c.av.2.2,.slice iv.1 iv.2.1 iv.2.2,.slice ov.1 ov.2.1 ov.2.2,.int .i64 (m.left:Int),.int .i64 (m.calls:Int),.int .u32 va,.bool false,.int .i64 0,.int .u32 0],.int .i64 (k:Int),.slice A n1 c1] (R++L) s (okR p c N fl fv ((sem p OPp (n+1)).c k vs m) (Value.int .u32) WE [] L):=by
 obtain ⟨r,hq⟩:∃ r,r=(sem p OPp (n+1)).c k vs m:=⟨_,rfl⟩
 rw [← hq] at hr ⊢
 change r=cX p (sem p OPp n) k vs m at hq
 rw [qs3 hp] at hq
 have hn1:=hW.1
 have hkl:=(List.getElem?_eq_some_iff.1 hp).1
 have hkF:k < c.nf:=by rw [hC.fn.1];exact hkl
 obtain ⟨bF,oF,x9,B1,m1,d1,B2,m2,d2,B3,m3,d3,hAf,hx9,hcF,hpx,hlx,hbx,_⟩:=Fncs.at_ hC.fn hkF
 obtain rfl:fk=x9:=Option.some.inj (hp.symm.trans hx9)
 have hf9:=hC.ok.sz fk (List.mem_of_getElem? hp)
 have hcl:=hM.lc
 have hm2:=hlx.1
 refine qai (fn:=Tryz.f29) qao Tryz.func29 V Z Tryz.ntmps29 Z (rs:=[.cell 6 73,.tmp 7]) Z [(0,_),(1,_),(2,_)] Z<|Sr<|qaq Z Z ?_
 intro β1 s1 h1
 refine qaj Z [_,_,_,_,_,_,_,_,_,_,_,_] Z Z ?_
 intro β2 s2 h2
 refine At Z Z<|Zs<|Sr<|Wb Y5<|Wl 1 Y6<|qar Z Z Z<|Nt<|?_
 refine qaa Z (fun c3=>?_) (fun c3=>?_)
 ·
  have q9:=c3
  refine Sr<|qac (qag 1 [_,_,_,_,_,_,_,_,_,_,_,_] Z Z Z Z Z) Z<|Jc Z Z Z (qb8 D _ _ _ _ _ _ _ _ _ _ _ _ _ _ _ _ _ _ _ _ _ _ _ _ _ _ _ _) ?_
  rintro _ _ s4 h4 ⟨rfl,rfl⟩
  refine Wt 0 [_,_,_,_,_,_,_,_,_,_,_,_] Y9<|At Z Z<|Zo<|Zu<|?_
  refine rR [_,_] _ (.agg (us:=[_,_,_,_,_,_,_,_,_,_,_,_]) 0 Z Z Z Z Z (.t1 Z)) Z (h1.t h2|>.t h4) fun _ hS2=>?_
  exact ⟨0,(_,_,_),(_,_,_),_,_,_,true,_,_,R,rfl,rfl,fun h=>(by cases h),fun _=>hM.fin (by rw [hq,if_pos O])⟩
 have q9:¬ m.calls=100:=by have:=c3;omega
 rw [if_neg q9] at hq
 refine Zk<|Zt<|Sr<|Wb Y5<|Wl 1 Y6<|qac (qae (qaR Z Z (w64 O O)) (congrArg (Value.int .i64) (show (m.calls:Int)+1=((m.calls+1:Nat):Int) by omega))) Z<|Wb Y5<|Wt 1 [_,_,_,_,_,_,_,_,_,_,_,_] Y9<|Nt<|Sr<|At Z Z<|Sr<|Zqm Z Z<|Zqm Z Z<|qba (sz:=1) [_,_] [] _ Z Z Z Z Z Z Z .nil (hW.row.le (h1.t h2)) ⟨by simp [ti29];omega,by omega⟩ Z ?_
 intro v9 M9 s5 h5 oq
 simp only [Nat.zero_add,List.nil_append] at oq
 obtain ⟨A8,c8,rfl,_,_⟩:=Own.slice oq
 simp only [cQ9,nQ9]
 refine At Z Z<|Zs<|Sr<|At Z Z<|Zp<|qav (γ:=FG) (fun g=>[(1,_),(3,_),(6,_),(7,_),(8,g.v),(9,.int .i64 (g.k:Int))]) (fun g=>_::_::(g.M++(R++L))) (fun g tw=>Le D s5 tw∧(g.k≤m2∧FL.Own 29 1 g.M g.v (n1+g.k) (wv (vs++List.replicate g.k 0)))) (fun g=>m2 - g.k) (fun _ _ _ h hl=>⟨h.1.trans hl,⟨h.2.1,h.2.2⟩⟩) ⟨0,_,M9⟩ (.c6 Z Z Z Z Z Z (.nil _)) Z ⟨Le.refl _,⟨Nat.zero_le _,by rw [List.replicate_zero,List.append_nil];exact oq⟩⟩ ?_
 intro g s6 I6
 obtain ⟨j,vk,Mk⟩:=g
 obtain ⟨hj0,hOk⟩:=I6.2
 simp only at hj0 hOk
 obtain ⟨Av,cv,rfl,_,_⟩:=Own.slice hOk
 dsimp only
 refine Zs<|Sr<|Zqm Z Z<|W0 Y5<|Wb Y5<|qac (qae (Wd 1 Y5) (congrArg (fun a=>Value.slice a c.nf c.cf) hAf)) Z<|Zqm Z Z<|qac (qap Z Z Z Z Z Z hkF) Z<|qac (qbs Z Z Z Z) Z<|qac (qaC 2 Z Z Z (hcF.le (h1.t h2|>.t h5|>.t I6.1)) Z) Z<|Ws Y4<|qbh Z Z Z<|Nt<|?_
 refine qaa Z (fun c7=>?_) (fun c7=>?_)
 ·
  have hj:j < m2:=by omega
  refine Zk<|Zt<|Zs<|Zp<|Zr<|Zqm Z Z<|qbk [(_,_)] [_] Z Z Z Z Z Z Z Z Z ?_
  intro β8 s8 h8 hc8
  refine qba (sz:=1) [_,_] Mk _ Z Z Z Z Z Z Z hOk (Row.of_cells (hc8.le (Lr D)) Z Z) ⟨by simp [ti29];omega,by omega⟩ Z ?_
  intro v8 M8 s9 h9 oq8
  obtain ⟨A8,c8,rfl,_,_⟩:=Own.slice oq8
  simp only [cQ9,nQ9]
  refine Zqa Z Z<|Zn<|Zb<|Zt<|Zr<|Zqm Z Z<|qaF Z Z Z (w64 O O)<|Zqa Z Z<|Zn<|?_
  refine qab ⟨⟨j+1,_,M8⟩,[],kp,Z,⟨(I6.1.t h8|>.t h9),⟨by show j+1≤m2;omega,by rw [List.replicate_succ',← List.append_assoc,qsy];exact oq8⟩⟩,(by show m2 - (j+1) < m2 - j;omega)⟩
 obtain rfl:m2=j:=by omega
 have hO8:FL.Own 29 1 Mk (.slice Av (n1+m2) cv) (fk.params.length+fk.locals.length) (wv (qft (fk.params.length+fk.locals.length) vs)):=by
   rw [← qqc hl,← hm2,← hl,← hn1];exact hOk
 refine Zl<|Zv<|Zv<|Zd<|Zt<|Sr<|At Z Z<|Zs<|?_
 obtain ⟨Mo,Mg,Mf,Kj,hpR,hO,hOg,hOf⟩:=hM.own
 refine qdG (.cons _ (.cons _ (pmC hpR)))<|qay qad 16 Z ([]:Hl) (fun x hx=>by cases hx) ?_
 intro s10 h10
 refine za 1 Z (qan Z) Z<|za 2 Z (qan Z) Z<|za 3 Z (qbp Z Z Z Z) Z<|za 4 Z (We Y4) Z<|za 6 Z (qan Z) Z ?_
 refine qfl 0 5 V ?_ ?_
 ·
  refine qe3 Z Tt (qag 1 [_,_,_,_,_,_,_,_,_,_,_,_] Z Z Z Z Z) Z<|qax 5 V<|qe3 Z Tt (qae (Wd 1 Y5) (congrArg (fun a=>Value.slice a c.nf c.cf) hAf)) Z<|za 7 Z (qap Z Z Z Z Z Z hkF) Z<|za 8 Z (qbs Z Z Z Z) Z<|za 9 Z (qaC 3 Z Z Z (hcF.le (h1.t h2|>.t h5|>.t I6.1|>.t h10)) Z) Z<|qax 10 V ?_
  refine Jb Z Tt Z Z Z (AC.frR (fun L=>hXL L _ c N (fk.params.length+fk.locals.length) d d k fk fk.body B3 m3 d3 _ { m with frm:=qft (fk.params.length+fk.locals.length) vs,calls:=m.calls+1 } _ _ _ _ (hC.le (h1.t h2|>.t h5|>.t I6.1|>.t h10)) hp Z (hbx.le (h1.t h2|>.t h5|>.t I6.1|>.t h10)) (hC.ok.st (List.mem_of_getElem? hp)).1 ((hM.le (h1.t h2|>.t h5|>.t I6.1|>.t h10)).call hO hOg hO8 (qf2 O) (qkF hW.u32) q9) (qaW hq hr)) [_,_] _) ?_
  rintro _ _ s11 h11 ⟨u11,iv11,ov11,lf11,ca11,va11,dn11,so11,cd11,M11,rfl,rfl,ok11,fn11⟩
  refine ⟨(fun x hx=>by cases hx),?_⟩
  simp only [cQ9,nQ9]
  refine za 11 Z (qan Z) Z<|za 12 Z (qaX Z Z) Z<|za 13 Z (qaX Z Z) Z<|qax 14 V<|Wu Z Tt 1 [_,_,_,_,_,_,_,_,_,_,_,_] Y9 (fun x hx=>by cases hx)<|za 15 Z (qaM Z) Z<|qal V<|Zt<|Sr<|Wb Y5<|Wl 1 Y6<|qac (qfO Z Z) Z<|Wb Y5<|Wt 1 [_,_,_,_,_,_,_,_,_,_,_,_] Y9<|Nt<|Zs<|Sr<|Zqm Z Z<|qar Z Z Z<|Nt<|?_
  refine qaa Z (fun c12=>?_) (fun c12=>?_)
  ·
   have g57:=c12
   refine Zs<|qbJ qad 5 Z [0] (by intro x hx;exact qaY hx) ?_
   intro s13 h13
   refine za 0 Z (qag 0 [_,_,_,_,_,_,_,_,_,_,_,_] Z Z Z Z Z) Z<|za 1 Z (We Y4) Z<|za 2 Z (Wd 0 Y5) Z<|qax 3 V<|Wu Z Tt 0 [_,_,_,_,_,_,_,_,_,_,_,_] Y9 (sM (sbY (sbE _)))<|za 4 Z (qaM Z) Z<|qal V<|Zt<|Zo<|Zu<|?_
   refine rR [_,_] _ (.agg (us:=[_,_,_,_,_,_,_,_,_,_,_,_]) 0 Z Z Z Z Z (.t1 Z)) Z (h1.t h2|>.t h5|>.t I6.1|>.t h10|>.t h11|>.t h13) fun _ hS2=>?_
   refine ⟨va11,iv11,ov11,lf11,_,va11,dn11,so11,cd11,M11++Mf,Z,by simp only [List.append_assoc,List.nil_append] <;> rfl,fun h=>?_,fun h=>?_⟩
   · obtain ⟨y8,m8,q1,⟨q2,q3,q4,q5⟩,q6,q7,q8,q9,q10⟩:=ok11 h
     have hck:m8.calls=m.calls+1:=qlN q1
     rw [q1] at hq
     simp only [ER.and] at hq
     exact ⟨_,_,hq,⟨(by rw [if_pos (by rw [← q2];exact g57)];exact q4 (by rw [← q2];exact g57)),by split;exact q3;exact ⟨by decide,by decide⟩⟩,q6,(by rw [q7,hck,w64 O O];show _=(m.calls:Int);omega),q8,q9,(q10.back hM hOf).le (h13.t hS2)⟩
   · obtain ⟨m8,q1,q2,q3,q4,Mo9,K9,q5,q6⟩:=fn11 h
     exact ⟨m8,qbt hq q1,q2,q3,q4,Mo9,K9++Mf,by rw [← List.append_assoc];exact q5.append_right Mf,q6⟩
  have g57:=c12
  refine Zk<|Zt<|Sr<|qac (qag 1 [_,_,_,_,_,_,_,_,_,_,_,_] Z Z Z Z Z) Z<|Wt 0 [_,_,_,_,_,_,_,_,_,_,_,_] Y9<|At Z Z<|Zo<|?_
  refine rR [_,_] _ (.agg (us:=[_,_,_,_,_,_,_,_,_,_,_,_]) 0 Z Z Z Z Z (.t1 Z)) Z (h1.t h2|>.t h5|>.t I6.1|>.t h10|>.t h11) fun _ hS2=>?_
  refine ⟨0,iv11,ov11,lf11,_,va11,dn11,so11,cd11,M11++Mf,Z,by simp only [List.append_assoc,List.nil_append] <;> rfl,fun h=>?_,fun h=>?_⟩
  · obtain ⟨y8,m8,q1,⟨q2,q3,q4,q5⟩,q6,q7,q8,q9,q10⟩:=ok11 h
    have hck:m8.calls=m.calls+1:=qlN q1
    rw [q1] at hq
    simp only [ER.and] at hq
    exact ⟨_,_,hq,⟨(by rw [if_neg (by rw [← q2];exact g57)]),by split;exact q3;exact ⟨by decide,by decide⟩⟩,q6,(by rw [q7,hck,w64 O O];show _=(m.calls:Int);omega),q8,q9,(q10.back hM hOf).le ((Lr D).t hS2)⟩
  · obtain ⟨m8,q1,q2,q3,q4,Mo9,K9,q5,q6⟩:=fn11 h
    exact ⟨m8,qbt hq q1,q2,q3,q4,Mo9,K9++Mf,by rw [← List.append_assoc];exact q5.append_right Mf,q6⟩
 refine qe3 Z Tt (qae (Wd 1 Y5) (congrArg (fun a=>Value.slice a c.nf c.cf) hAf)) Z<|za 7 Z (qap Z Z Z Z Z Z hkF) Z<|za 8 Z (qbs Z Z Z Z) Z<|za 9 Z (qaC 3 Z Z Z (hcF.le (h1.t h2|>.t h5|>.t I6.1|>.t h10)) Z) Z<|qax 0 V<|qe3 Z Tt (qag 1 [_,_,_,_,_,_,_,_,_,_,_,_] Z Z Z Z Z) Z<|qax 10 V ?_
 refine Jb Z Tt Z Z Z (AC.frR (fun L=>hXL L _ c N (fk.params.length+fk.locals.length) d d k fk fk.body B3 m3 d3 _ { m with frm:=qft (fk.params.length+fk.locals.length) vs,calls:=m.calls+1 } _ _ _ _ (hC.le (h1.t h2|>.t h5|>.t I6.1|>.t h10)) hp Z (hbx.le (h1.t h2|>.t h5|>.t I6.1|>.t h10)) (hC.ok.st (List.mem_of_getElem? hp)).1 ((hM.le (h1.t h2|>.t h5|>.t I6.1|>.t h10)).call hO hOg hO8 (qf2 O) (qkF hW.u32) q9) (qaW hq hr)) [_,_] _) ?_
 rintro _ _ s14 h14 ⟨u14,iv14,ov14,lf14,ca14,va14,dn14,so14,cd14,M14,rfl,rfl,ok14,fn14⟩
 refine ⟨(fun x hx=>by cases hx),?_⟩
 simp only [cQ9,nQ9]
 refine za 11 Z (qan Z) Z<|za 12 Z (qaX Z Z) Z<|za 13 Z (qaX Z Z) Z<|qax 14 V<|Wu Z Tt 1 [_,_,_,_,_,_,_,_,_,_,_,_] Y9 (fun x hx=>by cases hx)<|za 15 Z (qaM Z) Z<|qal V<|Zt<|Sr<|Wb Y5<|Wl 1 Y6<|qac (qfO Z Z) Z<|Wb Y5<|Wt 1 [_,_,_,_,_,_,_,_,_,_,_,_] Y9<|Nt<|Zs<|Sr<|Zqm Z Z<|qar Z Z Z<|Nt<|?_
 refine qaa Z (fun c15=>?_) (fun c15=>?_)
 ·
  have g57:=c15
  refine Zs<|qbJ qad 5 Z [0] (by intro x hx;exact qaY hx) ?_
  intro s16 h16
  refine za 0 Z (qag 0 [_,_,_,_,_,_,_,_,_,_,_,_] Z Z Z Z Z) Z<|za 1 Z (We Y4) Z<|za 2 Z (Wd 0 Y5) Z<|qax 3 V<|Wu Z Tt 0 [_,_,_,_,_,_,_,_,_,_,_,_] Y9 (sM (sbY (sbE _)))<|za 4 Z (qaM Z) Z<|qal V<|Zt<|Zo<|Zu<|?_
  refine rR [_,_] _ (.agg (us:=[_,_,_,_,_,_,_,_,_,_,_,_]) 0 Z Z Z Z Z (.t1 Z)) Z (h1.t h2|>.t h5|>.t I6.1|>.t h10|>.t h14|>.t h16) fun _ hS2=>?_
  refine ⟨va14,iv14,ov14,lf14,_,va14,dn14,so14,cd14,M14++Mf,Z,by simp only [List.append_assoc,List.nil_append] <;> rfl,fun h=>?_,fun h=>?_⟩
  · obtain ⟨y8,m8,q1,⟨q2,q3,q4,q5⟩,q6,q7,q8,q9,q10⟩:=ok14 h
    have hck:m8.calls=m.calls+1:=qlN q1
    rw [q1] at hq
    simp only [ER.and] at hq
    exact ⟨_,_,hq,⟨(by rw [if_pos (by rw [← q2];exact g57)];exact q4 (by rw [← q2];exact g57)),by split;exact q3;exact ⟨by decide,by decide⟩⟩,q6,(by rw [q7,hck,w64 O O];show _=(m.calls:Int);omega),q8,q9,(q10.back hM hOf).le (h16.t hS2)⟩
  · obtain ⟨m8,q1,q2,q3,q4,Mo9,K9,q5,q6⟩:=fn14 h
    exact ⟨m8,qbt hq q1,q2,q3,q4,Mo9,K9++Mf,by rw [← List.append_assoc];exact q5.append_right Mf,q6⟩
 have g57:=c15
 refine Zk<|Zt<|Sr<|qac (qag 1 [_,_,_,_,_,_,_,_,_,_,_,_] Z Z Z Z Z) Z<|Wt 0 [_,_,_,_,_,_,_,_,_,_,_,_] Y9<|At Z Z<|Zo<|?_
 refine rR [_,_] _ (.agg (us:=[_,_,_,_,_,_,_,_,_,_,_,_]) 0 Z Z Z Z Z (.t1 Z)) Z (h1.t h2|>.t h5|>.t I6.1|>.t h10|>.t h14) fun _ hS2=>?_
 refine ⟨0,iv14,ov14,lf14,_,va14,dn14,so14,cd14,M14++Mf,Z,by simp only [List.append_assoc,List.nil_append] <;> rfl,fun h=>?_,fun h=>?_⟩
 · obtain ⟨y8,m8,q1,⟨q2,q3,q4,q5⟩,q6,q7,q8,q9,q10⟩:=ok14 h
   have hck:m8.calls=m.calls+1:=qlN q1
   rw [q1] at hq
   simp only [ER.and] at hq
   exact ⟨_,_,hq,⟨(by rw [if_neg (by rw [← q2];exact g57)]),by split;exact q3;exact ⟨by decide,by decide⟩⟩,q6,(by rw [q7,hck,w64 O O];show _=(m.calls:Int);omega),q8,q9,(q10.back hM hOf).le ((Lr D).t hS2)⟩
 · obtain ⟨m8,q1,q2,q3,q4,Mo9,K9,q5,q6⟩:=fn14 h
   exact ⟨m8,qbt hq q1,q2,q3,q4,Mo9,K9++Mf,by rw [← List.append_assoc];exact q5.append_right Mf,q6⟩
theorem qgT(p:Prg)(D:Nat):∀ n,EVr p D n∧CLr p D n∧XLr p D n∧WLr p D n:=fun n=>by
 induction n using Nat.strongRecOn with
 | _ n ih=>
  have hX:XLr p D n:=fun L s c N fl d e fi f xs A n1 c1 fv m iv ov va R hC hf hfl hX hO hM hr=>qnh p D n L s c N fl d e fi f (fun j hj=>by
   obtain ⟨i1,i2,i3,i4⟩:=ih j O
   exact ⟨fun L s c N fl d e fi f x A1 n1 c1 A2 n2 c2 A3 n3 c3 fv m iv ov va R hC hf hfl hX1 hX2 hX3 hxo hM hk4 hr=>qlz p D j i1 i2 i3 L s c N fl d e fi f x A1 n1 c1 A2 n2 c2 A3 n3 c3 fv m iv ov va R hC hf hfl hM hX1 hX2 hX3 hxo hk4 hr,i4⟩) xs A n1 c1 fv m iv ov va R hC hf hfl hM hX hO hr
  cases n with
  | zero=>exact ⟨fun L s c N fl d e fi f x A n1 c1 fv m iv ov va R _ _ _ _ _ _ _ hr=>absurd rfl hr,fun L s c N fl d k fk vs A n1 c1 fv m iv ov va R _ _ _ _ _ hr=>absurd rfl hr,hX,fun L s c N fl d e fi f x A1 n1 c1 A2 n2 c2 A3 n3 c3 fv m iv ov va R _ _ _ _ _ _ _ _ _ hr=>absurd rfl hr⟩
  | succ n=>
   obtain ⟨i1,i2,i3,i4⟩:=ih n O
   exact ⟨fun L s c N fl d e fi f x A n1 c1 fv m iv ov va R hC hf hfl hX hu hxo hM hr=>qn7 p D n i1 i2 L s c N fl d e fi f x A n1 c1 fv m iv ov va R hC hf hfl hM hX hu hxo hr,
    fun L s c N fl d k fk vs A n1 c1 fv m iv ov va R hC hW hp hl hM hr=>qnF p D n i3 L s c N fl d k fk vs A n1 c1 fv m iv ov va R hC hW hp hl hM hr,hX,
    fun L s c N fl d e fi f x A1 n1 c1 A2 n2 c2 A3 n3 c3 fv m iv ov va R hC hf hfl hX1 hX2 _ hxo hM hk4 hr=>qlk p D (n+1) L s c N fl d e fi f (fun j hj=>⟨(ih j hj).1,(ih j hj).2.2.1⟩) x A1 n1 c1 A2 n2 c2 A3 n3 c3 fv m iv ov va R hC hf hfl hM hX1 hX2 hxo hk4 hr⟩
def gv0(g:Glo):Int:=if g.kind=1 then g.num else 0
theorem qu4(p:Prg):vrs p (List.replicate p.globals.length 0)=p.globals.map gv0:=by
 refine List.ext_getElem? fun j=>?_
 rw [vrs,List.getElem?_zipWith,List.getElem?_map]
 by_cases h:j < p.globals.length
 · rw [List.getElem?_eq_getElem h,List.getElem?_replicate,if_pos h];rfl
 · rw [List.getElem?_eq_none O];rfl
structure BG where
 k:Nat
 vv:Slc
 av:Slc
 Mg:Hl
 Ma:Hl
 ab:List (Option Nat)
def qlu(l:List Int)(n j:Nat):List Int:=l.take j++List.replicate (n - j) 0
theorem qu3(l:List Int)(n:Nat):List.replicate n (Value.int .u32 0)=wv (qlu l n 0):=by simp [qlu,wv]
theorem qkA{l:List Int}{n j:Nat}(hj:j≤l.length)(hn:l.length≤n):(qlu l n j).length=n:=by simp [qlu];omega
theorem qry{l:List Int}{n j:Nat}{y:Int}(hy:l[j]?=some y)(hn:l.length≤n):qbN (wv (qlu l n j)) (0+j) [.int .u32 y]=wv (qlu l n (j+1)):=by
 have hj:j < l.length:=(List.getElem?_eq_some_iff.1 hy).1
 have hl:=qkA (l:=l) (n:=n) (j:=j) O hn
 rw [Nat.zero_add,qdf _ _ _ (by simp [wv,hl];omega)]
 simp only [wv,qlu,List.map_append,List.map_take,List.map_replicate]
 rw [List.take_append_of_le_length (by simp;omega),List.take_of_length_le (by simp;omega),List.drop_append,List.drop_eq_nil_of_le (by simp;omega),show (List.take j (List.map (Value.int IntKind.u32) l)).length=j by simp;omega,qaS (l:=List.map (Value.int IntKind.u32) l) (k:=j) (x:=.int .u32 y) (by simp [hy]),List.drop_replicate]
 simp only [List.length_cons,List.length_nil,List.nil_append]
 rw [show n - j - (j+1 - j)=n - (j+1) by omega]
theorem qss{l:List Int}{n:Nat}(hn:l.length≤n):wv (qlu l n l.length)=wv (qft n l):=by
 rw [qlu,qft,List.take_of_length_le (Nat.le_refl _),List.take_of_length_le hn]
theorem qsQ{p:Prg}{Ma:Hl}{v:Slc}{ab:List (Option Nat)}{s:World}(hO:FL.Own 47 1 Ma (mkS v) p.globals.length (qgE ab p.globals))(hp:Pub Ma s)(hak:∀ (k:Nat) (g:Glo),p.globals[k]?=some g→g.kind=3→∃ b,ab[k]?=some (some b))(k:Nat)(g:Glo)(hg:p.globals[k]?=some g)(h3:g.kind=3):∃ ba ca b,v=(some ⟨ba,0,none⟩,p.globals.length,ca)∧ab[k]?=some (some b)∧CellsAt s ba (0+k) [.slice (some ⟨b,0,none⟩) g.num.toNat g.num.toNat]:=by
 have hk:=(List.getElem?_eq_some_iff.1 hg).1
 obtain ⟨b,hb⟩:=hak k g hg h3
 obtain ⟨ba,ca,ys,rfl,e2,h1,_,_⟩:=qlL hO O
 exact ⟨ba,ca,b,qii e2,hb,CellsAt.nth (CellsAt.pre (hp _ _ _ (List.mem_singleton.2 rfl))) (qgS hb hg)⟩
theorem pm30{a w x y z:Nat×Obj}{M N A L:Hl}:(a::w::x::y::z::(M++(N++(A++L)))).Perm (w::x::y::z::(M++(N++(A++a::L)))):=by
 have:=(List.perm_middle (a:=a) (l₁:=w::x::y::z::(M++(N++A))) (l₂:=L)).symm
 simpa only [List.cons_append,List.append_assoc] using this
theorem qqw(D:Nat)(L:Hl)(s:World)(d:Nat)(p:Prg)(Ag Af:Option Addr)(ng cg nf cf:Nat)(hGl:Glos s Ag ng cg p.globals)(hFn:Fncs d s Af nf cf p.funcs)(hok:OKP p)(Ai:Option Addr)(ni qi:Nat)(inp:Str)(hI:Bts s Ai ni qi inp)(hil:inp.length≤400000)(a:Nat)(ha:a≤50000000):AC Tryz.prog D 30 [.agg #[.slice Ag ng cg,.slice Af nf cf],.slice Ai ni qi,.int .i64 (a:Int)] L s fun v L' s'=>∃ (vv av iv:Slc) (ab:List (Option Nat)) (R:Hl),v=.agg #[.slice Ag ng cg,.slice Af nf cf,.slice vv.1 vv.2.1 vv.2.2,.slice av.1 av.2.1 av.2.2,.slice iv.1 iv.2.1 iv.2.2,SN,.int .i64 (a:Int),.int .i64 0,.int .u32 0,.bool false,.int .i64 0,.int .u32 0]∧L'=R++L∧CR p d ⟨Ag,Af,ng,cg,nf,cf,vv,av,ab⟩ s'∧MR p ⟨Ag,Af,ng,cg,nf,cf,vv,av,ab⟩ a 0 SN (qei p inp a) iv (none,0,0) R s':=by
 have hn1:=hGl.1
 have hU:prU p:=⟨hGl.u,hFn.u⟩
 have hni:=hI.1
 have hg64:=hok.1.1
 refine qai (fn:=Tryz.f30) qao Tryz.func30 V Z Tryz.ntmps30 Z (rs:=[.cell 6 73]) Z [(0,_),(1,_),(2,_)] Z<|Sr<|qaq Z Z ?_
 intro β1 s1 h1
 refine qaj Z [_,_,_,_,_,_,_,_,_,_,_,_] Z Z ?_
 intro β2 s2 h2
 refine Nt<|Sr<|qac (qag 1 [_,_] Z Z Z Z Z) Z<|Zqm Z Z<|qac (qam [(_,_),(_,_)] [_,_,_,_,_,_,_,_,_,_,_,_] Z Z Z Z Z Z) Z<|qaj Z [_,_,_,_,_,_,_,_,_,_,_,_] Z Z ?_
 intro β3 s3 h3
 refine Wt 0 [_,_,_,_,_,_,_,_,_,_,_,_] Y9<|Nt<|Sr<|Wb Y5<|Wl 0 Y6<|Zqm Z Z<|qba (sz:=1) [_,_,_] [] _ Z Z Z Z Z Z Z .nil (hI.row.le (h1.t h2|>.t h3)) ⟨by simp [ti5];omega,by omega⟩ Z ?_
 intro v7 M7 s4 h4 oq7
 simp only [Nat.zero_add,List.nil_append] at oq7
 obtain ⟨Ain,cin,rfl,_,_⟩:=Own.slice oq7
 simp only [cQ9,nQ9]
 refine Wb Y5<|Wt 0 [_,_,_,_,_,_,_,_,_,_,_,_] Y9<|Nt<|Zs<|Zs<|qbC [_,_,_] M7 _ ?_
 intro s5 h5 hpub5
 simp only [cQ9,nQ9]
 have hIn:Bts s5 Ain ni cin inp:=Own.bts oq7 hpub5
 refine Zr<|At Z Z<|Zp<|?_
 refine qav (γ:=BG) (fun g=>[(3,_),(6,_),(7,_),(8,.int .i64 (g.k:Int))]) (fun g=>(_,cb [.slice Ag ng cg,.slice Af nf cf,.slice g.vv.1 g.vv.2.1 g.vv.2.2,.slice g.av.1 g.av.2.1 g.av.2.2,.slice Ain ni cin,SN,.int .i64 (a:Int),.int .i64 0,.int .u32 0,.bool false,.int .i64 0,.int .u32 0] 73)::_::_::(g.Mg++(g.Ma++(qb1 g.ab ((qef p).take g.k)++L)))) (fun g tw=>Le D s5 tw∧(g.k≤ng∧g.ab.length=g.k∧FL.Own 29 1 g.Mg (mkS g.vv) g.k (wv ((p.globals.take g.k).map gv0))∧FL.Own 47 1 g.Ma (mkS g.av) g.k (qgE g.ab (p.globals.take g.k))∧∀ (j:Nat) (y:Glo),j < g.k→p.globals[j]?=some y→y.kind=3→∃ b,g.ab[j]?=some (some b))) (fun g=>ng - g.k) (fun _ _ _ h hl=>⟨h.1.trans hl,h.2⟩) ⟨0,(none,0,0),(none,0,0),[],[],[]⟩ (.c4 Z Z Z Z (.nil _)) Z ⟨Le.refl _,⟨Nat.zero_le _,Z,.nil,.nil,fun j y hj=>absurd hj (Nat.not_lt_zero _)⟩⟩ ?_
 intro g s6 I6
 obtain ⟨k,vv,av,Mg,Ma,ab⟩:=g
 obtain ⟨hk0,hab,hOg,hOa,hak⟩:=I6.2
 simp only at hk0 hab hOg hOa hak
 have hog:=qf1 hOg
 have hoa:=qf1 hOa
 dsimp only
 refine Zs<|Sr<|Zqm Z Z<|W0 Y5<|Wl 2 Y6<|Ws Y4<|qbh Z Z Z<|Nt<|?_
 refine qaa Z (fun c7=>?_) (fun c7=>?_)
 ·
  have hk:k < ng:=by omega
  obtain ⟨b,off,x,Aq,nq,cq,hAe,hx,hcx,hix,hux,hnl⟩:=Glos.at_ (hGl.le (h1.t h2|>.t h3|>.t h4|>.t h5|>.t I6.1)) hk
  subst hAe
  have hn9:=hix.1
  refine Zk<|Zt<|Zs<|Zp<|Sr<|W0 Y5<|Wl 2 Y6<|Zqm Z Z<|qac (qap Z Z Z Z Z Z hk) Z<|qac (qau Z Z Z (hcx.le (Lr D)) Z) Z<|qaj Z [_,_,_,_] Z Z ?_
  intro β8 s8 h8
  refine Wt 0 [_,_,_,_] Y9<|Nt<|Sr<|At Z Z<|Zs<|Sr<|W0 Y5<|Wl 0 Y6<|qar Z Z Z<|Nt<|?_
  refine qaa Z (fun c9=>?_) (fun c9=>?_)
  ·
   have g3:x.kind=3:=c9
   have g4:=qs0 (hok.1.2.2.1 x (List.mem_of_getElem? hx)).1 g3
   have g42:=g4.2
   refine Sr<|Wb Y5<|qac (qae (Wd 0 Y5) (congrArg (Value.int .u32) (Int.toNat_of_nonneg hux.1).symm)) Z<|qsO Z Z Z Z Z (by simp [ti29];omega) O Z ?_
   intro βx s10 h10
   refine At Z Z<|Sr<|At Z Z<|Zp<|?_
   rw [qu3 x.init x.num.toNat]
   refine qav (γ:=Nat) (fun g=>[(3,_),(6,_),(7,_),(8,_),(9,_),(10,_),(11,.int .i64 (g:Int))]) (fun g=>(βx,cb (wv (qlu x.init x.num.toNat g)) 29)::_::_::_::_::(Mg++(Ma++(qb1 ab ((qef p).take k)++L)))) (fun g tw=>Le D s10 tw∧(g≤nq)) (fun g=>nq - g) (fun _ _ _ h hl=>⟨h.1.trans hl,h.2⟩) 0 (.c6 Z Z Z Z Z Z (.cons Z (.nil _))) Z ⟨Le.refl _,Nat.zero_le _⟩ ?_
   intro g s11 I11
   have hg0:=I11.2
   refine Zs<|Sr<|Zqm Z Z<|Wb Y5<|Wl 1 Y6<|Ws Y4<|qbh Z Z Z<|Nt<|?_
   refine qaa Z (fun c12=>?_) (fun c12=>?_)
   ·
    have hg:g < nq:=by omega
    obtain ⟨b2,o2,y,hAq,hy,hcy,hyu⟩:=Wds.at_ (hix.le (h8.t h10|>.t I11.1)) hg
    subst hAq
    have hil9:=qkA (l:=x.init) (n:=x.num.toNat) (j:=g) O g4.1
    refine Zk<|Zt<|Zs<|Zp<|Zr<|Zqm Z Z<|Zqm Z Z<|Wb Y5<|Wl 1 Y6<|Zqm Z Z<|qac (qas Z Z Z Z Z Z hg) Z<|qac (qah Z Z Z (hcy.le (Lr D)) Z) Z<|qac (qas Z Z Z Z Z Z (show g < x.num.toNat by omega)) Z<|qro 0 _ Z Z Z Z Z (Nat.ble_eq_true_of_le (by simp only [wv,List.length_map];rw [hil9];show 0+g+1≤_;omega)) Z (qry hy g4.1) Z<|Zn<|Zb<|Zt<|Zr<|Zqm Z Z<|qaF Z Z Z (w64 O O)<|Zqa Z Z<|Zn<|?_
    refine qab ⟨(g+1),[],kp,Z,⟨I11.1,O⟩,O⟩
   obtain rfl:nq=g:=by omega
   refine Zl<|Zv<|Zv<|Zd<|Zt<|Sr<|At Z Z<|Zs<|Sr<|W0 Y5<|Wl 1 Y6<|qac (qae (v':=.bool false) (qa9 Z Z) (bZ O)) Z<|Nt<|Zz Z<|?_
   have gc1:=trivial
   refine Zk<|Zt<|Sr<|Wb Y5<|Wl 2 Y6<|Zqm Z Z<|qbk [(_,_)] [_] Z Z Z Z Z Z Z Z Z ?_
   intro β14 s14 h14 hc14
   refine qba (sz:=1) [_,_,_,_,_] Mg _ Z Z Z Z Z Z Z hOg (Row.of_cells (hc14.le (Lr D)) Z Z) ⟨by simp [ti29];omega,by omega⟩ Z ?_
   intro v8 M8 s15 h15 oq8
   obtain ⟨A8,c8,rfl,_,_⟩:=Own.slice oq8
   simp only [cQ9,nQ9]
   refine Wb Y5<|Wt 2 [_,_,_,_,_,_,_,_,_,_,_,_] Y9<|Nt<|Zr<|Wb Y5<|Wl 2 Y6<|Zqm Z Z<|qbk [(_,_)] [_] Z Z Z Z Z Z Z Z Z ?_
   intro β16 s16 h16 hc16
   refine qba (sz:=1) (_::_::_::_::_ ::  M8) Ma _ (by simp only [List.cons_append,List.append_assoc];rfl) Z Z Z Z Z Z hOa (Row.of_cells (hc16.le (Lr D)) Z Z) ⟨by simp [ti47];omega,by omega⟩ Z ?_
   intro v9 M9 s17 h17 oq9
   obtain ⟨A9,c9,rfl,_,_⟩:=Own.slice oq9
   simp only [List.cons_append,List.nil_append,List.append_assoc]
   refine Wb Y5<|Wt 2 [_,_,_,_,_,_,_,_,_,_,_,_] Y9<|Zn<|Zb<|Zt<|?_
   rw [show wv (qlu x.init x.num.toNat nq)=wv (qft x.num.toNat x.init) from by rw [hn9];exact qss g4.1]
   refine qdG pm30 ?_
   rw [qkD hab hx g3]
   refine Zr<|Zqm Z Z<|qaF Z Z Z (w64 O O)<|Zqa Z Z<|Zn<|?_
   refine qab ⟨⟨k+1,(_,_,_),(_,_,_),M8,M9,ab++[some βx]⟩,[_],kp,Z,⟨(I6.1.t h8|>.t h10|>.t I11.1|>.t h14|>.t h15|>.t h16|>.t h17),⟨by show k+1≤ng;omega,by simp [hab],by rw [qaS hx,List.map_append,List.map_cons,List.map_nil,qsy,show gv0 x=0 from if_neg O];exact oq8,by rw [qaS hx,qcp (qd5 hab hx)];exact oq9,qfP hab hx hak (fun h=>by first | exact ⟨_,Z⟩ | exact absurd h g3)⟩⟩,(by show ng - (k+1) < ng - k;omega)⟩
  have g3:¬ x.kind=3:=c9
  refine Zk<|Zt<|Sr<|At Z Z<|Zs<|Sr<|W0 Y5<|Wl 0 Y6<|qar Z Z Z<|Nt<|?_
  refine qaa Z (fun c18=>?_) (fun c18=>?_)
  ·
   have gc1:=c18
   refine Zr<|Wb Y5<|Wl 0 Y6<|At Z Z<|Sr<|Wb Y5<|Wl 1 Y6<|Zqm Z Z<|qbk [(_,_)] [_] Z Z Z Z Z Z Z Z Z ?_
   intro β19 s19 h19 hc19
   refine qba (sz:=1) [_,_,_,_] Mg _ Z Z Z Z Z Z Z hOg (Row.of_cells (hc19.le (Lr D)) Z Z) ⟨by simp [ti29];omega,by omega⟩ Z ?_
   intro v8 M8 s20 h20 oq8
   obtain ⟨A8,c8,rfl,_,_⟩:=Own.slice oq8
   simp only [cQ9,nQ9]
   refine Wb Y5<|Wt 1 [_,_,_,_,_,_,_,_,_,_,_,_] Y9<|Nt<|Zr<|Wb Y5<|Wl 1 Y6<|Zqm Z Z<|qbk [(_,_)] [_] Z Z Z Z Z Z Z Z Z ?_
   intro β21 s21 h21 hc21
   refine qba (sz:=1) (_::_::_::_ ::  M8) Ma _ (by simp only [List.cons_append,List.append_assoc];rfl) Z Z Z Z Z Z hOa (Row.of_cells (hc21.le (Lr D)) Z Z) ⟨by simp [ti47];omega,by omega⟩ Z ?_
   intro v9 M9 s22 h22 oq9
   obtain ⟨A9,c9,rfl,_,_⟩:=Own.slice oq9
   simp only [List.cons_append,List.nil_append,List.append_assoc]
   refine Wb Y5<|Wt 1 [_,_,_,_,_,_,_,_,_,_,_,_] Y9<|Zn<|Zb<|Zt<|?_
   rw [qgO hab hx]
   refine Zr<|Zqm Z Z<|qaF Z Z Z (w64 O O)<|Zqa Z Z<|Zn<|?_
   refine qab ⟨⟨k+1,(_,_,_),(_,_,_),M8,M9,ab++[none]⟩,[_],kp,Z,⟨(I6.1.t h8|>.t h19|>.t h20|>.t h21|>.t h22),⟨by show k+1≤ng;omega,by simp [hab],by rw [qaS hx,List.map_append,List.map_cons,List.map_nil,qsy,show gv0 x=x.num from if_pos gc1];exact oq8,by rw [qaS hx,qcp (qd5 hab hx)];exact oq9,qfP hab hx hak (fun h=>by first | exact ⟨_,Z⟩ | exact absurd h g3)⟩⟩,(by show ng - (k+1) < ng - k;omega)⟩
  have gc1:=c18
  refine Zk<|Zt<|Sr<|Wb Y5<|Wl 1 Y6<|Zqm Z Z<|qbk [(_,_)] [_] Z Z Z Z Z Z Z Z Z ?_
  intro β23 s23 h23 hc23
  refine qba (sz:=1) [_,_,_,_] Mg _ Z Z Z Z Z Z Z hOg (Row.of_cells (hc23.le (Lr D)) Z Z) ⟨by simp [ti29];omega,by omega⟩ Z ?_
  intro v8 M8 s24 h24 oq8
  obtain ⟨A8,c8,rfl,_,_⟩:=Own.slice oq8
  simp only [cQ9,nQ9]
  refine Wb Y5<|Wt 1 [_,_,_,_,_,_,_,_,_,_,_,_] Y9<|Nt<|Zr<|Wb Y5<|Wl 1 Y6<|Zqm Z Z<|qbk [(_,_)] [_] Z Z Z Z Z Z Z Z Z ?_
  intro β25 s25 h25 hc25
  refine qba (sz:=1) (_::_::_::_ ::  M8) Ma _ (by simp only [List.cons_append,List.append_assoc];rfl) Z Z Z Z Z Z hOa (Row.of_cells (hc25.le (Lr D)) Z Z) ⟨by simp [ti47];omega,by omega⟩ Z ?_
  intro v9 M9 s26 h26 oq9
  obtain ⟨A9,c9,rfl,_,_⟩:=Own.slice oq9
  simp only [List.cons_append,List.nil_append,List.append_assoc]
  refine Wb Y5<|Wt 1 [_,_,_,_,_,_,_,_,_,_,_,_] Y9<|Zn<|Zb<|Zt<|?_
  rw [qgO hab hx]
  refine Zr<|Zqm Z Z<|qaF Z Z Z (w64 O O)<|Zqa Z Z<|Zn<|?_
  refine qab ⟨⟨k+1,(_,_,_),(_,_,_),M8,M9,ab++[none]⟩,[_],kp,Z,⟨(I6.1.t h8|>.t h23|>.t h24|>.t h25|>.t h26),⟨by show k+1≤ng;omega,by simp [hab],by rw [qaS hx,List.map_append,List.map_cons,List.map_nil,qsy,show gv0 x=0 from if_neg gc1];exact oq8,by rw [qaS hx,qcp (qd5 hab hx)];exact oq9,qfP hab hx hak (fun h=>by first | exact ⟨_,Z⟩ | exact absurd h g3)⟩⟩,(by show ng - (k+1) < ng - k;omega)⟩
 obtain rfl:ng=k:=by omega
 refine Zl<|Zv<|Zv<|Zd<|Zt<|Zs<|qbC (_::_::_::Mg) Ma _ ?_
 intro s27 h27 hpub27
 simp only [cQ9,nQ9]
 have hca:=fun (k:Nat) (g:Glo) (hg:p.globals[k]?=some g) (h3:g.kind=3)=>qsQ (s:=s27) (by rw [← hn1];rw [List.take_of_length_le O] at hOa;exact hOa) hpub27 (fun k g hg h3=>hak k g (by rw [hn1];exact (List.getElem?_eq_some_iff.1 hg).1) hg h3) k g hg h3
 refine Zr<|qac (qag 0 [_,_,_,_,_,_,_,_,_,_,_,_] Z Z Z Z Z) Z<|Wt 1 [_,_,_,_,_,_,_,_,_,_,_,_] Y9<|Nt<|Zo<|?_
 refine rR [_,_,_] _ (.agg (us:=[_,_,_,_,_,_,_,_,_,_,_,_]) 1 Z Z Z Z Z (.nil)) Z (h1.t h2|>.t h3|>.t h4|>.t h5|>.t I6.1|>.t h27) fun _ hS2=>?_
 rw [List.take_of_length_le O] at hOg
 have hlt:(qef p).take ng=qef p:=List.take_of_length_le (by rw [qef,List.length_map];omega)
 refine ⟨_,_,(Ain,ni,cin),ab,Mg++qb1 ab (qef p),Z,by rw [hlt,List.append_assoc] <;> rfl,⟨hGl.le (h1.t h2|>.t h3|>.t h4|>.t h5|>.t I6.1|>.t h27|>.t hS2),hFn.le (h1.t h2|>.t h3|>.t h4|>.t h5|>.t I6.1|>.t h27|>.t hS2),fun k g hg h3=>?_,hok,hU⟩,⟨hIn.le (I6.1.t h27|>.t hS2),⟨[],Mg,[],[],?_,.nil,?_,.nil⟩,fun x hx=>?_,fun x hx=>(by cases hx),fun l hl x hx=>?_,?_,Z,by rw [hab,hn1],?_,fun k g hg h3=>⟨hak k g (by rw [hn1];exact (List.getElem?_eq_some_iff.1 hg).1) hg h3,?_⟩,Nat.zero_le _,Nat.zero_le _,Nat.le_refl _,ha⟩⟩
 · obtain ⟨ba,ca,b,q1,q2,q3⟩:=hca k g hg h3
   exact ⟨ba,ca,b,q1,q2,q3.le ((Lr D).t hS2)⟩
 · show (Mg++qb1 ab (qef p)).Perm ([]++(Mg++([]++(qb1 ab (qef p)++[]))))
   simp only [List.nil_append,List.append_nil];exact List.Perm.refl _
 · show FL.Own _ 1 Mg _ p.globals.length (wv (vrs p (List.replicate p.globals.length 0)))
   rw [qu4,← hn1];exact hOg
 · rw [show x=0 from (List.mem_replicate.1 hx).2];exact ⟨by decide,by decide⟩
 · obtain ⟨g,hg,rfl⟩:=List.mem_map.1 (show l∈qef p from hl)
   split at hx
   · exact qkF (hU.1 g hg).2 x hx
   · cases hx
 · exact List.length_replicate ..
 · exact List.length_map ..
 · have h0:=qs0 (hok.1.2.2.1 g (List.mem_of_getElem? hg)).1 h3
   show ((qef p).getD k []).length=_
   rw [List.getD_eq_getElem?_getD,qg7 hg,Option.getD_some,if_pos h3,qf2 h0.1]
theorem qiv(D:Nat)(L:Hl)(s:World)(d:Nat)(p:Prg)(Ag Af:Option Addr)(ng cg nf cf:Nat)(hGl:Glos s Ag ng cg p.globals)(hFn:Fncs d s Af nf cf p.funcs)(mi:Nat)(hm:qcV p.funcs=(mi:Int)):AC prog D 26 [.agg #[.slice Ag ng cg,.slice Af nf cf]] L s fun v L' _=>v=.int .i64 (mi:Int)∧L=L':=
 (qho D L s d p Ag Af ng cg nf cf hGl hFn).mono fun v L' s' _ h=>⟨by rw [h.1,hm],h.2⟩
theorem qi9(D:Nat)(X L:Hl)(s:World)(d:Nat)(p:Prg)(Ag Af:Option Addr)(ng cg nf cf:Nat)(hGl:Glos s Ag ng cg p.globals)(hFn:Fncs d s Af nf cf p.funcs)(hok:OKP p)(Ai:Option Addr)(ni qi:Nat)(inp:Str)(hI:Bts s Ai ni qi inp)(hil:inp.length≤400000)(a:Nat)(ha:a≤50000000):AC prog D 30 [.agg #[.slice Ag ng cg,.slice Af nf cf],.slice Ai ni qi,.int .i64 (a:Int)] (X++L) s fun v L' s'=>∃ (vv av iv:Slc) (ab:List (Option Nat)) (R:Hl),v=.agg #[.slice Ag ng cg,.slice Af nf cf,.slice vv.1 vv.2.1 vv.2.2,.slice av.1 av.2.1 av.2.2,.slice iv.1 iv.2.1 iv.2.2,SN,.int .i64 (a:Int),.int .i64 0,.int .u32 0,.bool false,.int .i64 0,.int .u32 0]∧L'=X++(R++L)∧CR p d ⟨Ag,Af,ng,cg,nf,cf,vv,av,ab⟩ s'∧MR p ⟨Ag,Af,ng,cg,nf,cf,vv,av,ab⟩ a 0 SN (qei p inp a) iv (none,0,0) R s':=
 (AC.mid (R:=fun v M' s'=>∃ (vv av iv:Slc) (ab:List (Option Nat)),v=.agg #[.slice Ag ng cg,.slice Af nf cf,.slice vv.1 vv.2.1 vv.2.2,.slice av.1 av.2.1 av.2.2,.slice iv.1 iv.2.1 iv.2.2,SN,.int .i64 (a:Int),.int .i64 0,.int .u32 0,.bool false,.int .i64 0,.int .u32 0]∧CR p d ⟨Ag,Af,ng,cg,nf,cf,vv,av,ab⟩ s'∧MR p ⟨Ag,Af,ng,cg,nf,cf,vv,av,ab⟩ a 0 SN (qei p inp a) iv (none,0,0) M' s') X [] L ((qqw D (X++L) s d p Ag Af ng cg nf cf hGl hFn hok Ai ni qi inp hI hil a ha).mono fun v L' s' _ ⟨vv,av,iv,ab,R,h1,h2,h3,h4⟩=>⟨R,h2,vv,av,iv,ab,h1,h3,h4⟩)).mono
  fun v L' s' _ ⟨M',h0,vv,av,iv,ab,h1,h3,h4⟩=>⟨vv,av,iv,ab,M',h1,h0,h3,h4⟩
theorem qno(D:Nat)(L:Hl)(s:World)(d:Nat)(p:Prg)(Ag Af:Option Addr)(ng cg nf cf:Nat)(hGl:Glos s Ag ng cg p.globals)(hFn:Fncs d s Af nf cf p.funcs)(hok:OKP p)(Ai:Option Addr)(ni qi:Nat)(inp:Str)(hI:Bts s Ai ni qi inp)(hil:inp.length≤400000)(a:Nat)(ha:a≤50000000):AC prog D 12 [.agg #[.slice Ag ng cg,.slice Af nf cf],.slice Ai ni qi,.int .i64 (a:Int)] L s fun v L' s'=>∃ M',L'=M'++L∧∀ s2,Le D s' s2→Pub M' s2→quM s2 (qh1 p inp a) v:=by
 obtain ⟨mi,xm,hmf,hxm,hnm,hpm⟩:=qgq hok.2.1
 have hrn:(sem p OPp (fuX+1)).c mi [] (qei p inp a)≠.out:=qgp p inp a mi ha
 refine qai (fn:=f12) qao func12 V Z ntmps12 Z (rs:=[.cell 6 31]) Z [(0,_),(1,_),(2,_)] Z<|Sr<|qaq Z Z ?_
 intro β1 s1 h1
 refine qaj Z [_,_,_,_] Z Z ?_
 intro β2 s2 h2
 refine Nt<|Zs<|qa2 qad 13 Z 2 ?_
 intro s3 h3
 refine za 0 Z (qag 1 [_,_] Z Z Z Z Z) Z<|za 1 Z (qan Z) Z<|za 2 Z (qan Z) Z<|za 4 Z (qag 1 [_,_] Z Z Z Z Z) Z ?_
 refine qfl 3 10 V ?_ ?_
 ·
  refine Jb Z Tt Z Z Z (qi9 D [_,_] L _ d p Ag _ ng cg nf cf (hGl.le (h1.t h2|>.t h3)) (hFn.le (h1.t h2|>.t h3)) hok Ai ni qi inp (hI.le (h1.t h2|>.t h3)) hil a ha) ?_
  rintro _ _ s4 h4 ⟨vv,av,iv,ab,R,rfl,rfl,hC,hM⟩
  refine ⟨(fun x hx _=>qfy hx),?_⟩
  simp only [cQ9,nQ9]
  refine qfl 5 10 V ?_ ?_
  ·
   refine Jb Z Tt Z Z Z (qiv D _ _ d p Ag _ ng cg nf cf (hGl.le (h1.t h2|>.t h3|>.t h4)) (hFn.le (h1.t h2|>.t h3|>.t h4)) mi hmf) ?_
   rintro _ _ s5 h5 ⟨rfl,rfl⟩
   refine ⟨fun _ _ h=>h,?_⟩
   refine qfl 6 10 V ?_ ?_
   ·
    refine Jb Z Tt Z Z Z (AC.frR (fun L=>(qgT p D (fuX+1)).2.1 L _ ⟨Ag,Af,ng,cg,nf,cf,vv,av,ab⟩ a 0 d mi xm [] none 0 0 SN (qei p inp a) iv (none,0,0) 0 R (hC.le h5) (qfC _) hxm (by rw [hpm];rfl) (hM.le h5) hrn) [_,_] _) ?_
    rintro _ _ s6 h6 ⟨u6,iv6,ov6,lf6,ca6,va6,dn6,so6,cd6,M6,rfl,rfl,ok6,fn6⟩
    refine ⟨(fun x hx _=>qfy hx),?_⟩
    simp only [cQ9,nQ9]
    refine za 7 Z (qan Z) Z<|za 8 Z (qaX Z Z) Z<|za 9 Z (qaX Z Z) Z<|qax 10 V<|qaL Z Tt Z [_,_,_,_,_,_,_,_,_,_,_,_] Z Z ?_
    intro β7 s7 h7
    refine qax 11 V<|Wu Z Tt 0 [_,_,_,_,_,_,_,_,_,_,_,_] Y9 (sM (qmw (sb0 _)))<|za 12 Z (qaM Z) Z<|qal V<|Zt<|Zs<|Sr<|Wb Y5<|Wl 0 Y6<|qbV Z Z<|Nt<|?_
    refine qcH Z (fun c8=>?_) (fun c8=>?_)
    ·
     obtain rfl:=c8
     obtain ⟨a8,m8,q1,_,rfl,rfl,rfl,rfl,hM8⟩:=ok6 rfl
     have hE:qh1 p inp a=(m8.out,1,0,a - m8.left):=qcw hmf (by rw [show cX p (sem p OPp fuX) mi [] (qei p inp a)=.ok a8 m8 from q1];rfl) hrn
     have hll:=hM8.ll
     obtain ⟨Mo9,Mg9,Mf9,K9,hpR,hO9,_⟩:=hM8.own
     obtain ⟨A9,n9,c9⟩:=ov6
     obtain rfl:n9=m8.out.length:=qf1 hO9
     dsimp only
     refine Zr<|qac (qag 0 [_,_,_,_,_,_,_,_,_,_,_,_] Z Z Z Z Z) Z<|Jc Z Z Z (qb8 D _ _ _ _ _ _ _ _ _ _ _ _ _ _ _ _ _ _ _ _ _ _ _ _ _ _ _ _) ?_
     rintro _ _ s9 h9 ⟨rfl,rfl⟩
     refine Wt 0 [_,_,_,_,_,_,_,_,_,_,_,_] Y9<|Nt<|Sr<|Wb Y5<|Wl 0 Y6<|Wb Y5<|Wl 0 Y6<|Wb Y5<|Wl 0 Y6<|Zqm Z Z<|Wb Y5<|Wl 0 Y6<|qhH Z Z Z (w64 O O)<|qac (qam [(_,_),(_,_),(_,_),(_,_)] [_,_,_,_] Z Z Z Z Z Z) Z<|Wt 1 [_,_,_,_] Y9<|Nt<|Zo<|?_
     refine rR [_,_,_] _ (.agg (us:=[_,_,_,_]) 1 Z Z Z Z Z (.nil)) Z (h1.t h2|>.t h3|>.t h4|>.t h5|>.t h6|>.t h7|>.t h9) fun _ hS2=>?_
     have hst:(a:Int) - (m8.left:Int)=((a - m8.left:Nat):Int):=by omega
     exact ⟨M6,rfl,fun s2 hs2 hp=>⟨A9,_,c9,by rw [hE,← hst];rfl,by rw [hE];exact Own.bts hO9 fun b zs t hm=>hp b zs t (hpR.mem_iff.2 (List.mem_append_left _ hm))⟩⟩
    obtain rfl:=c8
    obtain ⟨m8,q1,rfl,hll,q4,Mo9,K9,hpR,hO9⟩:=fn6 rfl
    have hE:qh1 p inp a=(m8.out,so6,cd6,a - m8.left):=qcw hmf (by rw [show cX p (sem p OPp fuX) mi [] (qei p inp a)=.fin m8 so6 cd6 from q1];rfl) hrn
    obtain ⟨A9,n9,c9⟩:=ov6
    obtain rfl:n9=m8.out.length:=qf1 hO9
    dsimp only
    refine Zk<|Zt<|Sr<|Wb Y5<|Wl 0 Y6<|Wb Y5<|Wl 0 Y6<|Wb Y5<|Wl 0 Y6<|Zqm Z Z<|Wb Y5<|Wl 0 Y6<|qhH Z Z Z (w64 O O)<|qac (qam [(_,_),(_,_),(_,_),(_,_)] [_,_,_,_] Z Z Z Z Z Z) Z<|Wt 1 [_,_,_,_] Y9<|Nt<|Zo<|?_
    refine rR [_,_,_] _ (.agg (us:=[_,_,_,_]) 1 Z Z Z Z Z (.nil)) Z (h1.t h2|>.t h3|>.t h4|>.t h5|>.t h6|>.t h7) fun _ hS2=>?_
    have hst:(a:Int) - (m8.left:Int)=((a - m8.left:Nat):Int):=by omega
    exact ⟨M6,rfl,fun s2 hs2 hp=>⟨A9,_,c9,by rw [hE,← hst];rfl,by rw [hE];exact Own.bts hO9 fun b zs t hm=>hp b zs t (hpR.mem_iff.2 (List.mem_append_left _ hm))⟩⟩
   refine qaL Z Tt Z [_,_,_,_,_,_,_,_,_,_,_,_] Z Z ?_
   intro β10 s10 h10
   refine qax 6 V<|Jb Z Tt Z Z Z (AC.frR (fun L=>(qgT p D (fuX+1)).2.1 L _ ⟨Ag,Af,ng,cg,nf,cf,vv,av,ab⟩ a 0 d mi xm [] none 0 0 SN (qei p inp a) iv (none,0,0) 0 R (hC.le (h5.t h10)) (qfC _) hxm (by rw [hpm];rfl) (hM.le (h5.t h10)) hrn) [_,_,_] _) ?_
   rintro _ _ s11 h11 ⟨u11,iv11,ov11,lf11,ca11,va11,dn11,so11,cd11,M11,rfl,rfl,ok11,fn11⟩
   refine ⟨(fun x hx _=>List.mem_cons_of_mem _ (qfy hx)),?_⟩
   simp only [cQ9,nQ9]
   refine za 7 Z (qan Z) Z<|za 8 Z (qaX Z Z) Z<|za 9 Z (qaX Z Z) Z<|qax 11 V<|Wu Z Tt 0 [_,_,_,_,_,_,_,_,_,_,_,_] Y9 (sM (qmw (sb0 _)))<|za 12 Z (qaM Z) Z<|qal V<|Zt<|Zs<|Sr<|Wb Y5<|Wl 0 Y6<|qbV Z Z<|Nt<|?_
   refine qcH Z (fun c12=>?_) (fun c12=>?_)
   ·
    obtain rfl:=c12
    obtain ⟨a8,m8,q1,_,rfl,rfl,rfl,rfl,hM8⟩:=ok11 rfl
    have hE:qh1 p inp a=(m8.out,1,0,a - m8.left):=qcw hmf (by rw [show cX p (sem p OPp fuX) mi [] (qei p inp a)=.ok a8 m8 from q1];rfl) hrn
    have hll:=hM8.ll
    obtain ⟨Mo9,Mg9,Mf9,K9,hpR,hO9,_⟩:=hM8.own
    obtain ⟨A9,n9,c9⟩:=ov11
    obtain rfl:n9=m8.out.length:=qf1 hO9
    dsimp only
    refine Zr<|qac (qag 0 [_,_,_,_,_,_,_,_,_,_,_,_] Z Z Z Z Z) Z<|Jc Z Z Z (qb8 D _ _ _ _ _ _ _ _ _ _ _ _ _ _ _ _ _ _ _ _ _ _ _ _ _ _ _ _) ?_
    rintro _ _ s13 h13 ⟨rfl,rfl⟩
    refine Wt 0 [_,_,_,_,_,_,_,_,_,_,_,_] Y9<|Nt<|Sr<|Wb Y5<|Wl 0 Y6<|Wb Y5<|Wl 0 Y6<|Wb Y5<|Wl 0 Y6<|Zqm Z Z<|Wb Y5<|Wl 0 Y6<|qhH Z Z Z (w64 O O)<|qac (qam [(_,_),(_,_),(_,_),(_,_)] [_,_,_,_] Z Z Z Z Z Z) Z<|Wt 1 [_,_,_,_] Y9<|Nt<|Zo<|?_
    refine rR [_,_,_] _ (.agg (us:=[_,_,_,_]) 1 Z Z Z Z Z (.nil)) Z (h1.t h2|>.t h3|>.t h4|>.t h5|>.t h10|>.t h11|>.t h13) fun _ hS2=>?_
    have hst:(a:Int) - (m8.left:Int)=((a - m8.left:Nat):Int):=by omega
    exact ⟨M11,rfl,fun s2 hs2 hp=>⟨A9,_,c9,by rw [hE,← hst];rfl,by rw [hE];exact Own.bts hO9 fun b zs t hm=>hp b zs t (hpR.mem_iff.2 (List.mem_append_left _ hm))⟩⟩
   obtain rfl:=c12
   obtain ⟨m8,q1,rfl,hll,q4,Mo9,K9,hpR,hO9⟩:=fn11 rfl
   have hE:qh1 p inp a=(m8.out,so11,cd11,a - m8.left):=qcw hmf (by rw [show cX p (sem p OPp fuX) mi [] (qei p inp a)=.fin m8 so11 cd11 from q1];rfl) hrn
   obtain ⟨A9,n9,c9⟩:=ov11
   obtain rfl:n9=m8.out.length:=qf1 hO9
   dsimp only
   refine Zk<|Zt<|Sr<|Wb Y5<|Wl 0 Y6<|Wb Y5<|Wl 0 Y6<|Wb Y5<|Wl 0 Y6<|Zqm Z Z<|Wb Y5<|Wl 0 Y6<|qhH Z Z Z (w64 O O)<|qac (qam [(_,_),(_,_),(_,_),(_,_)] [_,_,_,_] Z Z Z Z Z Z) Z<|Wt 1 [_,_,_,_] Y9<|Nt<|Zo<|?_
   refine rR [_,_,_] _ (.agg (us:=[_,_,_,_]) 1 Z Z Z Z Z (.nil)) Z (h1.t h2|>.t h3|>.t h4|>.t h5|>.t h10|>.t h11) fun _ hS2=>?_
   have hst:(a:Int) - (m8.left:Int)=((a - m8.left:Nat):Int):=by omega
   exact ⟨M11,rfl,fun s2 hs2 hp=>⟨A9,_,c9,by rw [hE,← hst];rfl,by rw [hE];exact Own.bts hO9 fun b zs t hm=>hp b zs t (hpR.mem_iff.2 (List.mem_append_left _ hm))⟩⟩
  refine qaL Z Tt Z [_,_,_,_,_,_,_,_,_,_,_,_] Z Z ?_
  intro β14 s14 h14
  refine qax 5 V<|Jb Z Tt Z Z Z (qiv D _ _ d p Ag _ ng cg nf cf (hGl.le (h1.t h2|>.t h3|>.t h4|>.t h14)) (hFn.le (h1.t h2|>.t h3|>.t h4|>.t h14)) mi hmf) ?_
  rintro _ _ s15 h15 ⟨rfl,rfl⟩
  refine ⟨fun _ _ h=>h,?_⟩
  refine qax 6 V<|Jb Z Tt Z Z Z (AC.frR (fun L=>(qgT p D (fuX+1)).2.1 L _ ⟨Ag,Af,ng,cg,nf,cf,vv,av,ab⟩ a 0 d mi xm [] none 0 0 SN (qei p inp a) iv (none,0,0) 0 R (hC.le (h14.t h15)) (qfC _) hxm (by rw [hpm];rfl) (hM.le (h14.t h15)) hrn) [_,_,_] _) ?_
  rintro _ _ s16 h16 ⟨u16,iv16,ov16,lf16,ca16,va16,dn16,so16,cd16,M16,rfl,rfl,ok16,fn16⟩
  refine ⟨(fun x hx _=>List.mem_cons_of_mem _ (qfy hx)),?_⟩
  simp only [cQ9,nQ9]
  refine za 7 Z (qan Z) Z<|za 8 Z (qaX Z Z) Z<|za 9 Z (qaX Z Z) Z<|qax 11 V<|Wu Z Tt 0 [_,_,_,_,_,_,_,_,_,_,_,_] Y9 (sM (qmw (sb0 _)))<|za 12 Z (qaM Z) Z<|qal V<|Zt<|Zs<|Sr<|Wb Y5<|Wl 0 Y6<|qbV Z Z<|Nt<|?_
  refine qcH Z (fun c17=>?_) (fun c17=>?_)
  ·
   obtain rfl:=c17
   obtain ⟨a8,m8,q1,_,rfl,rfl,rfl,rfl,hM8⟩:=ok16 rfl
   have hE:qh1 p inp a=(m8.out,1,0,a - m8.left):=qcw hmf (by rw [show cX p (sem p OPp fuX) mi [] (qei p inp a)=.ok a8 m8 from q1];rfl) hrn
   have hll:=hM8.ll
   obtain ⟨Mo9,Mg9,Mf9,K9,hpR,hO9,_⟩:=hM8.own
   obtain ⟨A9,n9,c9⟩:=ov16
   obtain rfl:n9=m8.out.length:=qf1 hO9
   dsimp only
   refine Zr<|qac (qag 0 [_,_,_,_,_,_,_,_,_,_,_,_] Z Z Z Z Z) Z<|Jc Z Z Z (qb8 D _ _ _ _ _ _ _ _ _ _ _ _ _ _ _ _ _ _ _ _ _ _ _ _ _ _ _ _) ?_
   rintro _ _ s18 h18 ⟨rfl,rfl⟩
   refine Wt 0 [_,_,_,_,_,_,_,_,_,_,_,_] Y9<|Nt<|Sr<|Wb Y5<|Wl 0 Y6<|Wb Y5<|Wl 0 Y6<|Wb Y5<|Wl 0 Y6<|Zqm Z Z<|Wb Y5<|Wl 0 Y6<|qhH Z Z Z (w64 O O)<|qac (qam [(_,_),(_,_),(_,_),(_,_)] [_,_,_,_] Z Z Z Z Z Z) Z<|Wt 1 [_,_,_,_] Y9<|Nt<|Zo<|?_
   refine rR [_,_,_] _ (.agg (us:=[_,_,_,_]) 1 Z Z Z Z Z (.nil)) Z (h1.t h2|>.t h3|>.t h4|>.t h14|>.t h15|>.t h16|>.t h18) fun _ hS2=>?_
   have hst:(a:Int) - (m8.left:Int)=((a - m8.left:Nat):Int):=by omega
   exact ⟨M16,rfl,fun s2 hs2 hp=>⟨A9,_,c9,by rw [hE,← hst];rfl,by rw [hE];exact Own.bts hO9 fun b zs t hm=>hp b zs t (hpR.mem_iff.2 (List.mem_append_left _ hm))⟩⟩
  obtain rfl:=c17
  obtain ⟨m8,q1,rfl,hll,q4,Mo9,K9,hpR,hO9⟩:=fn16 rfl
  have hE:qh1 p inp a=(m8.out,so16,cd16,a - m8.left):=qcw hmf (by rw [show cX p (sem p OPp fuX) mi [] (qei p inp a)=.fin m8 so16 cd16 from q1];rfl) hrn
  obtain ⟨A9,n9,c9⟩:=ov16
  obtain rfl:n9=m8.out.length:=qf1 hO9
  dsimp only
  refine Zk<|Zt<|Sr<|Wb Y5<|Wl 0 Y6<|Wb Y5<|Wl 0 Y6<|Wb Y5<|Wl 0 Y6<|Zqm Z Z<|Wb Y5<|Wl 0 Y6<|qhH Z Z Z (w64 O O)<|qac (qam [(_,_),(_,_),(_,_),(_,_)] [_,_,_,_] Z Z Z Z Z Z) Z<|Wt 1 [_,_,_,_] Y9<|Nt<|Zo<|?_
  refine rR [_,_,_] _ (.agg (us:=[_,_,_,_]) 1 Z Z Z Z Z (.nil)) Z (h1.t h2|>.t h3|>.t h4|>.t h14|>.t h15|>.t h16) fun _ hS2=>?_
  have hst:(a:Int) - (m8.left:Int)=((a - m8.left:Nat):Int):=by omega
  exact ⟨M16,rfl,fun s2 hs2 hp=>⟨A9,_,c9,by rw [hE,← hst];rfl,by rw [hE];exact Own.bts hO9 fun b zs t hm=>hp b zs t (hpR.mem_iff.2 (List.mem_append_left _ hm))⟩⟩
 refine qaL Z Tt Z [_,_,_,_,_,_,_,_,_,_,_,_] Z Z ?_
 intro β19 s19 h19
 refine qax 3 V<|Jb Z Tt Z Z Z (qi9 D [_,_,_] L _ d p Ag _ ng cg nf cf (hGl.le (h1.t h2|>.t h3|>.t h19)) (hFn.le (h1.t h2|>.t h3|>.t h19)) hok Ai ni qi inp (hI.le (h1.t h2|>.t h3|>.t h19)) hil a ha) ?_
 rintro _ _ s20 h20 ⟨vv,av,iv,ab,R,rfl,rfl,hC,hM⟩
 refine ⟨(fun x hx _=>List.mem_cons_of_mem _ (qfy hx)),?_⟩
 simp only [cQ9,nQ9]
 refine qax 5 V<|Jb Z Tt Z Z Z (qiv D _ _ d p Ag _ ng cg nf cf (hGl.le (h1.t h2|>.t h3|>.t h19|>.t h20)) (hFn.le (h1.t h2|>.t h3|>.t h19|>.t h20)) mi hmf) ?_
 rintro _ _ s21 h21 ⟨rfl,rfl⟩
 refine ⟨fun _ _ h=>h,?_⟩
 refine qax 6 V<|Jb Z Tt Z Z Z (AC.frR (fun L=>(qgT p D (fuX+1)).2.1 L _ ⟨Ag,Af,ng,cg,nf,cf,vv,av,ab⟩ a 0 d mi xm [] none 0 0 SN (qei p inp a) iv (none,0,0) 0 R (hC.le h21) (qfC _) hxm (by rw [hpm];rfl) (hM.le h21) hrn) [_,_,_] _) ?_
 rintro _ _ s22 h22 ⟨u22,iv22,ov22,lf22,ca22,va22,dn22,so22,cd22,M22,rfl,rfl,ok22,fn22⟩
 refine ⟨(fun x hx _=>List.mem_cons_of_mem _ (qfy hx)),?_⟩
 simp only [cQ9,nQ9]
 refine za 7 Z (qan Z) Z<|za 8 Z (qaX Z Z) Z<|za 9 Z (qaX Z Z) Z<|qax 11 V<|Wu Z Tt 0 [_,_,_,_,_,_,_,_,_,_,_,_] Y9 (sM (qmw (sb0 _)))<|za 12 Z (qaM Z) Z<|qal V<|Zt<|Zs<|Sr<|Wb Y5<|Wl 0 Y6<|qbV Z Z<|Nt<|?_
 refine qcH Z (fun c23=>?_) (fun c23=>?_)
 ·
  obtain rfl:=c23
  obtain ⟨a8,m8,q1,_,rfl,rfl,rfl,rfl,hM8⟩:=ok22 rfl
  have hE:qh1 p inp a=(m8.out,1,0,a - m8.left):=qcw hmf (by rw [show cX p (sem p OPp fuX) mi [] (qei p inp a)=.ok a8 m8 from q1];rfl) hrn
  have hll:=hM8.ll
  obtain ⟨Mo9,Mg9,Mf9,K9,hpR,hO9,_⟩:=hM8.own
  obtain ⟨A9,n9,c9⟩:=ov22
  obtain rfl:n9=m8.out.length:=qf1 hO9
  dsimp only
  refine Zr<|qac (qag 0 [_,_,_,_,_,_,_,_,_,_,_,_] Z Z Z Z Z) Z<|Jc Z Z Z (qb8 D _ _ _ _ _ _ _ _ _ _ _ _ _ _ _ _ _ _ _ _ _ _ _ _ _ _ _ _) ?_
  rintro _ _ s24 h24 ⟨rfl,rfl⟩
  refine Wt 0 [_,_,_,_,_,_,_,_,_,_,_,_] Y9<|Nt<|Sr<|Wb Y5<|Wl 0 Y6<|Wb Y5<|Wl 0 Y6<|Wb Y5<|Wl 0 Y6<|Zqm Z Z<|Wb Y5<|Wl 0 Y6<|qhH Z Z Z (w64 O O)<|qac (qam [(_,_),(_,_),(_,_),(_,_)] [_,_,_,_] Z Z Z Z Z Z) Z<|Wt 1 [_,_,_,_] Y9<|Nt<|Zo<|?_
  refine rR [_,_,_] _ (.agg (us:=[_,_,_,_]) 1 Z Z Z Z Z (.nil)) Z (h1.t h2|>.t h3|>.t h19|>.t h20|>.t h21|>.t h22|>.t h24) fun _ hS2=>?_
  have hst:(a:Int) - (m8.left:Int)=((a - m8.left:Nat):Int):=by omega
  exact ⟨M22,rfl,fun s2 hs2 hp=>⟨A9,_,c9,by rw [hE,← hst];rfl,by rw [hE];exact Own.bts hO9 fun b zs t hm=>hp b zs t (hpR.mem_iff.2 (List.mem_append_left _ hm))⟩⟩
 obtain rfl:=c23
 obtain ⟨m8,q1,rfl,hll,q4,Mo9,K9,hpR,hO9⟩:=fn22 rfl
 have hE:qh1 p inp a=(m8.out,so22,cd22,a - m8.left):=qcw hmf (by rw [show cX p (sem p OPp fuX) mi [] (qei p inp a)=.fin m8 so22 cd22 from q1];rfl) hrn
 obtain ⟨A9,n9,c9⟩:=ov22
 obtain rfl:n9=m8.out.length:=qf1 hO9
 dsimp only
 refine Zk<|Zt<|Sr<|Wb Y5<|Wl 0 Y6<|Wb Y5<|Wl 0 Y6<|Wb Y5<|Wl 0 Y6<|Zqm Z Z<|Wb Y5<|Wl 0 Y6<|qhH Z Z Z (w64 O O)<|qac (qam [(_,_),(_,_),(_,_),(_,_)] [_,_,_,_] Z Z Z Z Z Z) Z<|Wt 1 [_,_,_,_] Y9<|Nt<|Zo<|?_
 refine rR [_,_,_] _ (.agg (us:=[_,_,_,_]) 1 Z Z Z Z Z (.nil)) Z (h1.t h2|>.t h3|>.t h19|>.t h20|>.t h21|>.t h22) fun _ hS2=>?_
 have hst:(a:Int) - (m8.left:Int)=((a - m8.left:Nat):Int):=by omega
 exact ⟨M22,rfl,fun s2 hs2 hp=>⟨A9,_,c9,by rw [hE,← hst];rfl,by rw [hE];exact Own.bts hO9 fun b zs t hm=>hp b zs t (hpR.mem_iff.2 (List.mem_append_left _ hm))⟩⟩
theorem qp0(D:Nat)(L:Hl)(s:World)(d:Nat)(p:Prg)(Ag Af:Option Addr)(ng cg nf cf:Nat)(hGl:Glos s Ag ng cg p.globals)(hFn:Fncs d s Af nf cf p.funcs)(hok:OKP p)(Ai:Option Addr)(ni qi:Nat)(inp:Str)(hI:Bts s Ai ni qi inp)(hil:inp.length≤400000)(a:Nat)(ha:a≤50000000):AC prog D 12 [.agg #[.slice Ag ng cg,.slice Af nf cf],.slice Ai ni qi,.int .i64 (a:Int)] L s fun v L' s'=>L=L'∧quM s' (qh1 p inp a) v:=AC.pubW (qno D L s d p Ag Af ng cg nf cf hGl hFn hok Ai ni qi inp hI hil a ha)
theorem qks(D:Nat)(L:Hl)(s:World)(hG:GP s)(d:Nat)(p:Prg)(Ag Af:Option Addr)(ng cg nf cf:Nat)(hGl:Glos s Ag ng cg p.globals)(hFn:Fncs d s Af nf cf p.funcs)(Ai:Option Addr)(ni qi:Nat)(inp:Str)(hI:Bts s Ai ni qi inp)(steps:Int):AC Tryz.prog D 3 [.agg #[.slice Ag ng cg,.slice Af nf cf],.slice Ai ni qi,.int .i64 steps] L s fun v L' _=>v=.bool true∧L=L':=by
 have hn1:=hGl.1
 have hn2:=hFn.1
 have hU:prU p:=⟨hGl.u,hFn.u⟩
 have hni:=hI.1
 refine qai (fn:=Tryz.f3) qao Tryz.func3 V Z Tryz.ntmps3 Z (rs:=[.tmp 6]) Z [(0,_),(1,_),(2,_)] Z<|Sr<|qaq Z Z ?_
 intro β1 s1 h1
 refine At Z Z<|Zs<|Sr<|Jc Z Z Z (qn3 D _ _ (hG.le h1)) ?_
 rintro _ _ s2 h2 ⟨rfl,rfl⟩
 refine ZqnT Z Z<|Nt<|Zz Z<|Zk<|Zt<|Zs<|Sr<|Zqm Z Z<|Jc Z Z Z (qcY D _ _ _ _ _) ?_
 rintro _ _ s3 h3 ⟨rfl,rfl⟩
 refine Nt<|?_
 refine qaa Z (fun c4=>?_) (fun c4=>?_)
 ·
  refine Sr<|At Z Z<|Zo<|Zu<|?_
  refine rR [_] L (.t1 Z) Z (h1.t h2|>.t h3) fun _ hS2=>?_
  exact ⟨rfl,rfl⟩
 refine Zk<|Zt<|Sr<|qac (qag 0 [_,_] Z Z Z Z Z) Z<|Zqm Z Z<|Zqm Z Z<|Jc Z Z Z (qk1 D _ _ (hG.le (h1.t h2|>.t h3)) d p Ag Af ng cg nf cf (hGl.le (h1.t h2|>.t h3)) (hFn.le (h1.t h2|>.t h3)) _ _ _ inp (hI.le (h1.t h2|>.t h3)) _) ?_
 rintro _ _ s5 h5 ⟨rfl,_,rfl,Ao,no,qo,rfl,hBo⟩
  
 refine Zqm Z Z<|Zqx Z Z Z<|Zqx Z Z Z<|qaj Z [_,_,_,_] Z Z ?_
 intro β6 s6 h6
 refine qaj Z [_,_] Z Z ?_
 intro β7 s7 h7
 refine Wt 1 [_,_,_,_] Y9<|Wt 0 [_,_] Y9<|Nt<|Sr<|qac (qag 2 [_,_] Z Z Z Z Z) Z<|Jc Z Z Z (qrZ D _ _ d p Ag Af ng cg nf cf (hGl.le (h1.t h2|>.t h3|>.t h5|>.t h6|>.t h7)) (hFn.le (h1.t h2|>.t h3|>.t h5|>.t h6|>.t h7))) ?_
 rintro _ _ s8 h8 ⟨rfl,rfl⟩
 refine qaj Z [_,_] Z Z ?_
 intro β9 s9 h9
 refine Wt 0 [_,_] Y9<|Nt<|Zs<|?_
 refine qaU 31 ((qcN p).1=0∧400000 < (ni:Int)) ?_ ?_
 ·
  refine Zr<|W0 Y5<|Wl 0 Y6<|qar Z Z Z<|Zqm Z Z<|?_
  refine qak (t:=27) Z (fun c11=>?_) (fun c11=>?_)
  ·
   refine Zg Z Z<|Zqm Z Z<|Zg Z Z<|Ws Y4<|Zg Z Z<|qbv Z Z Z<|ZqT Z Z Z<|Zn<|?_
   refine qab (MidB.mk (Lr D) Sb Z (decide_eq_decide.2 O))
  refine Wf Y4<|Wf Y4<|Wf Y4<|ZqF Z Z Z<|Zn<|?_
  refine qab (MidB.mk (Lr D) Sb Z ((decide_eq_false O).symm))
 intro s10 h10
 refine qaa Z (fun c12=>?_) (fun c12=>?_)
 ·
  have g7:=c12
  have hE:qeJ p inp steps=_:=qiW (fun h=>h g7.1) O
  refine Zr<|Jc Z Z Z (qdB D _ _ _ _) ?_
  rintro _ _ s13 h13 ⟨rfl,rfl⟩
  refine Wt 0 [_,_] Y9<|Nt<|Zs<|Sr<|W0 Y5<|Wl 0 Y6<|qac (qae (v':=.bool false) (qa9 Z Z) (bZ Dc)) Z<|Zqm Z Z<|Wf Y4<|Wf Y4<|Wf Y4<|ZqF Z Z Z<|Nt<|Zz Z<|Zk<|Zt<|Sr<|qac (qam [] [_,_,_,_] Z Z Z Z Z Z) Z<|qaj Z [_,_,_,_] Z Z ?_
  intro β14 s14 h14
  refine Wt 0 [_,_,_,_] Y9<|Nt<|Zs<|Sr<|W0 Y5<|Wl 1 Y6<|qac (qae (v':=.bool false) (qa9 Z Z) (bZ Dc)) Z<|Nt<|Zz Z<|Zk<|Zt<|Sr<|qac (qag 2 [_,_] Z Z Z Z Z) Z<|qac (qag 1 [_,_] Z Z Z Z Z) Z<|qac (qae (v':=.bool true) (qjs Z Z (qc8 _ _ _ _)) (bT ⟨by rw [hE],by rw [hE]⟩)) Z<|Zqm Z Z<|Zg Z Z<|qac (qag 3 [_,_,_,_] Z Z Z Z Z) Z<|Zg Z Z<|qac (qag 0 [_,_,_,_] Z Z Z Z Z) Z<|Zg Z Z ?_
  refine Jc Z Z Z (soT D _ _ _ _ _ _ (hBo.le (h6.t h7|>.t h8|>.t h9|>.t h10|>.t h13|>.t h14)) _ _ _ [] (Bts.nil _ _ _ O) _ _ _ _ _ _ (by rw [hE];exact ⟨Z,Z,Z,Z⟩)) ?_
  rintro _ _ s15 h15 ⟨rfl,rfl⟩
  refine ZqT Z Z Z<|At Z Z<|Zo<|?_
  refine rR [_,_,_,_,_] L (.t1 Z) Z (h1.t h2|>.t h3|>.t h5|>.t h6|>.t h7|>.t h8|>.t h9|>.t h10|>.t h13|>.t h14|>.t h15) fun _ hS2=>?_
  exact ⟨rfl,rfl⟩
 have g7:=c12
 refine Zk<|Zt<|Zs<|Sr<|W0 Y5<|Wl 0 Y6<|qar Z Z Z<|Zqm Z Z<|?_
 refine qak (t:=36) Z (fun c16=>?_) (fun c16=>?_)
 ·
  refine Zg Z Z<|Zqm Z Z<|Zg Z Z<|Jc Z Z Z (qcY D _ _ _ _ _) ?_
  rintro _ _ s17 h17 ⟨rfl,rfl⟩
  refine Zg Z Z<|qbV Z Z<|ZqT Z Z Z<|Nt<|?_
  refine qaP Z (fun c18=>?_) (fun c18=>?_)
  ·
   have g9:=c18
   have g0:(qcN p).1=0:=by assumption
   have hE:qeJ p inp steps=_:=qlq (fun h=>h g0) O O
   refine Zr<|Jc Z Z Z (qdB D _ _ _ _) ?_
   rintro _ _ s19 h19 ⟨rfl,rfl⟩
   refine Wt 0 [_,_] Y9<|Nt<|Sr<|qac (qam [] [_,_,_,_] Z Z Z Z Z Z) Z<|qaj Z [_,_,_,_] Z Z ?_
   intro β20 s20 h20
   refine Wt 0 [_,_,_,_] Y9<|Nt<|Zs<|Sr<|W0 Y5<|Wl 1 Y6<|qac (qae (v':=.bool false) (qa9 Z Z) (bZ Dc)) Z<|Nt<|Zz Z<|Zk<|Zt<|Sr<|qac (qag 2 [_,_] Z Z Z Z Z) Z<|qac (qag 1 [_,_] Z Z Z Z Z) Z<|qac (qae (v':=.bool true) (qjs Z Z (qc8 _ _ _ _)) (bT ⟨by rw [hE],by rw [hE]⟩)) Z<|Zqm Z Z<|Zg Z Z<|qac (qag 3 [_,_,_,_] Z Z Z Z Z) Z<|Zg Z Z<|qac (qag 0 [_,_,_,_] Z Z Z Z Z) Z<|Zg Z Z ?_
   refine Jc Z Z Z (soT D _ _ _ _ _ _ (hBo.le (h6.t h7|>.t h8|>.t h9|>.t h10|>.t h17|>.t h19|>.t h20)) _ _ _ [] (Bts.nil _ _ _ O) _ _ _ _ _ _ (by rw [hE];exact ⟨Z,Z,Z,Z⟩)) ?_
   rintro _ _ s21 h21 ⟨rfl,rfl⟩
   refine ZqT Z Z Z<|At Z Z<|Zo<|?_
   refine rR [_,_,_,_,_] L (.t1 Z) Z (h1.t h2|>.t h3|>.t h5|>.t h6|>.t h7|>.t h8|>.t h9|>.t h10|>.t h17|>.t h19|>.t h20|>.t h21) fun _ hS2=>?_
   exact ⟨rfl,rfl⟩
  have g9:=c18
  have g0:(qcN p).1=0:=by assumption
  obtain ⟨hOK,hz0⟩:=OKP.of hU g0
  obtain ⟨a,rfl⟩:=Int.eq_ofNat_of_zero_le g9.1
  have hE:qeJ p inp (a:Int)=_:=qfd (fun h=>h g0) O O
  refine Zk<|Zt<|Sr<|qac (qam [] [_,_,_,_] Z Z Z Z Z Z) Z<|qaj Z [_,_,_,_] Z Z ?_
  intro β22 s22 h22
  refine Wt 0 [_,_,_,_] Y9<|Nt<|Zs<|Sr<|W0 Y5<|Wl 1 Y6<|qac (qae (v':=.bool true) (qa9 Z Z) (bT g0)) Z<|Nt<|Zy Z<|Zr<|qac (qag 4 [_,_] Z Z Z Z Z) Z<|Zqm Z Z<|Zqm Z Z<|?_
  refine Jc Z Z Z (qp0 D _ _ d p Ag Af ng cg nf cf (hGl.le (h1.t h2|>.t h3|>.t h5|>.t h6|>.t h7|>.t h8|>.t h9|>.t h10|>.t h17|>.t h22)) (hFn.le (h1.t h2|>.t h3|>.t h5|>.t h6|>.t h7|>.t h8|>.t h9|>.t h10|>.t h17|>.t h22)) hOK Ai ni qi inp (hI.le (h1.t h2|>.t h3|>.t h5|>.t h6|>.t h7|>.t h8|>.t h9|>.t h10|>.t h17|>.t h22)) O a O) ?_
  rintro _ _ s23 h23 ⟨rfl,Am,nm,qm,rfl,hBm⟩
  refine Wt 0 [_,_,_,_] Y9<|Nt<|Sr<|qac (qag 2 [_,_] Z Z Z Z Z) Z<|qac (qag 1 [_,_] Z Z Z Z Z) Z<|qac (qae (v':=.bool true) (qjs Z Z (qc8 _ _ _ _)) (bT ⟨by rw [hE,hz0],by rw [hE,hz0]⟩)) Z<|Zqm Z Z<|Zg Z Z<|qac (qag 3 [_,_,_,_] Z Z Z Z Z) Z<|Zg Z Z<|qac (qag 0 [_,_,_,_] Z Z Z Z Z) Z<|Zg Z Z<|Jc Z Z Z (soT D _ _ _ _ _ _ (hBo.le (h6.t h7|>.t h8|>.t h9|>.t h10|>.t h17|>.t h22|>.t h23)) _ _ _ _ (hBm.le (Lr D)) _ _ _ _ _ _ (by rw [hE];exact ⟨Z,Z,Z,Z⟩)) ?_
  rintro _ _ s24 h24 ⟨rfl,rfl⟩
  refine ZqT Z Z Z<|At Z Z<|Zo<|?_
  refine rR [_,_,_,_,_] L (.t1 Z) Z (h1.t h2|>.t h3|>.t h5|>.t h6|>.t h7|>.t h8|>.t h9|>.t h10|>.t h17|>.t h22|>.t h23|>.t h24) fun _ hS2=>?_
  exact ⟨rfl,rfl⟩
 refine Wf Y4<|Wf Y4<|Wf Y4<|ZqF Z Z Z<|Nt<|Zz Z<|?_
 have g0:¬ (qcN p).1=0:=by assumption
 have hE:qeJ p inp steps=_:=qje g0
 refine Zk<|Zt<|Sr<|qac (qam [] [_,_,_,_] Z Z Z Z Z Z) Z<|qaj Z [_,_,_,_] Z Z ?_
 intro β25 s25 h25
 refine Wt 0 [_,_,_,_] Y9<|Nt<|Zs<|Sr<|W0 Y5<|Wl 1 Y6<|qac (qae (v':=.bool false) (qa9 Z Z) (bZ g0)) Z<|Nt<|Zz Z<|Zk<|Zt<|Sr<|qac (qag 2 [_,_] Z Z Z Z Z) Z<|qac (qag 1 [_,_] Z Z Z Z Z) Z<|qac (qae (v':=.bool true) (qjs Z Z (qc8 _ _ _ _)) (bT ⟨by rw [hE],by rw [hE]⟩)) Z<|Zqm Z Z<|Zg Z Z<|qac (qag 3 [_,_,_,_] Z Z Z Z Z) Z<|Zg Z Z<|qac (qag 0 [_,_,_,_] Z Z Z Z Z) Z<|Zg Z Z ?_
 refine Jc Z Z Z (soT D _ _ _ _ _ _ (hBo.le (h6.t h7|>.t h8|>.t h9|>.t h10|>.t h25)) _ _ _ [] (Bts.nil _ _ _ O) _ _ _ _ _ _ (by rw [hE];exact ⟨Z,Z,Z,Z⟩)) ?_
 rintro _ _ s26 h26 ⟨rfl,rfl⟩
 refine ZqT Z Z Z<|At Z Z<|Zo<|?_
 refine rR [_,_,_,_,_] L (.t1 Z) Z (h1.t h2|>.t h3|>.t h5|>.t h6|>.t h7|>.t h8|>.t h9|>.t h10|>.t h25|>.t h26) fun _ hS2=>?_
 exact ⟨rfl,rfl⟩
end Go.Proofs.YtpdnijphccdiiaaGreatDoor
namespace Go.Proofs.YtpdnijphccdiiaaGreatDoor
open Go.Proofs.Tryz
open Go Go.FL Go.ChangeShapes Go.WideShapes Go.ChangeAt Go.RowKit Go.Deep
theorem qoz:ownKnob prog.godebug=none:=by kernel_rfl
theorem qmR:laidOutB prog=true:=by kernel_rfl
theorem qk8(l:List Obj):∃ D,∀ E,D≤E→∀ o∈l,o≠dum E:=by
 induction l with
 | nil=>exact ⟨0,fun _ _ _ h=>by cases h⟩
 | cons x l ih=>
  obtain ⟨D,hD⟩:=ih
  have hx:∃ B,∀ E,B≤E→x≠dum E:=by
   cases x with
   | mapIter a n b c=>exact ⟨n+1,fun E hE h=>by simp only [dum,Obj.mapIter.injEq] at h;omega⟩
   | _=>exact ⟨0,fun E _ h=>by simp [dum] at h⟩
  obtain ⟨B,hB⟩:=hx
  refine ⟨max D B,fun E hE o ho=>?_⟩
  rcases List.mem_cons.1 ho with rfl | ho
  · exact hB E O
  · exact hD E O o ho
theorem qjH(W:World):∃ D,∀ k:Nat,W.heap[k]?≠some (dum D):=by
 obtain ⟨D,hD⟩:=qk8 W.heap.toList
 refine ⟨D,fun k hk=>hD D (Nat.le_refl _) (dum D) ?_ Z⟩
 rw [← Array.getElem?_toList] at hk
 exact List.mem_of_getElem? hk
theorem qnn{D:Nat}{W W':World}(hD:∀ k:Nat,W.heap[k]?≠some (dum D))(h:Le D W W'):Below W.heap.size W W':=
 ⟨h.os,h.tape,h.output,h.size,fun k hk=>(h.block k hk).resolve_left (hD k)⟩
theorem qkN{P:Program}{f:FuncId}{args:List Value}{W:World}(h:∀ D,AC P D f args [] W fun v L' _=>v=.bool true∧[]=L') :
  Calls P f args.toArray W fun e W'=>e=.returned (.bool true)∧Below W.heap.size W W':=by
 obtain ⟨D,hD⟩:=qjH W
 refine ((h D).2 ⟨by simp,fun x hx=>by cases hx⟩).mono ?_
 rintro e w' ⟨v,L',s',h1,rfl,h3,h4,rfl,rfl⟩
 exact ⟨h1,qnn hD h4⟩
section
variable{H:Type}{enc:TypeId×Value→H}{P:Program}
theorem qeh{W W':World}(hl:laidOutB P=true)(hb:Below W.heap.size W W'):∀ {ts:List TypeId} {vs:List Value} {ds:List (DataW H)} {ps:List MemPlace},(∀ t∈ts,P.readableRec t=true∧t < P.types.size)→(∀ x∈ps,x.block < W.heap.size) →
  DataW.TrodAll enc P W 0 (fun _=>true) true ts vs ds ps→DataW.TrodAll enc P W' 0 (fun b=>decide (b < W.heap.size)) true ts vs ds ps
 | [],_,_,_,_,_,h=>by
  obtain ⟨rfl,rfl,rfl⟩:=trodAll_nil h
  exact trodAll_mk0
 | t::ts,_,_,_,hts,hp,h=>by
  obtain ⟨v,vs,d,ds,a,b,rfl,rfl,rfl,h1,h2⟩:=trodAll_cons h
  have ht:=hts t Mc
  exact trodAll_cons_mk (Below.trod hl ht.1 ht.2 h1 hb fun x hx=>hp x (List.mem_append_left _ hx)) (qeh hl hb (fun t' h'=>hts t' (List.mem_cons_of_mem _ h')) (fun x hx=>hp x (List.mem_append_right _ hx)) h2)
theorem qm6{fn:Func}{s:ChangeSpec}{W W':World}{args:Array Value}{ds gs:List (DataW H)}{before:List MemPlace}{tb:TypeId}(hl:laidOutB P=true)(hts:∀ t∈fn.params.toList,P.readableRec t=true∧t < P.types.size)(hr:fn.resultTypes=#[tb])(hb:P.underlying tb=some .bool)
  (hv:s.vars=[]) (hW:DataW.Whole enc P fn.params.toList s.vars false W args.toList ds gs before) (hfn:s.fn H ds={ results:=[.lit (.bool true)],args:=ds }) (hB:Below W.heap.size W W'):s.post enc P fn false true false false W args (.bool true) W':=by
 have hlt:∀ x∈before,x.block < W.heap.size:=fun x hx=>hW.lt x hx
 have hW':=hW
 obtain ⟨p,q,hA,hV,rfl,_,_⟩:=hW
 rw [hv] at hV
 obtain ⟨rfl,rfl⟩:=trodVars_none hV
 refine ⟨ds,[],p++[],[],p,[],hW',?_,?_,?_,hB.frame _,fun h=>by cases h⟩
 · rw [List.append_nil,hfn,hr];exact trodAll_cons_mk (shut_bool hb _) trodAll_mk0
 · rw [List.append_nil,hfn];exact qeh hl hB hts (fun x hx=>hlt x (List.mem_append_left _ hx)) hA
 · rw [List.append_nil,hfn,hv];rfl
end
def Rd(W:World)(t:TypeId)(cs:List Value):Prop:=∃ (H:Type) (enc:TypeId×Value→H) (n:Nat) (x:DataW H×List MemPlace),DataW.trod enc prog W 0 (fun _=>true) true n t cs=some x
section
variable{W:World}{t e:TypeId}{cs:List Value}
theorem qeY{k:IntKind}(ht:prog.underlying t=some (.int k))(h:Rd W t cs):∃ n,cs=[.int k n]∧(Lit.int k n).wf=true:=by
 obtain ⟨H,enc,n,x,h⟩:=h
 obtain ⟨i,h1,_,h2⟩:=DataW.trod_int ht h
 exact ⟨i,h1,h2⟩
theorem qhT(ht:prog.underlying t=some .string)(h:Rd W t cs):∃ l:List UInt8,cs=[St l]∧l.length≤9223372036854775807:=by
 obtain ⟨H,enc,n,x,h⟩:=h
 obtain ⟨s,h1,_,h2⟩:=DataW.trod_string ht h
 refine ⟨s.data.toList,by rw [h1],?_⟩
 have:s.data.toList.length=s.size:=by rw [Array.length_toList];rfl
 simp only [maxLen] at h2
 omega
theorem qn8{fs:Array Field}(ht:prog.underlying t=some (.struct fs))(h:Rd W t cs){sz:Nat}(hc:prog.cellsOf t=sz):cs.length=sz∧∀ (i:Nat) (f:Field),fs[i]?=some f→∀ (ty off n:Nat),f.type=ty→f.offset=off→prog.cellsOf ty=n→Rd W ty ((cs.drop off).take n):=by
 obtain ⟨H,enc,n,x,h⟩:=h
 obtain ⟨xs,m,_,_,h1,h2,h3⟩:=DataW.trod_struct ht h
 refine ⟨h1.trans hc,fun i f hf ty off k e1 e2 e3=>?_⟩
 have hi:i < xs.length:=by rw [h2];exact (Array.getElem?_eq_some_iff.1 hf).1
 have:=h3 i f hf
 rw [List.getElem?_eq_getElem hi,e1,e2,e3] at this
 exact ⟨H,enc,m,_,this⟩
theorem qmQ{sz:Nat}(ht:prog.underlying t=some (.slice e))(hc:prog.cellsOf e=sz)(hp:0 < sz)(h:Rd W t cs):∃ A n c,cs=[.slice A n c]∧n≤c∧c≤9223372036854775807 ∧
    ∀ i,i < n→∃ b off ds,A=some ⟨b,off,none⟩∧CellsAt W b (off+i * sz) ds∧ds.length=sz∧Rd W e ds:=by
  obtain ⟨H,enc,q,x,h⟩:=h
  rcases open_slice ht h with ⟨rfl,_⟩ | ⟨a,len,cap,m,k,D,Pl,rfl,_,h1,h2,h3,_,h4⟩
  · exact ⟨none,0,0,rfl,Nat.le_refl _,by omega,fun i hi=>by omega⟩
  · simp only [maxLen] at h2
    refine ⟨some a,len,cap,Z,h1,by omega,fun i hi=>?_⟩
    obtain ⟨ds,k1,k2⟩:=h4 i (by simp at h3;omega)
    rw [hc] at k1
    obtain ⟨_,k3,k4⟩:=World.cells?_some k1
    obtain ⟨b,off,spot⟩:=a
    have hs:spot=none:=by
      obtain ⟨ds0,j1,_⟩:=h4 0 (by simp at h3;omega)
      rw [hc,Nat.zero_mul] at j1
      obtain ⟨_,j3,j4⟩:=World.cells?_some j1
      have:=j4 0 hp
      rw [List.getElem?_eq_getElem O] at this
      simpa [Addr.add] using World.cell?_spot this
    subst hs
    refine ⟨b,off,ds,Z,fun j v hj=>?_,k3,H,enc,k,_,k2⟩
    have hl:j < sz:=by rw [← k3];exact (List.getElem?_eq_some_iff.1 hj).1
    have:=k4 j hl
    rw [hj,add_lit,add_lit] at this
    exact this
theorem qnv{α:Type} [Inhabited α] {R:World→α→List Value→Prop} {sz:Nat} (ht:prog.underlying t=some (.slice e)) (hc:prog.cellsOf e=sz) (hp:0 < sz) (h:Rd W t cs) (hel:∀ ds,Rd W e ds→∃ x:α,R W x ds):∃ A n c l,cs=[.slice A n c]∧Sl sz R W A n c l:=by
 obtain ⟨A,n,c,h1,h2,h3,h4⟩:=qmQ ht hc hp h
 obtain ⟨f,hf⟩:=choose_lt (α:=α) (p:=fun i x=>∃ b off ds,A=some ⟨b,off,none⟩∧CellsAt W b (off+i * sz) ds∧ds.length=sz∧R W x ds) (n:=n) (fun i hi=>by
  obtain ⟨b,off,ds,k1,k2,k3,k4⟩:=h4 i hi
  obtain ⟨x,hx⟩:=hel ds k4
  exact ⟨x,b,off,ds,k1,k2,k3,hx⟩)
 refine ⟨A,n,c,(List.range n).map f,h1,by simp,h2,h3,fun i x hi=>?_⟩
 rw [List.getElem?_map] at hi
 cases hr:(List.range n)[i]? with
 | none=>simp [hr] at hi
 | some j=>
  simp [hr] at hi
  obtain ⟨hi1,hi2⟩:=List.getElem?_eq_some_iff.1 hr
  simp at hi1 hi2
  subst hi2;subst hi
  exact hf i hi1
theorem len2{l:List Value}(h:l.length=2):∃ a b,l=[a,b]:=by match l,h with | [a,b],_=>exact ⟨a,b,rfl⟩
theorem len4{l:List Value}(h:l.length=4):∃ a b c d,l=[a,b,c,d]:=by match l,h with | [a,b,c,d],_=>exact ⟨a,b,c,d,rfl⟩
theorem qbX{a b:Value}(h:[a]=[b]):a=b:=by injection h
theorem qmc{n:Int}(h:(Lit.int .u32 n).wf=true):U32 n:=by have:=bounds_u32 h;exact ⟨by omega,by omega⟩
end
end Go.Proofs.YtpdnijphccdiiaaGreatDoor
