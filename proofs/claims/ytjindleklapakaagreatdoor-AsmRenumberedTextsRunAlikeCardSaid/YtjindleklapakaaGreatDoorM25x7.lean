/- Part 7. -/
import Derived.Test.YtjindleklapakaaGreatDoorM25x6
import Derived.ProofKit
import Derived.OpenShut
import Derived.SizedLaws
import Derived.Deep.Slices
import Derived.Test.YtjindleklapakaaGreatDoorRows
import Derived.Lay
import Derived.Lib.LaidTab
import Derived.Stop.LaidErr
import Derived.SevenTiedAt
import Derived.Test.YtjindleklapakaaGreatDoorCards
import Derived.Test.YtjindleklapakaaGreatDoorTie
set_option linter.unusedVariables false
set_option linter.unusedSimpArgs false
set_option linter.unnecessarySimpa false
set_option maxRecDepth 100000
set_option maxHeartbeats 8000000
namespace Go.Proofs.YtjindleklapakaaGreatDoor
open Go.Proofs.Tryz
open Go.FL
attribute [local irreducible] JC JO JA JB qa7 qaP qdj AC fill CellsAt QE Ev Mid
theorem qd1(D:Nat)(L:Hl)(s:World)(l:List UInt8)(hl:l.length≤9223372036854775807):AC prog D 78 [St l] L s fun v L' _=>v=.tuple #[.int .u32 (((qdf l).getD 0:Nat):Int),.bool (qdf l).isSome]∧L=L':=by
 refine qai (fn:=f78) qaG func78 V Z ntmps78 Z (rs:=[.tmp 2,.tmp 3]) Z [(0,_)] Z<|Sr<|Zqa Z Z<|At Z Z<|Zs<|?_
 refine qbV 23 (l=[]∨10 < l.length∨(1 < l.length∧l[0]?=some 48)) ?_ ?_
 ·
  refine Zr<|Zqm Z Z<|qeI Z Z Z Z<|qaJ Z Z Z<|Zqm Z Z<|?_
  refine qam (t:=9) Z (fun c2=>?_) (fun c2=>?_)
  ·
   refine Wf Y4<|Wf Y4<|Wf Y4<|ZqT Z Z Z<|Zqm Z Z<|Wf Y4<|Wf Y4<|Wf Y4<|Wf Y4<|Zh Z Z Z<|Zh Z Z Z<|Zh Z Z Z<|Wf Y4<|ZqT Z Z Z<|Zn<|?_
   refine qaa (MidB.mk (Lr D) Sb Z ((decide_eq_true (by first | exact .inl (List.length_eq_zero_iff.1 O) | exact .inr (.inl O) | (rintro (h | h | h) <;> first | omega | (have h9:=congrArg List.length h;simp only [List.length_nil] at h9;omega)))).symm))
  refine Zg Z Z<|Zqm Z Z<|Zg Z Z<|qeI Z Z Z Z<|Zg Z Z<|qdP Z Z Z<|ZqF Z Z Z<|Zqm Z Z<|?_
  refine qam (t:=14) Z (fun c3=>?_) (fun c3=>?_)
  ·
   refine Wf Y4<|Wf Y4<|Wf Y4<|Wf Y4<|Zh Z Z Z<|Zh Z Z Z<|Zh Z Z Z<|Wf Y4<|ZqT Z Z Z<|Zn<|?_
   refine qaa (MidB.mk (Lr D) Sb Z ((decide_eq_true (by first | exact .inl (List.length_eq_zero_iff.1 O) | exact .inr (.inl O) | (rintro (h | h | h) <;> first | omega | (have h9:=congrArg List.length h;simp only [List.length_nil] at h9;omega)))).symm))
  refine Zg Z Z<|Zqm Z Z<|Zg Z Z<|qeI Z Z Z Z<|Zg Z Z<|qdP Z Z Z<|Zg Z Z<|Zqm Z Z<|?_
  refine qam (t:=18) Z (fun c4=>?_) (fun c4=>?_)
  ·
   refine Zg Z Z<|Zqm Z Z<|Zg Z Z<|?_
   obtain ⟨c0,hc0⟩:∃ c0,l[0]?=some c0:=⟨_,List.getElem?_eq_getElem O⟩
   refine qae (qdx Z Z Z Z hc0) Z<|Zg Z Z<|qaJ Z Z Z<|Zg Z Z<|ZqT Z Z Z<|ZqF Z Z Z<|Zn<|?_
   refine qaa (MidB.mk (Lr D) Sb Z (decide_eq_decide.2 (⟨fun h=>.inr (.inr ⟨by omega,by rw [hc0];exact congrArg some (u8_eq.2 h)⟩),fun h=>by rcases h with h | h | h <;> first | omega | (rw [h] at hc0;cases hc0) | (have h2:=h.2;rw [hc0] at h2;injection h2 with h2;rw [h2];rfl)⟩)))
  refine Wf Y4<|Wf Y4<|Wf Y4<|Zg Z Z<|ZqF Z Z Z<|ZqF Z Z Z<|Zn<|?_
  refine qaa (MidB.mk (Lr D) Sb Z ((decide_eq_false (by first | exact .inl (List.length_eq_zero_iff.1 O) | exact .inr (.inl O) | (rintro (h | h | h) <;> first | omega | (have h9:=congrArg List.length h;simp only [List.length_nil] at h9;omega)))).symm))
 intro s1 h1
 refine qab Z (fun c5=>?_) (fun c5=>?_)
 ·
  have h23:=qrp c5
  refine Sr<|Zqa Z Z<|At Z Z<|Zo<|Zu<|?_
  refine rR [] L (.tmp Z (.t1 Z)) Z h1 fun _ hS2=>?_
  first
    | (rw [h23];exact ⟨rfl,rfl⟩)
    | (rw [h35];exact ⟨rfl,rfl⟩)
    | (rw [h45];exact ⟨rfl,rfl⟩)
 have h23:=c5
 have hl10:l.length≤10:=by
   rcases Nat.lt_or_ge 10 l.length with h | h
   · exact absurd (.inr (.inl h)) h23
   · exact h
 refine Zk<|Zt<|Sr<|At Z Z<|Zs<|Sr<|At Z Z<|Zp<|?_
 refine qaQ (γ:=Nat) (fun k=>[(0,_),(2,.int .u32 0),(3,_),(4,.int .i64 ((qfN 0 (l.take k):Nat):Int)),(5,.int .i64 (k:Int))]) (fun _=>_) (fun k tw=>Le D s1 tw∧(k≤l.length∧∀ i c,i < k→l[i]?=some c→qdk c=true)) (fun k=>l.length - k) (fun _ _ _ h hl=>⟨h.1.trans hl,h.2⟩) 0 (.c3 Z Z Z (.cons (congrArg some (congrArg (Value.int .i64) (by rw [List.take_zero,qds];rfl))) (.cons Z (.nil _)))) Z ⟨Le.refl _,⟨Nat.zero_le _,fun i c hi=>by omega⟩⟩ ?_
 intro k s6 I6
 have hk0:=I6.2.1
 have hI:=I6.2.2
 have hvb:=qmU hk0 O hI
 refine Zs<|Sr<|Zqm Z Z<|Zqm Z Z<|qeI Z Z Z Z<|qbY Z Z Z<|Nt<|?_
 refine qab Z (fun c7=>?_) (fun c7=>?_)
 ·
  have hk:k < l.length:=by omega
  obtain ⟨ch,hch⟩:∃ ch,l[k]?=some ch:=⟨_,List.getElem?_eq_getElem hk⟩
  have hc256:=ch.toNat_lt
  refine Zk<|Zt<|Zs<|Zp<|Zs<|Sr<|Zqm Z Z<|Zqm Z Z<|qae (qdx Z Z Z Z hch) Z<|qae (qaH Z Z Z Z Z (w64 O O)) Z<|Jc Z Z Z (qtD D _ _ _ _ _) ?_
  rintro _ _ s8 h8 ⟨rfl,rfl⟩
  refine qcQ Z Z<|Nt<|?_
  refine qbc Z (fun c9=>?_) (fun c9=>?_)
  ·
   have hnd:qdk ch=false:=Bool.eq_false_iff.2 fun h=>c9 (digB_iff.2 h)
   have h35:=qr5 hch hnd
   refine Sr<|Zqa Z Z<|At Z Z<|Zo<|Zu<|Zc<|Zu<|Zu<|Zc<|Zu ?_
   refine rR [] L (.tmp Z (.t1 Z)) Z (h1.t I6.1|>.t h8) fun _ hS2=>?_
   first
     | (rw [h23];exact ⟨rfl,rfl⟩)
     | (rw [h35];exact ⟨rfl,rfl⟩)
     | (rw [h45];exact ⟨rfl,rfl⟩)
  have hdg:qdk ch=true:=digB_iff.1 c9
  have hd48:=digB_iff.2 hdg
  refine Zk<|Zt<|Zr<|Zqm Z Z<|qtt Z Z Z (w64 O O)<|Zqm Z Z<|Zqm Z Z<|qae (qdx Z Z Z Z hch) Z<|qae (qaH Z Z Z Z Z (w64 O O)) Z<|qaW Z Z Z (w64 O O)<|qeW Z Z Z (w64 O O)<|Zqa Z Z<|Zn<|Zb<|Zt<|Zr<|Zqm Z Z<|qaW Z Z Z (w64 O O)<|Zqa Z Z<|Zn<|?_
  refine qaa ⟨(k+1),[],(.c3 Z Z Z (.cons (congrArg some (congrArg (Value.int .i64) (by rw [ql0 hch,qe7];omega))) kp)),Z,⟨(I6.1.t h8),⟨by omega,qaS hI hch hdg⟩⟩,O⟩
 have hkl:l.take k=l:=List.take_of_length_le O
 rw [hkl] at hvb ⊢
 refine Zl<|Zv<|Zv<|Zd<|Zt<|Zs<|Sr<|Zqm Z Z<|qdP Z Z Z<|Nt<|?_
 refine qab Z (fun c10=>?_) (fun c10=>?_)
 ·
  have h45:=ql3 (l:=l) O
  refine Sr<|Zqa Z Z<|At Z Z<|Zo<|Zu<|?_
  refine rR [] L (.tmp Z (.t1 Z)) Z (h1.t I6.1) fun _ hS2=>?_
  first
    | (rw [h23];exact ⟨rfl,rfl⟩)
    | (rw [h35];exact ⟨rfl,rfl⟩)
    | (rw [h45];exact ⟨rfl,rfl⟩)
 have h45:=qov h23 (fun i c hi h=>hI i c O h) O
 refine Zk<|Zt<|Sr<|Zqm Z Z<|qae (qaH Z Z Z Z Z (qcz O)) Z<|Zqa Z Z<|At Z Z<|Zo<|?_
 refine rR [] L (.tmp Z (.t1 Z)) Z (h1.t I6.1) fun _ hS2=>?_
 first
   | (rw [h23];exact ⟨rfl,rfl⟩)
   | (rw [h35];exact ⟨rfl,rfl⟩)
   | (rw [h45];exact ⟨rfl,rfl⟩)
theorem qr0{p:Prop} [Decidable p] {b:Bool} (h:p):b=decide (p∧b=true):=by simp [h]
theorem qmX(D:Nat)(L:Hl)(s:World)(t:Tab)(A:Option Addr)(n c:Nat)(hA:Inss s A n c t.ins)(r:RL)(hr:U32 r.num):AC prog D 31 [.agg #[.int .i64 t.cells,.slice A n c],.agg #[.bool r.ok,St r.label,St r.op,.bool r.given,St r.name,.int .u32 r.num]] L s fun v L' _=>v=.int .i64 (szL r)∧L=L':=by
 have hr1:=hr.1
 have hr2:=hr.2
 refine qai (fn:=f31) qaG func31 V Z ntmps31 Z (rs:=[.tmp 4]) Z [(0,_),(1,_)] Z<|Sr<|qaL Z Z ?_
 intro β1 s1 h1
 refine qaL Z Z ?_
 intro β2 s2 h2
 refine At Z Z<|Zs<|Sr<|Wb Y5<|Wl 0 Y6<|qjv Z Z Z<|Nt<|?_
 refine qab Z (fun c3=>?_) (fun c3=>?_)
 ·
  have h7:r.op=[]:=c3
  refine Sr<|At Z Z<|Zo<|Zu<|?_
  refine rR [_,_] L (.t1 Z) Z (h1.t h2) fun _ hS2=>?_
  first
    | (exact ⟨by rw [szL,if_pos h7];rfl,rfl⟩)
    | (exact ⟨by rw [szL,if_neg h7,if_pos h10];rfl,rfl⟩)
    | (exact ⟨by rw [szL,if_neg h7,if_neg h10,if_pos h20];rfl,rfl⟩)
    | (exact ⟨by rw [szL,if_neg h7,if_neg h10,if_neg h20];rfl,rfl⟩)
 have h7:¬ r.op=[]:=c3
 refine Zk<|Zt<|Zs<|Sr<|Wb Y5<|Wl 0 Y6<|qjv Z Z Z<|Nt<|?_
 refine qab Z (fun c4=>?_) (fun c4=>?_)
 ·
  have h10:r.op=qbe:=c4
  refine Sr<|Wb Y5<|Wl 0 Y6<|qae (qaH Z Z Z Z Z (w64 O O)) Z<|At Z Z<|Zo<|Zu<|?_
  refine rR [_,_] L (.t1 Z) Z (h1.t h2) fun _ hS2=>?_
  first
    | (exact ⟨by rw [szL,if_pos h7];rfl,rfl⟩)
    | (exact ⟨by rw [szL,if_neg h7,if_pos h10];rfl,rfl⟩)
    | (exact ⟨by rw [szL,if_neg h7,if_neg h10,if_pos h20];rfl,rfl⟩)
    | (exact ⟨by rw [szL,if_neg h7,if_neg h10,if_neg h20];rfl,rfl⟩)
 have h10:¬ r.op=qbe:=c4
 refine Zk<|Zt<|Zs<|?_
 refine qbV 20 (r.op≠qcI∧r.given=true) ?_ ?_
 ·
  refine Zr<|Wb Y5<|Wl 0 Y6<|qqe Z Z Z<|Zqm Z Z<|?_
  refine qb2 (t:=17) Z (fun c6=>?_) (fun c6=>?_)
  ·
   refine Zg Z Z<|Wb Y5<|Zg Z Z<|Wl 0 Y6<|ZqT Z Z Z<|Zn<|?_
   refine qaa (MidB.mk (Lr D) Sb Z ((qr0 (p:=r.op≠qcI) As)))
  refine Wf Y4<|Wf Y4<|ZqF Z Z Z<|Zn<|?_
  refine qaa (MidB.mk (Lr D) Sb Z ((decide_eq_false (fun h=>absurd As h.1)).symm))
 intro s5 h5
 refine qab Z (fun c7=>?_) (fun c7=>?_)
 ·
  have h20:=c7
  refine Sr<|At Z Z<|Zo<|Zu<|?_
  refine rR [_,_] L (.t1 Z) Z (h1.t h2|>.t h5) fun _ hS2=>?_
  first
    | (exact ⟨by rw [szL,if_pos h7];rfl,rfl⟩)
    | (exact ⟨by rw [szL,if_neg h7,if_pos h10];rfl,rfl⟩)
    | (exact ⟨by rw [szL,if_neg h7,if_neg h10,if_pos h20];rfl,rfl⟩)
    | (exact ⟨by rw [szL,if_neg h7,if_neg h10,if_neg h20];rfl,rfl⟩)
 have h20:=c7
 refine Zk<|Zt<|Sr<|At Z Z<|Zo<|?_
 refine rR [_,_] L (.t1 Z) Z (h1.t h2|>.t h5) fun _ hS2=>?_
 first
   | (exact ⟨by rw [szL,if_pos h7];rfl,rfl⟩)
   | (exact ⟨by rw [szL,if_neg h7,if_pos h10];rfl,rfl⟩)
   | (exact ⟨by rw [szL,if_neg h7,if_neg h10,if_pos h20];rfl,rfl⟩)
   | (exact ⟨by rw [szL,if_neg h7,if_neg h10,if_neg h20];rfl,rfl⟩)
theorem qks(D:Nat)(L:Hl)(s:World)(l:List UInt8)(hl:l.length≤1000000):AC Tryz.prog D 76 [St l] L s fun v L' s'=>∃ M',L'=M'++L∧∀ s2,Le D s' s2→Pub M' s2→∃ A n c',v=.slice A n c'∧Strs s2 A n c' (qh3 l):=by
 refine qai (fn:=Tryz.f76) qaG Tryz.func76 V Z Tryz.ntmps76 Z (rs:=[.tmp 2]) Z [(0,_)] Z<|Sr<|At Z Z<|Sr<|At Z Z<|Sr<|Zqm Z Z<|Jc Z Z Z (qke D _ _ l 32 O) ?_
 rintro _ _ s1 h1 ⟨rfl,Asq9,ns,cs,rfl,hSs⟩
 have hns:=hSs.1
 have hnl:=qfG 32 [] l
 have hns2:ns=(qbD 32 [] l).length:=hns
 refine At Z Z<|Zs<|Sr<|At Z Z<|Zp<|?_
 refine qaQ (γ:=Nat×Value×Hl×List (List UInt8)) (fun g=>[(2,.slice none 0 0),(3,g.2.1),(4,_),(5,.int .i64 (g.1:Int))]) (fun g=>g.2.2.1++L) (fun g tw=>Le D s1 tw∧(g.1≤ns∧FL.Own 9 1 g.2.2.1 g.2.1 g.2.2.2.length (sb g.2.2.2)∧g.2.2.2.length≤g.1∧qh3 l=g.2.2.2++((splitB 32 l).drop g.1).filter (fun y=>decide (y≠[])))) (fun g=>ns - g.1) (fun _ _ _ h hl=>⟨h.1.trans hl,h.2⟩) (0,.slice none 0 0,[],[]) (.c4 Z Z Z Z (.nil _)) Z ⟨Le.refl _,⟨Nat.zero_le _,Own.nil,Nat.le_refl _,Z⟩⟩ ?_
 intro g s2 I2
 obtain ⟨k,vo,Mo,out⟩:=g
 obtain ⟨hk0,hO,hol,hS⟩:=I2.2
 simp only at hk0 hO hol hS
 dsimp only
 refine Zs<|Sr<|Zqm Z Z<|Zqm Z Z<|Ws Y4<|qbY Z Z Z<|Nt<|?_
 refine qab Z (fun c3=>?_) (fun c3=>?_)
 ·
  have hk:k < ns:=by omega
  obtain ⟨b,off,x,rfl,hx,hcx,hxl⟩:=Strs.at_ (hSs.le I2.1) hk
  refine Zk<|Zt<|Zs<|Zp<|Sr<|Zqm Z Z<|Zqm Z Z<|qae (qaX Z Z Z Z Z Z hk) Z<|qae (qaq Z Z Z (hcx.le (Lr D)) Z) Z<|qqe Z Z Z<|Nt<|?_
  refine qbc Z (fun c4=>?_) (fun c4=>?_)
  ·
   have hne:=c4
   refine Zr<|Zqm Z Z<|Zqm Z Z<|Zqm Z Z<|qae (qaX Z Z Z Z Z Z hk) Z<|qae (qaq Z Z Z (hcx.le (Lr D)) Z) Z<|qa0 [(_,_)] [_] Z Z Z Z Z Z Z Z Z ?_
   intro βn s5 h5 hcb
   refine qbO (sz:=1) [] Mo L Z Z Z Z Z Z Z hO (Row.of_cells (hcb.le (Lr D)) Z Z) ⟨by simp [ti9];omega,by omega⟩ Z ?_
   intro v2 A2x s6 h6 o2
   obtain ⟨Av2,cv2,rfl,_,_⟩:=Own.slice o2
   simp only [List.nil_append]
   refine Zqa Z Z<|Zn<|Zb<|Zt<|Zr<|Zqm Z Z<|qaW Z Z Z (w64 O O)<|Zqa Z Z<|Zn<|?_
   refine qaa ⟨(k+1,.slice Av2 (out.length+1) cv2,A2x,out++[x]),[],kp,Z,⟨(I2.1.t h5|>.t h6),by first | exact ⟨by simp only;omega,by simp only [List.length_append,List.length_cons,List.length_nil,qgb];exact o2,by simp;omega,by simp only;rw [hS,qjD hx,if_neg hne,List.append_assoc];rfl⟩ | exact ⟨by simp only;omega,hO,by simp only;omega,by simp only;rw [hS,qjD hx,if_pos hne]⟩⟩,Oz⟩
  have hne:=c4
  refine Zk<|Zb<|Zt<|Zr<|Zqm Z Z<|qaW Z Z Z (w64 O O)<|Zqa Z Z<|Zn<|?_
  refine qaa ⟨(k+1,vo,Mo,out),[],kp,Z,⟨I2.1,by first | exact ⟨by simp only;omega,by simp only [List.length_append,List.length_cons,List.length_nil,qgb];exact o2,by simp;omega,by simp only;rw [hS,qjD hx,if_neg hne,List.append_assoc];rfl⟩ | exact ⟨by simp only;omega,hO,by simp only;omega,by simp only;rw [hS,qjD hx,if_pos hne]⟩⟩,Oz⟩
 rw [List.drop_eq_nil_of_le O,List.filter_nil,List.append_nil] at hS
 obtain ⟨Ao,co,rfl,_,_⟩:=Own.slice hO
 refine Zl<|Zv<|Zv<|Zd<|Zt<|Sr<|Zqm Z Z<|At Z Z<|Zo<|?_
 refine rR [] _ (.t1 Z) Z (h1.t I2.1) fun _ hS2=>?_
 refine ⟨Mo,Z,fun s2 hs2 hp=>⟨Ao,out.length,co,Z,?_⟩⟩
 rw [hS]
 exact Own.strs hO (fun x hx=>by rw [← hS] at hx;have:=(qhj hx).2;omega) hp rfl
theorem qmQ(D:Nat)(L:Hl)(s:World)(l:List UInt8)(hl:l.length≤1000000):AC Tryz.prog D 76 [St l] L s fun v L' s'=>L=L'∧∃ A n c',v=.slice A n c'∧Strs s' A n c' (qh3 l):=AC.pubW (qks D L s l hl)
end Go.Proofs.YtjindleklapakaaGreatDoor
namespace Go.Proofs.YtjindleklapakaaGreatDoor
open Go Go.FL Go.RowKit
theorem qrT{c:UInt8}{l:List UInt8}(h:c ∉ l):fnd c l=none:=by
 induction l with
 | nil=>rfl
 | cons x l ih=>
  simp only [List.mem_cons,not_or] at h
  have hx:¬ x=c:=fun e=>h.1 e.symm
  simp [fnd,hx,ih h.2]
theorem qsh{c:UInt8}{l:List UInt8}(h:c ∉ l):qcn c l=(l,[],false):=by unfold qcn;rw [qrT h]
def okL(c:UInt8):Bool:=qft c || qdk c
theorem qqA:∀ k:Fin 256,okL (UInt8.ofNat k.val)=true→UInt8.ofNat k.val≠10∧UInt8.ofNat k.val≠32∧UInt8.ofNat k.val≠43∧UInt8.ofNat k.val≠58∧UInt8.ofNat k.val≠59:=by decide +kernel
theorem qs4{c:UInt8}(h:okL c=true):c≠10∧c≠32∧c≠43∧c≠58∧c≠59:=by
 have h1:=qqA ⟨c.toNat,c.toNat_lt⟩
 simp only [UInt8.ofNat_toNat] at h1
 exact h1 h
theorem decL(u:Nat):∀ c∈Lib.decDigits u,okL c=true:=fun c hc=>by
 have:=List.all_eq_true.1 (qhm u) c hc
 simp [okL,this]
theorem qmB(u:Nat):qaE (Lib.decDigits u)=false:=by
 cases hd:Lib.decDigits u with
 | nil=>rfl
 | cons x l=>
  have h1:=List.all_eq_true.1 (qhm u) x (by rw [hd];exact List.mem_cons_self ..)
  refine qeh (c:=x) Z (.inl ?_)
  simp only [qdk,Bool.and_eq_true,decide_eq_true_eq] at h1
  omega
theorem qrk{u:Nat}(h:u < 4294967296):qdG (Lib.decDigits u)=some ([],(u:Int)):=by
 have hc:qcn 43 (Lib.decDigits u)=(Lib.decDigits u,[],false):=qsh fun hm=>(qs4 (decL u _ hm)).2.2.1 rfl
 unfold qdG
 rw [hc,if_neg (by rw [qmB];decide),qjY h]
 rfl
theorem qjP(c:UInt8)(l:List UInt8):(qgE l (c.toNat:Int) < 0∧qcn c l=(l,[],false))∨∃ i:Nat,qgE l (c.toNat:Int)=(i:Int)∧i+1≤l.length∧qcn c l=(l.take i,l.drop (i+1),true):=by
 have h:=qmr l c 0
 have h':qgE l (c.toNat:Int)=match fnd c l with | none=>-1 | some i=>((0+i:Nat):Int):=h
 cases hf:fnd c l with
 | none=>rw [hf] at h';exact .inl ⟨by rw [h'];decide,by simp [qcn,hf]⟩
 | some i=>rw [hf] at h';exact .inr ⟨i,by rw [h'];simp,qlB hf,by simp [qcn,hf]⟩
theorem qsN(l:List UInt8):(qgE l 59 < 0∧qcn 59 l=(l,[],false))∨∃ i:Nat,qgE l 59=(i:Int)∧i+1≤l.length∧qcn 59 l=(l.take i,l.drop (i+1),true):=qjP 59 l
theorem qon(l:List UInt8):(qgE l 43 < 0∧qcn 43 l=(l,[],false))∨∃ i:Nat,qgE l 43=(i:Int)∧i+1≤l.length∧qcn 43 l=(l.take i,l.drop (i+1),true):=qjP 43 l
theorem qmG{w:List UInt8}{u:Nat}(h:qdf w=some u):qdG w=some ([],(u:Int)):=by
 obtain ⟨e,hu⟩:=qe0 h
 rw [e];exact qrk hu
theorem qf5{w:List UInt8}(hn:qdf w=none)(hc:qcn 43 w=(w,[],false)):qdG w=if qaE w=true then some (w,0) else none:=by
 unfold qdG
 rw [hc,hn]
 split <;> simp
theorem qel{w a b:List UInt8}(hn:qdf w=none)(hc:qcn 43 w=(a,b,true)):qdG w=if qaE a=true then (qdf b).map (fun (n:Nat)=>(a,(n:Int))) else none:=by
 unfold qdG
 rw [hc,hn]
 split <;> simp
theorem qb5(l:List UInt8):U32 (((qdf l).getD 0:Nat):Int):=by
 cases h:qdf l with
 | none=>exact ⟨by simp,by simp⟩
 | some u=>have:=(qe0 h).2;exact ⟨by simp,by simp;omega⟩
theorem qeE{l:List UInt8}{r:RL}(h:qa6 l=none)(hr:r.ok=false)(hu:U32 r.num):qpE l r:=⟨.inr ⟨hr,h⟩,hu⟩
theorem qgk{l:List UInt8}{r:RL}(h:qa6 l=some r.ln)(hr:r.ok=true)(hu:U32 r.num):qpE l r:=⟨.inl ⟨hr,h⟩,hu⟩
theorem qgZ{l lab o w:List UInt8}{R2:List (List UInt8)}{x:List UInt8×Int}{q:Prop} [Decidable q] (hB:qa6 l=qdg lab (o::w::R2)) (ho:qaE o=true) (hx:qdG w=some x) (hu:U32 x.2) (hq:q↔R2.length=0):qpE l ⟨decide q,lab,o,true,x.1,x.2⟩:=by
 cases R2 with
 | nil=>exact qgk (by rw [hB,qbq ho,hx];rfl) (decide_eq_true (hq.2 rfl)) hu
 | cons y R=>exact qeE (by rw [hB];rfl) (decide_eq_false fun h=>by have:=hq.1 h;simp at this) hu
theorem qg1{l lab o w:List UInt8}{R2:List (List UInt8)}(hB:qa6 l=qdg lab (o::w::R2))(ho:qaE o=true)(hx:qdG w=none):qa6 l=none:=by
 cases R2 with
 | nil=>rw [hB,qbq ho,hx];rfl
 | cons y R=>rw [hB];rfl
theorem qjl:U32 0:=⟨by decide,by decide⟩
open Go.FL
attribute [local irreducible] JC JO JA JB qa7 qaP qdj AC fill CellsAt QE Ev Mid
theorem qme(D:Nat)(L:Hl)(s:World)(l:List UInt8)(hl:l.length≤400000):AC Tryz.prog D 57 [St l] L s fun v L' _=>L=L'∧∃ r:RL,v=.agg r.cs.toArray∧qpE l r:=by
 have hl1:=(qiW 59 l).1
 refine qai (fn:=Tryz.f57) qaG Tryz.func57 V Z Tryz.ntmps57 Z (rs:=[.cell 2 90]) Z [(0,_)] Z<|Sr<|qag Z [_,_,_,_,_,_] Z Z ?_
 intro β1 s1 h1
 refine Nt<|Sr<|qag Z [_,_,_,_,_,_] Z Z ?_
 intro β2 s2 h2
 refine Nt<|Sr<|Zqm Z Z<|Jc Z Z Z (qht D _ _ l _ O) ?_
 rintro _ _ s3 h3 ⟨rfl,rfl⟩
 refine At Z Z<|?_
 refine qpo (γ:=Unit) (fun g=>[(2,.pointer (some ⟨β1,0,none⟩)),(3,.pointer (some ⟨β2,0,none⟩)),(0,St (qcn 59 l).1)]) (fun g=>(β2,cb [.bool false,St [],St [],.bool false,St [],.int .u32 0] 90)::(β1,cb [.bool false,St [],St [],.bool false,St [],.int .u32 0] 90)::L) (fun g tw=>Le D s3 tw∧(True)) (fun _ _ _ h hl=>⟨h.1.trans hl,h.2⟩) ?_ ?_
 ·
  refine Sr<|Zqm Z Z<|qgW Z Z Z<|Nt<|?_
  refine qab Z (fun c5=>?_) (fun c5=>?_)
  ·
   obtain ⟨hneg,_⟩ | ⟨i,hi,hil,hcut⟩:=qsN l
   · exact absurd c5 O
   rw [hi]
   refine Zr<|Zqm Z Z<|Zqm Z Z<|qae (qav (qhT Z Z Z Z O) (show St (l.take i)=St (qcn 59 l).1 by rw [hcut])) Z<|Zqa Z Z<|Zn<|?_
   refine qaa (Mid.mk () [] (.c2 Z Z (.cons (congrArg some (congrArg St (by rw [hcut]))) (.nil _))) Pr ⟨(Lr D),Tt⟩)
  obtain ⟨hneg,hcut⟩ | ⟨i,hi,_,_⟩:=qsN l
  rotate_left
  · exact absurd c5 O
  refine Zk ?_
  refine qaa (Mid.mk () [] (.c2 Z Z (.cons (congrArg some (congrArg St (by rw [hcut]))) (.nil _))) Pr ⟨(Lr D),Tt⟩)
 intro g s4 I4
 refine Sr<|Zqm Z Z<|Jc Z Z Z (qmQ D _ _ (qcn 59 l).1 O) ?_
 rintro _ _ s6 h6 ⟨rfl,Aw,n,cw,rfl,hSw⟩
 have hn:=hSw.1
 have hcn:=hSw.2.1
 have hmem:∀ x∈qh3 (qcn 59 l).1,x≠[]∧x.length≤400000:=fun x hx=>by have:=qhj hx;exact ⟨this.1,by omega⟩
 generalize hWW:qh3 (qcn 59 l).1=W at hSw hmem hn
 refine At Z Z<|Sr<|At Z Z<|Zs<|Zs<|?_
 rcases W with _ | ⟨w0,R0⟩
 ·
  have hB:qa6 l=qdg [] []:=qet hWW rfl
  refine qbH qaf 18 Z _ (fun _ h=>h) ?_
  intro s7 h7
  refine za 0 Z (qao Z) Z<|za 1 Z (qao Z) Z<|za 2 Z (qdw Z Z Z) Z<|za 3 Z (qav (v':=.bool false) (qfr Z Z) (bZ (by have h9:=hn;simp only [List.length_nil,List.length_cons] at h9;omega))) Z<|za 4 Z (qao Z) Z<|zn 5 Z Z Z Z Z<|zn 6 Z Z Z Z Z<|zn 7 Z Z Z Z Z<|zn 8 Z Z Z Z Z<|zn 9 Z Z Z Z Z<|zn 10 Z Z Z Z Z<|zn 11 Z Z Z Z Z<|zn 12 Z Z Z Z Z<|zn 13 Z Z Z Z Z<|zn 14 Z Z Z Z Z<|zn 15 Z Z Z Z Z<|zn 16 Z Z Z Z Z<|za 17 Z (qeo Z Z) Z<|qac V<|Zt<|Zz Z<|Zk<|Zt<|Zs<|Sr<|Zqm Z Z<|Zqm Z Z<|Ws Y4<|?_
  refine qae (qav (v':=.bool false) (qfr Z Z) (bZ (by have h9:=hn;simp only [List.length_nil,List.length_cons] at h9;omega))) Z<|Nt<|Zz Z<|Zk<|Zt<|Zs<|Sr<|Zqm Z Z<|Zqm Z Z<|Ws Y4<|qae (qav (v':=.bool false) (qfr Z Z) (bZ (by have h9:=hn;simp only [List.length_nil,List.length_cons] at h9;omega))) Z<|Nt<|Zz Z<|Zk<|Zt<|Sr<|Zqm Z Z<|Zqm Z Z<|Ws Y4<|qaJ Z Z Z<|W0 Y5<|Wt 0 [_,_,_,_,_,_] Y9<|Nt<|Sr<|?_
  refine qae (qad 0 [_,_,_,_,_,_] Z Z Z Z Z) Z<|Wt 1 [_,_,_,_,_,_] Y9<|Nt<|Zo<|?_
  refine rR [_,_] L (.agg (us:=[_,_,_,_,_,_]) 1 Z Z Z Z Z (.nil)) Z (h1.t h2|>.t h3|>.t I4.1|>.t h6|>.t h7) fun _ hS2=>?_
  refine ⟨Z,?_⟩
  exact ⟨⟨_,_,[],false,[],0⟩,rfl,qgk (by rw [hB];rfl) (decide_eq_true (by have h9:=hn;simp only [List.length_nil,List.length_cons] at h9;omega)) qjl⟩
 obtain ⟨b0,off0,x0,hE0,hx0,hc0,hl0⟩:=Strs.at_ (hSw.le (Lr D)) (show 0 < n by have h9:=hn;simp only [List.length_cons] at h9;omega)
 obtain rfl:=hE0
 obtain rfl:w0=x0:=by simpa using hx0
 have hne0:=(hmem w0 Mc).1
 have hwl0:=(hmem w0 Mc).2
 have hn0:n=R0.length+1:=hn
 have hw0p:0 < w0.length:=List.length_pos_iff.2 hne0
 obtain ⟨cl,hcl⟩:∃ cl,w0[w0.length - 1]?=some cl:=⟨_,List.getElem?_eq_getElem O⟩
 refine qbH qaf 18 Z _ (fun _ h=>h) ?_
 intro s8 h8
 refine za 0 Z (qao Z) Z<|za 1 Z (qao Z) Z<|za 2 Z (qdw Z Z Z) Z<|za 3 Z (qav (v':=.bool true) (qfr Z Z) (bT (by have h9:=hn;simp only [List.length_nil,List.length_cons] at h9;omega))) Z<|za 4 Z (qao Z) Z<|zg 5 Z ⟨_,Z,Z⟩ (qao Z) Z<|zg 6 Z ⟨_,Z,Z⟩ (qao Z) Z<|zg 7 Z ⟨_,Z,Z⟩ (qaX Z Z Z Z Z Z (show 0 < n by omega)) Z<|zg 8 Z ⟨_,Z,Z⟩ (qaq Z Z Z (hc0.le h8) Z) Z<|zg 9 Z ⟨_,Z,Z⟩ (qao Z) Z<|zg 10 Z ⟨_,Z,Z⟩ (qao Z) Z<|zg 11 Z ⟨_,Z,Z⟩ (qaX Z Z Z Z Z Z (show 0 < n by omega)) Z ?_
 refine zg 12 Z ⟨_,Z,Z⟩ (qaq Z Z Z (hc0.le h8) Z) Z<|zg 13 Z ⟨_,Z,Z⟩ (qho Z Z Z) Z<|zg 14 Z ⟨_,Z,Z⟩ (qgn (c:=((w0.length - 1:Nat):Int)) Z Z (by rw [w64 O O];omega)) Z<|zg 15 Z ⟨_,Z,Z⟩ (qdx Z Z Z Z hcl) Z<|zg 16 Z ⟨_,Z,Z⟩ (qil Z Z) Z<|za 17 Z (qeq Z Z) Z<|qac V<|Zt ?_
 refine qab Z (fun c9=>?_) (fun c9=>?_)
 ·
  have he:qhi 58 w0=true:=by rw [qhi,List.getLast?_eq_getElem?,hcl];exact decide_eq_true (congrArg some (u8_eq.2 c9))
  refine Zs<|qaD qaf 13 Z [0] (by intro x hx;exact qan hx) ?_
  intro s10 h10
  refine za 0 Z (qao Z) Z<|za 1 Z (qao Z) Z<|za 2 Z (qaX Z Z Z Z Z Z (show 0 < n by omega)) Z<|za 3 Z (qaq Z Z Z (hc0.le (h8.t h10)) Z) Z<|za 4 Z (qao Z) Z<|za 5 Z (qao Z) Z<|za 6 Z (qaX Z Z Z Z Z Z (show 0 < n by omega)) Z<|za 7 Z (qaq Z Z Z (hc0.le (h8.t h10)) Z) Z<|za 8 Z (qho Z Z Z) Z<|za 9 Z (qgn (c:=((w0.length - 1:Nat):Int)) Z Z (by rw [w64 O O];omega)) Z<|za 10 Z (qav (qhT Z Z Z Z O) (congrArg St (List.dropLast_eq_take).symm)) Z<|za 11 Z (We Y4) Z<|qah 12 V ?_
  refine Wu Z Tt 0 [_,_,_,_,_,_] Y9 (sM (sbY (sbE _)))<|qac V<|Zt<|Zs<|Sr<|Wb Y5<|Wl 0 Y6<|Jc Z Z Z (qcC D _ _ _ (by rw [List.length_dropLast];omega)) ?_
  rintro _ _ s11 h11 ⟨rfl,rfl⟩
  refine qcQ Z Z<|Nt<|?_
  refine qbU Z (fun c12=>?_) (fun c12=>?_)
  ·
   have hbad:qa6 l=none:=qb0 hWW (by rw [qgJ,if_pos he,if_neg (by rw [show qaE w0.dropLast=false by simpa using c12];decide)])
   refine Sr<|qae (qad 0 [_,_,_,_,_,_] Z Z Z Z Z) Z<|Wt 1 [_,_,_,_,_,_] Y9<|Nt<|Zo<|Zu<|Zu<|?_
   refine rR [_,_] L (.agg (us:=[_,_,_,_,_,_]) 1 Z Z Z Z Z (.nil)) Z (h1.t h2|>.t h3|>.t I4.1|>.t h6|>.t h8|>.t h10|>.t h11) fun _ hS2=>?_
   refine ⟨Z,?_⟩
   exact ⟨⟨false,_,_,_,_,_⟩,rfl,qeE hbad rfl (by first | exact qjl | exact qb5 _ | exact hux2)⟩
  have hlb:qaE w0.dropLast=true:=by simpa using c12
  have hB:qa6 l=qdg w0.dropLast R0:=qet hWW (by rw [qgJ,if_pos he,if_pos hlb])
  refine Zk<|Zt<|Zr<|Zqm Z Z<|qae (qby (c:=((1:Nat):Int)) Z Z (by rfl)) Z<|At Z Z<|Zs<|Zs<|?_
  rcases R0 with _ | ⟨o,R1⟩
  ·
   refine Zr<|Zqm Z Z<|Zqm Z Z<|Ws Y4<|qae (qav (v':=.bool false) (qfr Z Z) (bZ (by have h9:=hn;simp only [List.length_nil,List.length_cons] at h9;omega))) Z<|Nt<|Zz Z<|Zk<|Zt<|Zs<|Sr<|Zqm Z Z<|Zqm Z Z<|Ws Y4<|qae (qav (v':=.bool false) (qfr Z Z) (bZ (by have h9:=hn;simp only [List.length_nil,List.length_cons] at h9;omega))) Z<|Nt<|Zz Z<|Zk<|Zt<|Sr<|Zqm Z Z<|Zqm Z Z<|Ws Y4<|qaJ Z Z Z<|W0 Y5<|Wt 0 [_,_,_,_,_,_] Y9 ?_
   refine Nt<|Sr<|qae (qad 0 [_,_,_,_,_,_] Z Z Z Z Z) Z<|Wt 1 [_,_,_,_,_,_] Y9<|Nt<|Zo<|?_
   refine rR [_,_] L (.agg (us:=[_,_,_,_,_,_]) 1 Z Z Z Z Z (.nil)) Z (h1.t h2|>.t h3|>.t I4.1|>.t h6|>.t h8|>.t h10|>.t h11) fun _ hS2=>?_
   refine ⟨Z,?_⟩
   exact ⟨⟨_,_,[],false,[],0⟩,rfl,qgk (by rw [hB];rfl) (decide_eq_true (by have h9:=hn;simp only [List.length_nil,List.length_cons] at h9;omega)) qjl⟩
  obtain ⟨bo,offo,xo,hEo,hxo,hco,hlo⟩:=Strs.at_ (hSw.le (h8.t h10|>.t h11)) (show 1 < n by have h9:=hn;simp only [List.length_cons] at h9;omega)
  cases hEo
  obtain rfl:o=xo:=by simpa using hxo
  have hn1:n=R1.length+2:=by rw [hn];rfl
  have hlo_:=(hmem o (by simp)).2
  refine Zr<|Zqm Z Z<|Zqm Z Z<|Ws Y4<|qae (qav (v':=.bool true) (qfr Z Z) (bT (by have h9:=hn;simp only [List.length_nil,List.length_cons] at h9;omega))) Z<|Nt<|Zy Z<|Sr<|Zqm Z Z<|Zqm Z Z<|qae (qaX Z Z Z Z Z Z (show 1 < n by omega)) Z<|qae (qaq Z Z Z (hco.le (Lr D)) Z) Z<|Wb Y5<|Wt 0 [_,_,_,_,_,_] Y9<|Nt<|Zs<|Sr<|Wb Y5<|Wl 0 Y6<|Jc Z Z Z (qcC D _ _ _ O) ?_
  rintro _ _ s13 h13 ⟨rfl,rfl⟩
  refine qcQ Z Z<|Nt<|?_
  refine qbU Z (fun c14=>?_) (fun c14=>?_)
  ·
   have hbad:qa6 l=none:=by rw [hB];exact qbu (by simpa using c14)
   refine Sr<|qae (qad 0 [_,_,_,_,_,_] Z Z Z Z Z) Z<|Wt 1 [_,_,_,_,_,_] Y9<|Nt<|Zo<|Zu<|Zu<|?_
   refine rR [_,_] L (.agg (us:=[_,_,_,_,_,_]) 1 Z Z Z Z Z (.nil)) Z (h1.t h2|>.t h3|>.t I4.1|>.t h6|>.t h8|>.t h10|>.t h11|>.t h13) fun _ hS2=>?_
   refine ⟨Z,?_⟩
   exact ⟨⟨false,_,_,_,_,_⟩,rfl,qeE hbad rfl (by first | exact qjl | exact qb5 _ | exact hux2)⟩
  have hlo:qaE o=true:=by simpa using c14
  refine Zk<|Zt<|Zr<|Zqm Z Z<|qae (qby (c:=((2:Nat):Int)) Z Z (by rfl)) Z<|At Z Z<|Zs<|Zs<|?_
  rcases R1 with _ | ⟨w,R2⟩
  ·
   refine Zr<|Zqm Z Z<|Zqm Z Z<|Ws Y4<|qae (qav (v':=.bool false) (qfr Z Z) (bZ (by have h9:=hn;simp only [List.length_nil,List.length_cons] at h9;omega))) Z<|Nt<|Zz Z<|Zk<|Zt<|Sr<|Zqm Z Z<|Zqm Z Z<|Ws Y4<|qaJ Z Z Z<|W0 Y5<|Wt 0 [_,_,_,_,_,_] Y9<|Nt<|Sr<|qae (qad 0 [_,_,_,_,_,_] Z Z Z Z Z) Z<|Wt 1 [_,_,_,_,_,_] Y9<|Nt<|Zo<|?_
   refine rR [_,_] L (.agg (us:=[_,_,_,_,_,_]) 1 Z Z Z Z Z (.nil)) Z (h1.t h2|>.t h3|>.t I4.1|>.t h6|>.t h8|>.t h10|>.t h11|>.t h13) fun _ hS2=>?_
   refine ⟨Z,?_⟩
   exact ⟨⟨_,_,o,false,[],0⟩,rfl,qgk (by rw [hB,qbt hlo];rfl) (decide_eq_true (by have h9:=hn;simp only [List.length_nil,List.length_cons] at h9;omega)) qjl⟩
  obtain ⟨bw,offw,xw,hEw,hxw,hcw,hlw⟩:=Strs.at_ (hSw.le (h8.t h10|>.t h11|>.t h13)) (show 2 < n by have h9:=hn;simp only [List.length_cons] at h9;omega)
  cases hEw
  obtain rfl:w=xw:=by simpa using hxw
  have hwl:=(hmem w (by simp)).2
  have hn2:n=R2.length+3:=by rw [hn];rfl
  refine Zr<|Zqm Z Z<|Zqm Z Z<|Ws Y4<|qae (qav (v':=.bool true) (qfr Z Z) (bT (by have h9:=hn;simp only [List.length_nil,List.length_cons] at h9;omega))) Z<|Nt<|Zy Z<|Sr<|Wb Y5<|Wt 0 [_,_,_,_,_,_] Y9<|Nt<|Sr<|Zqm Z Z<|Zqm Z Z<|qae (qaX Z Z Z Z Z Z (show 2 < n by omega)) Z<|qae (qaq Z Z Z (hcw.le (Lr D)) Z) Z<|At Z Z<|Sr<|Zqm Z Z<|qae (qby (c:=((3:Nat):Int)) Z Z (by rfl)) Z<|At Z Z<|Sr<|Zqm Z Z<|?_
  refine Jc Z Z Z (qd1 D _ _ w O) ?_
  rintro _ _ s15 h15 ⟨rfl,rfl⟩
  refine Zqm Z Z<|Zqx Z Z Z<|Zqx Z Z Z<|Zqa Z Z<|At Z Z<|Sr<|Zqm Z Z<|Wb Y5<|Wt 0 [_,_,_,_,_,_] Y9<|Nt<|Sr<|Zqm Z Z<|qcQ Z Z<|Nt<|?_
  refine qbU Z (fun c16=>?_) (fun c16=>?_)
  ·
   have hnn:qdf w=none:=by simpa using c16
   rw [hnn]
   refine Sr<|Zqm Z Z<|Jc Z Z Z (qht D _ _ w _ O) ?_
   rintro _ _ s17 h17 ⟨rfl,rfl⟩
   refine At Z Z<|Sr<|Zqm Z Z<|Wb Y5<|Wt 0 [_,_,_,_,_,_] Y9<|Nt<|Zs<|Sr<|Zqm Z Z<|qgW Z Z Z<|Nt<|?_
   refine qab Z (fun c18=>?_) (fun c18=>?_)
   ·
    obtain ⟨hneg,_⟩ | ⟨i2,hi2,hil2,hcut2⟩:=qon w
    · exact absurd c18 O
    rw [hi2]
    refine Sr<|Zqm Z Z<|Zqm Z Z<|qae (qhT Z Z Z Z O) Z<|Wb Y5<|Wt 0 [_,_,_,_,_,_] Y9<|Nt<|Sr<|Zqm Z Z<|Zqm Z Z<|qae (qby (c:=((i2+1:Nat):Int)) Z Z (by rw [w64 O O];simp)) Z<|qae (qjB Z Z Z Z O) Z<|Jc Z Z Z (qd1 D _ _ _ (by simp;omega)) ?_
    rintro _ _ s19 h19 ⟨rfl,rfl⟩
    refine Zqm Z Z<|Zqx Z Z Z<|Zqx Z Z Z<|Wb Y5<|Wt 0 [_,_,_,_,_,_] Y9<|At Z Z<|Sr<|Zqm Z Z<|qcQ Z Z<|Nt<|?_
    refine qbU Z (fun c20=>?_) (fun c20=>?_)
    ·
     have hbad:qa6 l=none:=qg1 hB hlo (by rw [qel hnn hcut2,show qdf (w.drop (i2+1))=none by simpa using c20];split <;> rfl)
     refine Sr<|qae (qad 0 [_,_,_,_,_,_] Z Z Z Z Z) Z<|Wt 1 [_,_,_,_,_,_] Y9<|Nt<|Zo<|Zu<|Zu<|?_
     refine rR [_,_] L (.agg (us:=[_,_,_,_,_,_]) 1 Z Z Z Z Z (.nil)) Z (h1.t h2|>.t h3|>.t I4.1|>.t h6|>.t h8|>.t h10|>.t h11|>.t h13|>.t h15|>.t h17|>.t h19) fun _ hS2=>?_
     refine ⟨Z,?_⟩
     exact ⟨⟨false,_,_,_,_,_⟩,rfl,qeE hbad rfl (by first | exact qjl | exact qb5 _ | exact hux2)⟩
    obtain ⟨u2,hnu2⟩:=Option.isSome_iff_exists.1 (show (qdf (w.drop (i2+1))).isSome=true by simpa using c20)
    have hux2:=qb5 (w.drop (i2+1))
    rw [hnu2] at hux2 ⊢
    refine Zk<|Zt<|Sr<|Wb Y5<|Wl 0 Y6<|Jc Z Z Z (qcC D _ _ _ (by first | omega | (simp;omega))) ?_
    rintro _ _ s21 h21 ⟨rfl,rfl⟩
    refine qcQ Z Z<|Nt<|?_
    refine qbU Z (fun c22=>?_) (fun c22=>?_)
    ·
     have hbad:qa6 l=none:=qg1 hB hlo (by rw [qel hnn hcut2,if_neg (by rw [show qaE (w.take i2)=false by simpa using c22];decide)])
     refine Sr<|qae (qad 0 [_,_,_,_,_,_] Z Z Z Z Z) Z<|Wt 1 [_,_,_,_,_,_] Y9<|Nt<|Zo<|Zu<|?_
     refine rR [_,_] L (.agg (us:=[_,_,_,_,_,_]) 1 Z Z Z Z Z (.nil)) Z (h1.t h2|>.t h3|>.t I4.1|>.t h6|>.t h8|>.t h10|>.t h11|>.t h13|>.t h15|>.t h17|>.t h19|>.t h21) fun _ hS2=>?_
     refine ⟨Z,?_⟩
     exact ⟨⟨false,_,_,_,_,_⟩,rfl,qeE hbad rfl (by first | exact qjl | exact qb5 _ | exact hux2)⟩
    have hop:qdG w=some (w.take i2,(u2:Int)):=by rw [qel hnn hcut2,if_pos (show qaE (w.take i2)=true by simpa using c22),hnu2];rfl
    have hux:U32 (w.take i2,(u2:Int)).2:=hux2
    refine Zk<|Zt<|Sr<|Zqm Z Z<|Zqm Z Z<|Ws Y4<|qaJ Z Z Z<|W0 Y5<|Wt 0 [_,_,_,_,_,_] Y9<|Nt<|Sr<|qae (qad 0 [_,_,_,_,_,_] Z Z Z Z Z) Z<|Wt 1 [_,_,_,_,_,_] Y9<|Nt<|Zo<|?_
    refine rR [_,_] L (.agg (us:=[_,_,_,_,_,_]) 1 Z Z Z Z Z (.nil)) Z (h1.t h2|>.t h3|>.t I4.1|>.t h6|>.t h8|>.t h10|>.t h11|>.t h13|>.t h15|>.t h17|>.t h19|>.t h21) fun _ hS2=>?_
    refine ⟨Z,?_⟩
    exact ⟨⟨_,_,o,true,_,_⟩,rfl,qgZ hB hlo hop hux (by have h9:=hn;simp only [List.length_nil,List.length_cons] at h9;omega)⟩
   obtain ⟨hneg,hcut2⟩ | ⟨i2,hi2,_,_⟩:=qon w
   rotate_left
   · exact absurd c18 O
   refine Zk<|Zt<|Sr<|Wb Y5<|Wl 0 Y6<|Jc Z Z Z (qcC D _ _ _ (by first | omega | (simp;omega))) ?_
   rintro _ _ s23 h23 ⟨rfl,rfl⟩
   refine qcQ Z Z<|Nt<|?_
   refine qbU Z (fun c24=>?_) (fun c24=>?_)
   ·
    have hbad:qa6 l=none:=qg1 hB hlo (by rw [qf5 hnn hcut2,if_neg (by rw [show qaE w=false by simpa using c24];decide)])
    refine Sr<|qae (qad 0 [_,_,_,_,_,_] Z Z Z Z Z) Z<|Wt 1 [_,_,_,_,_,_] Y9<|Nt<|Zo<|Zu<|?_
    refine rR [_,_] L (.agg (us:=[_,_,_,_,_,_]) 1 Z Z Z Z Z (.nil)) Z (h1.t h2|>.t h3|>.t I4.1|>.t h6|>.t h8|>.t h10|>.t h11|>.t h13|>.t h15|>.t h17|>.t h23) fun _ hS2=>?_
    refine ⟨Z,?_⟩
    exact ⟨⟨false,_,_,_,_,_⟩,rfl,qeE hbad rfl (by first | exact qjl | exact qb5 _ | exact hux2)⟩
   have hop:qdG w=some (w,0):=by rw [qf5 hnn hcut2,if_pos (show qaE w=true by simpa using c24)]
   have hux:U32 (w,(0:Int)).2:=qjl
   refine Zk<|Zt<|Sr<|Zqm Z Z<|Zqm Z Z<|Ws Y4<|qaJ Z Z Z<|W0 Y5<|Wt 0 [_,_,_,_,_,_] Y9<|Nt<|Sr<|qae (qad 0 [_,_,_,_,_,_] Z Z Z Z Z) Z<|Wt 1 [_,_,_,_,_,_] Y9<|Nt<|Zo<|?_
   refine rR [_,_] L (.agg (us:=[_,_,_,_,_,_]) 1 Z Z Z Z Z (.nil)) Z (h1.t h2|>.t h3|>.t I4.1|>.t h6|>.t h8|>.t h10|>.t h11|>.t h13|>.t h15|>.t h17|>.t h23) fun _ hS2=>?_
   refine ⟨Z,?_⟩
   exact ⟨⟨_,_,o,true,_,_⟩,rfl,qgZ hB hlo hop hux (by have h9:=hn;simp only [List.length_nil,List.length_cons] at h9;omega)⟩
  obtain ⟨u,hnu⟩:=Option.isSome_iff_exists.1 (show (qdf w).isSome=true by simpa using c16)
  have hop:=qmG hnu
  have hux:U32 (([]:List UInt8),(u:Int)).2:=by have:=qb5 w;rw [hnu] at this;exact this
  rw [hnu]
  refine Zk<|Zt<|Sr<|Zqm Z Z<|Zqm Z Z<|Ws Y4<|qaJ Z Z Z<|W0 Y5<|Wt 0 [_,_,_,_,_,_] Y9<|Nt<|Sr<|qae (qad 0 [_,_,_,_,_,_] Z Z Z Z Z) Z<|Wt 1 [_,_,_,_,_,_] Y9<|Nt<|Zo<|?_
  refine rR [_,_] L (.agg (us:=[_,_,_,_,_,_]) 1 Z Z Z Z Z (.nil)) Z (h1.t h2|>.t h3|>.t I4.1|>.t h6|>.t h8|>.t h10|>.t h11|>.t h13|>.t h15) fun _ hS2=>?_
  refine ⟨Z,?_⟩
  exact ⟨⟨_,_,o,true,_,_⟩,rfl,qgZ hB hlo hop hux (by have h9:=hn;simp only [List.length_nil,List.length_cons] at h9;omega)⟩
 have he:qhi 58 w0=false:=by
   rw [qhi,List.getLast?_eq_getElem?,hcl,decide_eq_false_iff_not]
   intro e
   injection e with e
   exact c9 (by rw [e];rfl)
 have hB:qa6 l=qdg [] (w0::R0):=qet hWW (by rw [qgJ,if_neg (by rw [he];decide)])
 obtain ⟨o,R1,e1,e2⟩:∃ a b,a=w0∧b=R0:=⟨_,_,rfl,rfl⟩
 subst e1
 subst e2
 have hco:=hc0.le h8
 have hlo_:=hwl0
 refine Zk<|Zt<|Zs<|Sr<|Zqm Z Z<|Zqm Z Z<|Ws Y4<|qae (qav (v':=.bool true) (qfr Z Z) (bT (by have h9:=hn;simp only [List.length_nil,List.length_cons] at h9;omega))) Z<|Nt<|Zy Z<|Sr<|Zqm Z Z<|Zqm Z Z<|qae (qaX Z Z Z Z Z Z (show 0 < n by omega)) Z<|qae (qaq Z Z Z (hco.le (Lr D)) Z) Z<|Wb Y5<|Wt 0 [_,_,_,_,_,_] Y9<|Nt<|Zs<|Sr<|Wb Y5<|Wl 0 Y6<|Jc Z Z Z (qcC D _ _ _ O) ?_
 rintro _ _ s25 h25 ⟨rfl,rfl⟩
 refine qcQ Z Z<|Nt<|?_
 refine qbU Z (fun c26=>?_) (fun c26=>?_)
 ·
  have hbad:qa6 l=none:=by rw [hB];exact qbu (by simpa using c26)
  refine Sr<|qae (qad 0 [_,_,_,_,_,_] Z Z Z Z Z) Z<|Wt 1 [_,_,_,_,_,_] Y9<|Nt<|Zo<|Zu<|Zu<|?_
  refine rR [_,_] L (.agg (us:=[_,_,_,_,_,_]) 1 Z Z Z Z Z (.nil)) Z (h1.t h2|>.t h3|>.t I4.1|>.t h6|>.t h8|>.t h25) fun _ hS2=>?_
  refine ⟨Z,?_⟩
  exact ⟨⟨false,_,_,_,_,_⟩,rfl,qeE hbad rfl (by first | exact qjl | exact qb5 _ | exact hux2)⟩
 have hlo:qaE o=true:=by simpa using c26
 refine Zk<|Zt<|Zr<|Zqm Z Z<|qae (qby (c:=((1:Nat):Int)) Z Z (by rfl)) Z<|At Z Z<|Zs<|Zs<|?_
 rcases R1 with _ | ⟨w,R2⟩
 ·
  refine Zr<|Zqm Z Z<|Zqm Z Z<|Ws Y4<|qae (qav (v':=.bool false) (qfr Z Z) (bZ (by have h9:=hn;simp only [List.length_nil,List.length_cons] at h9;omega))) Z<|Nt<|Zz Z<|Zk<|Zt<|Sr<|Zqm Z Z<|Zqm Z Z<|Ws Y4<|qaJ Z Z Z<|W0 Y5<|Wt 0 [_,_,_,_,_,_] Y9<|Nt<|Sr<|qae (qad 0 [_,_,_,_,_,_] Z Z Z Z Z) Z<|Wt 1 [_,_,_,_,_,_] Y9<|Nt<|Zo<|?_
  refine rR [_,_] L (.agg (us:=[_,_,_,_,_,_]) 1 Z Z Z Z Z (.nil)) Z (h1.t h2|>.t h3|>.t I4.1|>.t h6|>.t h8|>.t h25) fun _ hS2=>?_
  refine ⟨Z,?_⟩
  exact ⟨⟨_,_,o,false,[],0⟩,rfl,qgk (by rw [hB,qbt hlo];rfl) (decide_eq_true (by have h9:=hn;simp only [List.length_nil,List.length_cons] at h9;omega)) qjl⟩
 obtain ⟨bw,offw,xw,hEw,hxw,hcw,hlw⟩:=Strs.at_ (hSw.le (h8.t h25)) (show 1 < n by have h9:=hn;simp only [List.length_cons] at h9;omega)
 cases hEw
 obtain rfl:w=xw:=by simpa using hxw
 have hwl:=(hmem w (by simp)).2
 have hn2:n=R2.length+2:=by rw [hn];rfl
 refine Zr<|Zqm Z Z<|Zqm Z Z<|Ws Y4<|qae (qav (v':=.bool true) (qfr Z Z) (bT (by have h9:=hn;simp only [List.length_nil,List.length_cons] at h9;omega))) Z<|Nt<|Zy Z<|Sr<|Wb Y5<|Wt 0 [_,_,_,_,_,_] Y9<|Nt<|Sr<|Zqm Z Z<|Zqm Z Z<|qae (qaX Z Z Z Z Z Z (show 1 < n by omega)) Z<|qae (qaq Z Z Z (hcw.le (Lr D)) Z) Z<|At Z Z<|Sr<|Zqm Z Z<|qae (qby (c:=((2:Nat):Int)) Z Z (by rfl)) Z<|At Z Z<|Sr<|Zqm Z Z<|?_
 refine Jc Z Z Z (qd1 D _ _ w O) ?_
 rintro _ _ s27 h27 ⟨rfl,rfl⟩
 refine Zqm Z Z<|Zqx Z Z Z<|Zqx Z Z Z<|Zqa Z Z<|At Z Z<|Sr<|Zqm Z Z<|Wb Y5<|Wt 0 [_,_,_,_,_,_] Y9<|Nt<|Sr<|Zqm Z Z<|qcQ Z Z<|Nt<|?_
 refine qbU Z (fun c28=>?_) (fun c28=>?_)
 ·
  have hnn:qdf w=none:=by simpa using c28
  rw [hnn]
  refine Sr<|Zqm Z Z<|Jc Z Z Z (qht D _ _ w _ O) ?_
  rintro _ _ s29 h29 ⟨rfl,rfl⟩
  refine At Z Z<|Sr<|Zqm Z Z<|Wb Y5<|Wt 0 [_,_,_,_,_,_] Y9<|Nt<|Zs<|Sr<|Zqm Z Z<|qgW Z Z Z<|Nt<|?_
  refine qab Z (fun c30=>?_) (fun c30=>?_)
  ·
   obtain ⟨hneg,_⟩ | ⟨i2,hi2,hil2,hcut2⟩:=qon w
   · exact absurd c30 O
   rw [hi2]
   refine Sr<|Zqm Z Z<|Zqm Z Z<|qae (qhT Z Z Z Z O) Z<|Wb Y5<|Wt 0 [_,_,_,_,_,_] Y9<|Nt<|Sr<|Zqm Z Z<|Zqm Z Z<|qae (qby (c:=((i2+1:Nat):Int)) Z Z (by rw [w64 O O];simp)) Z<|qae (qjB Z Z Z Z O) Z<|Jc Z Z Z (qd1 D _ _ _ (by simp;omega)) ?_
   rintro _ _ s31 h31 ⟨rfl,rfl⟩
   refine Zqm Z Z<|Zqx Z Z Z<|Zqx Z Z Z<|Wb Y5<|Wt 0 [_,_,_,_,_,_] Y9<|At Z Z<|Sr<|Zqm Z Z<|qcQ Z Z<|Nt<|?_
   refine qbU Z (fun c32=>?_) (fun c32=>?_)
   ·
    have hbad:qa6 l=none:=qg1 hB hlo (by rw [qel hnn hcut2,show qdf (w.drop (i2+1))=none by simpa using c32];split <;> rfl)
    refine Sr<|qae (qad 0 [_,_,_,_,_,_] Z Z Z Z Z) Z<|Wt 1 [_,_,_,_,_,_] Y9<|Nt<|Zo<|Zu<|Zu<|?_
    refine rR [_,_] L (.agg (us:=[_,_,_,_,_,_]) 1 Z Z Z Z Z (.nil)) Z (h1.t h2|>.t h3|>.t I4.1|>.t h6|>.t h8|>.t h25|>.t h27|>.t h29|>.t h31) fun _ hS2=>?_
    refine ⟨Z,?_⟩
    exact ⟨⟨false,_,_,_,_,_⟩,rfl,qeE hbad rfl (by first | exact qjl | exact qb5 _ | exact hux2)⟩
   obtain ⟨u2,hnu2⟩:=Option.isSome_iff_exists.1 (show (qdf (w.drop (i2+1))).isSome=true by simpa using c32)
   have hux2:=qb5 (w.drop (i2+1))
   rw [hnu2] at hux2 ⊢
   refine Zk<|Zt<|Sr<|Wb Y5<|Wl 0 Y6<|Jc Z Z Z (qcC D _ _ _ (by first | omega | (simp;omega))) ?_
   rintro _ _ s33 h33 ⟨rfl,rfl⟩
   refine qcQ Z Z<|Nt<|?_
   refine qbU Z (fun c34=>?_) (fun c34=>?_)
   ·
    have hbad:qa6 l=none:=qg1 hB hlo (by rw [qel hnn hcut2,if_neg (by rw [show qaE (w.take i2)=false by simpa using c34];decide)])
    refine Sr<|qae (qad 0 [_,_,_,_,_,_] Z Z Z Z Z) Z<|Wt 1 [_,_,_,_,_,_] Y9<|Nt<|Zo<|Zu<|?_
    refine rR [_,_] L (.agg (us:=[_,_,_,_,_,_]) 1 Z Z Z Z Z (.nil)) Z (h1.t h2|>.t h3|>.t I4.1|>.t h6|>.t h8|>.t h25|>.t h27|>.t h29|>.t h31|>.t h33) fun _ hS2=>?_
    refine ⟨Z,?_⟩
    exact ⟨⟨false,_,_,_,_,_⟩,rfl,qeE hbad rfl (by first | exact qjl | exact qb5 _ | exact hux2)⟩
   have hop:qdG w=some (w.take i2,(u2:Int)):=by rw [qel hnn hcut2,if_pos (show qaE (w.take i2)=true by simpa using c34),hnu2];rfl
   have hux:U32 (w.take i2,(u2:Int)).2:=hux2
   refine Zk<|Zt<|Sr<|Zqm Z Z<|Zqm Z Z<|Ws Y4<|qaJ Z Z Z<|W0 Y5<|Wt 0 [_,_,_,_,_,_] Y9<|Nt<|Sr<|qae (qad 0 [_,_,_,_,_,_] Z Z Z Z Z) Z<|Wt 1 [_,_,_,_,_,_] Y9<|Nt<|Zo<|?_
   refine rR [_,_] L (.agg (us:=[_,_,_,_,_,_]) 1 Z Z Z Z Z (.nil)) Z (h1.t h2|>.t h3|>.t I4.1|>.t h6|>.t h8|>.t h25|>.t h27|>.t h29|>.t h31|>.t h33) fun _ hS2=>?_
   refine ⟨Z,?_⟩
   exact ⟨⟨_,_,o,true,_,_⟩,rfl,qgZ hB hlo hop hux (by have h9:=hn;simp only [List.length_nil,List.length_cons] at h9;omega)⟩
  obtain ⟨hneg,hcut2⟩ | ⟨i2,hi2,_,_⟩:=qon w
  rotate_left
  · exact absurd c30 O
  refine Zk<|Zt<|Sr<|Wb Y5<|Wl 0 Y6<|Jc Z Z Z (qcC D _ _ _ (by first | omega | (simp;omega))) ?_
  rintro _ _ s35 h35 ⟨rfl,rfl⟩
  refine qcQ Z Z<|Nt<|?_
  refine qbU Z (fun c36=>?_) (fun c36=>?_)
  ·
   have hbad:qa6 l=none:=qg1 hB hlo (by rw [qf5 hnn hcut2,if_neg (by rw [show qaE w=false by simpa using c36];decide)])
   refine Sr<|qae (qad 0 [_,_,_,_,_,_] Z Z Z Z Z) Z<|Wt 1 [_,_,_,_,_,_] Y9<|Nt<|Zo<|Zu<|?_
   refine rR [_,_] L (.agg (us:=[_,_,_,_,_,_]) 1 Z Z Z Z Z (.nil)) Z (h1.t h2|>.t h3|>.t I4.1|>.t h6|>.t h8|>.t h25|>.t h27|>.t h29|>.t h35) fun _ hS2=>?_
   refine ⟨Z,?_⟩
   exact ⟨⟨false,_,_,_,_,_⟩,rfl,qeE hbad rfl (by first | exact qjl | exact qb5 _ | exact hux2)⟩
  have hop:qdG w=some (w,0):=by rw [qf5 hnn hcut2,if_pos (show qaE w=true by simpa using c36)]
  have hux:U32 (w,(0:Int)).2:=qjl
  refine Zk<|Zt<|Sr<|Zqm Z Z<|Zqm Z Z<|Ws Y4<|qaJ Z Z Z<|W0 Y5<|Wt 0 [_,_,_,_,_,_] Y9<|Nt<|Sr<|qae (qad 0 [_,_,_,_,_,_] Z Z Z Z Z) Z<|Wt 1 [_,_,_,_,_,_] Y9<|Nt<|Zo<|?_
  refine rR [_,_] L (.agg (us:=[_,_,_,_,_,_]) 1 Z Z Z Z Z (.nil)) Z (h1.t h2|>.t h3|>.t I4.1|>.t h6|>.t h8|>.t h25|>.t h27|>.t h29|>.t h35) fun _ hS2=>?_
  refine ⟨Z,?_⟩
  exact ⟨⟨_,_,o,true,_,_⟩,rfl,qgZ hB hlo hop hux (by have h9:=hn;simp only [List.length_nil,List.length_cons] at h9;omega)⟩
 obtain ⟨u,hnu⟩:=Option.isSome_iff_exists.1 (show (qdf w).isSome=true by simpa using c28)
 have hop:=qmG hnu
 have hux:U32 (([]:List UInt8),(u:Int)).2:=by have:=qb5 w;rw [hnu] at this;exact this
 rw [hnu]
 refine Zk<|Zt<|Sr<|Zqm Z Z<|Zqm Z Z<|Ws Y4<|qaJ Z Z Z<|W0 Y5<|Wt 0 [_,_,_,_,_,_] Y9<|Nt<|Sr<|qae (qad 0 [_,_,_,_,_,_] Z Z Z Z Z) Z<|Wt 1 [_,_,_,_,_,_] Y9<|Nt<|Zo<|?_
 refine rR [_,_] L (.agg (us:=[_,_,_,_,_,_]) 1 Z Z Z Z Z (.nil)) Z (h1.t h2|>.t h3|>.t I4.1|>.t h6|>.t h8|>.t h25|>.t h27) fun _ hS2=>?_
 refine ⟨Z,?_⟩
 exact ⟨⟨_,_,o,true,_,_⟩,rfl,qgZ hB hlo hop hux (by have h9:=hn;simp only [List.length_nil,List.length_cons] at h9;omega)⟩
end Go.Proofs.YtjindleklapakaaGreatDoor
namespace Go.Proofs.YtjindleklapakaaGreatDoor
open Go Go.FL Go.RowKit
def rlc(l:List RL):List Value:=(l.map RL.cs).flatten
theorem qoh(l:List RL)(r:RL):rlc (l++[r])=rlc l++r.cs:=by simp [rlc]
theorem Own.rls{e:Nat}{A:Hl}{Ad:Option Addr}{n c:Nat}{l:List RL}{s:World}(h:FL.Own e 6 A (.slice Ad n c) n (rlc l))(hu:∀ x∈l,U32 x.num)(hp:Pub A s)(hn:n=l.length):Rls s Ad n c l:=
 Own.rows (R:=fun _ (x:RL) cs=>cs=x.cs∧U32 x.num) h hp (qhI RL.cs l fun x hx=>⟨rfl,rfl,hu x hx⟩) hn
theorem Rls.at_{s:World}{A:Option Addr}{n c k:Nat}{l:List RL}(h:Rls s A n c l)(hk:k < n):∃ b off x,A=some ⟨b,off,none⟩∧l[k]?=some x∧CellsAt s b (off+k * 6) [.bool x.ok,St x.label,St x.op,.bool x.given,St x.name,.int .u32 x.num]∧U32 x.num:=by
 have hx:k < l.length:=by rw [← h.1];exact hk
 obtain ⟨b,off,cs,h1,h2,h3,h4,h5⟩:=h.2.2.2 k l[k] (List.getElem?_eq_getElem hx)
 exact ⟨b,off,l[k],h1,List.getElem?_eq_getElem hx,by rw [show [.bool l[k].ok,St l[k].label,St l[k].op,.bool l[k].given,St l[k].name,.int .u32 l[k].num]=cs from h4.symm];exact h2,h5⟩
def RLs(ls:List (List UInt8))(rs:List RL):Prop:=rs.length=ls.length∧∀ (i:Nat) l r,ls[i]?=some l→rs[i]?=some r→qpE l r
def RLk(ls:List (List UInt8))(rs:List RL):Prop:=rs.length≤ls.length∧∀ (i:Nat) l r,ls[i]?=some l→rs[i]?=some r→qpE l r
theorem RLk.nil(ls:List (List UInt8)):RLk ls []:=⟨Nat.zero_le _,fun i l r _ h=>by cases h⟩
theorem RLk.snoc{ls:List (List UInt8)}{rs:List RL}{l:List UInt8}{r:RL}(h:RLk ls rs)(hl:ls[rs.length]?=some l)(hr:qpE l r):RLk ls (rs++[r]):=by
  refine ⟨by simp;have:=(List.getElem?_eq_some_iff.1 hl).1;omega,fun i x y hx hy=>?_⟩
  by_cases hi:i < rs.length
  · rw [List.getElem?_append_left hi] at hy;exact h.2 i x y hx hy
  · have hi2:i=rs.length:=by
      have:=(List.getElem?_eq_some_iff.1 hy).1
      simp at this;omega
    subst hi2
    rw [hl] at hx
    injection hx with hx
    subst hx
    rw [List.getElem?_append_right (Nat.le_refl _)] at hy
    simp at hy
    subst hy
    exact hr
theorem RLk.u32{ls:List (List UInt8)}{rs:List RL}(h:RLk ls rs):∀ r∈rs,U32 r.num:=fun r hr=>by
 obtain ⟨i,hi⟩:=List.mem_iff_getElem?.1 hr
 have hlt:=(List.getElem?_eq_some_iff.1 hi).1
 have hl:i < ls.length:=by have:=h.1;omega
 exact (h.2 i ls[i] r (List.getElem?_eq_getElem hl) hi).2
def qhS:Int→List RL→List (List UInt8×Int)
 | _,[]=>[]
 | sz,r::rs=>if r.label=[] then qhS (sz+szL r) rs else (r.label,w32 sz)::qhS (sz+szL r) rs
theorem qiK{r:RL}(h:U32 r.num):0≤szL r∧szL r≤4294967296:=by
 have h1:=h.1
 have h2:=h.2
 unfold szL
 repeat' split
 all_goals omega
open Go.FL
attribute [local irreducible] JC JO JA JB qa7 qaP qdj AC fill CellsAt QE Ev Mid
theorem qmc(D:Nat)(L:Hl)(s:World)(tx:List UInt8)(htx:tx.length≤400000):AC Tryz.prog D 30 [St tx] L s fun v L' s'=>∃ M',L'=M'++L∧∀ s2,Le D s' s2→Pub M' s2→∃ A n c rs,v=.slice A n c∧Rls s2 A n c rs∧RLs (splitB 10 tx) rs:=by
 refine qai (fn:=Tryz.f30) qaG Tryz.func30 V Z Tryz.ntmps30 Z (rs:=[.tmp 2]) Z [(0,_)] Z<|Sr<|At Z Z<|Sr<|Zqm Z Z<|Jc Z Z Z (qke D _ _ tx 10 O) ?_
 rintro _ _ s1 h1 ⟨rfl,Asq9,ns,cs,rfl,hSs⟩
 have hns:=hSs.1
 have hnl:=qfG 10 [] tx
 have hns2:ns=(qbD 10 [] tx).length:=hns
 refine At Z Z<|Sr<|At Z Z<|Zs<|Sr<|At Z Z<|Zp<|?_
 refine qaQ (γ:=Nat×Value×Hl×List RL) (fun g=>[(2,.slice none 0 0),(3,_),(4,g.2.1),(5,.int .i64 (g.1:Int))]) (fun g=>g.2.2.1++L) (fun g tw=>Le D s1 tw∧(g.1≤ns∧FL.Own 90 6 g.2.2.1 g.2.1 g.2.2.2.length (rlc g.2.2.2)∧g.2.2.2.length=g.1∧RLk (splitB 10 tx) g.2.2.2)) (fun g=>ns - g.1) (fun _ _ _ h hl=>⟨h.1.trans hl,h.2⟩) (0,.slice none 0 0,[],[]) (.c4 Z Z Z Z (.nil _)) Z ⟨Le.refl _,⟨Nat.zero_le _,Own.nil,Z,RLk.nil _⟩⟩ ?_
 intro g s2 I2
 obtain ⟨k,vo,Mo,out⟩:=g
 obtain ⟨hk0,hO,hol,hS⟩:=I2.2
 simp only at hk0 hO hol hS
 dsimp only
 refine Zs<|Sr<|Zqm Z Z<|Zqm Z Z<|Ws Y4<|qbY Z Z Z<|Nt<|?_
 refine qab Z (fun c3=>?_) (fun c3=>?_)
 ·
  have hk:k < ns:=by omega
  obtain ⟨b,off,x,rfl,hx,hcx,hxl⟩:=Strs.at_ (hSs.le I2.1) hk
  have hxs:=qcG 10 [] tx x (List.mem_of_getElem? hx)
  simp only [List.length_nil] at hxs
  refine Zk<|Zt<|Zs<|Zp<|Zr<|Zqm Z Z<|Zqm Z Z<|Zqm Z Z<|qae (qaX Z Z Z Z Z Z hk) Z<|qae (qaq Z Z Z (hcx.le (Lr D)) Z) Z<|Jc Z Z Z (qme D _ _ x O) ?_
  rintro _ _ s4 h4 ⟨rfl,r,rfl,hr⟩
  refine qa0 [(_,_)] [_,_,_,_,_,_] Z Z Z Z Z Z Z Z Z ?_
  intro βn s5 h5 hcb
  refine qbO (sz:=6) [] Mo L Z Z Z Z Z Z Z hO (Row.of_cells (hcb.le (Lr D)) Z Z) ⟨by simp [ti90];omega,by omega⟩ Z ?_
  intro v2 A2x s6 h6 o2
  obtain ⟨Av2,cv2,rfl,_,_⟩:=Own.slice o2
  simp only [List.nil_append]
  refine Zqa Z Z<|Zn<|Zb<|Zt<|Zr<|Zqm Z Z<|qaW Z Z Z (w64 O O)<|Zqa Z Z<|Zn<|?_
  refine qaa ⟨(k+1,.slice Av2 (out.length+1) cv2,A2x,out++[r]),[],kp,Z,⟨(I2.1.t h4|>.t h5|>.t h6),⟨by simp only;omega,by simp only [List.length_append,List.length_cons,List.length_nil,qoh];exact o2,by simp only [List.length_append,List.length_cons,List.length_nil];omega,hS.snoc (by rw [hol];exact hx) hr⟩⟩,Oz⟩
 obtain ⟨Ao,co,rfl,_,_⟩:=Own.slice hO
 refine Zl<|Zv<|Zv<|Zd<|Zt<|Sr<|Zqm Z Z<|At Z Z<|Zo<|?_
 refine rR [] _ (.t1 Z) Z (h1.t I2.1) fun _ hS2=>?_
 exact ⟨Mo,rfl,fun s2 hs2 hp=>⟨Ao,out.length,co,out,rfl,Own.rls hO hS.u32 hp rfl,by omega,hS.2⟩⟩
theorem qnV(D:Nat)(L:Hl)(s:World)(tx:List UInt8)(htx:tx.length≤400000):AC Tryz.prog D 30 [St tx] L s fun v L' s'=>L=L'∧∃ A n c rs,v=.slice A n c∧Rls s' A n c rs∧RLs (splitB 10 tx) rs:=AC.pubW (qmc D L s tx htx)
end Go.Proofs.YtjindleklapakaaGreatDoor
namespace Go.Proofs.YtjindleklapakaaGreatDoor
open Go Go.FL Go.RowKit
def lcR(t:Tab)(prev:List RL)(sz:Int)(r:RL):Int:=
 if r.ok=false then 1 else if r.label≠[]∧prev.any (fun x=>decide (x.label=r.label))=true then 8
 else if r.op=[] then 0
 else if (qbd t.ins r.op).isSome=false∧qcc r.op=false then 12
 else if r.given≠(qcc r.op || qiE t r.op) then 9
 else if r.op=qbe∧r.name≠[] then 6
 else if t.cells < sz+szL r then 14 else 0
theorem qqE{α:Type}{p:α→Bool}{l:List α}{j:Nat}(h:qce p l j < 0):l.find? p=none:=by
  induction l generalizing j with
  | nil=>rfl
  | cons x l ih=>
    simp only [qce] at h
    split at h
    · omega
    · rename_i hx
      simp only [List.find?]
      rw [show p x=false by simpa using hx]
      exact ih h
theorem qqH{α:Type}{p:α→Bool}{l:List α}{j:Nat}(h:¬ qce p l j < 0):∃ k x,qce p l j=((j+k:Nat):Int)∧l[k]?=some x∧l.find? p=some x:=by
  induction l generalizing j with
  | nil=>exact absurd (by simp [qce]) h
  | cons x l ih=>
    simp only [qce] at h ⊢
    by_cases hx:p x=true
    · rw [if_pos hx]
      exact ⟨0,x,rfl,rfl,by simp [List.find?,hx]⟩
    · rw [if_neg hx] at h ⊢
      obtain ⟨k,y,h1,h2,h3⟩:=ih h
      refine ⟨k+1,y,by rw [h1];congr 1;omega,by simpa using h2,?_⟩
      simp only [List.find?]
      rw [show p x=false by simpa using hx]
      exact h3
def lcF(t:Tab):List RL→Int→Nat→List RL→Option (Int×Int)
 | _,_,_,[]=>none
 | prev,sz,i,r::rest=>if lcR t prev sz r≠0 then some (lcR t prev sz r,(i:Int)) else lcF t (prev++[r]) (sz+szL r) (i+1) rest
def urF(labs:List (List UInt8×Int)):Nat→List RL→Option (Int×Int)
 | _,[]=>none
 | i,r::rest=>if r.name≠[]∧qce (fun y=>decide (y.1=r.name)) labs 0 < 0 then some (27,(i:Int)) else urF labs (i+1) rest
def qrN(labs:List (List UInt8×Int))(r:RL):Int:=if r.name=[] then r.num else w32 (r.num+(qbQ labs r.name).getD 0)
def lnW(t:Tab)(labs:List (List UInt8×Int))(r:RL):List Int:=
 if r.op=qbe then List.replicate r.num.toNat 0
 else (if r.op≠[]∧r.op≠qcI then [qd4 t r.op] else [])++(if r.given=true then [qrN labs r] else [])
def wdF(t:Tab)(labs:List (List UInt8×Int))(rs:List RL):List Int:=(rs.map (lnW t labs)).flatten
theorem qgV(l:List (List UInt8×Int))(k:List UInt8):qbQ l k=(l.find? (fun y=>decide (y.1=k))).map (·.2):=by
 induction l with
 | nil=>rfl
 | cons x l ih=>
  simp only [qbQ,List.find?]
  by_cases h:x.1=k
  · simp [h]
  · simp [h,ih]
theorem qqV{labs:List (List UInt8×Int)}{nm:List UInt8}(h:¬ qce (fun y=>decide (y.1=nm)) labs 0 < 0):∃ k y,qce (fun y=>decide (y.1=nm)) labs 0=((k:Nat):Int)∧labs[k]?=some y∧qbQ labs nm=some y.2:=by
 obtain ⟨k,x,h1,h2,h3⟩:=qqH h
 exact ⟨k,x,by rw [h1,Nat.zero_add],h2,by rw [qgV,h3];rfl⟩
theorem qmF{t:Tab}{prev:List RL}{sz:Int}{r:RL}(h:lcR t prev sz r=0):r.op=[]∨(¬ t.cells < sz+szL r∧¬ ((qbd t.ins r.op).isSome=false∧qcc r.op=false)):=by
 unfold lcR at h
 split at h
 · cases h
 split at h
 · cases h
 split at h
 · left;assumption
 split at h
 · cases h
 rename_i h12
 split at h
 · cases h
 split at h
 · cases h
 split at h
 · cases h
 right
 exact ⟨by assumption,h12⟩
theorem qrb{t:Tab}{prev:List RL}{sz:Int}{r:RL}(h:lcR t prev sz r=0)(hc:t.cells≤65536)(hz:sz≤65536):sz+szL r≤65536:=by
  rcases qmF h with h1 | ⟨h1,_⟩
  · have:szL r=0:=by rw [szL,if_pos h1]
    omega
  · omega
theorem qkl{lab:List UInt8}{ws:List (List UInt8)}{x:Ln}(h:qdg lab ws=some x):(x.has=false→x.name=[])∧(x.op=[]→x.has=false):=by
  match ws,h with
  | [],h=>rw [qdg] at h;injection h with h;subst h;exact ⟨fun _=>rfl,fun _=>rfl⟩
  | [o],h=>
    rw [qdg] at h
    split at h
    · injection h with h;subst h;exact ⟨fun _=>rfl,fun _=>rfl⟩
    · cases h
  | [o,w],h=>
    rw [qdg] at h
    split at h
    · rename_i ho
      obtain ⟨y,hy,rfl⟩:=Option.map_eq_some_iff.1 h
      exact ⟨fun h=>(by cases h),fun e=>absurd e (qfD ho).1⟩
    · cases h
  | _::_::_::_,h=>cases h
theorem qkz{l:List UInt8}{x:Ln}(h:qa6 l=some x):(x.has=false→x.name=[])∧(x.op=[]→x.has=false):=by
 unfold qa6 qoF at h
 obtain ⟨y,_,hy⟩:=Option.bind_eq_some_iff.1 h
 exact qkl hy
def ln0(t:Tab)(r:RL):List Int:=qdT t [] r.ln
theorem qkd(t:Tab)(w:List Int)(x:Ln):qdT t w x=w++qdT t [] x:=by
 unfold qdT qcy
 repeat' split
 all_goals simp
theorem qe1{o:List UInt8}(h:qcc o=true):o=qcI∨o=qbe:=of_decide_eq_true h
theorem qjc{o:List UInt8}(h:qcc o=false):o≠qcI∧o≠qbe:=by
 have:=of_decide_eq_false h
 exact ⟨fun e=>this (.inl e),fun e=>this (.inr e)⟩
theorem qmK{t:Tab}{r:RL}(hu:U32 r.num)(hg:r.op≠[]→r.given=(qcc r.op || qiE t r.op)):((ln0 t r).length:Int)=szL r:=by
  have h1:=hu.1
  unfold ln0 qdT qcy szL RL.ln
  simp only
  by_cases c1:r.op=[]
  · simp [c1]
  · rw [if_neg c1,if_neg c1]
    by_cases c2:r.op=qbe
    · rw [if_pos c2,if_pos c2];simp;omega
    · rw [if_neg c2,if_neg c2]
      have hgv:=hg c1
      cases ho:qcc r.op with
      | true=>
        have hw:r.op=qcI:=(qe1 ho).resolve_right c2
        rw [ho] at hgv
        have hg1:r.given=true:=by rw [hgv];rfl
        simp [hg1,hw]
      | false=>
        have hw:=(qjc ho).1
        cases hgg:r.given <;> simp [hw]
theorem qlZ{t:Tab}{w:List Int}{l:List (List UInt8×Int)}{prev:List RL}{sz:Int}{r:RL}(hok:r.ok=true)(hu:U32 r.num)(hsz:(w.length:Int)=sz)(hl:r.label≠[]→((qbQ l r.label).isSome=true↔prev.any (fun x=>decide (x.label=r.label))=true)):qbN t w l (some r.ln)=lcR t prev sz r:=by
 unfold qbN lcR
 refine Eq.trans ?_ (if_neg (show ¬ r.ok=false by rw [hok];decide)).symm
 by_cases c1:r.label≠[]∧(qbQ l r.label).isSome=true
 · exact (if_pos c1).trans (if_pos ⟨c1.1,(hl c1.1).1 c1.2⟩).symm
 refine (if_neg c1).trans (Eq.trans ?_ (if_neg (fun h=>c1 ⟨h.1,(hl h.1).2 h.2⟩)).symm)
 by_cases c2:r.op=[]
 · exact (if_pos c2).trans (if_pos c2).symm
 refine (if_neg c2).trans (Eq.trans ?_ (if_neg c2).symm)
 by_cases c3:(qbd t.ins r.op).isSome=false∧qcc r.op=false
 · exact (if_pos c3).trans (if_pos c3).symm
 refine (if_neg c3).trans (Eq.trans ?_ (if_neg c3).symm)
 by_cases c4:r.given≠(qcc r.op || qiE t r.op)
 · exact (if_pos c4).trans (if_pos c4).symm
 refine (if_neg c4).trans (Eq.trans ?_ (if_neg c4).symm)
 by_cases c5:r.op=qbe∧r.name≠[]
 · exact (if_pos c5).trans (if_pos c5).symm
 refine (if_neg c5).trans (Eq.trans ?_ (if_neg c5).symm)
 have hln:=qmK (t:=t) hu (fun _=>Classical.not_not.1 c4)
 have e:((qdT t w r.ln).length:Int)=sz+szL r:=by
  rw [qkd,List.length_append,← hln,← hsz];rfl
 by_cases c6:t.cells < sz+szL r
 · exact (if_pos (show t.cells < ((qdT t w r.ln).length:Int) by rw [e];exact c6)).trans (if_pos c6).symm
 · exact (if_neg (show ¬ t.cells < ((qdT t w r.ln).length:Int) by rw [e];exact c6)).trans (if_neg c6).symm
theorem qj0{t:Tab}{prev:List RL}{sz:Int}{r:RL}(hok:r.ok=true)(h0:lcR t prev sz r=0)(hop:r.op≠[]):r.given=(qcc r.op || qiE t r.op):=by
 by_cases c4:r.given=(qcc r.op || qiE t r.op)
 · exact c4
 exfalso
 unfold lcR at h0
 rw [if_neg (show ¬ r.ok=false by rw [hok];decide)] at h0
 by_cases c1:r.label≠[]∧prev.any (fun x=>decide (x.label=r.label))=true
 · rw [if_pos c1] at h0;exact absurd h0 Dc
 rw [if_neg c1,if_neg hop] at h0
 by_cases c3:(qbd t.ins r.op).isSome=false∧qcc r.op=false
 · rw [if_pos c3] at h0;exact absurd h0 Dc
 rw [if_neg c3,if_pos c4] at h0
 exact absurd h0 Dc
def rf1(t:Tab)(off:Nat)(i:Int)(r:RL):List (Int×Nat×List UInt8×Int):=
 if r.op=[] then [] else if r.op=qbe then [] else if r.given=true∧r.name≠[] then [(i,(if qcc r.op=true then off else off+1),r.name,r.num)] else []
def rfF(t:Tab):Nat→Nat→List RL→List (Int×Nat×List UInt8×Int)
 | _,_,[]=>[]
 | off,i,r::rs=>rf1 t off (i:Int) r++rfF t (off+(ln0 t r).length) (i+1) rs
def wd0(t:Tab)(rs:List RL):List Int:=(rs.map (ln0 t)).flatten
theorem qpd(t:Tab)(w:List Int)(rf:List (Int×Nat×List UInt8×Int))(i:Int)(r:RL):qg2 t w rf i r.ln=rf++rf1 t w.length i r:=by
 unfold qg2 qdJ rf1 RL.ln
 simp only
 repeat' split
 all_goals simp_all
theorem qlD(l:List (List UInt8×Int))(k nm:List UInt8)(a:Int):(qbQ (l++[(k,a)]) nm).isSome=((qbQ l nm).isSome || decide (k=nm)):=by
 induction l with
 | nil=>simp only [List.nil_append,qbQ];by_cases h:k=nm <;> simp [h]
 | cons x l ih=>
  simp only [List.cons_append,qbQ]
  by_cases h:x.1=nm
  · simp [h]
  · simp [h,ih]
def LabI(l:List (List UInt8×Int))(prev:List RL):Prop:=∀ nm,nm≠[]→((qbQ l nm).isSome=true↔prev.any (fun x=>decide (x.label=nm))=true)
theorem LabI.next{w:List Int}{l:List (List UInt8×Int)}{prev:List RL}(h:LabI l prev)(r:RL):LabI (qmY w l r.ln) (prev++[r]):=by
  intro nm hnm
  unfold qmY RL.ln
  simp only [List.any_append,List.any_cons,List.any_nil,Bool.or_false]
  by_cases hl:r.label=[]
  · rw [if_pos hl,h nm hnm,hl]
    have:¬ ([]:List UInt8)=nm:=fun e=>hnm e.symm
    simp [this]
  · rw [if_neg hl,qlD,Bool.or_eq_true,Bool.or_eq_true,h nm hnm]
theorem RLs.head{l:List UInt8}{ls:List (List UInt8)}{r:RL}{rs:List RL}(h:RLs (l::ls) (r::rs)):qpE l r∧RLs ls rs:=
 ⟨h.2 0 l r rfl rfl,by have:=h.1;simpa using this,fun i x y hx hy=>h.2 (i+1) x y (by simpa using hx) (by simpa using hy)⟩
theorem qsC{t:Tab}(hcells:t.cells≤65536):∀ (rs:List RL) (ls:List (List UInt8)) (prev:List RL) (i:Nat) (w:List Int) (l:List (List UInt8×Int)) (rf:List (Int×Nat×List UInt8×Int)) (sz:Int),RLs ls rs→(w.length:Int)=sz→sz≤65536→LabI l prev →
    qi0 t i w l rf ls=match lcF t prev sz i rs with
      | some f=>.inl f
      | none=>.inr (w++wd0 t rs,l++qhS sz rs,rf++rfF t w.length i rs):=by
  intro rs
  induction rs with
  | nil=>
    intro ls prev i w l rf sz h _ _ _
    have:ls=[]:=List.length_eq_zero_iff.1 (by have:=h.1;simpa using this.symm)
    subst this
    simp [qi0,lcF,wd0,qhS,rfF]
  | cons r rs ih=>
    intro ls prev i w l rf sz h hsz hz hL
    cases ls with
    | nil=>have:=h.1;cases this
    | cons x ls=>
      obtain ⟨⟨hr,hu⟩,hrs⟩:=RLs.head h
      rcases hr with ⟨hok,hln⟩ | ⟨hok,hln⟩
      · have hc:=qlZ (t:=t) (w:=w) (l:=l) (prev:=prev) hok hu hsz (hL r.label)
        by_cases h0:lcR t prev sz r=0
        · have hE:qbN t w l (some r.ln)=0:=hc.trans h0
          rw [qh5 hln hE,lcF,if_neg (fun hh=>hh h0)]
          have hg:r.op≠[]→r.given=(qcc r.op || qiE t r.op):=qj0 hok h0
          have hlen:=qmK (t:=t) hu hg
          have hW:qdT t w r.ln=w++ln0 t r:=qkd t w r.ln
          have hz2:=qrb h0 hcells hz
          rw [ih ls (prev++[r]) (i+1) _ _ _ (sz+szL r) hrs (by rw [hW,List.length_append,← hlen,← hsz];rfl) hz2 (hL.next r)]
          split
          · rfl
          · rw [hW,qpd]
            congr 1
            refine Prod.ext ?_ (Prod.ext ?_ ?_)
            · simp [wd0]
            · simp only [qhS]
              unfold qmY RL.ln
              simp only
              by_cases hlb:r.label=[]
              · rw [if_pos hlb,if_pos hlb]
              · rw [if_neg hlb,if_neg hlb,List.append_assoc,hsz,show w32 sz=sz by unfold w32;omega];rfl
            · simp only [rfF,List.length_append]
              rw [List.append_assoc]
        · rw [qcZ (by rw [hln,hc];exact h0),lcF,if_pos h0,hln,hc]
      · have h1:lcR t prev sz r=1:=by rw [lcR,if_pos hok]
        rw [qcZ (by rw [hln];exact (show (1:Int)≠0 by decide)),lcF,if_pos (by rw [h1];decide),h1,hln]
        rfl
def Shp(r:RL):Prop:=(r.given=false→r.name=[])∧(r.op=[]→r.given=false)∧(r.op=qbe→r.name=[])
theorem qsj{labs:List (List UInt8×Int)}{nm:List UInt8}(h:qbQ labs nm=none):qce (fun y=>decide (y.1=nm)) labs 0 < 0:=by
  by_cases hn:qce (fun y=>decide (y.1=nm)) labs 0 < 0
  · exact hn
  · obtain ⟨k,y,_,_,h3⟩:=qqV hn
    rw [h] at h3;cases h3
theorem qtr{labs:List (List UInt8×Int)}{nm:List UInt8}{a:Int}(h:qbQ labs nm=some a):¬ qce (fun y=>decide (y.1=nm)) labs 0 < 0:=fun hn=>by
 rw [qgV,qqE hn] at h;cases h
theorem qhM{t:Tab}{r:RL}(h1:r.op≠[])(h2:r.op≠qbe)(hg:r.given=true):ln0 t r=(if qcc r.op=true then [] else [qd4 t r.op])++[r.num]:=by
 unfold ln0 qdT qcy RL.ln
 simp only [h1,h2,hg,if_true,if_false]
 split <;> simp_all
theorem qhD{t:Tab}{labs:List (List UInt8×Int)}{r:RL}(h1:r.op≠[])(h2:r.op≠qbe)(hg:r.given=true):lnW t labs r=(if qcc r.op=true then [] else [qd4 t r.op])++[qrN labs r]:=by
 unfold lnW
 rw [if_neg h2,if_pos hg]
 congr 1
 cases ho:qcc r.op with
 | true=>
  have hw:r.op=qcI:=(qe1 ho).resolve_right h2
  rw [if_neg (fun h=>h.2 hw)];rfl
 | false=>rw [if_pos ⟨h1,(qjc ho).1⟩];rfl
theorem qnr{t:Tab}{labs:List (List UInt8×Int)}{r:RL}(hs:Shp r)(hn:r.name=[]):lnW t labs r=ln0 t r:=by
  by_cases h2:r.op=qbe
  · have h1:r.op≠[]:=by rw [h2];decide
    unfold ln0 qdT qcy RL.ln lnW
    simp only [h2,if_true]
    rw [if_neg Dc]
    simp
  · by_cases h1:r.op=[]
    · have hg:=hs.2.1 h1
      unfold ln0 qdT lnW RL.ln
      simp [h1,hg,qbe]
    · cases hg:r.given with
      | true=>rw [qhD h1 h2 hg,qhM h1 h2 hg,qrN,if_pos hn]
      | false=>
        unfold ln0 qdT qcy RL.ln lnW
        simp only [h1,h2,hg,if_false]
        cases ho:qcc r.op with
        | true=>
          have hw:r.op=qcI:=(qe1 ho).resolve_right h2
          simp [hw]
        | false=>simp [h1,(qjc ho).1]
theorem qts{pre rest:List Int}(a b:Int):(pre++a::rest).set pre.length b=pre++b::rest:=by simp
theorem qrh{pre rest:List Int}(c a b:Int):(pre++c::a::rest).set (pre.length+1) b=pre++c::b::rest:=by
 rw [List.set_append_right _ _ O];simp
theorem qsw{pre rest:List Int}(a:Int):(pre++a::rest).getD pre.length 0=a:=by simp
theorem qra{pre rest:List Int}(c a:Int):(pre++c::a::rest).getD (pre.length+1) 0=a:=by
 rw [List.getD_eq_getElem?_getD,List.getElem?_append_right O];simp
theorem qtB{t:Tab}{labs:List (List UInt8×Int)}:∀ (rs:List RL) (i:Nat) (pre:List Int),(∀ r∈rs,Shp r)→qiV labs (rfF t pre.length i rs) (pre++wd0 t rs)=match urF labs i rs with
    | some f=>.inl f
    | none=>.inr (pre++wdF t labs rs):=by
  intro rs
  induction rs with
  | nil=>intro i pre _;simp [rfF,qiV,urF,wd0,wdF]
  | cons r rs ih=>
    intro i pre hs
    have hr:=hs r Mc
    have hrs:∀ r∈rs,Shp r:=fun x hx=>hs x (List.mem_cons_of_mem _ hx)
    have e0:wd0 t (r::rs)=ln0 t r++wd0 t rs:=by simp [wd0]
    have eW:wdF t labs (r::rs)=lnW t labs r++wdF t labs rs:=by simp [wdF]
    rw [rfF,e0,eW,urF]
    by_cases hn:r.name=[]
    · have h1:rf1 t pre.length (i:Int) r=[]:=by unfold rf1;simp [hn]
      rw [h1,List.nil_append,if_neg (fun h=>h.1 hn),← List.append_assoc,← List.length_append,ih (i+1) (pre++ln0 t r) hrs,qnr hr hn]
      split <;> simp_all
    · have hg:r.given=true:=by
        cases hg:r.given with
        | true=>rfl
        | false=>exact absurd (hr.1 hg) hn
      have h1:r.op≠[]:=fun h=>by have:=hr.2.1 h;rw [hg] at this;cases this
      have h2:r.op≠qbe:=fun h=>hn (hr.2.2 h)
      have hrf:rf1 t pre.length (i:Int) r=[((i:Int),(if qcc r.op=true then pre.length else pre.length+1),r.name,r.num)]:=by
        unfold rf1;rw [if_neg h1,if_neg h2,if_pos ⟨hg,hn⟩]
      cases hla:qbQ labs r.name with
      | none=>
        rw [if_pos (show r.name≠[]∧qce (fun y=>decide (y.1=r.name)) labs 0 < 0 from ⟨hn,qsj hla⟩),hrf,List.cons_append,List.nil_append,qiV]
        simp only [hla]
      | some a=>
        rw [if_neg (show ¬ (r.name≠[]∧qce (fun y=>decide (y.1=r.name)) labs 0 < 0) from fun h=>qtr hla h.2),hrf,List.cons_append,List.nil_append,qiV]
        have hopr:qrN labs r=w32 (r.num+a):=by rw [qrN,if_neg hn,hla];rfl
        have key:(pre++(ln0 t r++wd0 t rs)).set (if qcc r.op=true then pre.length else pre.length+1) (w32 ((pre++(ln0 t r++wd0 t rs)).getD (if qcc r.op=true then pre.length else pre.length+1) 0+a))=(pre++lnW t labs r)++wd0 t rs:=by
          rw [qhM h1 h2 hg,qhD h1 h2 hg,hopr]
          cases ho:qcc r.op with
          | true=>
            simp only [if_true,List.nil_append,List.cons_append,List.append_assoc]
            rw [qsw,qts]
          | false=>
            simp only [Bool.false_eq_true,if_false,List.nil_append,List.cons_append,List.append_assoc]
            rw [qra,qrh]
        have hlen:(ln0 t r).length=(lnW t labs r).length:=by rw [qhM h1 h2 hg,qhD h1 h2 hg];simp
        simp only [hla]
        rw [key,hlen,← List.length_append,ih (i+1) (pre++lnW t labs r) hrs]
        split <;> simp_all
theorem qkc{t:Tab}:∀ (rs:List RL) (ls:List (List UInt8)) (prev:List RL) (sz:Int) (i:Nat),RLs ls rs→lcF t prev sz i rs=none→∀ r∈rs,Shp r:=by
  intro rs
  induction rs with
  | nil=>intro _ _ _ _ _ _ r hr;cases hr
  | cons r rs ih=>
    intro ls prev sz i h hn
    cases ls with
    | nil=>have:=h.1;cases this
    | cons x ls=>
      obtain ⟨⟨hr,_⟩,hrs⟩:=RLs.head h
      rw [lcF] at hn
      by_cases h0:lcR t prev sz r≠0
      · rw [if_pos h0] at hn;cases hn
      rw [if_neg h0] at hn
      intro y hy
      rcases List.mem_cons.1 hy with rfl | hy
      · rcases hr with ⟨hok,hln⟩ | ⟨hok,_⟩
        · have hsh:=qkz hln
          refine ⟨hsh.1,hsh.2,fun hsp=>?_⟩
          by_cases c:y.name=[]
          · exact c
          exfalso
          have h0':=Classical.not_not.1 h0
          unfold lcR at h0'
          rw [if_neg (show ¬ y.ok=false by rw [hok];decide)] at h0'
          by_cases c1:y.label≠[]∧prev.any (fun x=>decide (x.label=y.label))=true
          · rw [if_pos c1] at h0';exact absurd h0' Dc
          rw [if_neg c1,if_neg (by rw [hsp];decide)] at h0'
          by_cases c3:(qbd t.ins y.op).isSome=false∧qcc y.op=false
          · rw [if_pos c3] at h0';exact absurd h0' Dc
          rw [if_neg c3] at h0'
          by_cases c4:y.given≠(qcc y.op || qiE t y.op)
          · rw [if_pos c4] at h0';exact absurd h0' Dc
          rw [if_neg c4,if_pos ⟨hsp,c⟩] at h0'
          exact absurd h0' Dc
        · exact absurd (by rw [lcR,if_pos hok];decide) h0
      · exact ih ls _ _ _ hrs hn y hy
theorem qhE{t:Tab}{tx:List UInt8}{rs:List RL}(ht:¬ (qak t).1≠0)(hl:¬ 400000 < tx.length)(hc:t.cells≤65536)(h:RLs (splitB 10 tx) rs):qf4 t tx=match lcF t [] 0 0 rs with
  | some f=>.inl f
  | none=>match urF (qhS 0 rs) 0 rs with
   | some f=>.inl f
   | none=>.inr (wdF t (qhS 0 rs) rs,qhS 0 rs):=by
 have hA:=qsC hc rs (splitB 10 tx) [] 0 [] [] [] 0 h rfl Dc (fun nm _=>by simp [qbQ])
 unfold qf4
 rw [if_neg ht,if_neg hl,hA]
 cases hlc:lcF t [] 0 0 rs with
 | some f=>rfl
 | none=>
  have hr:=qtB (t:=t) (labs:=qhS 0 rs) rs 0 [] (qkc rs _ _ _ _ h hlc)
  simp only [List.nil_append,List.length_nil] at hr ⊢
  rw [hr]
  cases urF (qhS 0 rs) 0 rs <;> rfl
open Go.Proofs.Tryz
open Go.FL
attribute [local irreducible] JC JO JA JB qa7 qaP qdj AC fill CellsAt QE Ev Mid
def qde(codes:List Int):Nat→List Ins→List Ins
 | _,[]=>[]
 | i,x::r=>{ x with code:=codes.getD i x.code }::qde codes (i+1) r
theorem qfq(codes:List Int)(k:Nat)(l:List Ins):(qde codes k l).length=l.length:=by
 induction l generalizing k with
 | nil=>rfl
 | cons x r ih=>simp [qde,ih]
theorem qmm{codes:List Int}{l:List Ins}{k i:Nat}{x:Ins}(h:l[i]?=some x):(qde codes k l)[i]?=some { x with code:=codes.getD (k+i) x.code }:=by
 induction l generalizing k i with
 | nil=>cases h
 | cons y r ih=>
  cases i with
  | zero=>simp at h;subst h;rfl
  | succ i=>simp only [qde,List.getElem?_cons_succ] at h ⊢;rw [ih h,Nat.add_assoc,Nat.add_comm 1 i]
theorem qgK{codes:List Int}{l:List Ins}{i:Nat}{x:Ins}{c:Int}(h:l[i]?=some x)(hc:codes[i]?=some c):(qde codes 0 l)[i]?=some { x with code:=c }:=by
 rw [qmm h];simp [List.getD,hc]
def rep(codes:List Int)(i:Nat):Bool:=match codes[i]? with
 | some c=>(codes.take i).any fun x=>decide (c=x)
 | none=>false
theorem qj1{codes:List Int}{i:Nat}{c:Int}(h:codes[i]?=some c):rep codes i=(codes.take i).any fun x=>decide (c=x):=by simp [rep,h]
def qsn(codes:List Int)(i:Nat):Int:=if rep codes i then 8 else 0
def qck(t:Tab)(codes:List Int):Int×Int:=if (qak t).1≠0 then qak t else if codes.length≠t.ins.length then (9,-2) else qb3 (qsn codes) codes.length 0
def qcv(t:Tab)(codes:List Int):Tab:=if (qck t codes).1≠0 then ⟨0,[]⟩ else ⟨t.cells,qde codes 0 t.ins⟩
section
variable{t:Tab}{codes:List Int}
theorem qlj(h:(qak t).1≠0):qck t codes=qak t:=by unfold qck;rw [if_pos h]
theorem qmS(h:(qak t).1=0)(h2:¬ codes.length=t.ins.length):qck t codes=(9,-2):=by unfold qck;rw [if_neg (by simpa using h),if_pos h2]
theorem qpm(h:(qak t).1=0)(h2:codes.length=t.ins.length){k:Nat}(hk:k < codes.length)(hb:∀ i,i < k→rep codes i=false)(hr:rep codes k=true):qck t codes=(8,(k:Int)):=by
 unfold qck
 rw [if_neg (by simpa using h),if_neg (by simpa using h2),qd6 (k:=k) (fun i _ hi=>by simp [qsn,hb i hi]) (Nat.zero_le _) (by simp [qsn,hr]) O]
 simp [qsn,hr]
theorem qtY(h:(qak t).1=0)(h2:codes.length=t.ins.length)(hb:∀ i,i < codes.length→rep codes i=false):qck t codes=(0,0):=by
 unfold qck
 rw [if_neg (by simpa using h),if_neg (by simpa using h2),qdQ (fun i _ hi=>by simp [qsn,hb i O])]
theorem ql8(h:(qck t codes).1=0):(qak t).1=0∧codes.length=t.ins.length∧(qck t codes).2=0:=by
  by_cases h1:(qak t).1=0
  · by_cases h2:codes.length=t.ins.length
    · refine ⟨h1,h2,?_⟩
      unfold qck at h ⊢
      rw [if_neg (by simpa using h1),if_neg (by simpa using h2)] at h ⊢
      exact qfe _ _ _ h
    · rw [qmS h1 h2] at h;exact absurd h Dc
  · rw [qlj h1] at h;exact absurd h h1
end
theorem qrs{codes:List Int}{i j:Nat}{c:Int}(h:codes[i]?=some c)(hj:codes[j]?=some c)(hlt:j < i):rep codes i=true:=by
 rw [qj1 h,List.any_eq_true]
 exact ⟨c,List.mem_of_getElem? (i:=j) (by rw [List.getElem?_take,if_pos hlt];exact hj),by simp⟩
theorem Wds.take{s:World}{A:Option Addr}{n c k:Nat}{l:List Int}(h:Wds s A n c l)(hk:k < n):Wds s A k c (l.take k):=Sl.take h hk
theorem qsL(D:Nat)(L:Hl)(s:World)(A:Option Addr)(n c:Nat)(l:List Int)(hA:Wds s A n c l)(v:Int):AC prog D 51 [.slice A n c,.int .u32 v] L s fun w L' _=>w=.int .i64 (qce (fun x=>decide (v=x)) l 0)∧L=L':=by
 have hn:=hA.1
 have hc1:=hA.2.1
 have hc2:=hA.2.2.1
 refine qai (fn:=f51) qaG func51 V Z ntmps51 Z (rs:=[.tmp 4]) Z [(0,_),(1,_)] Z<|Sr<|At Z Z<|Zs<|Sr<|Zqm Z Z<|Ws Y4<|Zqm Z Z<|Nt<|Zp<|?_
 refine qaQ (γ:=Nat) (fun k=>[(0,_),(1,_),(4,_),(7,_),(8,.int .i64 (k:Int))]) (fun _=>_) (fun k tw=>Le D s tw∧(k≤n∧∀ i x,i < k→l[i]?=some x→decide (v=x)=false)) (fun k=>n - k) (fun _ _ _ h hl=>⟨h.1.trans hl,h.2⟩) 0 (.c5 Z Z Z Z Z (.nil _)) Z ⟨Le.refl _,⟨Nat.zero_le _,fun i c hi=>by omega⟩⟩ ?_
 intro k s1 I1
 have hk0:=I1.2.1
 have hI:=I1.2.2
 refine Sr<|qbY Z Z Z<|Nt<|Zs<|?_
 refine qab Z (fun c2=>?_) (fun c2=>?_)
 ·
  have hk:k < n:=by omega
  obtain ⟨b,off,x,rfl,hx,hcx,_⟩:=Wds.at_ (hA.le I1.1) hk
  refine Zk<|Zt<|Zs<|Zp<|Sr<|Zqm Z Z<|At Z Z<|Sr<|Zqm Z Z<|Zqm Z Z<|Zqm Z Z<|qae (qaX Z Z Z Z Z Z hk) Z<|qae (qaq Z Z Z (hcx.le (Lr D)) Z) Z<|qaJ Z Z Z<|Nt<|?_
  refine qab Z (fun c3=>?_) (fun c3=>?_)
  ·
   have hz:=c3
   refine Sr<|Zqm Z Z<|At Z Z<|Zo<|Zc<|Zu<|Zu<|Zc<|Zu<|?_
   refine rR [] L (.t1 Z) Z I1.1 fun _ hS2=>?_
   refine ⟨?_,Z⟩
   first
     | (simp [qaF,qe9 hI hx (decide_eq_true hz)];done)
     | (simp [qaF,qeu (fun i a hi h=>hI i a O h)];done)
  have hz:=c3
  refine Zk<|Zb<|Zt<|Zr<|qaW Z Z Z (w64 O O)<|Zqm Z Z<|Zn<|?_
  refine qaa ⟨(k+1),[],kp,Z,⟨I1.1,⟨by omega,qaS hI hx (decide_eq_false hz)⟩⟩,O⟩
 refine Zl<|Zv<|Zv<|Zd<|Zt<|Sr<|At Z Z<|Zo<|?_
 refine rR [] L (.t1 Z) Z I1.1 fun _ hS2=>?_
 refine ⟨?_,Z⟩
 first
   | (simp [qaF,qe9 hI hx (decide_eq_true hz)];done)
   | (simp [qaF,qeu (fun i a hi h=>hI i a O h)];done)
theorem qsW(D:Nat)(L:Hl)(s:World)(A:Option Addr)(n c:Nat)(l:List Int)(hA:Wds s A n c l)(v:Int):AC prog D 24 [.slice A n c,.int .u32 v] L s fun w L' _=>w=.bool (l.any fun x=>decide (v=x))∧L=L':=by
 refine qai (fn:=f24) qaG func24 V Z ntmps24 Z (rs:=[.tmp 4]) Z [(0,_),(1,_)] Z<|Sr<|At Z Z<|Sr<|Zqm Z Z<|Zqm Z Z<|Jc Z Z Z (qsL D _ _ _ _ _ l (hA.le (Lr D)) _) ?_
 rintro _ _ s1 h1 ⟨rfl,rfl⟩
 refine qgW Z Z Z<|At Z Z<|Zo<|?_
 refine rR [] L (.t1 Z) Z h1 fun _ hS2=>?_
 exact ⟨by simp only [qaF,qih],rfl⟩
theorem qk4(D:Nat)(L:Hl)(s:World)(A:Option Addr)(n c:Nat)(l:List Ac)(hA:Acs s A n c l)(hn:n≤1000000):AC prog D 25 [.slice A n c] L s fun v L' _=>∃ M',L'=M'++L∧∃ Ad c',v=.slice Ad n c'∧n≤c'∧c'≤9223372036854775807∧FL.Own 72 6 M' (.slice Ad n c') n (acv l):=by
 refine qai (fn:=f25) qaG func25 V Z ntmps25 Z (rs:=[.tmp 2]) Z [(0,_)] Z<|Sr<|At Z Z<|Zs<|Sr<|Zqm Z Z<|qae (qjy Z Z Z) Z<|Nt<|?_
 refine qcW Z (fun c1=>?_) (fun c1=>?_)
 ·
  refine Sr<|At Z Z<|Zo<|Zu<|?_
  refine rR [] _ (.t1 Z) Z (Lr D) fun _ hS2=>?_
  have hz:A=none:=by cases A <;> simp_all
  subst hz
  have hl:l=[]:=by
    cases l with
    | nil=>rfl
    | cons x l=>obtain ⟨b,off,cs,h1,_⟩:=hA.2.2.2 0 x rfl;cases h1
  have hn0:=hA.1
  subst hl
  simp at hn0
  subst hn0
  exact ⟨[],rfl,none,0,rfl,Nat.le_refl _,by omega,.nil⟩
 refine Zk<|Zt<|Sr<|qka (sz:=6) Z Z Z Z ?_
 intro βo s2 h2 oo
 refine Zqm Z Z<|qbO [] [_] _ Z Z Z Z Z Z Z oo (hA.row.le h2) ⟨by simp [ti72];omega,by omega⟩ Z ?_
 intro v1 A1 s3 h3 o1
 simp only [List.nil_append]
 refine At Z Z<|Zo<|?_
 refine rR [] _ (.t1 Z) Z (h2.t h3) fun _ hS2=>?_
 simp only [Nat.zero_add,List.nil_append] at o1
 obtain ⟨Ad,c',rfl,k1,k2⟩:=Own.slice o1
 exact ⟨_,rfl,Ad,c',rfl,k1,k2,o1⟩
theorem qiq(D:Nat)(L:Hl)(s:World)(t:Tab)(A:Option Addr)(n c:Nat)(hA:Inss s A n c t.ins)(A1:Option Addr)(n1 c1:Nat)(codes:List Int)(hCo:Wds s A1 n1 c1 codes):AC prog D 5 [.agg #[.int .i64 t.cells,.slice A n c],.slice A1 n1 c1] L s fun v L' s'=>∃ M',L'=M'++L∧∀ s2,Le D s' s2→Pub M' s2→∃ A2 n2 c2,v=.tuple #[.agg #[.int .i64 (qcv t codes).cells,.slice A2 n2 c2],.agg #[.int .i64 (qck t codes).1,.int .i64 (qck t codes).2]]∧Inss s2 A2 n2 c2 (qcv t codes).ins:=by
 have hn:=hA.1
 have hn1:=hCo.1
 have hc1:=hA.2.1
 have hc2:=hA.2.2.1
 have hcc1:=hCo.2.1
 have hcc2:=hCo.2.2.1
 have hF:=qeX t
 refine qai (fn:=f5) qaG func5 V Z ntmps5 Z (rs:=[.cell 4 24,.cell 5 29]) Z [(0,_),(1,_)] Z<|Sr<|qaL Z Z ?_
 intro β1 s1 h1
 refine qag Z [_,_] Z Z ?_
 intro β2 s2 h2
 refine qag Z [_,_] Z Z ?_
 intro β3 s3 h3
 refine Nt<|Zs<|Sr<|qae (qad 2 [_,_] Z Z Z Z Z) Z<|Jc Z Z Z (qdd D _ _ _ _ _ _ (hA.le (h1.t h2|>.t h3))) ?_
 rintro _ _ s4 h4 ⟨rfl,rfl⟩
 refine qag Z [_,_] Z Z ?_
 intro β5 s5 h5
 refine Wt 0 [_,_] Y9<|Nt<|Sr<|qae (qad 0 [_,_] Z Z Z Z Z) Z<|qae (qal [] [_,_] Z Z Z Z Z Z) Z<|qae (qef Z Z (qdD _ _ _ _)) Z<|Nt<|?_
 refine qbc Z (fun c6=>?_) (fun c6=>?_)
 ·
  have hbad:(qak t).1≠0:=fun h=>c6 ⟨h,hF h⟩
  refine Zs<|qaD qaf 4 Z [2,1] (by intro x hx;exact qan hx) ?_
  intro s7 h7
  refine za 0 Z (qal [] [_,_] Z Z Z Z Z Z) Z<|za 1 Z (qad 0 [_,_] Z Z Z Z Z) Z<|qah 2 V<|Wu Z Tt 2 [_,_] Y9 (sM (sbY (sbN (sbY (sbE _)))))<|qah 3 V<|Wu Z Tt 1 [_,_] Y9 (sM (sbY (sbN (sbY (sbE _)))))<|qac V<|Zt<|Zo<|Zu<|?_
  refine rR [_,_,_,_] _ (.agg (us:=[_,_]) 2 Z Z Z Z Z (.agg (us:=[_,_]) 1 Z Z Z Z Z (.nil))) Z (h1.t h2|>.t h3|>.t h4|>.t h5|>.t h7) fun _ hS2=>?_
  refine ⟨[],Z,fun s2 hs2 hp=>⟨none,0,0,?_,?_⟩⟩
  · rw [qcv,qlj hbad,if_pos hbad];rfl
  · rw [qcv,qlj hbad,if_pos hbad];exact ⟨rfl,Nat.le_refl _,by omega,fun i x h=>by cases h⟩
 have ht0:(qak t).1=0:=c6.1
 have hG:=qoc hA ht0
 have hg64:=hG.len
 refine Zk<|Zt<|Zs<|Sr<|Zqm Z Z<|Ws Y4<|Wb Y5<|Wl 3 Y6<|Ws Y4<|qj3 Z Z Z<|Nt ?_
 refine qbc Z (fun c8=>?_) (fun c8=>?_)
 ·
  have hle:¬ codes.length=t.ins.length:=by omega
  refine Sr<|qae (qal [] [_,_] Z Z Z Z Z Z) Z<|Jc Z Z Z (qbk D _ _ _ _) ?_
  rintro _ _ s9 h9 ⟨rfl,rfl⟩
  refine Wt 2 [_,_] Y9<|Wt 1 [_,_] Y9<|Nt<|Zo<|Zu<|?_
  refine rR [_,_,_,_] _ (.agg (us:=[_,_]) 2 Z Z Z Z Z (.agg (us:=[_,_]) 1 Z Z Z Z Z (.nil))) Z (h1.t h2|>.t h3|>.t h4|>.t h5|>.t h9) fun _ hS2=>?_
  refine ⟨[],Z,fun s2 hs2 hp=>⟨none,0,0,?_,?_⟩⟩
  · rw [qcv,qmS ht0 hle];rfl
  · rw [qcv,qmS ht0 hle];exact ⟨rfl,Nat.le_refl _,by omega,fun i x h=>by cases h⟩
 have hle:codes.length=t.ins.length:=by omega
 refine Zk<|Zt<|Sr<|W0 Y5<|Wl 3 Y6<|qae (qal [(_,_)] [_,_] Z Z Z Z Z Z) Z<|qag Z [_,_] Z Z ?_
 intro β10 s10 h10
 refine Wt 0 [_,_] Y9<|Nt<|Zs<|Sr<|Wb Y5<|Wl 4 Y6<|Ws Y4<|Zqm Z Z<|Nt<|Zp<|?_
 refine qaQ (γ:=Nat×Value×Hl×List (List Value)) (fun g=>[(1,_),(4,_),(5,_),(7,_),(29,_),(30,_),(31,.int .i64 (g.1:Int))]) (fun g=>(β10,cb [.int .i64 t.cells,g.2.1] 24)::(β5,cb [.int .i64 (qak t).1,.int .i64 (qak t).2] 29)::(β3,cb [.int .i64 0,.int .i64 0] 29)::(β2,cb [.int .i64 0,.slice none 0 0] 24)::(β1,cb [.int .i64 t.cells,.slice A n c] 24)::(g.2.2.1++L)) (fun g tw=>Le D s10 tw∧(g.1≤n∧FL.Own 66 4 g.2.2.1 g.2.1 g.1 g.2.2.2.flatten∧All2 (fun x cs=>cs.length=4∧InsR tw x cs) ((qde codes 0 t.ins).take g.1) g.2.2.2∧∀ i,i < g.1→rep codes i=false)) (fun g=>n - g.1) (fun _ _ _ h hl=>⟨h.1.trans hl,by obtain ⟨_,k1,k2,k3,k4⟩:=h;exact ⟨k1,k2,qar k3 hl,k4⟩⟩) (0,.slice none 0 0,[],[]) (.c6 Z Z Z Z Z Z (.cons Z (.nil _))) Z ⟨Le.refl _,⟨Nat.zero_le _,Own.nil,All2.nil,fun i hi=>by simp at hi⟩⟩ ?_
 intro g s11 I11
 obtain ⟨j,vj,Mj,css⟩:=g
 obtain ⟨hj0,hOj,hAj,hRp⟩:=I11.2
 simp only at hj0 hOj hAj hRp
 dsimp only
 refine Sr<|qbY Z Z Z<|Nt<|Zs<|?_
 refine qab Z (fun c12=>?_) (fun c12=>?_)
 ·
  have hk:j < n:=by omega
  obtain ⟨b,off,x,A',n',c',rfl,hx,hcx,hax,hnl,hcd⟩:=Inss.at_ (hA.le (h1.t h2|>.t h3|>.t h4|>.t h5|>.t h10|>.t I11.1)) hk
  obtain ⟨b2,off2,cd,rfl,hcdx,hccd,hcu⟩:=Wds.at_ (hCo.le (h1.t h2|>.t h3|>.t h4|>.t h5|>.t h10|>.t I11.1)) (show j < n1 by omega)
  have hY:=qgK hx hcdx
  refine Zk<|Zt<|Zs<|Zp<|Sr<|Zqm Z Z<|qae (qbw Z Z Z Z Z Z hk) Z<|qae (qbG Z Z Z (hcx.le (Lr D)) Z) Z<|qag Z [_,_,_,_] Z Z ?_
  intro β13 s13 h13
  refine Zqa Z Z<|Wt 0 [_,_,_,_] Y9<|Nt<|Zs<|Zs<|qbH qaf 8 Z _ (fun _ h=>h) ?_
  intro s14 h14
  refine za 0 Z (qao Z) Z<|za 1 Z (qao Z) Z<|za 2 Z (qpH Z Z Z Z Z O) Z<|za 3 Z (qao Z) Z<|za 4 Z (qao Z) Z<|za 5 Z (qaX Z Z Z Z Z Z (show j < n1 by omega)) Z<|za 6 Z (qaq Z Z Z (hccd.le (h13.t h14)) Z) Z<|qah 7 V<|Jb Z Tt Z Z Z (qsW D _ _ _ _ _ (codes.take j) (Wds.take (hCo.le (h1.t h2|>.t h3|>.t h4|>.t h5|>.t h10|>.t I11.1|>.t h13|>.t h14)) O) _) ?_
  rintro _ _ s15 h15 ⟨rfl,rfl⟩
  refine ⟨fun _ _ h=>h,?_⟩
  refine qac V<|Zt ?_
  refine qcW Z (fun c16=>?_) (fun c16=>?_)
  ·
   have hrp:=c16
   refine Sr<|qae (qal [] [_,_] Z Z Z Z Z Z) Z<|Zqm Z Z<|Jc Z Z Z (qbk D _ _ _ _) ?_
   rintro _ _ s17 h17 ⟨rfl,rfl⟩
   refine Wt 4 [_,_] Y9<|Wt 3 [_,_] Y9<|Nt<|Zo<|Zu<|Zc<|Zu<|Zu<|Zc<|Zu<|?_
   refine rR [_,_,_,_,_,_] _ (.agg (us:=[_,_]) 4 Z Z Z Z Z (.agg (us:=[_,_]) 3 Z Z Z Z Z (.nil))) Z (h1.t h2|>.t h3|>.t h4|>.t h5|>.t h10|>.t I11.1|>.t h13|>.t h14|>.t h15|>.t h17) fun _ hS2=>?_
   refine ⟨Mj,Z,fun s2 hs2 hp=>⟨none,0,0,?_,?_⟩⟩
   · rw [qcv,qpm ht0 hle (show j < codes.length by omega) hRp (by rw [qj1 hcdx];exact hrp)];rfl
   · rw [qcv,qpm ht0 hle (show j < codes.length by omega) hRp (by rw [qj1 hcdx];exact hrp)];exact ⟨rfl,Nat.le_refl _,by omega,fun i x h=>by cases h⟩
  have hrp:=c16
  refine Zk<|Zt<|Zs<|qaD qaf 11 Z [0] (by intro x hx;exact qan hx) ?_
  intro s18 h18
  refine za 0 Z (qao Z) Z<|za 1 Z (qao Z) Z<|za 2 Z (qaX Z Z Z Z Z Z (show j < n1 by omega)) Z<|za 3 Z (qaq Z Z Z (hccd.le (h13.t h14|>.t h15|>.t h18)) Z) Z<|za 4 Z (We Y4) Z<|qah 5 V<|qb1 Z Tt (Wd 0 Y5) Z<|za 7 Z (We Y4) Z<|qah 6 V<|Jb Z Tt Z Z Z (AC.pub (qk4 D _ _ _ _ _ _ (hax.le (h13.t h14|>.t h15|>.t h18)) (by have:=hG.few _ _ hx;have:=hax.1;omega))) ?_
  rintro _ _ s19 h19 ⟨rfl,M1,sw,⟨Ad,ca1,rfl,_,_,hOw⟩,hsw,hcw⟩
  refine ⟨fun _ _ h=>h,?_⟩
  have hAc:=Own.acs hOw hax.u hcw hax.1
  refine qah 8 V<|Wu Z Tt 0 [_,_,_,_] Y9 (sM (qaI (sbY (sbE _))))<|za 9 Z (We Y4) Z<|qah 10 V<|Wu Z Tt 0 [_,_,_,_] Y9 (sM (qaI (sbY (sbE _))))<|qac V<|Zt<|Zr<|Wb Y5<|Wl 1 Y6<|qae (qad 0 [_,_,_,_] Z Z Z Z Z) Z<|qa0 [(_,_)] [_,_,_,_] Z Z Z Z Z Z Z Z Z ?_
  intro βn s20 h20 hcb
  refine qbO (sz:=4) [_,_,_,_,_,_] Mj L Z Z Z Z Z Z Z hOj (Row.of_cells (hcb.le (Lr D)) Z Z) ⟨by simp [ti66];omega,by omega⟩ Z ?_
  intro vj Aj s21 h21 oj
  obtain ⟨Avj,cvj,rfl,_,_⟩:=Own.slice oj
  simp only [cQ9,nQ9]
  refine Wb Y5<|Wt 1 [_,_] Y9<|Zn<|Zb<|Zt<|Zr<|qaW Z Z Z (w64 O O)<|Zqm Z Z<|Zn<|?_
  refine qaa ⟨(j+1,.slice Avj (j+1) cvj,Aj,css++[_]),[_],kp,rfl,⟨(I11.1.t h13|>.t h14|>.t h15|>.t h18|>.t h19|>.t h20|>.t h21),⟨by simp only;omega,by simp only;rw [qap];exact oj,by simp only;rw [qay hY];exact All2.snoc (qar hAj (h13.t h14|>.t h15|>.t h18|>.t h19|>.t h20|>.t h21)) ⟨rfl,_,_,_,rfl,hAc.le (h20.t h21),hnl,hcu⟩,fun i hi=>by simp only at hi;rcases Nat.lt_succ_iff_lt_or_eq.1 hi with h | rfl;exact hRp i h;rw [qj1 hcdx];exact hrp⟩⟩,Oz⟩
 have hjn:j=n:=by omega
 obtain ⟨Au,cu,rfl,ku1,ku2⟩:=Own.slice hOj
 refine Zl<|Zv<|Zv<|Zd<|Zt<|Sr<|qae (qad 0 [_,_] Z Z Z Z Z) Z<|qae (qal [] [_,_] Z Z Z Z Z Z) Z<|Wt 3 [_,_] Y9<|Wt 2 [_,_] Y9<|Nt<|Zo<|?_
 refine rR [_,_,_,_,_] _ (.agg (us:=[_,_]) 3 Z Z Z Z Z (.agg (us:=[_,_]) 2 Z Z Z Z Z (.nil))) Z (h1.t h2|>.t h3|>.t h4|>.t h5|>.t h10|>.t I11.1) fun _ hS2=>?_
 refine ⟨Mj,Z,fun s2 hs2 hp=>?_⟩
 have hz:=qtY ht0 hle (fun i hi=>hRp i O)
 have hR:qcv t codes=⟨t.cells,qde codes 0 t.ins⟩:=by unfold qcv;rw [hz];rfl
 have hA2:=qar hAj ((Lr D).t (hS2.t hs2))
 rw [List.take_of_length_le (by rw [qfq];omega)] at hA2
 rw [hR,hz]
 exact ⟨_,_,_,rfl,Own.rows hOj hp hA2 (by rw [qfq];omega)⟩
end Go.Proofs.YtjindleklapakaaGreatDoor
namespace Go.Proofs.YtjindleklapakaaGreatDoor
open Go Go.FL Go.RowKit
def rcT(t:Tab)(codes:List Int):Tab:=⟨t.cells,qde codes 0 t.ins⟩
theorem qhg(codes:List Int)(nm:List UInt8):∀ (l:List Ins) (k:Nat),(qbd l nm=none∧qbd (qde codes k l) nm=none)∨∃ i x,l[i]?=some x∧qbd l nm=some x∧qbd (qde codes k l) nm=some { x with code:=codes.getD (k+i) x.code }
  | [],_=>.inl ⟨rfl,rfl⟩
  | x::r,k=>by
    by_cases hx:x.name=nm
    · exact .inr ⟨0,x,rfl,by simp [qbd,hx],by simp [qbd,qde,hx]⟩
    · rcases qhg codes nm r (k+1) with ⟨h1,h2⟩ | ⟨i,y,h1,h2,h3⟩
      · exact .inl ⟨by simpa [qbd,hx] using h1,by simpa [qbd,qde,hx] using h2⟩
      · refine .inr ⟨i+1,y,h1,by simpa [qbd,hx] using h2,?_⟩
        rw [show k+(i+1)=k+1+i by omega,← h3]
        simp [qbd,qde,hx]
section
variable{t:Tab}{codes:List Int}
theorem qsg(nm:List UInt8):(qbd (rcT t codes).ins nm).isSome=(qbd t.ins nm).isSome:=by
 rcases qhg codes nm t.ins 0 with ⟨h1,h2⟩ | ⟨i,x,_,h1,h2⟩ <;> rw [h1,show qbd (rcT t codes).ins nm=_ from h2] <;> rfl
theorem qt9(o:List UInt8):qiE (rcT t codes) o=qiE t o:=by
 rcases qhg codes o t.ins 0 with ⟨h1,h2⟩ | ⟨i,x,_,h1,h2⟩ <;> rw [qiE,qiE,h1,show qbd (rcT t codes).ins o=_ from h2]
theorem qt8(prev:List RL)(sz:Int)(r:RL):lcR (rcT t codes) prev sz r=lcR t prev sz r:=by
 unfold lcR;rw [qsg,qt9];rfl
theorem qpn:∀ (rs prev:List RL) (sz:Int) (i:Nat),lcF (rcT t codes) prev sz i rs=lcF t prev sz i rs
 | [],_,_,_=>rfl
 | r::rs,prev,sz,i=>by rw [lcF,lcF,qt8,qpn rs]
def hdL(r:RL):List Bool:=if r.op=[] then [] else if r.op=qbe then List.replicate r.num.toNat false else if r.op≠qcI∧r.given=true then [true,false] else [decide (r.op≠qcI)]
def hdF(rs:List RL):List Bool:=(rs.map hdL).flatten
end
inductive HW(t:Tab)(codes:List Int):List Bool→List Int→List Int→Prop
 | nil:HW t codes [] [] []
 | plain (v:Int) {hd w w'} (h:HW t codes hd w w'):HW t codes (false::hd) (v::w) (v::w')
 | one (i:Nat) (x:Ins) (c:Int) (hx:t.ins[i]?=some x) (hc:codes[i]?=some c) (ho:x.operand=false) {hd w w'} (h:HW t codes hd w w'):HW t codes (true::hd) (x.code::w) (c::w')
 | two (i:Nat) (x:Ins) (c v:Int) (hx:t.ins[i]?=some x) (hc:codes[i]?=some c) {hd w w'} (h:HW t codes hd w w'):HW t codes (true::false::hd) (x.code::v::w) (c::v::w')
theorem HW.zeros{t:Tab}{codes:List Int}{hd:List Bool}{w w':List Int}(h:HW t codes hd w w'):∀ n,HW t codes (List.replicate n false++hd) (List.replicate n 0++w) (List.replicate n 0++w')
 | 0=>by simpa using h
 | n+1=>by simp only [List.replicate_succ,List.cons_append];exact .plain 0 (h.zeros n)
theorem HW.len{t:Tab}{codes:List Int}{hd:List Bool}{w w':List Int}(h:HW t codes hd w w'):w'.length=w.length∧hd.length=w.length:=by
 induction h with
 | nil=>exact ⟨rfl,rfl⟩
 | plain v h ih=>simp [ih.1,ih.2]
 | one i x c hx hc ho h ih=>simp [ih.1,ih.2]
 | two i x c v hx hc h ih=>simp [ih.1,ih.2]
section
variable{t:Tab}{codes:List Int}
theorem qrG(hlen:codes.length=t.ins.length){prev:List RL}{sz:Int}{r:RL}(h0:lcR t prev sz r=0)(hs:Shp r)(labs:List (List UInt8×Int)){hd:List Bool}{w w':List Int}(h:HW t codes hd w w') :
    HW t codes (hdL r++hd) (lnW t labs r++w) (lnW (rcT t codes) labs r++w'):=by
  by_cases h1:r.op=[]
  · have hg:=hs.2.1 h1
    have e:∀ u:Tab,lnW u labs r=[]:=fun u=>by
      rw [lnW,if_neg (by rw [h1];decide),if_neg (fun h=>h.1 h1),if_neg (by rw [hg];decide)];rfl
    rw [e,e,hdL,if_pos h1];exact h
  by_cases h2:r.op=qbe
  · have e:∀ u:Tab,lnW u labs r=List.replicate r.num.toNat 0:=fun u=>by rw [lnW,if_pos h2]
    rw [e,e,hdL,if_neg h1,if_pos h2];exact h.zeros _
  have hok:r.ok=true:=by
    cases hk:r.ok with
    | true=>rfl
    | false=>rw [lcR,if_pos hk] at h0;cases h0
  have hg:=qj0 hok h0 h1
  by_cases h3:r.op=qcI
  · have hgt:r.given=true:=by rw [hg,show qcc r.op=true by rw [h3];decide];rfl
    have e:∀ u:Tab,lnW u labs r=[qrN labs r]:=fun u=>by rw [lnW,if_neg h2,if_neg (fun h=>h.2 h3),if_pos hgt];rfl
    rw [e,e,hdL,if_neg h1,if_neg h2,if_neg (fun h=>h.1 h3),show decide (r.op≠qcI)=false by simp [h3]]
    exact .plain _ h
  have hown:qcc r.op=false:=by
    cases ho:qcc r.op with
    | false=>rfl
    | true=>rcases qe1 ho with h | h <;> contradiction
  have hsome:(qbd t.ins r.op).isSome=true:=by
    rcases qmF h0 with h | ⟨_,h⟩
    · contradiction
    · cases hf:(qbd t.ins r.op).isSome with
      | true=>rfl
      | false=>exact absurd ⟨hf,hown⟩ h
  rw [hown,Bool.false_or] at hg
  rcases qhg codes r.op t.ins 0 with ⟨k1,_⟩ | ⟨i,x,k1,k2,k3⟩
  · rw [k1] at hsome;cases hsome
  obtain ⟨c,hc⟩:∃ c,codes[i]?=some c:=⟨_,List.getElem?_eq_getElem (by rw [hlen];exact (List.getElem?_eq_some_iff.1 k1).1)⟩
  have c1:qd4 t r.op=x.code:=by rw [qd4,k2]
  have c2:qd4 (rcT t codes) r.op=c:=by rw [qd4,show qbd (rcT t codes).ins r.op=_ from k3];simp [List.getD,hc]
  have ho:qiE t r.op=x.operand:=by rw [qiE,k2]
  have e:∀ u:Tab,lnW u labs r=[qd4 u r.op]++(if r.given=true then [qrN labs r] else []):=fun u=>by rw [lnW,if_neg h2,if_pos ⟨h1,h3⟩]
  rw [e,e,c1,c2,hdL,if_neg h1,if_neg h2]
  by_cases hgt:r.given=true
  · rw [if_pos ⟨h3,hgt⟩,if_pos hgt]
    exact .two i x c _ k1 hc h
  · rw [if_neg (fun h=>hgt h.2),if_neg hgt,show decide (r.op≠qcI)=true by simp [h3]]
    exact .one i x c k1 hc (by rw [← ho,← hg];simpa using hgt) h
theorem qpw(hlen:codes.length=t.ins.length)(labs:List (List UInt8×Int)):∀ (rs prev:List RL) (sz:Int) (i:Nat),lcF t prev sz i rs=none→(∀ r∈rs,Shp r)→HW t codes (hdF rs) (wdF t labs rs) (wdF (rcT t codes) labs rs)
  | [],_,_,_,_,_=>.nil
  | r::rs,prev,sz,i,h,hs=>by
    rw [lcF] at h
    split at h
    · cases h
    · rename_i h0
      exact qrG hlen (by simpa using h0) (hs r Mc) labs (qpw hlen labs rs _ _ _ h fun y hy=>hs y (List.mem_cons_of_mem _ hy))
structure PR(t:Tab)(codes:List Int)(hd:List Bool)(a b:List Int):Prop where
 len:b.length=a.length
 at_:∀ p:Nat,hd[p]?=some true→∃ (i:Nat) (x:Ins) (c:Int),t.ins[i]?=some x∧codes[i]?=some c∧a[p]?=some x.code∧b[p]?=some c∧(x.operand=true→hd[p+1]?=some false)
 off:∀ p:Nat,hd[p]?≠some true→a[p]?=b[p]?
theorem PR.cons{hd:List Bool}{a b:List Int}(h:PR t codes hd a b)(v:Int):PR t codes (false::hd) (v::a) (v::b):=by
  refine ⟨by simp [h.len],fun p hp=>?_,fun p hp=>?_⟩
  · cases p with
    | zero=>cases hp
    | succ p=>
      obtain ⟨i,x,c,h1,h2,h3,h4,h5⟩:=h.at_ p (by simpa using hp)
      exact ⟨i,x,c,h1,h2,by simpa using h3,by simpa using h4,fun ho=>by simpa using h5 ho⟩
  · cases p with
    | zero=>rfl
    | succ p=>simpa using h.off p (by simpa using hp)
theorem PR.head{hd:List Bool}{a b:List Int}(h:PR t codes hd a b)(i:Nat)(x:Ins)(c:Int)(hx:t.ins[i]?=some x)(hc:codes[i]?=some c)(ho:x.operand=true→hd[0]?=some false):PR t codes (true::hd) (x.code::a) (c::b):=by
  refine ⟨by simp [h.len],fun p hp=>?_,fun p hp=>?_⟩
  · cases p with
    | zero=>exact ⟨i,x,c,hx,hc,rfl,rfl,fun h=>by simpa using ho h⟩
    | succ p=>
      obtain ⟨i,x,c,h1,h2,h3,h4,h5⟩:=h.at_ p (by simpa using hp)
      exact ⟨i,x,c,h1,h2,by simpa using h3,by simpa using h4,fun ho=>by simpa using h5 ho⟩
  · cases p with
    | zero=>exact absurd rfl hp
    | succ p=>simpa using h.off p (by simpa using hp)
theorem HW.pr{hd:List Bool}{w w':List Int}(h:HW t codes hd w w'):PR t codes hd w w':=by
 induction h with
 | nil=>exact ⟨rfl,fun p hp=>(by simp at hp),fun p _=>rfl⟩
 | plain v h ih=>exact ih.cons v
 | one i x c hx hc ho h ih=>exact ih.head i x c hx hc fun h=>by rw [ho] at h;cases h
 | two i x c v hx hc h ih=>exact (ih.cons v).head i x c hx hc fun _=>rfl
theorem PR.more{hd:List Bool}{a b:List Int}(h:PR t codes hd a b)(hl:hd.length=a.length)(m:List Int):PR t codes hd (a++m) (b++m):=by
  have h0:=h.len
  refine ⟨by simp [h.len],fun p hp=>?_,fun p hp=>?_⟩
  · obtain ⟨i,x,c,h1,h2,h3,h4,h5⟩:=h.at_ p hp
    have k:=(List.getElem?_eq_some_iff.1 h3).1
    exact ⟨i,x,c,h1,h2,by rw [List.getElem?_append_left k];exact h3,by rw [List.getElem?_append_left O];exact h4,h5⟩
  · by_cases hk:p < a.length
    · rw [List.getElem?_append_left hk,List.getElem?_append_left O];exact h.off p hp
    · rw [List.getElem?_append_right O,List.getElem?_append_right O,h0]
theorem PR.set{hd:List Bool}{a b:List Int}(h:PR t codes hd a b){k:Nat}(hk:hd[k]?≠some true)(v:Int):PR t codes hd (a.set k v) (b.set k v):=by
  have h0:=h.len
  refine ⟨by simp [h.len],fun p hp=>?_,fun p hp=>?_⟩
  · have hne:k≠p:=fun e=>hk (by rw [e];exact hp)
    obtain ⟨i,x,c,h1,h2,h3,h4,h5⟩:=h.at_ p hp
    exact ⟨i,x,c,h1,h2,by rw [List.getElem?_set_ne hne];exact h3,by rw [List.getElem?_set_ne hne];exact h4,h5⟩
  · by_cases hne:k=p
    · subst hne
      by_cases hl:k < a.length
      · rw [List.getElem?_set_self hl,List.getElem?_set_self O]
      · rw [List.getElem?_eq_none (by simp;omega),List.getElem?_eq_none (by simp;omega)]
    · rw [List.getElem?_set_ne hne,List.getElem?_set_ne hne];exact h.off p hp
theorem PR.getD{hd:List Bool}{a b:List Int}(h:PR t codes hd a b){k:Nat}(hk:hd[k]?≠some true):a.getD k 0=b.getD k 0:=by
 simp only [List.getD,h.off k hk]
end
def qrI(hd:List Bool)(m:Mst)(op:Int)(a:Ac):Bool:=decide (a.kind=13∨a.kind=14) && decide (hd[(qba m op a.x).toNat]?=some true)
def qhV(hd:List Bool)(m:Mst)(op:Int):List Ac→Bool
 | []=>false
 | a::r=>if qrI hd m op a=true then true else if (qbj m a op).stop=0 then qhV hd (qbj m a op) op r else false
def qhv(hd:List Bool)(m:Mst)(x:Ins):Bool:=if x.operand=true then (if m.r4+1=(m.cells.length:Int) then false else qhV hd { m with r4:=m.r4+2 } (m.cells.getD (m.r4+1).toNat 0) x.acts) else qhV hd { m with r4:=m.r4+1 } 0 x.acts
def qjk(t:Tab)(hd:List Bool)(m:Mst):Bool:=decide (m.r4 < (m.cells.length:Int)) && (!decide (hd[m.r4.toNat]?=some true) || t.ins.any fun x=>decide (x.code=m.cells.getD m.r4.toNat 0) && qhv hd m x)
def qgB(t:Tab)(hd:List Bool):Nat→Mst→Bool
 | 0,_=>false
 | n+1,m=>if m.stop=0 then qjk t hd m || qgB t hd n (qbl t m) else false
section
variable{t:Tab}{codes:List Int}{hd:List Bool}
theorem qlt{m:Mst}{b:List Int}(h:PR t codes hd m.cells b){a:Ac}{op:Int}(ht:qrI hd m op a=false):∃ b',qbj { m with cells:=b } a op={ qbj m a op with cells:=b' }∧PR t codes hd (qbj m a op).cells b':=by
  have hv:∀ x,qba { m with cells:=b } op x=qba m op x:=fun x=>rfl
  have hs:∀ i v,qd9 { m with cells:=b } i v={ qd9 m i v with cells:=b }:=fun i v=>rfl
  simp only [qrI,Bool.and_eq_false_iff,decide_eq_false_iff_not] at ht
  unfold qbj
  simp only [hv,h.len,hs]
  by_cases c1:(a.kind=4∨a.kind=5)∧qba m op a.y=0
  · rw [if_pos c1,if_pos c1];exact ⟨b,rfl,h⟩
  rw [if_neg c1,if_neg c1]
  by_cases c2:(a.kind=13∨a.kind=14)∧(m.cells.length:Int)≤qba m op a.x
  · rw [if_pos c2,if_pos c2];exact ⟨b,rfl,h⟩
  rw [if_neg c2,if_neg c2]
  by_cases c3:a.kind=16∧m.output.length=20000
  · rw [if_pos c3,if_pos c3];exact ⟨b,rfl,h⟩
  rw [if_neg c3,if_neg c3]
  by_cases c4:a.kind=13
  · rw [if_pos c4,if_pos c4]
    have hk:=ht.resolve_left (fun k=>k (.inl c4))
    rw [← h.getD hk];exact ⟨b,rfl,h⟩
  rw [if_neg c4,if_neg c4]
  by_cases c5:a.kind=14
  · rw [if_pos c5,if_pos c5]
    have hk:=ht.resolve_left (fun k=>k (.inr c5))
    exact ⟨_,rfl,h.set hk _⟩
  rw [if_neg c5,if_neg c5]
  by_cases c6:a.kind=15
  · rw [if_pos c6,if_pos c6]
    cases m.input with
    | nil=>exact ⟨b,rfl,h⟩
    | cons c r=>exact ⟨b,rfl,h⟩
  rw [if_neg c6,if_neg c6]
  by_cases c7:a.kind=16
  · rw [if_pos c7,if_pos c7];exact ⟨b,rfl,h⟩
  rw [if_neg c7,if_neg c7]
  by_cases c8:a.kind=17∨(a.kind=18∧qba m op a.y=0)
  · rw [if_pos c8,if_pos c8];exact ⟨b,rfl,h⟩
  rw [if_neg c8,if_neg c8]
  by_cases c9:a.kind≤12∨(a.kind=19∧qba m op a.y=0)
  · rw [if_pos c9,if_pos c9];exact ⟨b,rfl,h⟩
  rw [if_neg c9,if_neg c9];exact ⟨b,rfl,h⟩
theorem qfm{op:Int}:∀ (l:List Ac) {m:Mst} {b:List Int},PR t codes hd m.cells b→qhV hd m op l=false→∃ b',qca { m with cells:=b } op l={ qca m op l with cells:=b' }∧PR t codes hd (qca m op l).cells b'
  | [],m,b,h,_=>⟨b,rfl,h⟩
  | a::r,m,b,h,ht=>by
    rw [qhV] at ht
    split at ht
    · cases ht
    rename_i h1
    obtain ⟨b1,e1,k1⟩:=qlt h (by simpa using h1)
    simp only [qca,e1]
    split at ht
    · rename_i h0
      rw [if_pos h0,if_pos h0]
      exact qfm r k1 ht
    · rename_i h0
      rw [if_neg h0,if_neg h0]
      exact ⟨b1,rfl,k1⟩
theorem qrH{i:Nat}{x:Ins}{c:Int}(hx:t.ins[i]?=some x)(hc:codes[i]?=some c):(rcT t codes).ins[i]?=some { x with code:=c }:=qgK hx hc
theorem qkf(hG:TabG t)(hU:TabG (rcT t codes)){m:Mst}{b:List Int}(h4:0≤m.r4)(h:PR t codes hd m.cells b)(ht:qjk t hd m=false):∃ b',qbl (rcT t codes) { m with cells:=b }={ qbl t m with cells:=b' }∧PR t codes hd (qbl t m).cells b':=by
  unfold qbl
  simp only [h.len]
  by_cases c1:(m.cells.length:Int)≤m.r4
  · rw [if_pos c1,if_pos c1];exact ⟨b,rfl,h⟩
  rw [if_neg c1,if_neg c1]
  simp only [qjk,show m.r4 < (m.cells.length:Int) by omega,decide_true,Bool.true_and,Bool.or_eq_false_iff,Bool.not_eq_false',decide_eq_true_eq] at ht
  obtain ⟨hp,ha⟩:=ht
  obtain ⟨i,x,c,k1,k2,k3,k4,k5⟩:=h.at_ _ hp
  have e1:m.cells.getD m.r4.toNat 0=x.code:=by simp [List.getD,k3]
  have e2:b.getD m.r4.toNat 0=c:=by simp [List.getD,k4]
  rw [List.any_eq_false] at ha
  have hx:=ha x (List.mem_of_getElem? k1)
  rw [e1] at hx
  simp only [decide_true,Bool.true_and,Bool.not_eq_true] at hx
  rw [e1,e2,qem hG k1 rfl,qem hU (qrH k1 k2) rfl]
  simp only [qhv] at hx
  by_cases ho:x.operand=true
  · rw [if_pos ho] at hx
    simp only [ho,if_true]
    by_cases c2:m.r4+1=(m.cells.length:Int)
    · rw [if_pos c2,if_pos c2];exact ⟨b,rfl,h⟩
    rw [if_neg c2,if_neg c2]
    rw [if_neg c2] at hx
    have hq:m.cells.getD (m.r4+1).toNat 0=b.getD (m.r4+1).toNat 0:=h.getD (by
      have:=k5 ho
      rw [show (m.r4+1).toNat=m.r4.toNat+1 by omega,this];decide)
    rw [← hq]
    exact qfm (m:={ m with r4:=m.r4+2 }) _ h hx
  · rw [if_neg ho] at hx
    simp only [ho,if_false]
    exact qfm (m:={ m with r4:=m.r4+1 }) _ h hx
theorem qiJ(hG:TabG t)(hU:TabG (rcT t codes)):∀ (n:Nat) {m:Mst} {b:List Int},MOK m→SOK m→PR t codes hd m.cells b→qgB t hd n m=false→∃ b',qeD (rcT t codes) { m with cells:=b } n=({ (qeD t m n).1 with cells:=b' },(qeD t m n).2)
  | 0,m,b,_,_,_,_=>⟨b,rfl⟩
  | n+1,m,b,hm,hs,h,ht=>by
    simp only [qeD]
    by_cases h0:m.stop=0
    · rw [if_pos h0,if_pos h0]
      rw [qgB,if_pos h0,Bool.or_eq_false_iff] at ht
      obtain ⟨b1,e1,k1⟩:=qkf hG hU hm.u4.1 h ht.1
      have hc:m.code=0:=by
        by_cases hc:m.code=0
        · exact hc
        · have:=hs.code hc;omega
      obtain ⟨g1,g2,_,_⟩:=qcY hG hm h0 hc
      obtain ⟨b2,e2⟩:=qiJ hG hU n g1 g2 k1 ht.2
      exact ⟨b2,by rw [e1,e2]⟩
    · rw [if_neg h0,if_neg h0];exact ⟨b,rfl⟩
theorem qss(h:(qck t codes).1=0):(qak (rcT t codes)).1=0:=by
  obtain ⟨h1,h2,_⟩:=ql8 h
  have hrep:∀ i,i < codes.length→rep codes i=false:=fun i hi=>by
    unfold qck at h
    rw [if_neg (by simpa using h1),if_neg (by simpa using h2)] at h
    have:=qdl h i (Nat.zero_le _) O
    unfold qsn at this
    split at this
    · cases this
    · rename_i hr;simpa using hr
  have hT:=h1
  unfold qak at hT
  split at hT
  · exact absurd hT Dc
  rename_i t1
  split at hT
  · exact absurd hT Dc
  rename_i t2
  have hrow:∀ i,i < t.ins.length→qbR t.ins i=0:=fun i hi=>qdl hT i (Nat.zero_le _) O
  have hl:(rcT t codes).ins.length=t.ins.length:=qfq _ _ _
  rw [qot (t:=rcT t codes) (show 1≤t.cells∧t.cells≤65536 by omega) O (fun i hi=>?_)]
  rw [hl] at hi
  have hx:=List.getElem?_eq_getElem hi
  have hc:=List.getElem?_eq_getElem (show i < codes.length by omega)
  have hr:=hrow i hi
  simp only [qbR,hx] at hr
  split at hr
  · contradiction
  rename_i hic
  split at hr
  · cases hr
  rename_i han
  simp only [qbR,qrH hx hc]
  have hic':¬ qb8 { t.ins[i] with code:=codes[i] }≠0:=hic
  rw [if_neg hic',if_neg]
  rw [List.any_eq_true]
  rintro ⟨y,hy,hk⟩
  obtain ⟨j,hj⟩:=List.getElem?_of_mem hy
  rw [List.getElem?_take] at hj
  split at hj
  rotate_left
  · cases hj
  rename_i hji
  have hxj:=List.getElem?_eq_getElem (show j < t.ins.length by omega)
  have hcj:=List.getElem?_eq_getElem (show j < codes.length by omega)
  rw [qrH hxj hcj] at hj
  injection hj with hj
  subst hj
  simp only [qdz,Bool.or_eq_true,decide_eq_true_eq] at hk
  rcases hk with hk | hk
  · refine han (qoH hxj hji ?_)
    simp only [qdz,Bool.or_eq_true,decide_eq_true_eq];exact .inl hk
  · have:=hrep i O
    rw [qrs hc (by rw [hcj,← hk]) hji] at this
    cases this
theorem qmn(hG:TabG t)(hU:TabG (rcT t codes))(ht:(qak t).1=0)(hu:(qak (rcT t codes)).1=0)(hlen:codes.length=t.ins.length){tx:List UInt8}{rs:List RL}(hr:RLs (splitB 10 tx) rs)(h:(qdA t tx).1=0) :
  (qdA (rcT t codes) tx).1=0∧HW t codes (hdF rs) (qjq t tx) (qjq (rcT t codes) tx):=by
 have hlong:¬ 400000 < tx.length:=fun hl=>by
  have:qf4 t tx=.inl (3,-2):=by rw [qf4,if_neg (by simpa using ht),if_pos hl]
  rw [(qim this).2.2] at h;exact absurd h Dc
 have e1:=qhE (by simpa using ht) hlong hG.cells.2 hr
 have e2:=qhE (t:=rcT t codes) (by simpa using hu) hlong hU.cells.2 hr
 rw [qpn] at e2
 cases h1:lcF t [] 0 0 rs with
 | some f=>
  rw [h1] at e1 e2
  rw [(qim e1).2.2] at h
  exfalso
  exact lcF_ne _ _ _ _ h1 h
 | none=>
  rw [h1] at e1 e2
  cases h2:urF (qhS 0 rs) 0 rs with
  | some f=>
   rw [h2] at e1
   rw [(qim e1).2.2] at h
   exact (urF_ne _ _ h2 h).elim
  | none=>
   rw [h2] at e1 e2
   simp only at e1 e2
   rw [(qfJ e1).1,(qfJ e2).1,(qfJ e2).2.2]
   exact ⟨rfl,qpw hlen _ rs [] 0 0 h1 (qkc rs _ [] 0 0 hr h1)⟩
where
 lcF_ne:∀ (rs prev:List RL) (sz:Int) (i:Nat) {f:Int×Int},lcF t prev sz i rs=some f→f.1=0→False
  | [],_,_,_,_,h,_=>by cases h
  | r::rs,prev,sz,i,f,h,h0=>by
   rw [lcF] at h
   split at h
   · rename_i hc;injection h with h;subst h;exact hc h0
   · exact lcF_ne rs _ _ _ h h0
 urF_ne {labs:List (List UInt8×Int)}:∀ (rs:List RL) (i:Nat) {f:Int×Int},urF labs i rs=some f→f.1=0→False
  | [],_,_,h,_=>by cases h
  | r::rs,i,f,h,h0=>by
   rw [urF] at h
   split at h
   · injection h with h;subst h;cases h0
   · exact urF_ne rs _ h h0
theorem qkT(hG:TabG t)(hU:TabG (rcT t codes)){l l':List Int}{hd:List Bool}(hw:HW t codes hd l l'){i:List UInt8}{k:Int}(hl:(l.length:Int)≤t.cells)(hi:i.length≤400000)(hu:∀ x∈l,U32 x)(ht:qgB t hd k.toNat (qaU t l i)=false) :
  qjp (rcT t codes) l' i k=qjp t l i k:=by
 obtain ⟨h1,h2,_⟩:=qdE hG hl hi hu
 have hp:PR t codes hd (qaU t l i).cells (qaU (rcT t codes) l' i).cells:=by
  have:=hw.pr.more hw.len.2 (List.replicate (t.cells.toNat - l.length) 0)
  simp only [qaU,rcT,hw.len.1];exact this
 obtain ⟨b',e⟩:=qiJ hG hU k.toNat h1 h2 hp ht
 have e0:qaU (rcT t codes) l' i={ qaU t l i with cells:=(qaU (rcT t codes) l' i).cells }:=rfl
 rw [qjp,e0,e,qjp]
end
def Bos(s:World)(A:Option Addr)(n c:Nat)(l:List Bool):Prop:=Sl 1 (fun _ x cs=>cs=[.bool x]) s A n c l
theorem Bos.le{D:Nat}{s s':World}{A:Option Addr}{n c:Nat}{l:List Bool}(h:Bos s A n c l)(hl:Le D s s'):Bos s' A n c l:=Sl.le (fun _ _ h=>h) h hl
theorem Bos.at_{s:World}{A:Option Addr}{n c k:Nat}{l:List Bool}(h:Bos s A n c l)(hk:k < n):∃ b off x,A=some ⟨b,off,none⟩∧l[k]?=some x∧CellsAt s b (off+k) [.bool x]:=by
 have hl:k < l.length:=by rw [← h.1];exact hk
 obtain ⟨b,off,cs,h1,h2,_,rfl⟩:=h.2.2.2 k l[k] (List.getElem?_eq_getElem hl)
 exact ⟨b,off,l[k],h1,List.getElem?_eq_getElem hl,by simpa using h2⟩
def bov(l:List Bool):List Value:=l.map fun b=>.bool b
theorem qcU(l:List Bool)(b:Bool):bov (l++[b])=bov l++[.bool b]:=by simp [bov]
theorem Own.bos{e:Nat}{A:Hl}{Ad:Option Addr}{n c:Nat}{l:List Bool}{s:World}(h:FL.Own e 1 A (.slice Ad n c) n (bov l))(hp:Pub A s):Bos s Ad n c l:=by
 generalize hv:Value.slice Ad n c=v at h
 generalize hx:bov l=xs at h
 cases h with
 | nil=>
  injection hv with e1 e2 e3
  have:l=[]:=by cases l with
   | nil=>rfl
   | cons y l=>simp [bov] at hx
  subst this;subst e3;exact ⟨rfl,by omega,by omega,fun i x h=>by cases h⟩
 | blk b cap n xs ys hn hc hnc hm=>
  injection hv with e1 e2 e3
  subst e1;subst e3;subst hx
  have hC:=hp b (bov l++ys) e Mc
  refine ⟨by simpa [bov] using hn.symm,hnc,hm,fun i x hi=>⟨b,0,[.bool x],Z,fun j u hj=>?_,Z,Z⟩⟩
  cases j with
  | zero=>
   simp at hj;subst hj
   have:=hC i (.bool x) (by rw [List.getElem?_append_left (by simp [bov];exact (List.getElem?_eq_some_iff.1 hi).1)];simp [bov,hi])
   simpa using this
  | succ j=>simp at hj
section
variable{t:Tab}{hd:List Bool}{m mk:Mst}{op:Int}
theorem qdR{l:List Ac}{k:Nat}{a:Ac}(h:l[k]?=some a)(ht:qrI hd m op a=true):qhV hd m op (l.drop k)=true:=by
 obtain ⟨hk,rfl⟩:=List.getElem?_eq_some_iff.1 h
 rw [List.drop_eq_getElem_cons hk,qhV,if_pos ht]
theorem qr8{l:List Ac}{k:Nat}{a:Ac}(h:l[k]?=some a)(ht:¬ qrI hd m op a=true):qhV hd m op (l.drop k)=if (qbj m a op).stop=0 then qhV hd (qbj m a op) op (l.drop (k+1)) else false:=by
 obtain ⟨hk,rfl⟩:=List.getElem?_eq_some_iff.1 h
 rw [List.drop_eq_getElem_cons hk,qhV,if_neg ht]
theorem qe8{l:List Ac}{k:Nat}(h:¬ k < l.length):qhV hd m op (l.drop k)=false:=by
 rw [List.drop_eq_nil_of_le O];rfl
theorem qdV{x:Ins}(ho:x.operand=true)(h:¬ m.r4+1 < (m.cells.length:Int))(h2:m.r4 < (m.cells.length:Int)):qhv hd m x=false:=by
 rw [qhv,if_pos ho,if_pos O]
theorem qqR{x:Ins}(ho:x.operand=true)(h:m.r4+1 < (m.cells.length:Int)):qhv hd m x=qhV hd { m with r4:=m.r4+2 } (m.cells.getD (m.r4+1).toNat 0) x.acts:=by
 rw [qhv,if_pos ho,if_neg O]
theorem qsd{x:Ins}(ho:¬ x.operand=true):qhv hd m x=qhV hd { m with r4:=m.r4+1 } 0 x.acts:=by
 rw [qhv,if_neg ho]
theorem qe2(h:m.r4 < (m.cells.length:Int))(h2:¬ hd[m.r4.toNat]?=some true):qjk t hd m=true:=by
 rw [qjk,decide_eq_true h,decide_eq_false h2];rfl
theorem qfZ(h:m.r4 < (m.cells.length:Int)){k:Nat}{x:Ins}(hx:t.ins[k]?=some x)(hc:x.code=m.cells.getD m.r4.toNat 0)(ht:qhv hd m x=true):qjk t hd m=true:=by
 rw [qjk,decide_eq_true h,Bool.true_and,Bool.or_eq_true]
 refine .inr (List.any_eq_true.2 ⟨x,List.mem_of_getElem? hx,?_⟩)
 rw [decide_eq_true hc,ht];rfl
theorem qjQ(h:¬ m.r4 < (m.cells.length:Int)):qjk t hd m=false:=by
 rw [qjk,decide_eq_false h];rfl
theorem qiQ(h2:hd[m.r4.toNat]?=some true)(hn:∀ (j:Nat) (x:Ins),j < t.ins.length→t.ins[j]?=some x→x.code=m.cells.getD m.r4.toNat 0→qhv hd m x=false):qjk t hd m=false:=by
 rw [qjk,decide_eq_true h2,Bool.not_true,Bool.false_or,List.any_eq_false.2,Bool.and_false]
 intro x hx
 obtain ⟨j,hj⟩:=List.getElem?_of_mem hx
 rw [Bool.and_eq_true,decide_eq_true_eq,not_and,Bool.not_eq_true]
 exact hn j x (List.getElem?_eq_some_iff.1 hj).1 hj
theorem qdo{n:Nat}(hs:m.stop=0)(h:qjk t hd m=true):qgB t hd (n+1) m=true:=by rw [qgB,if_pos hs,h];rfl
theorem qiG{n:Nat}(hs:m.stop=0)(h:qjk t hd m=false):qgB t hd (n+1) m=qgB t hd n (qbl t m):=by rw [qgB,if_pos hs,h,Bool.false_or]
theorem qig{n:Nat}(hs:¬ m.stop=0):qgB t hd n m=false:=by
 cases n with
 | zero=>rfl
 | succ n=>rw [qgB,if_neg hs]
end
def hdK(r:RL)(k:Nat):Bool:=decide (k=0) && decide (r.op≠qcI) && decide (r.op≠qbe)
theorem qi9(r:RL):hdL r=(List.range (szL r).toNat).map (hdK r):=by
  by_cases h1:r.op=[]
  · rw [hdL,szL,if_pos h1,if_pos h1];rfl
  by_cases h2:r.op=qbe
  · rw [hdL,szL,if_neg h1,if_neg h1,if_pos h2,if_pos h2]
    refine (List.eq_replicate_iff.2 ⟨by simp,fun b hb=>?_⟩).symm
    obtain ⟨k,_,rfl⟩:=List.mem_map.1 hb
    simp [hdK,h2]
  rw [hdL,szL,if_neg h1,if_neg h1,if_neg h2,if_neg h2]
  by_cases h3:r.op≠qcI∧r.given=true
  · rw [if_pos h3,if_pos h3]
    show _=[hdK r 0,hdK r 1]
    simp [hdK,h2,h3.1]
  · rw [if_neg h3,if_neg h3]
    show _=[hdK r 0]
    simp [hdK,h2]
theorem qpi{rs:List RL}{k:Nat}{r:RL}(h:rs[k]?=some r):hdF (rs.take (k+1))=hdF (rs.take k)++hdL r:=by
 obtain ⟨hk,rfl⟩:=List.getElem?_eq_some_iff.1 h
 rw [List.take_succ_eq_append_getElem hk,hdF,hdF,List.map_append,List.flatten_append];simp
theorem qq4(rs:List RL)(k:Nat):hdF rs=hdF (rs.take k)++hdF (rs.drop k):=by
 rw [hdF,hdF,hdF,← List.flatten_append,← List.map_append,List.take_append_drop]
theorem qkZ{t:Tab}:∀ (rs prev:List RL) (sz:Int) (i:Nat),lcF t prev sz i rs=none→(∀ r∈rs,U32 r.num)→sz≤t.cells→sz+((hdF rs).length:Int)≤t.cells
 | [],_,sz,_,_,_,hs=>by simpa [hdF] using hs
 | r::rs,prev,sz,i,h,hu,hs=>by
  rw [lcF] at h
  split at h
  · cases h
  rename_i h0
  have hb:=qiK (hu r Mc)
  have h1:sz+szL r≤t.cells:=by
   have h0:lcR t prev sz r=0:=by simpa using h0
   by_cases he:r.op=[]
   · rw [szL,if_pos he];omega
   unfold lcR at h0
   repeat' split at h0
   all_goals first | omega | (exact absurd h0 Dc) | contradiction
  have ih:=qkZ rs _ _ _ h (fun y hy=>hu y (List.mem_cons_of_mem _ hy)) h1
  have e:hdF (r::rs)=hdL r++hdF rs:=rfl
  rw [e,qi9,List.length_append,List.length_map,List.length_range]
  omega
open Go.Proofs.Tryz
open Go.FL
attribute [local irreducible] JC JO JA JB qa7 qaP qdj AC fill CellsAt QE Ev Mid
def Two(A0:Option Addr)(c0:Nat)(l0:List UInt8)(O2:Hl)(Ao:Option Addr)(co:Nat)(l:List UInt8):Prop:=(∃ r,l=l0++r) ∧
 ((Ao=A0∧co=c0∧FL.Own 5 1 O2 (.slice Ao l.length co) l.length (bv l))∨∃ Oq9 K,O2=Oq9++K∧FL.Own 5 1 Oq9 (.slice Ao l.length co) l.length (bv l)∧FL.Own 5 1 K (.slice A0 l0.length c0) l0.length (bv l0))
theorem qid{Oq9:Hl}{Ao:Option Addr}{co:Nat}{l l0 r:List UInt8}(h:FL.Own 5 1 Oq9 (.slice Ao l.length co) l.length (bv l))(e:l=l0++r):FL.Own 5 1 Oq9 (.slice Ao l0.length co) l0.length (bv l0):=by
 have:=Own.short h (k:=l0.length) (by rw [e,List.length_append];omega)
 have e2:(bv l).take (l0.length * 1)=bv l0:=by rw [e,bv,bv,List.map_append,Nat.mul_one,List.take_left' (by simp)]
 rwa [e2] at this
theorem Two.back{A0:Option Addr}{c0:Nat}{l0:List UInt8}{O2:Hl}{Ao:Option Addr}{co:Nat}{l:List UInt8}(h:Two A0 c0 l0 O2 Ao co l):∃ Oq9 K,O2=Oq9++K∧FL.Own 5 1 K (.slice A0 l0.length c0) l0.length (bv l0):=by
 obtain ⟨⟨r,hr⟩,⟨rfl,rfl,h⟩ | ⟨Oq9,K,rfl,_,h⟩⟩:=h
 · exact ⟨[],O2,rfl,qid h hr⟩
 · exact ⟨Oq9,K,rfl,h⟩
theorem qrL(m:Mst)(a:Ac)(op:Int):∃ r,(qbj m a op).output=m.output++r:=by
 unfold qbj
 dsimp only
 repeat' split
 all_goals first | exact ⟨[],(List.append_nil _).symm⟩ | exact ⟨_,rfl⟩ | (cases m.input <;> exact ⟨[],(List.append_nil _).symm⟩) | (unfold qd9;repeat' split) <;> exact ⟨[],(List.append_nil _).symm⟩
def StT(A0:Option Addr)(c0:Nat)(l0:List UInt8)(m:Mst)(v:Value)(M:Hl)(s:World):Prop:=∃ bc cc yc Oq9 Ao co Ai ni ci,v=.agg #[.slice (some ⟨bc,0,none⟩) m.cells.length cc,.int .u32 m.r0,.int .u32 m.r1,.int .u32 m.r2,.int .u32 m.r3,.int .u32 m.r4,.slice Ai ni ci,.slice Ao m.output.length co,.int .i64 m.stop,.int .u32 m.code]
 ∧ M=(bc,cb (wv m.cells++yc) 38)::Oq9∧Two A0 c0 l0 Oq9 Ao co m.output∧Bts s Ai ni ci m.input∧m.cells.length+yc.length=cc∧cc≤9223372036854775807
theorem StT.le{D:Nat}{A0:Option Addr}{c0:Nat}{l0:List UInt8}{m:Mst}{v:Value}{M:Hl}{s s':World}(h:StT A0 c0 l0 m v M s)(hl:Le D s s'):StT A0 c0 l0 m v M s':=by
 obtain ⟨bc,cc,yc,Oq9,Ao,co,Ai,ni,ci,h1,h2,h3,h4,h5⟩:=h
 exact ⟨bc,cc,yc,Oq9,Ao,co,Ai,ni,ci,h1,h2,h3,h4.le hl,h5⟩
theorem StT.list{A0:Option Addr}{c0:Nat}{l0:List UInt8}{m:Mst}{zs:List Value}{M:Hl}{s:World}(h:StT A0 c0 l0 m (.agg zs.toArray) M s):∃ bc cc yc Oq9 Ao co Ai ni ci,zs=[.slice (some ⟨bc,0,none⟩) m.cells.length cc,.int .u32 m.r0,.int .u32 m.r1,.int .u32 m.r2,.int .u32 m.r3,.int .u32 m.r4,.slice Ai ni ci,.slice Ao m.output.length co,.int .i64 m.stop,.int .u32 m.code]
 ∧ M=(bc,cb (wv m.cells++yc) 38)::Oq9∧Two A0 c0 l0 Oq9 Ao co m.output∧Bts s Ai ni ci m.input∧m.cells.length+yc.length=cc∧cc≤9223372036854775807:=by
 obtain ⟨bc,cc,yc,Oq9,Ao,co,Ai,ni,ci,h1,h2⟩:=h
 refine ⟨bc,cc,yc,Oq9,Ao,co,Ai,ni,ci,?_,h2⟩
 injection h1 with h1
 have:=congrArg Array.toList h1
 simpa using this
theorem qip(D:Nat)(L:Hl)(s:World)(A0:Option Addr)(c0:Nat)(l0:List UInt8)(m:Mst)(v:Value)(M:Hl)(hM:StT A0 c0 l0 m v M s)(op:Int)(a:Ac)(hok:MOK m)(hop:U32 op)(ha:AcOK a):AC prog D 55 [v,.agg #[.int .i64 a.kind,.int .i64 a.tgt,.int .i64 a.x.kind,.int .u32 a.x.val,.int .i64 a.y.kind,.int .u32 a.y.val],.int .u32 op] (M++L) s fun v L' s'=>∃ M',L'=M'++L∧StT A0 c0 l0 (qbj m a op) v M' s':=by
  obtain ⟨bc,cc,yc,O2,Ao,co,Ai,ni,ci,h1,rfl,⟨⟨r,hr⟩,h3⟩,h4,h5,h6⟩:=hM
  obtain ⟨r2,hr2⟩:=qrL m a op
  have hpre:(qbj m a op).output=l0++(r++r2):=by rw [hr2,hr,List.append_assoc]
  rcases h3 with ⟨rfl,rfl,h3⟩ | ⟨Oq9,K,rfl,h3,h3'⟩
  · refine (qgy D L s m v bc cc yc O2 Ao co ⟨Ai,ni,ci,h1,h3,h4,h5,h6⟩ op a hok hop ha).mono ?_
    rintro w L' s' _ ⟨O',K,Ao',co',rfl,⟨Ai',ni',ci',k1,k3,k4,k5,k6⟩,hk⟩
    rcases hk with ⟨rfl,rfl,rfl⟩ | rfl
    · exact ⟨(bc,_)::O',rfl,bc,cc,yc,O',Ao',co',Ai',ni',ci',k1,rfl,⟨⟨_,hpre⟩,.inl ⟨rfl,rfl,k3⟩⟩,k4,k5,k6⟩
    · exact ⟨(bc,_)::(O'++K),by simp,bc,cc,yc,O'++K,Ao',co',Ai',ni',ci',k1,rfl,⟨⟨_,hpre⟩,.inr ⟨O',K,rfl,k3,qid h3 hr⟩⟩,k4,k5,k6⟩
  · rw [show ((bc,cb (wv m.cells++yc) 38)::(Oq9++K))++L=(bc,cb (wv m.cells++yc) 38)::(Oq9++(K++L)) by simp]
    refine AC.drop (qgy D (K++L) s m v bc cc yc Oq9 Ao co ⟨Ai,ni,ci,h1,h3,h4,h5,h6⟩ op a hok hop ha) ?_
    rintro w L' s' _ ⟨O',K',Ao',co',rfl,⟨Ai',ni',ci',k1,k3,k4,k5,k6⟩,_⟩
    exact ⟨(bc,_)::O',K',K++L,rfl,fun s2 hl _=>⟨(bc,_)::(O'++K),by simp,bc,cc,yc,O'++K,Ao',co',Ai',ni',ci',k1,rfl,⟨⟨_,hpre⟩,.inr ⟨O',K,rfl,k3,h3'⟩⟩,k4.le hl,k5,k6⟩⟩
theorem qjj(D:Nat)(L:Hl)(s:World)(t:Tab)(A:Option Addr)(n c:Nat)(hA:Inss s A n c t.ins)(A1:Option Addr)(n1 c1:Nat)(l:List Int)(hIm:Wds s A1 n1 c1 l)(A2:Option Addr)(n2 c2:Nat)(i:List UInt8)(hIn:Bts s A2 n2 c2 i)(hG:TabG t)(hl:(l.length:Int)≤t.cells)(hi:i.length≤400000):AC prog D 27 [.agg #[.int .i64 t.cells,.slice A n c],.slice A1 n1 c1,.slice A2 n2 c2] L s fun v L' s'=>∃ M',L'=M'++L∧StO (qaU t l i) v M' s':=by
 refine AC.drop (qjx D L s t A n c hA A1 n1 c1 l hIm A2 n2 c2 i hIn hG hl hi) ?_
 rintro v L' s' _ ⟨Mi,Mj,Ac,cc,Ai,ni,ci,rfl,rfl,h1,h2⟩
 have hg:=qdE hG hl hi hIm.u32
 have hc:=hG.cells
 obtain ⟨bc,yc,rfl,rfl,hcy,hcy2⟩:=Own.blk_of h1 (by have:=hg.2.2;omega)
 exact ⟨[],Mi,[(bc,cb (wv (qaU t l i).cells++yc) 38)]++L,rfl,fun s2 hl hp=>⟨[(bc,cb (wv (qaU t l i).cells++yc) 38)],rfl,bc,cc,yc,[],none,0,Ai,ni,ci,rfl,rfl,Own.nil,Own.bts h2 hp,by rw [qb6] at hcy;exact hcy,hcy2⟩⟩
theorem w64n{x:Int}(h:U32 x):IntKind.u64.wrap x=((x.toNat:Nat):Int):=by
 rw [Int.toNat_of_nonneg h.1,qkP h.1 (by have:=h.2;omega)]
theorem qjG{p:Prop} [Decidable p] {y:Bool} (h:p):y=decide (p∧some y=some true):=by cases y <;> simp [h]
theorem qqF{p:Prop} [Decidable p] {y:Bool} (h:p):(!y)=decide (p∧¬ some y=some true):=by cases y <;> simp [h]
theorem tchB_of{hd:List Bool}{m:Mst}{op:Int}{a:Ac}:qrI hd m op a=true↔(a.kind=13∨a.kind=14)∧hd[(qba m op a.x).toNat]?=some true:=by simp [qrI]
theorem qj8{hd:List Bool}{mk:Mst}{op:Int}{l:List Ac}{k:Nat}{a:Ac}{b:Bool}(h:l[k]?=some a)(hs:mk.stop=0)(hb:b=if mk.stop=0 then qhV hd mk op (l.drop k) else false)(ht:¬ ((a.kind=13∨a.kind=14)∧hd[(qba mk op a.x).toNat]?=some true)) :
  b=if (qbj mk a op).stop=0 then qhV hd (qbj mk a op) op (l.drop (k+1)) else false:=by
 rw [hb,if_pos hs,qr8 h (fun e=>ht (tchB_of.1 e))]
theorem qkK(D:Nat)(L:Hl)(s:World)(m:Mst)(Ax Bx Ao:Option Addr)(nAx cAx nBx cBx co:Nat)(hAx:Wds s Ax nAx cAx m.cells)(hBx:Bts s Bx nBx cBx m.input)(Oq9:Hl)(hO:FL.Own 5 1 Oq9 (.slice Ao m.output.length co) m.output.length (bv m.output))(x:Ins)(A':Option Addr)(n' c':Nat)(hax:Acs s A' n' c' x.acts)(hxa:∀ a∈x.acts,AcOK a∧(x.operand=false→a.x.kind≠2∧a.y.kind≠2))(hfew:x.acts.length≤8)(Ac:Option Addr)(nc cc:Nat)(hd:List Bool)(hCd:Bos s Ac nc cc hd)(hok:MOK m)(hst:m.stop=0)(hlt:m.r4 < (m.cells.length:Int)):AC prog D 28 [.agg #[.slice Ax nAx cAx,.int .u32 m.r0,.int .u32 m.r1,.int .u32 m.r2,.int .u32 m.r3,.int .u32 m.r4,.slice Bx nBx cBx,.slice Ao m.output.length co,.int .i64 m.stop,.int .u32 m.code],.agg #[St x.name,.int .u32 x.code,.bool x.operand,.slice A' n' c'],.slice Ac nc cc] (Oq9++L) s fun v L' _=>v=.bool (qhv hd m x)∧∃ O' A2 c2 l2,L'=O'++L∧Two Ao co m.output O' A2 c2 l2:=by
 obtain rfl:=hAx.1
 have hr1:=hok.u4.1
 have hr2:=hok.u4.2
 have hnc:=hok.cells
 have hnc1:=hCd.1
 have hnc2:=hCd.2.1
 have hnc3:=hCd.2.2.1
 have hn1:=hax.1
 have hc1:=hax.2.1
 have hc2:=hax.2.2.1
 have hc0:0 < m.cells.length:=by omega
 refine qai (fn:=f28) qaG func28 V Z ntmps28 Z (rs:=[.tmp 6]) Z [(0,_),(1,_),(2,_)] Z<|Sr<|qaL Z Z ?_
 intro β1 s1 h1
 refine qaL Z Z ?_
 intro β2 s2 h2
 refine At Z Z<|Sr<|At Z Z<|Sr<|Zqm Z Z<|W0 Y5<|Wl 1 Y6<|qbO (sz:=1) [_,_] [] _ Z Z Z Z Z Z Z Own.nil (hAx.row.le (h1.t h2)) ⟨by simp [ti38];omega,by omega⟩ Z ?_
 intro v3 A3 s3 h3 o3
 simp only [Nat.zero_add,List.nil_append] at o3
 obtain ⟨Ac1,cq,rfl,kc1,kc2⟩:=Own.slice o3
 obtain ⟨bc,yc,rfl,rfl,hcy,hcy2⟩:=Own.blk_of o3 hc0
 rw [qb6] at hcy
 simp only [cQ9,nQ9]
 refine W0 Y5<|Wt 1 [_,_,_,_,_,_,_,_,_,_] Y9<|Nt<|Sr<|Wb Y5<|qae (qeA (sz:=1) 4 Z Z Z Z Z Z Dc) Z<|Wl 1 Y6<|qae (qaH Z Z Z Z Z (w64 O O)) Z<|At Z Z<|Sr<|At Z Z<|Sr<|Zqm Z Z<|qaW Z Z Z (w64 O O)<|qae (qaH Z Z Z Z Z (qcS O O)) Z<|Wb Y5<|qae (qeA (sz:=1) 4 Z Z Z Z Z Z Dc) Z<|Wt 1 [_,_,_,_,_,_,_,_,_,_] Y9 ?_
 refine Nt<|Zs<|Sr<|Wb Y5<|Wl 0 Y6<|Nt<|?_
 refine qcW Z (fun c4=>?_) (fun c4=>?_)
 ·
  have hopd:=c4
  refine Zs<|Sr<|Zqm Z Z<|qaW Z Z Z (w64 O O)<|W0 Y5<|Wl 1 Y6<|Ws Y4<|qaJ Z Z Z<|Nt<|?_
  refine qab Z (fun c5=>?_) (fun c5=>?_)
  ·
   have hnext:¬ m.r4+1 < (m.cells.length:Int):=by omega
   refine Sr<|At Z Z<|Zo<|Zu<|Zu<|?_
   refine rR [_,_,_] _ (.t1 Z) Z (h1.t h2|>.t h3) fun _ hS2=>?_
   first
     | (exact ⟨by rw [qdV hopd hnext hlt];rfl,Oq9,Ao,co,m.output,rfl,⟨[],(List.append_nil _).symm⟩,.inl ⟨rfl,rfl,hO⟩⟩)
     | (exact ⟨by rw [hfin];rfl,O1,Ao1,co1,mk.output,rfl,hO1⟩)
     | (exact ⟨by rw [hgo,if_pos hs1,qdR ha (tchB_of.2 htc)];rfl,O1,Ao1,co1,mk.output,rfl,hO1⟩)
  have hnext:m.r4+1 < (m.cells.length:Int):=by omega
  refine Zk<|Zt<|Sr<|W0 Y5<|Wl 1 Y6<|Zqm Z Z<|qaW Z Z Z (w64 O O)<|qae (qcb Z Z Z Z Z Z O hnext) Z<|qae (qbL 2 Z Z Z Z (qcO O hnext)) Z<|At Z Z<|Zr<|Zqm Z Z<|qaW Z Z Z (w64 O O)<|qae (qaH Z Z Z Z Z (qcS O O)) Z<|Wb Y5<|qae (qeA (sz:=1) 4 Z Z Z Z Z Z Dc) Z<|Wt 1 [_,_,_,_,_,_,_,_,_,_] Y9<|Nt<|Zs<|Sr<|At Z Z<|Zp<|?_
  refine qdS [_] (γ:=Nat×Mst×List Value×Hl) (fun g=>[(2,_),(3,_),(4,_),(6,_),(9,_),(10,.int .i64 (g.1:Int))]) (fun g=>(β1,cb g.2.2.1 82)::(g.2.2.2++L)) (fun g tw=>Le D s3 tw∧(g.1≤n'∧StT Ao co m.output g.2.1 (.agg g.2.2.1.toArray) g.2.2.2 tw∧MOK g.2.1∧qhv hd m x=(if g.2.1.stop=0 then qhV hd g.2.1 (m.cells.getD (m.r4+1).toNat 0) (x.acts.drop g.1) else false))) (fun g=>n' - g.1) (fun _ _ _ h hl=>⟨h.1.trans hl,by obtain ⟨_,k1,k2,k3⟩:=h;exact ⟨k1,k2.le hl,k3⟩⟩) (0,{ m with r4:=m.r4+2 },[_,_,_,_,_,_,_,_,_,_],_::Oq9) (.c6 Z Z Z Z Z Z (.nil _)) Z ⟨Le.refl _,⟨Nat.zero_le _,⟨bc,cq,yc,Oq9,Ao,co,_,_,_,Z,Z,⟨⟨[],(List.append_nil _).symm⟩,.inl ⟨Z,Z,hO⟩⟩,hBx.le (h1.t h2|>.t h3),hcy,hcy2⟩,qkF hok (by constructor <;> omega),by rw [if_pos hst,qqR hopd hnext];rfl⟩⟩ ?_
  intro g s6 I6
  simp only [cQ9,nQ9]
  obtain ⟨k,mk,zk,Mk⟩:=g
  obtain ⟨hk0,hSt1,hok1,hgo⟩:=I6.2
  simp only at hk0 hSt1 hok1 hgo
  obtain ⟨bc1,cc1,yc1,O1,Ao1,co1,Ai1,ni1,ci1,hz1,hM1,hO1,hI1,hcc1,hcc21⟩:=StT.list hSt1
  subst hz1
  subst hM1
  have hop1:U32 (m.cells.getD (m.r4+1).toNat 0):=by first | exact qaj | exact qdX hok.wide _
  simp only [List.cons_append]
  refine Zs<|Sr<|Zqm Z Z<|Wb Y5<|Wl 0 Y6<|Ws Y4<|qbY Z Z Z<|Zqm Z Z<|?_
  refine qam (t:=51) Z (fun c7=>?_) (fun c7=>?_)
  ·
   refine Zg Z Z<|Wb Y5<|Zg Z Z<|Wl 1 Y6<|Zg Z Z<|qaJ Z Z Z<|ZqT Z Z Z<|Nt<|?_
   refine qab Z (fun c8=>?_) (fun c8=>?_)
   ·
    have hs1:mk.stop=0:=c8
    have hk1:k < n':=by omega
    obtain ⟨b2,off2,a,rfl,ha,hca,hau⟩:=Acs.at_ (hax.le (h1.t h2|>.t h3|>.t I6.1)) hk1
    have haO:=(hxa _ (List.mem_of_getElem? ha)).1
    have hux:=qea hok1 hop1 haO.ux
    have hux1:=hux.1
    have hux2:=hux.2
    refine Zk<|Zt<|Zs<|Zp<|Sr<|Wb Y5<|Wl 0 Y6<|Zqm Z Z<|qae (qbw Z Z Z Z Z Z hk1) Z<|qae (qbG Z Z Z (hca.le (Lr D)) Z) Z<|qag Z [_,_,_,_,_,_] Z Z ?_
    intro β9 s9 h9
    refine Wt 0 [_,_,_,_,_,_] Y9<|Nt<|Sr<|Wb Y5<|qae (qad 0 [_,_] Z Z Z Z Z) Z<|Wb Y5<|qae (qad 2 [_,_,_,_,_] Z Z Z Z Z) Z<|Zqm Z Z<|Jc Z Z Z (qek D _ _ mk (m.cells.getD (m.r4+1).toNat 0) a.x haO.x) ?_
    rintro _ _ s10 h10 ⟨rfl,rfl⟩
    refine qae (qav (qb9 Z Z Z Z Z) (congrArg (Value.int .u64) (w64n hux))) Z<|At Z Z<|Zs<|?_
    refine qbV 90 ((a.kind=13∨a.kind=14)∧hd[(qba mk (m.cells.getD (m.r4+1).toNat 0) a.x).toNat]?=some true) ?_ ?_
    ·
     refine Zr<|W0 Y5<|Wl 0 Y6<|qaJ Z Z Z<|Zqm Z Z<|?_
     refine qam (t:=73) Z (fun c12=>?_) (fun c12=>?_)
     ·
      refine Wf Y4<|Wf Y4<|Wf Y4<|ZqT Z Z Z<|Zqm Z Z<|Zg Z Z<|Zqm Z Z<|Zg Z Z<|Zqm Z Z<|Zg Z Z<|Ws Y4<|Zg Z Z<|qae (qaH Z Z Z Z Z (qkP O O)) Z<|Zg Z Z<|qbY Z Z Z<|ZqT Z Z Z<|Zqm Z Z<|?_
      refine qam (t:=85) Z (fun c13=>?_) (fun c13=>?_)
      ·
       refine Zg Z Z<|Zqm Z Z<|Zg Z Z<|Zqm Z Z<|Zg Z Z<|?_
       have hkc:(qba mk (m.cells.getD (m.r4+1).toNat 0) a.x).toNat < nc:=by omega
       obtain ⟨b9,o9,y9,rfl,hy9,hc9⟩:=Bos.at_ (hCd.le (h1.t h2|>.t h3|>.t I6.1|>.t h9|>.t h10)) hkc
       refine qae (qaX Z Z Z Z Z Z hkc) Z<|Zg Z Z<|qae (qaq Z Z Z (hc9.le (Lr D)) Z) Z<|ZqT Z Z Z<|Zn<|?_
       refine qaa (MidB.mk (Lr D) Sb Z ((by rw [hy9];exact qjG O)))
      refine Wf Y4<|Wf Y4<|Wf Y4<|Wf Y4<|ZqF Z Z Z<|Zn<|?_
      refine qaa (MidB.mk (Lr D) Sb Z ((decide_eq_false (by first | omega | (rintro ⟨_,h9⟩;have h8:=(List.getElem?_eq_some_iff.1 h9).1;omega))).symm))
     refine Zg Z Z<|W0 Y5<|Zg Z Z<|Wl 0 Y6<|Zg Z Z<|qaJ Z Z Z<|ZqF Z Z Z<|Zqm Z Z<|?_
     refine qam (t:=78) Z (fun c14=>?_) (fun c14=>?_)
     ·
      refine Zg Z Z<|Zqm Z Z<|Zg Z Z<|Zqm Z Z<|Zg Z Z<|Ws Y4<|Zg Z Z<|qae (qaH Z Z Z Z Z (qkP O O)) Z<|Zg Z Z<|qbY Z Z Z<|ZqT Z Z Z<|Zqm Z Z<|?_
      refine qam (t:=85) Z (fun c15=>?_) (fun c15=>?_)
      ·
       refine Zg Z Z<|Zqm Z Z<|Zg Z Z<|Zqm Z Z<|Zg Z Z<|?_
       have hkc:(qba mk (m.cells.getD (m.r4+1).toNat 0) a.x).toNat < nc:=by omega
       obtain ⟨b9,o9,y9,rfl,hy9,hc9⟩:=Bos.at_ (hCd.le (h1.t h2|>.t h3|>.t I6.1|>.t h9|>.t h10)) hkc
       refine qae (qaX Z Z Z Z Z Z hkc) Z<|Zg Z Z<|qae (qaq Z Z Z (hc9.le (Lr D)) Z) Z<|ZqT Z Z Z<|Zn<|?_
       refine qaa (MidB.mk (Lr D) Sb Z ((by rw [hy9];exact qjG O)))
      refine Wf Y4<|Wf Y4<|Wf Y4<|Wf Y4<|ZqF Z Z Z<|Zn<|?_
      refine qaa (MidB.mk (Lr D) Sb Z ((decide_eq_false (by first | omega | (rintro ⟨_,h9⟩;have h8:=(List.getElem?_eq_some_iff.1 h9).1;omega))).symm))
     refine Wf Y4<|Wf Y4<|Wf Y4<|Wf Y4<|Wf Y4<|ZqF Z Z Z<|Zqm Z Z<|Wf Y4<|Wf Y4<|Wf Y4<|Wf Y4<|ZqF Z Z Z<|Zn ?_
     refine qaa (MidB.mk (Lr D) Sb Z ((decide_eq_false (by first | omega | (rintro ⟨_,h9⟩;have h8:=(List.getElem?_eq_some_iff.1 h9).1;omega))).symm))
    intro s11 h11
    refine qab Z (fun c16=>?_) (fun c16=>?_)
    ·
     have htc:=c16
     refine Sr<|At Z Z<|Zo<|Zu<|Zc<|Zu<|Zu<|Zc<|Zu<|?_
     refine rR [_,_,_,_] _ (.t1 Z) Z (h1.t h2|>.t h3|>.t I6.1|>.t h9|>.t h10|>.t h11) fun _ hS2=>?_
     first
       | (exact ⟨by rw [qdV hopd hnext hlt];rfl,Oq9,Ao,co,m.output,rfl,⟨[],(List.append_nil _).symm⟩,.inl ⟨rfl,rfl,hO⟩⟩)
       | (exact ⟨by rw [hfin];rfl,O1,Ao1,co1,mk.output,rfl,hO1⟩)
       | (exact ⟨by rw [hgo,if_pos hs1,qdR ha (tchB_of.2 htc)];rfl,O1,Ao1,co1,mk.output,rfl,hO1⟩)
    have htc:=c16
    refine Zk<|Zt<|Zr<|qae (qad 2 [_,_,_,_,_,_,_,_,_,_] Z Z Z Z Z) Z<|qae (qad 0 [_,_,_,_,_,_] Z Z Z Z Z) Z<|Zqm Z Z<|Jc Z Z Z (AC.mid [_,_,_] (_::O1) L (qip D _ _ Ao co m.output mk _ _ ⟨bc1,cc1,yc1,O1,Ao1,co1,Ai1,ni1,ci1,Z,Z,hO1,hI1.le (h9.t h10|>.t h11),hcc1,hcc21⟩ (m.cells.getD (m.r4+1).toNat 0) a hok1 hop1 haO)) ?_
    rintro _ _ s17 h17 ⟨M2,rfl,bc2,cc2,yc2,O2,Ao2,co2,Ai2,ni2,ci2,rfl,hM2,hO2,hI2,hcc22,hcc23⟩
    have hSt2:StT Ao co m.output (qbj mk a (m.cells.getD (m.r4+1).toNat 0)) _ M2 s17:=⟨bc2,cc2,yc2,O2,Ao2,co2,Ai2,ni2,ci2,rfl,hM2,hO2,hI2,hcc22,hcc23⟩
    simp only [cQ9,nQ9]
    refine Wt 2 [_,_,_,_,_,_,_,_,_,_] Y9<|Zn<|Zb<|Zt<|Zr<|Zqm Z Z<|qaW Z Z Z (w64 O O)<|Zqa Z Z<|Zn<|?_
    refine qaa ⟨(k+1,qbj mk a (m.cells.getD (m.r4+1).toNat 0),_,M2),[_],kp,Z,⟨(I6.1.t h9|>.t h10|>.t h11|>.t h17),⟨by omega,hSt2.le (Lr D),qgu hok1 haO hop1,qj8 ha hs1 hgo htc⟩⟩,Oz⟩
   have hfin:qhv hd m x=false:=by
     rw [hgo]
     by_cases h0:mk.stop=0
     · rw [if_pos h0,qe8 (by first | omega | exact absurd h0 c8)]
     · rw [if_neg h0]
   refine Zl<|Zv<|Zv<|Zd<|Zt<|Sr<|At Z Z<|Zo<|?_
   refine rR [_,_,_] _ (.t1 Z) Z (h1.t h2|>.t h3|>.t I6.1) fun _ hS2=>?_
   first
     | (exact ⟨by rw [qdV hopd hnext hlt];rfl,Oq9,Ao,co,m.output,rfl,⟨[],(List.append_nil _).symm⟩,.inl ⟨rfl,rfl,hO⟩⟩)
     | (exact ⟨by rw [hfin];rfl,O1,Ao1,co1,mk.output,rfl,hO1⟩)
     | (exact ⟨by rw [hgo,if_pos hs1,qdR ha (tchB_of.2 htc)];rfl,O1,Ao1,co1,mk.output,rfl,hO1⟩)
  refine Wf Y4<|Wf Y4<|Wf Y4<|ZqF Z Z Z<|Nt<|Zz Z<|?_
  have hfin:qhv hd m x=false:=by
    rw [hgo]
    by_cases h0:mk.stop=0
    · rw [if_pos h0,qe8 (by first | omega | exact absurd h0 trivial)]
    · rw [if_neg h0]
  refine Zl<|Zv<|Zv<|Zd<|Zt<|Sr<|At Z Z<|Zo<|?_
  refine rR [_,_,_] _ (.t1 Z) Z (h1.t h2|>.t h3|>.t I6.1) fun _ hS2=>?_
  first
    | (exact ⟨by rw [qdV hopd hnext hlt];rfl,Oq9,Ao,co,m.output,rfl,⟨[],(List.append_nil _).symm⟩,.inl ⟨rfl,rfl,hO⟩⟩)
    | (exact ⟨by rw [hfin];rfl,O1,Ao1,co1,mk.output,rfl,hO1⟩)
    | (exact ⟨by rw [hgo,if_pos hs1,qdR ha (tchB_of.2 htc)];rfl,O1,Ao1,co1,mk.output,rfl,hO1⟩)
 have hopd:=c4
 refine Zk<|Zt<|Zs<|Sr<|At Z Z<|Zp<|?_
 refine qdS [_] (γ:=Nat×Mst×List Value×Hl) (fun g=>[(2,_),(3,_),(4,_),(6,_),(9,_),(10,.int .i64 (g.1:Int))]) (fun g=>(β1,cb g.2.2.1 82)::(g.2.2.2++L)) (fun g tw=>Le D s3 tw∧(g.1≤n'∧StT Ao co m.output g.2.1 (.agg g.2.2.1.toArray) g.2.2.2 tw∧MOK g.2.1∧qhv hd m x=(if g.2.1.stop=0 then qhV hd g.2.1 0 (x.acts.drop g.1) else false))) (fun g=>n' - g.1) (fun _ _ _ h hl=>⟨h.1.trans hl,by obtain ⟨_,k1,k2,k3⟩:=h;exact ⟨k1,k2.le hl,k3⟩⟩) (0,{ m with r4:=m.r4+1 },[_,_,_,_,_,_,_,_,_,_],_::Oq9) (.c6 Z Z Z Z Z Z (.nil _)) Z ⟨Le.refl _,⟨Nat.zero_le _,⟨bc,cq,yc,Oq9,Ao,co,_,_,_,Z,Z,⟨⟨[],(List.append_nil _).symm⟩,.inl ⟨Z,Z,hO⟩⟩,hBx.le (h1.t h2|>.t h3),hcy,hcy2⟩,qkF hok (by constructor <;> omega),by rw [if_pos hst,qsd (by rw [hopd];decide)];rfl⟩⟩ ?_
 intro g s18 I18
 simp only [cQ9,nQ9]
 obtain ⟨k,mk,zk,Mk⟩:=g
 obtain ⟨hk0,hSt1,hok1,hgo⟩:=I18.2
 simp only at hk0 hSt1 hok1 hgo
 obtain ⟨bc1,cc1,yc1,O1,Ao1,co1,Ai1,ni1,ci1,hz1,hM1,hO1,hI1,hcc1,hcc21⟩:=StT.list hSt1
 subst hz1
 subst hM1
 have hop1:U32 0:=by first | exact qaj | exact qdX hok.wide _
 simp only [List.cons_append]
 refine Zs<|Sr<|Zqm Z Z<|Wb Y5<|Wl 0 Y6<|Ws Y4<|qbY Z Z Z<|Zqm Z Z<|?_
 refine qam (t:=51) Z (fun c19=>?_) (fun c19=>?_)
 ·
  refine Zg Z Z<|Wb Y5<|Zg Z Z<|Wl 1 Y6<|Zg Z Z<|qaJ Z Z Z<|ZqT Z Z Z<|Nt<|?_
  refine qab Z (fun c20=>?_) (fun c20=>?_)
  ·
   have hs1:mk.stop=0:=c20
   have hk1:k < n':=by omega
   obtain ⟨b2,off2,a,rfl,ha,hca,hau⟩:=Acs.at_ (hax.le (h1.t h2|>.t h3|>.t I18.1)) hk1
   have haO:=(hxa _ (List.mem_of_getElem? ha)).1
   have hux:=qea hok1 hop1 haO.ux
   have hux1:=hux.1
   have hux2:=hux.2
   refine Zk<|Zt<|Zs<|Zp<|Sr<|Wb Y5<|Wl 0 Y6<|Zqm Z Z<|qae (qbw Z Z Z Z Z Z hk1) Z<|qae (qbG Z Z Z (hca.le (Lr D)) Z) Z<|qag Z [_,_,_,_,_,_] Z Z ?_
   intro β21 s21 h21
   refine Wt 0 [_,_,_,_,_,_] Y9<|Nt<|Sr<|Wb Y5<|qae (qad 0 [_,_] Z Z Z Z Z) Z<|Wb Y5<|qae (qad 2 [_,_,_,_,_] Z Z Z Z Z) Z<|Zqm Z Z<|Jc Z Z Z (qek D _ _ mk 0 a.x haO.x) ?_
   rintro _ _ s22 h22 ⟨rfl,rfl⟩
   refine qae (qav (qb9 Z Z Z Z Z) (congrArg (Value.int .u64) (w64n hux))) Z<|At Z Z<|Zs<|?_
   refine qbV 90 ((a.kind=13∨a.kind=14)∧hd[(qba mk 0 a.x).toNat]?=some true) ?_ ?_
   ·
    refine Zr<|W0 Y5<|Wl 0 Y6<|qaJ Z Z Z<|Zqm Z Z<|?_
    refine qam (t:=73) Z (fun c24=>?_) (fun c24=>?_)
    ·
     refine Wf Y4<|Wf Y4<|Wf Y4<|ZqT Z Z Z<|Zqm Z Z<|Zg Z Z<|Zqm Z Z<|Zg Z Z<|Zqm Z Z<|Zg Z Z<|Ws Y4<|Zg Z Z<|qae (qaH Z Z Z Z Z (qkP O O)) Z<|Zg Z Z<|qbY Z Z Z<|ZqT Z Z Z<|Zqm Z Z<|?_
     refine qam (t:=85) Z (fun c25=>?_) (fun c25=>?_)
     ·
      refine Zg Z Z<|Zqm Z Z<|Zg Z Z<|Zqm Z Z<|Zg Z Z<|?_
      have hkc:(qba mk 0 a.x).toNat < nc:=by omega
      obtain ⟨b9,o9,y9,rfl,hy9,hc9⟩:=Bos.at_ (hCd.le (h1.t h2|>.t h3|>.t I18.1|>.t h21|>.t h22)) hkc
      refine qae (qaX Z Z Z Z Z Z hkc) Z<|Zg Z Z<|qae (qaq Z Z Z (hc9.le (Lr D)) Z) Z<|ZqT Z Z Z<|Zn<|?_
      refine qaa (MidB.mk (Lr D) Sb Z ((by rw [hy9];exact qjG O)))
     refine Wf Y4<|Wf Y4<|Wf Y4<|Wf Y4<|ZqF Z Z Z<|Zn<|?_
     refine qaa (MidB.mk (Lr D) Sb Z ((decide_eq_false (by first | omega | (rintro ⟨_,h9⟩;have h8:=(List.getElem?_eq_some_iff.1 h9).1;omega))).symm))
    refine Zg Z Z<|W0 Y5<|Zg Z Z<|Wl 0 Y6<|Zg Z Z<|qaJ Z Z Z<|ZqF Z Z Z<|Zqm Z Z<|?_
    refine qam (t:=78) Z (fun c26=>?_) (fun c26=>?_)
    ·
     refine Zg Z Z<|Zqm Z Z<|Zg Z Z<|Zqm Z Z<|Zg Z Z<|Ws Y4<|Zg Z Z<|qae (qaH Z Z Z Z Z (qkP O O)) Z<|Zg Z Z<|qbY Z Z Z<|ZqT Z Z Z<|Zqm Z Z<|?_
     refine qam (t:=85) Z (fun c27=>?_) (fun c27=>?_)
     ·
      refine Zg Z Z<|Zqm Z Z<|Zg Z Z<|Zqm Z Z<|Zg Z Z<|?_
      have hkc:(qba mk 0 a.x).toNat < nc:=by omega
      obtain ⟨b9,o9,y9,rfl,hy9,hc9⟩:=Bos.at_ (hCd.le (h1.t h2|>.t h3|>.t I18.1|>.t h21|>.t h22)) hkc
      refine qae (qaX Z Z Z Z Z Z hkc) Z<|Zg Z Z<|qae (qaq Z Z Z (hc9.le (Lr D)) Z) Z<|ZqT Z Z Z<|Zn<|?_
      refine qaa (MidB.mk (Lr D) Sb Z ((by rw [hy9];exact qjG O)))
     refine Wf Y4<|Wf Y4<|Wf Y4<|Wf Y4<|ZqF Z Z Z<|Zn<|?_
     refine qaa (MidB.mk (Lr D) Sb Z ((decide_eq_false (by first | omega | (rintro ⟨_,h9⟩;have h8:=(List.getElem?_eq_some_iff.1 h9).1;omega))).symm))
    refine Wf Y4<|Wf Y4<|Wf Y4<|Wf Y4<|Wf Y4<|ZqF Z Z Z<|Zqm Z Z<|Wf Y4<|Wf Y4<|Wf Y4<|Wf Y4<|ZqF Z Z Z<|Zn ?_
    refine qaa (MidB.mk (Lr D) Sb Z ((decide_eq_false (by first | omega | (rintro ⟨_,h9⟩;have h8:=(List.getElem?_eq_some_iff.1 h9).1;omega))).symm))
   intro s23 h23
   refine qab Z (fun c28=>?_) (fun c28=>?_)
   ·
    have htc:=c28
    refine Sr<|At Z Z<|Zo<|Zu<|Zc<|Zu<|Zu<|Zc<|Zu<|?_
    refine rR [_,_,_,_] _ (.t1 Z) Z (h1.t h2|>.t h3|>.t I18.1|>.t h21|>.t h22|>.t h23) fun _ hS2=>?_
    first
      | (exact ⟨by rw [qdV hopd hnext hlt];rfl,Oq9,Ao,co,m.output,rfl,⟨[],(List.append_nil _).symm⟩,.inl ⟨rfl,rfl,hO⟩⟩)
      | (exact ⟨by rw [hfin];rfl,O1,Ao1,co1,mk.output,rfl,hO1⟩)
      | (exact ⟨by rw [hgo,if_pos hs1,qdR ha (tchB_of.2 htc)];rfl,O1,Ao1,co1,mk.output,rfl,hO1⟩)
   have htc:=c28
   refine Zk<|Zt<|Zr<|qae (qad 2 [_,_,_,_,_,_,_,_,_,_] Z Z Z Z Z) Z<|qae (qad 0 [_,_,_,_,_,_] Z Z Z Z Z) Z<|Zqm Z Z<|Jc Z Z Z (AC.mid [_,_,_] (_::O1) L (qip D _ _ Ao co m.output mk _ _ ⟨bc1,cc1,yc1,O1,Ao1,co1,Ai1,ni1,ci1,Z,Z,hO1,hI1.le (h21.t h22|>.t h23),hcc1,hcc21⟩ 0 a hok1 hop1 haO)) ?_
   rintro _ _ s29 h29 ⟨M2,rfl,bc2,cc2,yc2,O2,Ao2,co2,Ai2,ni2,ci2,rfl,hM2,hO2,hI2,hcc22,hcc23⟩
   have hSt2:StT Ao co m.output (qbj mk a 0) _ M2 s29:=⟨bc2,cc2,yc2,O2,Ao2,co2,Ai2,ni2,ci2,rfl,hM2,hO2,hI2,hcc22,hcc23⟩
   simp only [cQ9,nQ9]
   refine Wt 2 [_,_,_,_,_,_,_,_,_,_] Y9<|Zn<|Zb<|Zt<|Zr<|Zqm Z Z<|qaW Z Z Z (w64 O O)<|Zqa Z Z<|Zn<|?_
   refine qaa ⟨(k+1,qbj mk a 0,_,M2),[_],kp,Z,⟨(I18.1.t h21|>.t h22|>.t h23|>.t h29),⟨by omega,hSt2.le (Lr D),qgu hok1 haO hop1,qj8 ha hs1 hgo htc⟩⟩,Oz⟩
  have hfin:qhv hd m x=false:=by
    rw [hgo]
    by_cases h0:mk.stop=0
    · rw [if_pos h0,qe8 (by first | omega | exact absurd h0 c20)]
    · rw [if_neg h0]
  refine Zl<|Zv<|Zv<|Zd<|Zt<|Sr<|At Z Z<|Zo<|?_
  refine rR [_,_,_] _ (.t1 Z) Z (h1.t h2|>.t h3|>.t I18.1) fun _ hS2=>?_
  first
    | (exact ⟨by rw [qdV hopd hnext hlt];rfl,Oq9,Ao,co,m.output,rfl,⟨[],(List.append_nil _).symm⟩,.inl ⟨rfl,rfl,hO⟩⟩)
    | (exact ⟨by rw [hfin];rfl,O1,Ao1,co1,mk.output,rfl,hO1⟩)
    | (exact ⟨by rw [hgo,if_pos hs1,qdR ha (tchB_of.2 htc)];rfl,O1,Ao1,co1,mk.output,rfl,hO1⟩)
 refine Wf Y4<|Wf Y4<|Wf Y4<|ZqF Z Z Z<|Nt<|Zz Z<|?_
 have hfin:qhv hd m x=false:=by
   rw [hgo]
   by_cases h0:mk.stop=0
   · rw [if_pos h0,qe8 (by first | omega | exact absurd h0 trivial)]
   · rw [if_neg h0]
 refine Zl<|Zv<|Zv<|Zd<|Zt<|Sr<|At Z Z<|Zo<|?_
 refine rR [_,_,_] _ (.t1 Z) Z (h1.t h2|>.t h3|>.t I18.1) fun _ hS2=>?_
 first
   | (exact ⟨by rw [qdV hopd hnext hlt];rfl,Oq9,Ao,co,m.output,rfl,⟨[],(List.append_nil _).symm⟩,.inl ⟨rfl,rfl,hO⟩⟩)
   | (exact ⟨by rw [hfin];rfl,O1,Ao1,co1,mk.output,rfl,hO1⟩)
   | (exact ⟨by rw [hgo,if_pos hs1,qdR ha (tchB_of.2 htc)];rfl,O1,Ao1,co1,mk.output,rfl,hO1⟩)
theorem qis:qj7 prog 28:=⟨_,func28,by kernel_rfl,by kernel_rfl⟩
theorem qje(D:Nat)(L:Hl)(s:World)(m:Mst)(bc cc:Nat)(yc:List Value)(Oq9:Hl)(Ao:Option Addr)(co:Nat)(Ai:Option Addr)(ni ci:Nat)(hO:FL.Own 5 1 Oq9 (.slice Ao m.output.length co) m.output.length (bv m.output))(hI:Bts s Ai ni ci m.input)(hcc:m.cells.length+yc.length=cc)(hcc2:cc≤9223372036854775807)(x:Ins)(A':Option Addr)(n' c':Nat)(hax:Acs s A' n' c' x.acts)(hxa:∀ a∈x.acts,AcOK a∧(x.operand=false→a.x.kind≠2∧a.y.kind≠2))(hfew:x.acts.length≤8)(Ac:Option Addr)(nc cc':Nat)(hd:List Bool)(hCd:Bos s Ac nc cc' hd)(hok:MOK m)(hst:m.stop=0)(hlt:m.r4 < (m.cells.length:Int)) :
  AC prog D 28 [.agg #[.slice (some ⟨bc,0,none⟩) m.cells.length cc,.int .u32 m.r0,.int .u32 m.r1,.int .u32 m.r2,.int .u32 m.r3,.int .u32 m.r4,.slice Ai ni ci,.slice Ao m.output.length co,.int .i64 m.stop,.int .u32 m.code],.agg #[St x.name,.int .u32 x.code,.bool x.operand,.slice A' n' c'],.slice Ac nc cc'] (((bc,cb (wv m.cells++yc) 38)::Oq9)++L) s fun v L' _=>∃ M',L'=M'++L∧v=.bool (qhv hd m x)∧∃ K,M'=(bc,cb (wv m.cells++yc) 38)::K∧FL.Own 5 1 K (.slice Ao m.output.length co) m.output.length (bv m.output):=by
 have hl:=AC.lendG (D:=D) (L:=Oq9++L) (s:=s) [(bc,cb (wv m.cells++yc) 38)] (qsr (e:=38) (sz:=1) (.blk bc cc m.cells.length (wv m.cells) yc (by simp [wv]) (by rw [qb6];omega) O hcc2)) qis (fun ho=>
  qkK D L (fill [(bc,cb (wv m.cells++yc) 38)] s) m (some ⟨bc,0,none⟩) Ai Ao m.cells.length cc ni ci co
   (qgd (yc:=yc) (qrS ho _ _ _ (List.mem_singleton.2 rfl)) hok.wide hcc hcc2) (hI.le (qeK ho)) Oq9 hO x A' n' c' (hax.le (qeK ho)) hxa hfew Ac nc cc' hd (hCd.le (qeK ho)) hok hst hlt)
 refine AC.drop hl ?_
 rintro v L' s' _ ⟨L1,rfl,rfl,O',A2,c2,l2,rfl,hT⟩
 obtain ⟨O3,K,rfl,hK⟩:=hT.back
 exact ⟨[(bc,cb (wv m.cells++yc) 38)],O3,K++L,by simp,fun s2 _ _=>⟨(bc,cb (wv m.cells++yc) 38)::K,rfl,rfl,K,rfl,hK⟩⟩
end Go.Proofs.YtjindleklapakaaGreatDoor
namespace Go.FL
open Go Go.RowKit
theorem AC.pubO{P:Program}{D:Nat}{f:FuncId}{args:List Value}{L:Hl}{s:World}{R:Value→Hl→World→Prop}(h:AC P D f args L s (fun v L' s'=>∃ M',L'=M'++L∧R v M' s')) :
  AC P D f args L s (fun v L' s'=>L=L'∧∃ M' s1,R v M' s1∧Le D s1 s'∧∀ b o,(b,o)∈M'→s'.heap[b]?=some o):=by
 refine ⟨h.1,fun ho=>(h.2 ho).mono ?_⟩
 rintro e w' ⟨v,L',s',h1,rfl,h3,h4,M',rfl,h6⟩
 obtain ⟨d1,d2,d3⟩:=qbx h3
 exact ⟨v,L,fill M' s',h1,d1,d2,h4.trans d3,rfl,M',s',h6,d3,fun b o hm=>qa3 h3.left hm⟩
end Go.FL
namespace Go.Proofs.YtjindleklapakaaGreatDoor
open Go.FL
attribute [local irreducible] JC JO JA JB qa7 qaP qdj AC fill CellsAt QE Ev Mid
theorem qi4(D:Nat)(L:Hl)(s:World)(t:Tab)(A:Option Addr)(n c:Nat)(hA:Inss s A n c t.ins)(A1:Option Addr)(n1 c1:Nat)(l:List Int)(hIm:Wds s A1 n1 c1 l)(A2:Option Addr)(n2 c2:Nat)(i:List UInt8)(hIn:Bts s A2 n2 c2 i)(hG:TabG t)(hl:(l.length:Int)≤t.cells)(hi:i.length≤400000)(A3:Option Addr)(n3 c3:Nat)(hd:List Bool)(hCd:Bos s A3 n3 c3 hd)(k:Int)(hk:0≤k∧k≤50000000):AC Tryz.prog D 8 [.agg #[.int .i64 t.cells,.slice A n c],.slice A1 n1 c1,.slice A3 n3 c3,.slice A2 n2 c2,.int .i64 k] L s fun v L' _=>∃ M',L'=M'++L∧v=.bool (qgB t hd k.toNat (qaU t l i)):=by
 have hn:=hA.1
 have hc1:=hA.2.1
 have hc2:=hA.2.2.1
 have hnc1:=hCd.1
 have hnc2:=hCd.2.1
 have hnc3:=hCd.2.2.1
 obtain ⟨hmok,hsok,hlen⟩:=qdE hG hl hi hIm.u32
 refine qai (fn:=Tryz.f8) qaG Tryz.func8 V Z Tryz.ntmps8 Z (rs:=[.tmp 10]) Z [(0,_),(1,_),(2,_),(3,_),(4,_)] Z<|Sr<|qaL Z Z ?_
 intro β1 s1 h1
 refine At Z Z<|Sr<|qae (qad 0 [_,_] Z Z Z Z Z) Z<|Zqm Z Z<|Zqm Z Z<|Jc Z Z Z (AC.mid [_] [] L (qjj D _ _ _ _ _ _ (hA.le h1) _ _ _ _ (hIm.le h1) _ _ _ _ (hIn.le h1) hG hl hi)) ?_
 rintro _ _ s2 h2 ⟨M1,rfl,bc,cc,yc,Oq9,Ao,co,Ai,ni,ci,rfl,rfl,hO,hI,hcc,hcc2⟩
 simp only [cQ9,nQ9]
 refine qag Z [_,_,_,_,_,_,_,_,_,_] Z Z ?_
 intro β3 s3 h3
 refine Wt 0 [_,_,_,_,_,_,_,_,_,_] Y9<|Nt<|Zs<|Sr<|At Z Z<|Zp<|?_
 refine qaQ (γ:=Nat×Mst×List Value×Hl) (fun g=>[(2,_),(4,_),(5,_),(10,_),(11,_),(12,.int .i64 (g.1:Int))]) (fun g=>(β3,cb g.2.2.1 82)::(β1,cb [.int .i64 t.cells,.slice A n c] 24)::(g.2.2.2++L)) (fun g tw=>Le D s3 tw∧(g.1≤k.toNat∧StO g.2.1 (.agg g.2.2.1.toArray) g.2.2.2 tw∧MOK g.2.1∧SOK g.2.1∧qgB t hd k.toNat (qaU t l i)=qgB t hd (k.toNat - g.1) g.2.1)) (fun g=>k.toNat - g.1) (fun _ _ _ h hl=>⟨h.1.trans hl,by obtain ⟨_,k1,k2,k3⟩:=h;exact ⟨k1,k2.le hl,k3⟩⟩) (0,qaU t l i,[_,_,_,_,_,_,_,_,_,_],_::Oq9) (.c6 Z Z Z Z Z Z (.nil _)) Z ⟨Le.refl _,⟨Nat.zero_le _,⟨bc,cc,yc,Oq9,Ao,co,Ai,ni,ci,Z,Z,hO,hI.le h3,hcc,hcc2⟩,hmok,hsok,Z⟩⟩ ?_
 intro g s4 I4
 obtain ⟨j,mk,zk,Mk⟩:=g
 obtain ⟨hj0,hSt1,hok1,hsok1,hrun⟩:=I4.2
 simp only at hj0 hSt1 hok1 hsok1 hrun
 obtain ⟨bc1,cc1,yc1,O1,Ao1,co1,Ai1,ni1,ci1,hz1,hM1,hO1,hI1,hcc1,hcc21⟩:=StO.list hSt1
 subst hz1
 subst hM1
 have hr41:=hok1.u4.1
 have hr42:=hok1.u4.2
 have hnc4:=hok1.cells
 simp only [List.cons_append]
 refine Zs<|Sr<|Zqm Z Z<|Zqm Z Z<|qbY Z Z Z<|Zqm Z Z<|?_
 refine qam (t:=22) Z (fun c5=>?_) (fun c5=>?_)
 ·
  refine Zg Z Z<|Wb Y5<|Zg Z Z<|Wl 0 Y6<|Zg Z Z<|qaJ Z Z Z<|ZqT Z Z Z<|Nt<|?_
  refine qab Z (fun c6=>?_) (fun c6=>?_)
  ·
   have hs1:mk.stop=0:=c6
   have hj1:j < k.toNat:=by omega
   refine Zk<|Zt<|Zs<|Zp<|Sr<|Wb Y5<|qae (qeA (sz:=1) 4 Z Z Z Z Z Z Dc) Z<|Wl 0 Y6<|qae (qaH Z Z Z Z Z (w64 O O)) Z<|At Z Z<|Zs<|?_
   refine qbV 50 (mk.r4 < (mk.cells.length:Int)∧¬ hd[mk.r4.toNat]?=some true) ?_ ?_
   ·
    refine Zr<|Zqm Z Z<|W0 Y5<|Wl 0 Y6<|Ws Y4<|qbY Z Z Z<|Zqm Z Z<|?_
    refine qam (t:=38) Z (fun c8=>?_) (fun c8=>?_)
    ·
     refine Zg Z Z<|Zqm Z Z<|Zg Z Z<|Zqm Z Z<|Zg Z Z<|Ws Y4<|Zg Z Z<|qgW Z Z Z<|Zg Z Z<|Zqm Z Z<|?_
     refine qam (t:=43) Z (fun c9=>?_) (fun c9=>?_)
     ·
      refine Wf Y4<|Wf Y4<|Wf Y4<|Wf Y4<|Wf Y4<|Zg Z Z<|ZqT Z Z Z<|ZqT Z Z Z<|Zn<|?_
      refine qaa (MidB.mk (Lr D) Sb Z ((decide_eq_true (by first | omega | exact ⟨by omega,fun h9=>by have h8:=(List.getElem?_eq_some_iff.1 h9).1;omega⟩)).symm))
     refine Zg Z Z<|Zqm Z Z<|Zg Z Z<|qae (qav (qao Z) (congrArg (Value.int .i64) (Int.toNat_of_nonneg hr41).symm)) Z<|Zg Z Z ?_
     have hkc:mk.r4.toNat < n3:=by omega
     obtain ⟨b9,o9,y9,rfl,hy9,hc9⟩:=Bos.at_ (hCd.le (h1.t h2|>.t h3|>.t I4.1)) hkc
     refine qae (qaX Z Z Z Z Z Z hkc) Z<|Zg Z Z<|qae (qaq Z Z Z (hc9.le (Lr D)) Z) Z<|Zg Z Z<|qcQ Z Z<|Zg Z Z<|ZqF Z Z Z<|ZqT Z Z Z<|Zn<|?_
     refine qaa (MidB.mk (Lr D) Sb Z ((by rw [hy9];exact qqF O)))
    refine Wf Y4<|Wf Y4<|Wf Y4<|Wf Y4<|Wf Y4<|Zh Z Z Z<|Zh Z Z Z<|Zh Z Z Z<|Zh Z Z Z<|Zh Z Z Z<|Wf Y4<|ZqF Z Z Z<|Zn ?_
    refine qaa (MidB.mk (Lr D) Sb Z ((decide_eq_false (by first | omega | exact ⟨by omega,fun h9=>by have h8:=(List.getElem?_eq_some_iff.1 h9).1;omega⟩)).symm))
   intro s7 h7
   refine qab Z (fun c10=>?_) (fun c10=>?_)
   ·
    have hbare:=c10
    refine Sr<|At Z Z<|Zo<|Zu<|Zc<|Zu<|Zu<|Zc<|Zu<|?_
    refine rR [_,_,_] _ (.t1 Z) Z (h1.t h2|>.t h3|>.t I4.1|>.t h7) fun _ hS2=>?_
    first
      | (exact ⟨_,rfl,by rw [hend];rfl⟩)
      | (exact ⟨_,rfl,by rw [hrun,show k.toNat - j=(k.toNat - j - 1)+1 by omega,qdo hs1 (qe2 hbare.1 hbare.2)];rfl⟩)
      | (exact ⟨_,rfl,by rw [hrun,show k.toNat - j=(k.toNat - j - 1)+1 by omega,qdo hs1 (qfZ hfar hx As hhit)];rfl⟩)
   have hbare:=c10
   refine Zk<|Zt<|Zs<|Sr<|At Z Z<|Zp<|?_
   refine qaQ (γ:=Nat×Hl) (fun g=>[(2,_),(4,_),(5,_),(10,_),(11,_),(12,_),(13,_),(14,.int .i64 (g.1:Int))]) (fun g=>(β3,cb [.slice (some ⟨bc1,0,none⟩) mk.cells.length cc1,.int .u32 mk.r0,.int .u32 mk.r1,.int .u32 mk.r2,.int .u32 mk.r3,.int .u32 mk.r4,.slice Ai1 ni1 ci1,.slice Ao1 mk.output.length co1,.int .i64 mk.stop,.int .u32 mk.code] 82)::(β1,cb [.int .i64 t.cells,.slice A n c] 24)::(bc1,cb (wv mk.cells++yc1) 38)::(g.2++L)) (fun g tw=>Le D s7 tw∧(g.1≤n∧FL.Own 5 1 g.2 (.slice Ao1 mk.output.length co1) mk.output.length (bv mk.output)∧∀ j x,j < g.1→t.ins[j]?=some x→x.code=mk.cells.getD mk.r4.toNat 0→qhv hd mk x=false)) (fun g=>n - g.1) (fun _ _ _ h hl=>⟨h.1.trans hl,h.2⟩) (0,O1) (.c6 Z Z Z Z Z Z (.c2 Z Z (.nil _))) Z ⟨Le.refl _,⟨Nat.zero_le _,hO1,fun j x hj=>by simp at hj⟩⟩ ?_
   intro g s11 I11
   obtain ⟨i9,O9⟩:=g
   obtain ⟨hi0,hO9,hI9⟩:=I11.2
   simp only at hi0 hO9 hI9
   dsimp only
   refine Zs<|Sr<|Zqm Z Z<|Wb Y5<|Wl 1 Y6<|Ws Y4<|qbY Z Z Z<|Zqm Z Z<|?_
   refine qam (t:=56) Z (fun c12=>?_) (fun c12=>?_)
   ·
    refine Zg Z Z<|Zqm Z Z<|Zg Z Z<|W0 Y5<|Zg Z Z<|Wl 0 Y6<|Zg Z Z<|Ws Y4<|Zg Z Z<|qbY Z Z Z<|ZqT Z Z Z<|Nt ?_
    refine qab Z (fun c13=>?_) (fun c13=>?_)
    ·
     have hk1:i9 < n:=by omega
     have hfar:mk.r4 < (mk.cells.length:Int):=by omega
     obtain ⟨b,off,x,A',n',c',rfl,hx,hcx,hax,hnl,hcd⟩:=Inss.at_ (hA.le (h1.t h2|>.t h3|>.t I4.1|>.t h7|>.t I11.1)) hk1
     have hfew:=hG.few _ _ hx
     refine Zk<|Zt<|Zs<|Zp<|Zs<|qaT qaf 22 Z 3 ?_
     intro s14 h14
     refine za 0 Z (We Y4) Z<|za 1 Z (Wd 1 Y5) Z<|za 2 Z (qao Z) Z<|za 3 Z (qbw Z Z Z Z Z Z hk1) Z<|za 4 Z (qdh Z Z Z Z) Z<|za 5 Z (qcK 1 Z Z Z (hcx.le h14) Z) Z<|za 6 Z (qaw Z Z Z Z) Z<|za 7 Z (Wd 0 Y5) Z<|za 8 Z (qao Z) Z<|za 9 Z (qcb Z Z Z Z Z Z hr41 hfar) Z<|za 10 Z (qbL 2 Z Z Z Z (qcO hr41 hfar)) Z<|za 11 Z (qil Z Z) Z<|za 12 Z (qao Z) Z ?_
     refine qf3 (t:=77) Z (fun c15=>?_) (fun c15=>?_)
     ·
      refine zg 13 Z ⟨_,Z,Z⟩ (qad 0 [_,_,_,_,_,_,_,_,_,_] Z Z Z Z Z) Z<|zg 14 Z ⟨_,Z,Z⟩ (We Y4) Z<|zg 15 Z ⟨_,Z,Z⟩ (Wd 1 Y5) Z<|zg 16 Z ⟨_,Z,Z⟩ (qao Z) Z<|zg 17 Z ⟨_,Z,Z⟩ (qbw Z Z Z Z Z Z hk1) Z<|zg 18 Z ⟨_,Z,Z⟩ (qbG Z Z Z (hcx.le h14) Z) Z<|zg 19 Z ⟨_,Z,Z⟩ (qao Z) Z<|qah 20 V ?_
      refine Jb Z ⟨_,Z,Z⟩ Z Z Z (AC.mid [_,_] (_::O9) L (qje D _ _ mk bc1 cc1 yc1 O9 Ao1 co1 Ai1 ni1 ci1 hO9 (hI1.le (h7.t I11.1|>.t h14)) hcc1 hcc21 x A' n' c' (hax.le h14) (fun a ha=>hG.acts _ _ _ hx ha) hfew _ _ _ hd (hCd.le (h1.t h2|>.t h3|>.t I4.1|>.t h7|>.t I11.1|>.t h14)) hok1 hs1 hfar)) ?_
      rintro _ _ s16 h16 ⟨M9,rfl,rfl,K9,rfl,hK9⟩
      refine ⟨(fun x hx _=>qaK (sby3 (sb0 _)) hx),?_⟩
      simp only [cQ9,nQ9]
      refine za 21 Z (qeq Z Z) Z<|qac V<|Zt ?_
      refine qcW Z (fun c17=>?_) (fun c17=>?_)
      ·
       have hhit:=c17
       refine Sr<|At Z Z<|Zo<|Zc<|Zu<|Zu<|Zc<|Zu<|Zc<|Zu<|Zu<|Zc<|Zu<|?_
       refine rR [_,_,_] _ (.t1 Z) Z (h1.t h2|>.t h3|>.t I4.1|>.t h7|>.t I11.1|>.t h14|>.t h16) fun _ hS2=>?_
       first
         | (exact ⟨_,rfl,by rw [hend];rfl⟩)
         | (exact ⟨_,rfl,by rw [hrun,show k.toNat - j=(k.toNat - j - 1)+1 by omega,qdo hs1 (qe2 hbare.1 hbare.2)];rfl⟩)
         | (exact ⟨_,rfl,by rw [hrun,show k.toNat - j=(k.toNat - j - 1)+1 by omega,qdo hs1 (qfZ hfar hx As hhit)];rfl⟩)
      have hmiss:=c17
      refine Zk<|Zb<|Zt<|Zr<|Zqm Z Z<|qaW Z Z Z (w64 O O)<|Zqa Z Z<|Zn<|?_
      refine qaa ⟨(i9+1,K9),[],kp,Z,⟨(I11.1.t h14|>.t h16),⟨by simp only;omega,hK9,qaS hI9 hx (by first | exact fun _=>by simpa using hmiss | exact fun h=>absurd h As)⟩⟩,Oz⟩
     refine zn 13 Z Z Z Z Z<|zn 14 Z Z Z Z Z<|zn 15 Z Z Z Z Z<|zn 16 Z Z Z Z Z<|zn 17 Z Z Z Z Z<|zn 18 Z Z Z Z Z<|zn 19 Z Z Z Z Z<|zn 20 Z Z Z Z Z<|za 21 Z (qeo Z Z) Z<|qac V<|Zt<|Zz Z<|?_
     have hmiss:=trivial
     refine Zk<|Zb<|Zt<|Zr<|Zqm Z Z<|qaW Z Z Z (w64 O O)<|Zqa Z Z<|Zn<|?_
     refine qaa ⟨(i9+1,O9),[],kp,Z,⟨(I11.1.t h14),⟨by simp only;omega,hO9,qaS hI9 hx (by first | exact fun _=>by simpa using hmiss | exact fun h=>absurd h As)⟩⟩,Oz⟩
    have hno:qjk t hd mk=false:=by
      by_cases hf:mk.r4 < (mk.cells.length:Int)
      · exact qiQ (Classical.not_not.1 fun h=>hbare ⟨hf,h⟩) (fun j x hj hx=>hI9 j x O hx)
      · exact qjQ hf
    refine Zl<|Zv<|Zv<|Zd<|Zt<|Zr<|qae (qad 1 [_,_] Z Z Z Z Z) Z<|qae (qad 0 [_,_,_,_,_,_,_,_,_,_] Z Z Z Z Z) Z<|Jc Z Z Z (AC.mid [_,_] (_::O9) L (qgH D _ _ _ _ _ _ (hA.le (h1.t h2|>.t h3|>.t I4.1|>.t h7|>.t I11.1)) mk _ _ ⟨bc1,cc1,yc1,O9,Ao1,co1,Ai1,ni1,ci1,Z,Z,hO9,hI1.le (h7.t I11.1),hcc1,hcc21⟩ hG hok1 hs1)) ?_
    rintro _ _ s18 h18 ⟨M2,rfl,bc2,cc2,yc2,O2,Ao2,co2,Ai2,ni2,ci2,rfl,hM2,hO2,hI2,hcc22,hcc23⟩
    have hSt2:StO (qbl t mk) _ M2 s18:=⟨bc2,cc2,yc2,O2,Ao2,co2,Ai2,ni2,ci2,rfl,hM2,hO2,hI2,hcc22,hcc23⟩
    have hrun2:qgB t hd k.toNat (qaU t l i)=qgB t hd (k.toNat - (j+1)) (qbl t mk):=by rw [hrun,show k.toNat - j=(k.toNat - (j+1))+1 by omega,qiG hs1 hno]
    simp only [cQ9,nQ9]
    refine Wt 0 [_,_,_,_,_,_,_,_,_,_] Y9<|Zn<|Zb<|Zt<|Zr<|Zqm Z Z<|qaW Z Z Z (w64 O O)<|Zqa Z Z<|Zn<|?_
    refine qaa ⟨(j+1,qbl t mk,_,M2),[],kp,Z,⟨(I4.1.t h7|>.t I11.1|>.t h18),⟨hj1,hSt2.le (Lr D),(qcY hG hok1 hs1 (qgX hsok1 hs1)).1,(qcY hG hok1 hs1 (qgX hsok1 hs1)).2.1,hrun2⟩⟩,Oz⟩
   refine Wf Y4<|Wf Y4<|Wf Y4<|Wf Y4<|Wf Y4<|ZqF Z Z Z<|Nt<|Zz Z<|?_
   have hno:qjk t hd mk=false:=by
     by_cases hf:mk.r4 < (mk.cells.length:Int)
     · exact qiQ (Classical.not_not.1 fun h=>hbare ⟨hf,h⟩) (fun j x hj hx=>hI9 j x O hx)
     · exact qjQ hf
   refine Zl<|Zv<|Zv<|Zd<|Zt<|Zr<|qae (qad 1 [_,_] Z Z Z Z Z) Z<|qae (qad 0 [_,_,_,_,_,_,_,_,_,_] Z Z Z Z Z) Z<|Jc Z Z Z (AC.mid [_,_] (_::O9) L (qgH D _ _ _ _ _ _ (hA.le (h1.t h2|>.t h3|>.t I4.1|>.t h7|>.t I11.1)) mk _ _ ⟨bc1,cc1,yc1,O9,Ao1,co1,Ai1,ni1,ci1,Z,Z,hO9,hI1.le (h7.t I11.1),hcc1,hcc21⟩ hG hok1 hs1)) ?_
   rintro _ _ s19 h19 ⟨M2,rfl,bc2,cc2,yc2,O2,Ao2,co2,Ai2,ni2,ci2,rfl,hM2,hO2,hI2,hcc22,hcc23⟩
   have hSt2:StO (qbl t mk) _ M2 s19:=⟨bc2,cc2,yc2,O2,Ao2,co2,Ai2,ni2,ci2,rfl,hM2,hO2,hI2,hcc22,hcc23⟩
   have hrun2:qgB t hd k.toNat (qaU t l i)=qgB t hd (k.toNat - (j+1)) (qbl t mk):=by rw [hrun,show k.toNat - j=(k.toNat - (j+1))+1 by omega,qiG hs1 hno]
   simp only [cQ9,nQ9]
   refine Wt 0 [_,_,_,_,_,_,_,_,_,_] Y9<|Zn<|Zb<|Zt<|Zr<|Zqm Z Z<|qaW Z Z Z (w64 O O)<|Zqa Z Z<|Zn<|?_
   refine qaa ⟨(j+1,qbl t mk,_,M2),[],kp,Z,⟨(I4.1.t h7|>.t I11.1|>.t h19),⟨hj1,hSt2.le (Lr D),(qcY hG hok1 hs1 (qgX hsok1 hs1)).1,(qcY hG hok1 hs1 (qgX hsok1 hs1)).2.1,hrun2⟩⟩,Oz⟩
  have hend:qgB t hd k.toNat (qaU t l i)=false:=by
    rw [hrun]
    by_cases h0:mk.stop=0
    · rw [show k.toNat - j=0 by first | omega | exact absurd h0 c6];rfl
    · exact qig h0
  refine Zl<|Zv<|Zv<|Zd<|Zt<|Sr<|At Z Z<|Zo<|?_
  refine rR [_,_,_] _ (.t1 Z) Z (h1.t h2|>.t h3|>.t I4.1) fun _ hS2=>?_
  first
    | (exact ⟨_,rfl,by rw [hend];rfl⟩)
    | (exact ⟨_,rfl,by rw [hrun,show k.toNat - j=(k.toNat - j - 1)+1 by omega,qdo hs1 (qe2 hbare.1 hbare.2)];rfl⟩)
    | (exact ⟨_,rfl,by rw [hrun,show k.toNat - j=(k.toNat - j - 1)+1 by omega,qdo hs1 (qfZ hfar hx As hhit)];rfl⟩)
 refine Wf Y4<|Wf Y4<|Wf Y4<|ZqF Z Z Z<|Nt<|Zz Z<|?_
 have hend:qgB t hd k.toNat (qaU t l i)=false:=by
   rw [hrun]
   by_cases h0:mk.stop=0
   · rw [show k.toNat - j=0 by first | omega | exact absurd h0 trivial];rfl
   · exact qig h0
 refine Zl<|Zv<|Zv<|Zd<|Zt<|Sr<|At Z Z<|Zo<|?_
 refine rR [_,_,_] _ (.t1 Z) Z (h1.t h2|>.t h3|>.t I4.1) fun _ hS2=>?_
 first
   | (exact ⟨_,rfl,by rw [hend];rfl⟩)
   | (exact ⟨_,rfl,by rw [hrun,show k.toNat - j=(k.toNat - j - 1)+1 by omega,qdo hs1 (qe2 hbare.1 hbare.2)];rfl⟩)
   | (exact ⟨_,rfl,by rw [hrun,show k.toNat - j=(k.toNat - j - 1)+1 by omega,qdo hs1 (qfZ hfar hx As hhit)];rfl⟩)
theorem qkr(D:Nat)(L:Hl)(s:World)(t:Tab)(A:Option Addr)(n c:Nat)(hA:Inss s A n c t.ins)(A1:Option Addr)(n1 c1:Nat)(l:List Int)(hIm:Wds s A1 n1 c1 l)(A2:Option Addr)(n2 c2:Nat)(i:List UInt8)(hIn:Bts s A2 n2 c2 i)(hG:TabG t)(hl:(l.length:Int)≤t.cells)(hi:i.length≤400000)(A3:Option Addr)(n3 c3:Nat)(hd:List Bool)(hCd:Bos s A3 n3 c3 hd)(k:Int)(hk:0≤k∧k≤50000000):AC Tryz.prog D 8 [.agg #[.int .i64 t.cells,.slice A n c],.slice A1 n1 c1,.slice A3 n3 c3,.slice A2 n2 c2,.int .i64 k] L s fun v L' _=>v=.bool (qgB t hd k.toNat (qaU t l i))∧L=L':=
 (AC.pubO (qi4 D L s t A n c hA A1 n1 c1 l hIm A2 n2 c2 i hIn hG hl hi A3 n3 c3 hd hCd k hk)).mono fun v L' s' _ ⟨h1,M',s1,h2,_⟩=>⟨h2,h1⟩
theorem qnR{t:Tab}:∀ (rs prev:List RL) (sz:Int) (i:Nat) (f:Int×Int),lcF t prev sz i rs=some f→f.1≠0:=by
 intro rs
 induction rs with
 | nil=>intro _ _ _ _ h;cases h
 | cons r rs ih=>
  intro prev sz i f h
  rw [lcF] at h
  split at h
  · rename_i h0;injection h with h;subst h;exact h0
  · exact ih _ _ _ _ h
theorem qok{labs:List (List UInt8×Int)}:∀ (rs:List RL) (i:Nat) (f:Int×Int),urF labs i rs=some f→f.1≠0:=by
 intro rs
 induction rs with
 | nil=>intro _ _ h;cases h
 | cons r rs ih=>
  intro i f h
  rw [urF] at h
  split at h
  · injection h with h;subst h;exact (show (27:Int)≠0 by decide)
  · exact ih _ _ h
theorem qob{t:Tab}{tx:List UInt8}(hc:(qak t).1=0→t.cells≤65536)(h:(qdA t tx).1=0):(qak t).1=0∧¬ 400000 < tx.length∧∀ rs,RLs (splitB 10 tx) rs→(lcF t [] 0 0 rs=none∧urF (qhS 0 rs) 0 rs=none)∧qjq t tx=wdF t (qhS 0 rs) rs∧qnp t tx=qhS 0 rs:=by
 have ht:¬ (qak t).1≠0:=fun hb=>by
  unfold qdA qf4 at h;rw [if_pos hb] at h;exact hb h
 have hl:¬ 400000 < tx.length:=fun hb=>by
  unfold qdA qf4 at h;rw [if_neg ht,if_pos hb] at h;exact absurd h Dc
 refine ⟨Classical.not_not.1 ht,hl,fun rs hrs=>?_⟩
 have hA:=qhE ht hl (hc (Classical.not_not.1 ht)) hrs
 cases hlc:lcF t [] 0 0 rs with
 | some f=>
  rw [hlc] at hA
  unfold qdA at h;rw [hA] at h
  exact absurd h (qnR _ _ _ _ _ hlc)
 | none=>
  cases hur:urF (qhS 0 rs) 0 rs with
  | some f=>
   rw [hlc,hur] at hA
   unfold qdA at h;rw [hA] at h
   exact absurd h (qok _ _ _ hur)
  | none=>
   rw [hlc,hur] at hA
   exact ⟨⟨rfl,rfl⟩,(qfJ hA).1,(qfJ hA).2.1⟩
theorem qqt{rs:List RL}{k:Nat}{r:RL}(hx:rs[k]?=some r)(hB:(hdF rs).length≤65536):(hdF (rs.take k)).length+(szL r).toNat≤65536:=by
 rw [qq4 rs (k+1),List.length_append,qpi hx,List.length_append,qi9,List.length_map,List.length_range] at hB
 omega
theorem qd0{r:RL}{j:Nat}{b:Bool}{l:List Bool}(h:b=hdK r j):l++(List.range (j+1)).map (hdK r)=(l++(List.range j).map (hdK r))++[b]:=by
 rw [List.range_succ,List.map_append,h,List.append_assoc];rfl
theorem qjn{r:RL}{j:Nat}(h:¬ j=0):false=hdK r j:=by rw [hdK,decide_eq_false h];rfl
theorem qg5{r:RL}{j:Nat}(h:r.op=qcI):false=hdK r j:=by rw [hdK,h];simp
theorem qlG{r:RL}{j:Nat}(h:j=0)(h2:¬ r.op=qcI):(!decide (r.op=qbe))=hdK r j:=by
 rw [hdK,decide_eq_true h,decide_eq_true h2]
 by_cases hs:r.op=qbe <;> simp [hs]
theorem qty{rs:List RL}{k j:Nat}{r:RL}(hx:rs[k]?=some r)(hj:j=(szL r).toNat):hdF (rs.take k)++(List.range j).map (hdK r)=hdF (rs.take (k+1)):=by
 rw [qpi hx,qi9,hj]
theorem qlN(D:Nat)(L:Hl)(s:World)(t:Tab)(A:Option Addr)(n c:Nat)(hA:Inss s A n c t.ins)(tx:List UInt8)(htx:tx.length≤400000)(hB:∀ rs,RLs (splitB 10 tx) rs→(hdF rs).length≤65536):AC Tryz.prog D 9 [.agg #[.int .i64 t.cells,.slice A n c],St tx] L s fun v L' s'=>∃ M',L'=M'++L∧∀ s2,Le D s' s2→Pub M' s2→∃ A2 n2 c2 rs,v=.slice A2 n2 c2∧Bos s2 A2 n2 c2 (hdF rs)∧RLs (splitB 10 tx) rs:=by
 refine qai (fn:=Tryz.f9) qaG Tryz.func9 V Z Tryz.ntmps9 Z (rs:=[.tmp 4]) Z [(0,_),(1,_)] Z<|Sr<|qaL Z Z ?_
 intro β1 s1 h1
 refine At Z Z<|Sr<|Zqm Z Z<|Jc Z Z Z (qnV D _ _ tx htx) ?_
 rintro _ _ s2 h2 ⟨rfl,A8,n8,c8,rs,rfl,hR8,hrs⟩
 have hB9:=hB rs hrs
 have hn8:=hR8.1
 have hc81:=hR8.2.1
 have hc82:=hR8.2.2.1
 refine At Z Z<|Sr<|At Z Z<|Zs<|Sr<|At Z Z<|Zp<|?_
 refine qaQ (γ:=Nat×Value×Hl) (fun g=>[(2,_),(4,_),(5,_),(6,g.2.1),(7,.int .i64 (g.1:Int))]) (fun g=>(β1,cb [.int .i64 t.cells,.slice A n c] 24)::(g.2.2++L)) (fun g tw=>Le D s2 tw∧(g.1≤n8∧FL.Own 4 1 g.2.2 g.2.1 (hdF (rs.take g.1)).length (bov (hdF (rs.take g.1))))) (fun g=>n8 - g.1) (fun _ _ _ h hl=>⟨h.1.trans hl,h.2⟩) (0,.slice none 0 0,[]) (.c5 Z Z Z Z Z (.nil _)) Z ⟨Le.refl _,⟨Nat.zero_le _,Own.nil⟩⟩ ?_
 intro g s3 I3
 obtain ⟨k,vk,Mk⟩:=g
 obtain ⟨hk0,hOk⟩:=I3.2
 simp only at hk0 hOk
 dsimp only
 refine Zs<|Sr<|Zqm Z Z<|Zqm Z Z<|Ws Y4<|qbY Z Z Z<|Nt<|?_
 refine qab Z (fun c4=>?_) (fun c4=>?_)
 ·
  have hk:k < n8:=by omega
  obtain ⟨b,off,r,rfl,hx,hcx,hux⟩:=Rls.at_ (hR8.le I3.1) hk
  have hsz:=qiK hux
  have hroom:=qqt hx hB9
  refine Zk<|Zt<|Zs<|Zp<|Zs<|qbH qaf 7 Z _ (fun _ h=>h) ?_
  intro s5 h5
  refine za 0 Z (qad 0 [_,_] Z Z Z Z Z) Z<|za 1 Z (qao Z) Z<|za 2 Z (qao Z) Z<|za 3 Z (qbw Z Z Z Z Z Z hk) Z<|za 4 Z (qbG Z Z Z (hcx.le h5) Z) Z<|qah 5 V<|Jb Z Tt Z Z Z (qmX D _ _ t _ _ _ (hA.le (h1.t h2|>.t I3.1|>.t h5)) r hux) ?_
  rintro _ _ s6 h6 ⟨rfl,rfl⟩
  refine ⟨fun _ _ h=>h,?_⟩
  refine za 6 Z (qcq Z) Z<|qac V<|Zt<|Sr<|At Z Z<|Zp<|?_
  refine qaQ (γ:=Nat×Value×Hl) (fun g=>[(2,_),(4,_),(5,_),(6,g.2.1),(7,_),(8,_),(9,.int .i64 (g.1:Int))]) (fun g=>(β1,cb [.int .i64 t.cells,.slice A n c] 24)::(g.2.2++L)) (fun g tw=>Le D s6 tw∧((g.1:Int)≤szL r∧FL.Own 4 1 g.2.2 g.2.1 ((hdF (rs.take k)).length+g.1) (bov (hdF (rs.take k)++(List.range g.1).map (hdK r))))) (fun g=>(szL r).toNat - g.1) (fun _ _ _ h hl=>⟨h.1.trans hl,h.2⟩) (0,vk,Mk) (.c6 Z Z Z Z Z Z (.cons Z (.nil _))) Z ⟨Le.refl _,⟨by simp only;omega,by simpa using hOk⟩⟩ ?_
  intro g s7 I7
  obtain ⟨j,vj,Mj⟩:=g
  obtain ⟨hj0,hOj⟩:=I7.2
  simp only at hj0 hOj
  dsimp only
  refine Zs<|Sr<|Zqm Z Z<|Zqm Z Z<|qbY Z Z Z<|Nt<|?_
  refine qab Z (fun c8=>?_) (fun c8=>?_)
  ·
   have hj1:(j:Int) < szL r:=by omega
   refine Zk<|Zt<|Zs<|Zp<|Zr<|Zqm Z Z<|Zqm Z Z<|qaJ Z Z Z<|Zqm Z Z<|?_
   refine qam (t:=32) Z (fun c9=>?_) (fun c9=>?_)
   ·
    refine Zg Z Z<|Zqm Z Z<|Zg Z Z<|Zqm Z Z<|Zg Z Z<|qae (qbw Z Z Z Z Z Z hk) Z<|Zg Z Z<|qae (qdh Z Z Z Z) Z<|Zg Z Z<|qae (qcK 2 Z Z Z (hcx.le (h5.t h6|>.t I7.1)) Z) Z<|Zg Z Z<|qqe Z Z Z<|ZqT Z Z Z<|Zqm Z Z<|?_
    refine qb2 (t:=40) Z (fun c10=>?_) (fun c10=>?_)
    ·
     refine Zg Z Z<|Zqm Z Z<|Zg Z Z<|Zqm Z Z<|Zg Z Z<|qae (qbw Z Z Z Z Z Z hk) Z<|Zg Z Z<|qae (qdh Z Z Z Z) Z<|Zg Z Z<|qae (qcK 2 Z Z Z (hcx.le (h5.t h6|>.t I7.1)) Z) Z<|Zg Z Z<|qqe Z Z Z<|ZqT Z Z Z<|qa0 [(_,_)] [_] Z Z Z Z Z Z Z Z Z ?_
     intro βn s11 h11 hcn
     refine qbO (sz:=1) [_] Mj L Z Z Z Z Z Z Z hOj (Row.of_cells (hcn.le (Lr D)) Z Z) ⟨by simp [ti4];omega,by omega⟩ Z ?_
     intro v2 A2x s12 h12 o2
     obtain ⟨Av2,cv2,rfl,_,_⟩:=Own.slice o2
     simp only [cQ9,nQ9]
     refine Zqa Z Z<|Zn<|Zb<|Zt<|Zr<|Zqm Z Z<|qaW Z Z Z (w64 O O)<|Zqa Z Z<|Zn<|?_
     refine qaa ⟨(j+1,.slice Av2 ((hdF (rs.take k)).length+j+1) cv2,A2x),[],kp,Z,⟨(I7.1.t h11|>.t h12),⟨by simp only;omega,by simp only;first | (rw [qd0 (b:=false) (qjn O),qcU];exact o2) | (rw [qd0 (b:=false) (qg5 As),qcU];exact o2) | (rw [qd0 (b:=!decide (r.op=qbe)) (qlG O As),qcU];exact o2)⟩⟩,Oz⟩
    refine Wf Y4<|Wf Y4<|Wf Y4<|Wf Y4<|Wf Y4<|Wf Y4<|ZqF Z Z Z<|qa0 [(_,_)] [_] Z Z Z Z Z Z Z Z Z ?_
    intro βn s13 h13 hcn
    refine qbO (sz:=1) [_] Mj L Z Z Z Z Z Z Z hOj (Row.of_cells (hcn.le (Lr D)) Z Z) ⟨by simp [ti4];omega,by omega⟩ Z ?_
    intro v2 A2x s14 h14 o2
    obtain ⟨Av2,cv2,rfl,_,_⟩:=Own.slice o2
    simp only [cQ9,nQ9]
    refine Zqa Z Z<|Zn<|Zb<|Zt<|Zr<|Zqm Z Z<|qaW Z Z Z (w64 O O)<|Zqa Z Z<|Zn<|?_
    refine qaa ⟨(j+1,.slice Av2 ((hdF (rs.take k)).length+j+1) cv2,A2x),[],kp,Z,⟨(I7.1.t h13|>.t h14),⟨by simp only;omega,by simp only;first | (rw [qd0 (b:=false) (qjn O),qcU];exact o2) | (rw [qd0 (b:=false) (qg5 As),qcU];exact o2) | (rw [qd0 (b:=!decide (r.op=qbe)) (qlG O As),qcU];exact o2)⟩⟩,Oz⟩
   refine Wf Y4<|Wf Y4<|Wf Y4<|Wf Y4<|Wf Y4<|Wf Y4<|ZqF Z Z Z<|Zqm Z Z<|Wf Y4<|Wf Y4<|Wf Y4<|Wf Y4<|Wf Y4<|Wf Y4<|ZqF Z Z Z<|qa0 [(_,_)] [_] Z Z Z Z Z Z Z Z Z ?_
   intro βn s15 h15 hcn
   refine qbO (sz:=1) [_] Mj L Z Z Z Z Z Z Z hOj (Row.of_cells (hcn.le (Lr D)) Z Z) ⟨by simp [ti4];omega,by omega⟩ Z ?_
   intro v2 A2x s16 h16 o2
   obtain ⟨Av2,cv2,rfl,_,_⟩:=Own.slice o2
   simp only [cQ9,nQ9]
   refine Zqa Z Z<|Zn<|Zb<|Zt<|Zr<|Zqm Z Z<|qaW Z Z Z (w64 O O)<|Zqa Z Z<|Zn<|?_
   refine qaa ⟨(j+1,.slice Av2 ((hdF (rs.take k)).length+j+1) cv2,A2x),[],kp,Z,⟨(I7.1.t h15|>.t h16),⟨by simp only;omega,by simp only;first | (rw [qd0 (b:=false) (qjn O),qcU];exact o2) | (rw [qd0 (b:=false) (qg5 As),qcU];exact o2) | (rw [qd0 (b:=!decide (r.op=qbe)) (qlG O As),qcU];exact o2)⟩⟩,Oz⟩
  have hj1:¬ (j:Int) < szL r:=by omega
  refine Zl<|Zv<|Zv<|Zd<|Zb<|Zt<|Zr<|Zqm Z Z<|qaW Z Z Z (w64 O O)<|Zqa Z Z<|Zn<|?_
  refine qaa ⟨(k+1,vj,Mj),[],kp,Z,⟨(I3.1.t h5|>.t h6|>.t I7.1),⟨by simp only;omega,by have h9:=qty hx (j:=j) O;simp only;rw [← h9,List.length_append,List.length_map,List.length_range];exact hOj⟩⟩,Oz⟩
 have hkn:rs.take k=rs:=List.take_of_length_le O
 rw [hkn] at hOk
 obtain ⟨Au,cu,rfl,ku1,ku2⟩:=Own.slice hOk
 refine Zl<|Zv<|Zv<|Zd<|Zt<|Sr<|Zqm Z Z<|At Z Z<|Zo<|?_
 refine rR [_] _ (.t1 Z) Z (h1.t h2|>.t I3.1) fun _ hS2=>?_
 exact ⟨Mk,rfl,fun s2 hs2 hp=>⟨_,_,_,rs,rfl,Own.bos hOk hp,hrs⟩⟩
theorem qnj(D:Nat)(L:Hl)(s:World)(t:Tab)(A:Option Addr)(n c:Nat)(hA:Inss s A n c t.ins)(tx:List UInt8)(htx:tx.length≤400000)(hB:∀ rs,RLs (splitB 10 tx) rs→(hdF rs).length≤65536):AC Tryz.prog D 9 [.agg #[.int .i64 t.cells,.slice A n c],St tx] L s fun v L' s'=>L=L'∧∃ A2 n2 c2 rs,v=.slice A2 n2 c2∧Bos s' A2 n2 c2 (hdF rs)∧RLs (splitB 10 tx) rs:=AC.pubW (qlN D L s t A n c hA tx htx hB)
theorem qlr(D:Nat)(L:Hl)(s:World)(t:Tab)(A:Option Addr)(n c:Nat)(hA:Inss s A n c t.ins)(A1:Option Addr)(n1 c1:Nat)(codes:List Int)(hCo:Wds s A1 n1 c1 codes):AC Tryz.prog D 5 [.agg #[.int .i64 t.cells,.slice A n c],.slice A1 n1 c1] L s fun v L' s'=>L=L'∧∃ A2 n2 c2,v=.tuple #[.agg #[.int .i64 (qcv t codes).cells,.slice A2 n2 c2],.agg #[.int .i64 (qck t codes).1,.int .i64 (qck t codes).2]]∧Inss s' A2 n2 c2 (qcv t codes).ins:=AC.pubW (qiq D L s t A n c hA A1 n1 c1 codes hCo)
theorem qtM{t:Tab}{codes:List Int}(h:(qck t codes).1=0):qcv t codes=rcT t codes:=by unfold qcv rcT;rw [if_neg (by simpa using h)]
theorem qtd{ls:List (List UInt8)}{rs:List RL}(h:RLs ls rs):∀ r∈rs,U32 r.num:=fun r hr=>by
 obtain ⟨j,hj⟩:=List.getElem?_of_mem hr
 have hl:j < ls.length:=by rw [← h.1];exact (List.getElem?_eq_some_iff.1 hj).1
 exact (h.2 j _ r (List.getElem?_eq_getElem hl) hj).2
theorem qiA{t:Tab}(hG:TabG t){tx:List UInt8}(hall:∀ rs,RLs (splitB 10 tx) rs→(lcF t [] 0 0 rs=none∧urF (qhS 0 rs) 0 rs=none)∧qjq t tx=wdF t (qhS 0 rs) rs∧qnp t tx=qhS 0 rs)(rs:List RL)(h:RLs (splitB 10 tx) rs):((hdF rs).length:Int)≤t.cells:=by
 have:=qkZ rs [] 0 0 (hall rs h).1.1 (qtd h) (by have:=hG.cells;omega)
 omega
theorem qp6{t:Tab}{l:List Int}{i:List UInt8}(ht:(qak t).1=0)(hl:(l.length:Int)≤t.cells)(hi:i.length≤400000):(qaM t l i).1=0:=by
 unfold qaM;rw [if_neg (by simpa using ht),if_neg O,if_neg O]
theorem qjA{t:Tab}{l:List Int}{i:List UInt8}{k:Int}(ht:(qak t).1=0)(hl:(l.length:Int)≤t.cells)(hi:i.length≤400000)(hk:0≤k∧k≤50000000):qey t l i k=(qjp t l i k,0,0):=by
 unfold qey;rw [if_neg (by simpa using qp6 ht hl hi),if_neg O]
theorem qjz(D:Nat)(L:Hl)(s:World)(hG:GW s)(t:Tab)(A:Option Addr)(n c:Nat)(hA:Inss s A n c t.ins)(A1:Option Addr)(n1 c1:Nat)(codes:List Int)(hCo:Wds s A1 n1 c1 codes)(tx:List UInt8)(htx:tx.length≤9223372036854775807)(A2:Option Addr)(n2 c2:Nat)(i:List UInt8)(hIn:Bts s A2 n2 c2 i)(k:Int):AC Tryz.prog D 3 [.agg #[.int .i64 t.cells,.slice A n c],.slice A1 n1 c1,St tx,.slice A2 n2 c2,.int .i64 k] L s fun v L' _=>v=.bool true∧L=L':=by
 have hcl:(qak t).1=0→t.cells≤65536:=fun h=>by have:=(qoc hA h).cells;omega
 have hn2:=hIn.1
 refine qai (fn:=Tryz.f3) qaG Tryz.func3 V Z Tryz.ntmps3 Z (rs:=[.tmp 10]) Z [(0,_),(1,_),(2,_),(3,_),(4,_)] Z<|Sr<|qaL Z Z ?_
 intro β1 s1 h1
 refine At Z Z<|Zs<|Sr<|Jc Z Z Z (qhz D _ _ (hG.le h1)) ?_
 rintro _ _ s2 h2 ⟨rfl,rfl⟩
 refine ZqnT Z Z<|Nt<|Zz Z<|Zk<|Zt<|Sr<|qae (qad 0 [_,_] Z Z Z Z Z) Z<|Zqm Z Z<|Jc Z Z Z (qlr D _ _ t _ _ _ (hA.le (h1.t h2)) _ _ _ _ (hCo.le (h1.t h2))) ?_
 rintro _ _ s3 h3 ⟨rfl,A6,n6,c6,rfl,hN6⟩
 refine Zqm Z Z<|Zqx Z Z Z<|Zqx Z Z Z<|qag Z [_,_] Z Z ?_
 intro β4 s4 h4
 refine qag Z [_,_] Z Z ?_
 intro β5 s5 h5
 refine Wt 1 [_,_] Y9<|Wt 0 [_,_] Y9<|Nt<|Sr<|qae (qad 2 [_,_] Z Z Z Z Z) Z<|Zqm Z Z<|Jc Z Z Z (qec D _ _ (hG.le (h1.t h2|>.t h3|>.t h4|>.t h5)) t _ _ _ (hA.le (h1.t h2|>.t h3|>.t h4|>.t h5)) tx) ?_
 rintro _ _ s6 h6 ⟨rfl,A5,n5,c5,rfl,hW5⟩
 refine Zqm Z Z<|Zqx Z Z Z<|Zqx Z Z Z<|qag Z [_,_] Z Z ?_
 intro β7 s7 h7
 refine Zqa Z Z<|Wt 0 [_,_] Y9<|Nt<|Zs<|Sr<|W0 Y5<|Wl 1 Y6<|qj3 Z Z Z<|Zqm Z Z<|?_
 refine qb2 (t:=38) Z (fun c8=>?_) (fun c8=>?_)
 ·
  refine Wf Y4<|Wf Y4<|Wf Y4<|ZqT Z Z Z<|Zqm Z Z<|Wf Y4<|Wf Y4<|Wf Y4<|ZqT Z Z Z<|Zqm Z Z<|Wf Y4<|Wf Y4<|Wf Y4<|ZqT Z Z Z<|Nt<|Zy Z<|Sr<|At Z Z<|Zo<|Zu<|?_
  refine rR [_,_,_,_] L (.t1 Z) Z (h1.t h2|>.t h3|>.t h4|>.t h5|>.t h6|>.t h7) fun _ hS2=>?_
  exact ⟨rfl,rfl⟩
 refine Zg Z Z<|W0 Y5<|Zg Z Z<|Wl 0 Y6<|Zg Z Z<|qj3 Z Z Z<|ZqF Z Z Z<|Zqm Z Z<|?_
 refine qb2 (t:=43) Z (fun c9=>?_) (fun c9=>?_)
 ·
  refine Wf Y4<|Wf Y4<|Wf Y4<|ZqT Z Z Z<|Zqm Z Z<|Wf Y4<|Wf Y4<|Wf Y4<|ZqT Z Z Z<|Nt<|Zy Z<|Sr<|At Z Z<|Zo<|Zu<|?_
  refine rR [_,_,_,_] L (.t1 Z) Z (h1.t h2|>.t h3|>.t h4|>.t h5|>.t h6|>.t h7) fun _ hS2=>?_
  exact ⟨rfl,rfl⟩
 refine Zg Z Z<|Zqm Z Z<|Zg Z Z<|Jc Z Z Z (qtD D _ _ _ _ _) ?_
 rintro _ _ s10 h10 ⟨rfl,rfl⟩
 refine Zg Z Z<|qcQ Z Z<|ZqF Z Z Z<|Zqm Z Z<|?_
 refine qb2 (t:=48) Z (fun c11=>?_) (fun c11=>?_)
 ·
  refine Wf Y4<|Wf Y4<|Wf Y4<|ZqT Z Z Z<|Nt<|Zy Z<|Sr<|At Z Z<|Zo<|Zu<|?_
  refine rR [_,_,_,_] L (.t1 Z) Z (h1.t h2|>.t h3|>.t h4|>.t h5|>.t h6|>.t h7|>.t h10) fun _ hS2=>?_
  exact ⟨rfl,rfl⟩
 refine Zg Z Z<|Zqm Z Z<|Zg Z Z<|Ws Y4<|Zg Z Z<|qdP Z Z Z<|ZqF Z Z Z<|Nt<|?_
 refine qab Z (fun c12=>?_) (fun c12=>?_)
 ·
  refine Sr<|At Z Z<|Zo<|Zu<|?_
  refine rR [_,_,_,_] L (.t1 Z) Z (h1.t h2|>.t h3|>.t h4|>.t h5|>.t h6|>.t h7|>.t h10) fun _ hS2=>?_
  exact ⟨rfl,rfl⟩
 have hrn:(qck t codes).1=0:=by omega
 have hga:(qdA t tx).1=0:=by omega
 have hk9:0≤k∧k≤2000:=by omega
 have hi9:i.length≤2000:=by omega
 obtain ⟨ht0,hlen9,hz⟩:=ql8 hrn
 have hGt:=qoc hA ht0
 obtain ⟨_,hshort,hall⟩:=qob hcl hga
 have hRR:=qtM hrn
 have hu0:=qss hrn
 have hGu:TabG (rcT t codes):=by rw [hRR] at hN6;exact qoc hN6 hu0
 refine Zk<|Zt<|Zs<|Zs<|qbH qaf 8 Z _ (fun _ h=>h) ?_
 intro s13 h13
 refine za 0 Z (qad 3 [_,_] Z Z Z Z Z) Z<|za 1 Z (qao Z) Z<|za 2 Z (qad 3 [_,_] Z Z Z Z Z) Z<|za 3 Z (qao Z) Z<|za 5 Z (qao Z) Z<|za 6 Z (qao Z) Z<|qah 4 V<|Jb Z Tt Z Z Z (qnj D _ _ t _ _ _ (hA.le (h1.t h2|>.t h3|>.t h4|>.t h5|>.t h6|>.t h7|>.t h10|>.t h13)) tx O (fun rs h=>by have h9:=qiA hGt hall rs h;have h8:=hGt.cells;omega)) ?_
 rintro _ _ s14 h14 ⟨rfl,A9,n9,c9,rs,rfl,hBo,hrs⟩
 refine ⟨fun _ _ h=>h,?_⟩
 obtain ⟨hau,hHW⟩:=qmn hGt hGu ht0 hu0 hlen9 hrs hga
 have hlw:((qjq t tx).length:Int)≤t.cells:=by rw [← hHW.len.2];exact qiA hGt hall rs hrs
 refine qah 7 V<|Jb Z Tt Z Z Z (qkr D _ _ _ _ _ _ (hA.le (h1.t h2|>.t h3|>.t h4|>.t h5|>.t h6|>.t h7|>.t h10|>.t h13|>.t h14)) _ _ _ _ (hW5.le (h7.t h10|>.t h13|>.t h14)) _ _ _ _ (hIn.le (h1.t h2|>.t h3|>.t h4|>.t h5|>.t h6|>.t h7|>.t h10|>.t h13|>.t h14)) hGt hlw O _ _ _ _ (hBo.le (Lr D)) k O) ?_
 rintro _ _ s15 h15 ⟨rfl,rfl⟩
 refine ⟨fun _ _ h=>h,?_⟩
 refine qac V<|Zt ?_
 refine qcW Z (fun c16=>?_) (fun c16=>?_)
 ·
  have htt:=c16
  refine Sr<|At Z Z<|Zo<|Zu<|?_
  refine rR [_,_,_,_] L (.t1 Z) Z (h1.t h2|>.t h3|>.t h4|>.t h5|>.t h6|>.t h7|>.t h10|>.t h13|>.t h14|>.t h15) fun _ hS2=>?_
  exact ⟨rfl,rfl⟩
 have htt:=c16
 have hex:qey (qcv t codes) (qjq (qcv t codes) tx) i k=qey t (qjq t tx) i k:=by
   rw [hRR,qjA ht0 hlw O O,qjA hu0 (by rw [hHW.len.1];exact hlw) O O,qkT hGt hGu hHW hlw O hW5.u32 (by simpa using htt)]
 have he0:(qey t (qjq t tx) i k).2.1=0:=by rw [qjA ht0 hlw O O]
 refine Zk<|Zt<|Sr<|qae (qad 2 [_,_] Z Z Z Z Z) Z<|Zqm Z Z<|Jc Z Z Z (qec D _ _ (hG.le (h1.t h2|>.t h3|>.t h4|>.t h5|>.t h6|>.t h7|>.t h10|>.t h13|>.t h14|>.t h15)) (qcv t codes) _ _ _ (hN6.le (h4.t h5|>.t h6|>.t h7|>.t h10|>.t h13|>.t h14|>.t h15)) tx) ?_
 rintro _ _ s17 h17 ⟨rfl,A7,n7,c7,rfl,hW7⟩
 refine Zqm Z Z<|Zqx Z Z Z<|Zqx Z Z Z<|qag Z [_,_] Z Z ?_
 intro β18 s18 h18
 refine Zqa Z Z<|Wt 0 [_,_] Y9<|Nt<|Sr<|qae (qad 4 [_,_] Z Z Z Z Z) Z<|Zqm Z Z<|Zqm Z Z<|Zqm Z Z<|Jc Z Z Z (qgR D _ _ _ _ _ _ (hA.le (h1.t h2|>.t h3|>.t h4|>.t h5|>.t h6|>.t h7|>.t h10|>.t h13|>.t h14|>.t h15|>.t h17|>.t h18)) _ _ _ _ (hW5.le (h7.t h10|>.t h13|>.t h14|>.t h15|>.t h17|>.t h18)) _ _ _ _ (hIn.le (h1.t h2|>.t h3|>.t h4|>.t h5|>.t h6|>.t h7|>.t h10|>.t h13|>.t h14|>.t h15|>.t h17|>.t h18)) k) ?_
 rintro _ _ s19 h19 ⟨rfl,_,⟨Ae,ne,ce,rfl,hOe⟩,rfl⟩
 refine Zqm Z Z<|Zqx Z Z Z<|Zqx Z Z Z<|qag Z [_,_,_,_] Z Z ?_
 intro β20 s20 h20
 refine qag Z [_,_] Z Z ?_
 intro β21 s21 h21
 refine Wt 1 [_,_,_,_] Y9<|Wt 0 [_,_] Y9<|Nt<|Sr<|qae (qad 5 [_,_] Z Z Z Z Z) Z<|Zqm Z Z<|Zqm Z Z<|Zqm Z Z<|Jc Z Z Z (qgR D _ _ (qcv t codes) _ _ _ (hN6.le (h4.t h5|>.t h6|>.t h7|>.t h10|>.t h13|>.t h14|>.t h15|>.t h17|>.t h18|>.t h19|>.t h20|>.t h21)) _ _ _ _ (hW7.le (h18.t h19|>.t h20|>.t h21)) _ _ _ _ (hIn.le (h1.t h2|>.t h3|>.t h4|>.t h5|>.t h6|>.t h7|>.t h10|>.t h13|>.t h14|>.t h15|>.t h17|>.t h18|>.t h19|>.t h20|>.t h21)) k) ?_
 rintro _ _ s22 h22 ⟨rfl,_,⟨Ad,nd,cd,rfl,hOd⟩,rfl⟩
 refine Zqm Z Z<|Zqx Z Z Z<|Zqx Z Z Z<|qag Z [_,_,_,_] Z Z ?_
 intro β23 s23 h23
 refine qag Z [_,_] Z Z ?_
 intro β24 s24 h24
 refine Wt 1 [_,_,_,_] Y9<|Wt 0 [_,_] Y9<|Nt<|Sr<|W0 Y5<|Wl 4 Y6<|qae (qav (v':=.bool true) (qil Z Z) (bT (by rw [hRR];exact hau))) Z<|Zqm Z Z<|Zg Z Z<|W0 Y5<|Zg Z Z<|Wl 2 Y6<|Zg Z Z<|qae (qav (v':=.bool true) (qil Z Z) (bT he0)) Z<|ZqT Z Z Z<|Zqm Z Z<|Zg Z Z<|W0 Y5<|Zg Z Z<|Wl 0 Y6<|Zg Z Z<|qae (qav (v':=.bool true) (qil Z Z) (bT (by rw [hex];exact he0))) Z<|ZqT Z Z Z<|Zqm Z Z<|Zg Z Z<|?_
 refine qae (qad 3 [_,_,_,_] Z Z Z Z Z) Z<|Zg Z Z<|qae (qad 1 [_,_,_,_] Z Z Z Z Z) Z<|Zg Z Z<|Jc Z Z Z (AC.isT (qgF D _ _ _ _ _ _ (hOe.le (h20.t h21|>.t h22|>.t h23|>.t h24)) _ _ _ _ (hOd.le (h23.t h24)) _ _ _ _ _ _) (by rw [hex];exact ⟨Z,Z,Z,Z⟩)) ?_
 rintro _ _ s25 h25 ⟨rfl,rfl⟩
 refine ZqT Z Z Z<|At Z Z<|Zo<|?_
 refine rR [_,_,_,_,_,_,_,_,_] L (.t1 Z) Z (h1.t h2|>.t h3|>.t h4|>.t h5|>.t h6|>.t h7|>.t h10|>.t h13|>.t h14|>.t h15|>.t h17|>.t h18|>.t h19|>.t h20|>.t h21|>.t h22|>.t h23|>.t h24|>.t h25) fun _ hS2=>?_
 exact ⟨rfl,rfl⟩
end Go.Proofs.YtjindleklapakaaGreatDoor
namespace Go.Proofs.YtjindleklapakaaGreatDoor
open Go.Proofs.Tryz
open Go Go.FL Go.ChangeShapes Go.WideShapes Go.ChangeAt Go.RowKit Go.Deep
theorem qna:ownKnob prog.godebug=none:=by kernel_rfl
theorem qoC:laidOutB prog=true:=by kernel_rfl
theorem qmu(l:List Obj):∃ D,∀ E,D≤E→∀ o∈l,o≠dum E:=by
 induction l with
 | nil=>exact ⟨0,fun _ _ _ h=>by cases h⟩
 | cons x l ih=>
  obtain ⟨D,hD⟩:=ih
  have hx:∃ B,∀ E,B≤E→x≠dum E:=by
   cases x with
   | mapIter a n b c=>exact ⟨n+1,fun E hE h=>by simp only [dum,Obj.mapIter.injEq] at h;omega⟩
   | _=>exact ⟨0,fun E _ h=>by simp [dum] at h⟩
  obtain ⟨B,hB⟩:=hx
  refine ⟨max D B,fun E hE o ho=>?_⟩
  rcases List.mem_cons.1 ho with rfl | ho
  · exact hB E O
  · exact hD E O o ho
theorem qky(W:World):∃ D,∀ k:Nat,W.heap[k]?≠some (dum D):=by
 obtain ⟨D,hD⟩:=qmu W.heap.toList
 refine ⟨D,fun k hk=>hD D (Nat.le_refl _) (dum D) ?_ Z⟩
 rw [← Array.getElem?_toList] at hk
 exact List.mem_of_getElem? hk
theorem qnn{D:Nat}{W W':World}(hD:∀ k:Nat,W.heap[k]?≠some (dum D))(h:Le D W W'):Below W.heap.size W W':=
 ⟨h.os,h.tape,h.output,h.size,fun k hk=>(h.block k hk).resolve_left (hD k)⟩
theorem qmw{P:Program}{f:FuncId}{args:List Value}{W:World}(h:∀ D,AC P D f args [] W fun v L' _=>v=.bool true∧[]=L') :
  Calls P f args.toArray W fun e W'=>e=.returned (.bool true)∧Below W.heap.size W W':=by
 obtain ⟨D,hD⟩:=qky W
 refine ((h D).2 ⟨by simp,fun x hx=>by cases hx⟩).mono ?_
 rintro e w' ⟨v,L',s',h1,rfl,h3,h4,rfl,rfl⟩
 exact ⟨h1,qnn hD h4⟩
section
variable{H:Type}{enc:TypeId×Value→H}{P:Program}
theorem qeY{W W':World}(hl:laidOutB P=true)(hb:Below W.heap.size W W'):∀ {ts:List TypeId} {vs:List Value} {ds:List (DataW H)} {ps:List MemPlace},(∀ t∈ts,P.readableRec t=true∧t < P.types.size)→(∀ x∈ps,x.block < W.heap.size) →
  DataW.TrodAll enc P W 0 (fun _=>true) true ts vs ds ps→DataW.TrodAll enc P W' 0 (fun b=>decide (b < W.heap.size)) true ts vs ds ps
 | [],_,_,_,_,_,h=>by
  obtain ⟨rfl,rfl,rfl⟩:=trodAll_nil h
  exact trodAll_mk0
 | t::ts,_,_,_,hts,hp,h=>by
  obtain ⟨v,vs,d,ds,a,b,rfl,rfl,rfl,h1,h2⟩:=trodAll_cons h
  have ht:=hts t Mc
  exact trodAll_cons_mk (Below.trod hl ht.1 ht.2 h1 hb fun x hx=>hp x (List.mem_append_left _ hx)) (qeY hl hb (fun t' h'=>hts t' (List.mem_cons_of_mem _ h')) (fun x hx=>hp x (List.mem_append_right _ hx)) h2)
theorem qng{fn:Func}{s:ChangeSpec}{W W':World}{args:Array Value}{ds gs:List (DataW H)}{before:List MemPlace}{tb:TypeId}(hl:laidOutB P=true)(hts:∀ t∈fn.params.toList,P.readableRec t=true∧t < P.types.size)(hr:fn.resultTypes=#[tb])(hb:P.underlying tb=some .bool)
  (hv:s.vars=[]) (hW:DataW.Whole enc P fn.params.toList s.vars false W args.toList ds gs before) (hfn:s.fn H ds={ results:=[.lit (.bool true)],args:=ds }) (hB:Below W.heap.size W W'):s.post enc P fn false true false false W args (.bool true) W':=by
 have hlt:∀ x∈before,x.block < W.heap.size:=fun x hx=>hW.lt x hx
 have hW':=hW
 obtain ⟨p,q,hA,hV,rfl,_,_⟩:=hW
 rw [hv] at hV
 obtain ⟨rfl,rfl⟩:=trodVars_none hV
 refine ⟨ds,[],p++[],[],p,[],hW',?_,?_,?_,hB.frame _,fun h=>by cases h⟩
 · rw [List.append_nil,hfn,hr];exact trodAll_cons_mk (shut_bool hb _) trodAll_mk0
 · rw [List.append_nil,hfn];exact qeY hl hB hts (fun x hx=>hlt x (List.mem_append_left _ hx)) hA
 · rw [List.append_nil,hfn,hv];rfl
end
def Rd(W:World)(t:TypeId)(cs:List Value):Prop:=∃ (H:Type) (enc:TypeId×Value→H) (n:Nat) (x:DataW H×List MemPlace),DataW.trod enc prog W 0 (fun _=>true) true n t cs=some x
section
variable{W:World}{t e:TypeId}{cs:List Value}
theorem qfQ{k:IntKind}(ht:prog.underlying t=some (.int k))(h:Rd W t cs):∃ n,cs=[.int k n]∧(Lit.int k n).wf=true:=by
 obtain ⟨H,enc,n,x,h⟩:=h
 obtain ⟨i,h1,_,h2⟩:=DataW.trod_int ht h
 exact ⟨i,h1,h2⟩
theorem qqq(ht:prog.underlying t=some .bool)(h:Rd W t cs):∃ b,cs=[.bool b]:=by
 obtain ⟨H,enc,n,x,h⟩:=h
 obtain ⟨i,h1,_⟩:=DataW.trod_bool ht h
 exact ⟨i,h1⟩
theorem qpl(ht:prog.underlying t=some .string)(h:Rd W t cs):∃ l:List UInt8,cs=[St l]∧l.length≤9223372036854775807:=by
 obtain ⟨H,enc,n,x,h⟩:=h
 obtain ⟨s,h1,_,h2⟩:=DataW.trod_string ht h
 refine ⟨s.data.toList,by rw [h1],?_⟩
 have:s.data.toList.length=s.size:=by rw [Array.length_toList];rfl
 simp only [maxLen] at h2
 omega
theorem qfX{fs:Array Field}(ht:prog.underlying t=some (.struct fs))(h:Rd W t cs){sz:Nat}(hc:prog.cellsOf t=sz):cs.length=sz∧∀ (i:Nat) (f:Field),fs[i]?=some f→∀ (ty off n:Nat),f.type=ty→f.offset=off→prog.cellsOf ty=n→Rd W ty ((cs.drop off).take n):=by
 obtain ⟨H,enc,n,x,h⟩:=h
 obtain ⟨xs,m,_,_,h1,h2,h3⟩:=DataW.trod_struct ht h
 refine ⟨h1.trans hc,fun i f hf ty off k e1 e2 e3=>?_⟩
 have hi:i < xs.length:=by rw [h2];exact (Array.getElem?_eq_some_iff.1 hf).1
 have:=h3 i f hf
 rw [List.getElem?_eq_getElem hi,e1,e2,e3] at this
 exact ⟨H,enc,m,_,this⟩
theorem qox{sz:Nat}(ht:prog.underlying t=some (.slice e))(hc:prog.cellsOf e=sz)(hp:0 < sz)(h:Rd W t cs):∃ A n c,cs=[.slice A n c]∧n≤c∧c≤9223372036854775807 ∧
    ∀ i,i < n→∃ b off ds,A=some ⟨b,off,none⟩∧CellsAt W b (off+i * sz) ds∧ds.length=sz∧Rd W e ds:=by
  obtain ⟨H,enc,q,x,h⟩:=h
  rcases open_slice ht h with ⟨rfl,_⟩ | ⟨a,len,cap,m,k,D,Pl,rfl,_,h1,h2,h3,_,h4⟩
  · exact ⟨none,0,0,rfl,Nat.le_refl _,by omega,fun i hi=>by omega⟩
  · simp only [maxLen] at h2
    refine ⟨some a,len,cap,Z,h1,by omega,fun i hi=>?_⟩
    obtain ⟨ds,k1,k2⟩:=h4 i (by simp at h3;omega)
    rw [hc] at k1
    obtain ⟨_,k3,k4⟩:=World.cells?_some k1
    obtain ⟨b,off,spot⟩:=a
    have hs:spot=none:=by
      obtain ⟨ds0,j1,_⟩:=h4 0 (by simp at h3;omega)
      rw [hc,Nat.zero_mul] at j1
      obtain ⟨_,j3,j4⟩:=World.cells?_some j1
      have:=j4 0 hp
      rw [List.getElem?_eq_getElem O] at this
      simpa [Addr.add] using World.cell?_spot this
    subst hs
    refine ⟨b,off,ds,Z,fun j v hj=>?_,k3,H,enc,k,_,k2⟩
    have hl:j < sz:=by rw [← k3];exact (List.getElem?_eq_some_iff.1 hj).1
    have:=k4 j hl
    rw [hj,add_lit,add_lit] at this
    exact this
theorem qnQ{α:Type} [Inhabited α] {R:World→α→List Value→Prop} {sz:Nat} (ht:prog.underlying t=some (.slice e)) (hc:prog.cellsOf e=sz) (hp:0 < sz) (h:Rd W t cs) (hel:∀ ds,Rd W e ds→∃ x:α,R W x ds):∃ A n c l,cs=[.slice A n c]∧Sl sz R W A n c l:=by
 obtain ⟨A,n,c,h1,h2,h3,h4⟩:=qox ht hc hp h
 obtain ⟨f,hf⟩:=choose_lt (α:=α) (p:=fun i x=>∃ b off ds,A=some ⟨b,off,none⟩∧CellsAt W b (off+i * sz) ds∧ds.length=sz∧R W x ds) (n:=n) (fun i hi=>by
  obtain ⟨b,off,ds,k1,k2,k3,k4⟩:=h4 i hi
  obtain ⟨x,hx⟩:=hel ds k4
  exact ⟨x,b,off,ds,k1,k2,k3,hx⟩)
 refine ⟨A,n,c,(List.range n).map f,h1,by simp,h2,h3,fun i x hi=>?_⟩
 rw [List.getElem?_map] at hi
 cases hr:(List.range n)[i]? with
 | none=>simp [hr] at hi
 | some j=>
  simp [hr] at hi
  obtain ⟨hi1,hi2⟩:=List.getElem?_eq_some_iff.1 hr
  simp at hi1 hi2
  subst hi2;subst hi
  exact hf i hi1
theorem len2{l:List Value}(h:l.length=2):∃ a b,l=[a,b]:=by match l,h with | [a,b],_=>exact ⟨a,b,rfl⟩
theorem len4{l:List Value}(h:l.length=4):∃ a b c d,l=[a,b,c,d]:=by match l,h with | [a,b,c,d],_=>exact ⟨a,b,c,d,rfl⟩
theorem len6{l:List Value}(h:l.length=6):∃ a b c d e f,l=[a,b,c,d,e,f]:=by match l,h with | [a,b,c,d,e,f],_=>exact ⟨a,b,c,d,e,f,rfl⟩
theorem qc0{a b:Value}(h:[a]=[b]):a=b:=by injection h
theorem qmH{n:Int}(h:(Lit.int .u32 n).wf=true):U32 n:=by have:=bounds_u32 h;exact ⟨by omega,by omega⟩
end
open Go Go.FL Go.ChangeShapes Go.WideShapes Go.ChangeAt Go.RowKit
set_option maxRecDepth 100000
instance:Inhabited Ac:=⟨⟨0,0,⟨0,0⟩,⟨0,0⟩⟩⟩
instance:Inhabited Ins:=⟨⟨[],0,false,[]⟩⟩
theorem qpa:prog.cellsOf 3=1:=by kernel_rfl
theorem qpM:prog.cellsOf 38=1:=by kernel_rfl
theorem c_u8:prog.cellsOf 5=1:=by kernel_rfl
theorem qtm:prog.cellsOf 4=1:=by kernel_rfl
theorem qtV:prog.cellsOf 9=1:=by kernel_rfl
theorem qlm:prog.cellsOf 70=2:=by kernel_rfl
theorem qsx:prog.cellsOf 72=6:=by kernel_rfl
theorem qtz:prog.cellsOf 64=1:=by kernel_rfl
theorem qtn:prog.cellsOf 66=4:=by kernel_rfl
theorem qsQ:prog.cellsOf 22=1:=by kernel_rfl
theorem qtN:prog.cellsOf 24=2:=by kernel_rfl
section
variable{W:World}{cs:List Value}
theorem qmT(h:Rd W 70 cs):∃ x:Tm,cs=[.int .i64 x.kind,.int .u32 x.val]∧U32 x.val:=by
 obtain ⟨h1,h2⟩:=qfX underlying70 h qlm
 obtain ⟨a,b,rfl⟩:=len2 h1
 obtain ⟨k,e1,_⟩:=qfQ underlying3 (h2 0 _ rfl _ _ _ rfl rfl qpa)
 obtain ⟨v,e2,w2⟩:=qfQ underlying38 (h2 1 _ rfl _ _ _ rfl rfl qpM)
 have z1:a=.int .i64 k:=qc0 e1
 have z2:b=.int .u32 v:=qc0 e2
 subst z1;subst z2
 exact ⟨⟨k,v⟩,rfl,qmH w2⟩
theorem qk1(h:Rd W 72 cs):∃ a:Ac,cs=a.cs∧U32 a.x.val∧U32 a.y.val:=by
 obtain ⟨h1,h2⟩:=qfX underlying72 h qsx
 obtain ⟨a,b,c,d,e,f,rfl⟩:=len6 h1
 obtain ⟨k,e1,_⟩:=qfQ underlying3 (h2 0 _ rfl _ _ _ rfl rfl qpa)
 obtain ⟨t,e2,_⟩:=qfQ underlying3 (h2 1 _ rfl _ _ _ rfl rfl qpa)
 obtain ⟨x,e3,wx⟩:=qmT (h2 2 _ rfl _ _ _ rfl rfl qlm)
 obtain ⟨y,e4,wy⟩:=qmT (h2 3 _ rfl _ _ _ rfl rfl qlm)
 have z1:a=.int .i64 k:=qc0 e1
 have z2:b=.int .i64 t:=qc0 e2
 have y3:[c,d]=[.int .i64 x.kind,.int .u32 x.val]:=e3
 have y4:[e,f]=[.int .i64 y.kind,.int .u32 y.val]:=e4
 injection y3 with z3 x3'
 injection y4 with z4 x4'
 have z3':d=.int .u32 x.val:=qc0 x3'
 have z4':f=.int .u32 y.val:=qc0 x4'
 subst z1;subst z2;subst z3;subst z3';subst z4;subst z4'
 exact ⟨⟨k,t,x,y⟩,rfl,wx,wy⟩
theorem qqT(h:Rd W 64 cs):∃ A n c l,cs=[.slice A n c]∧Acs W A n c l:=qnQ underlying64 qsx Dc h fun _ hd=>qk1 hd
theorem qtw(h:Rd W 66 cs):∃ x:Ins,InsR W x cs:=by
 obtain ⟨h1,h2⟩:=qfX underlying66 h qtn
 obtain ⟨a,b,c,d,rfl⟩:=len4 h1
 obtain ⟨l,e1,w1⟩:=qpl underlying9 (h2 0 _ rfl _ _ _ rfl rfl qtV)
 obtain ⟨v,e2,w2⟩:=qfQ underlying38 (h2 1 _ rfl _ _ _ rfl rfl qpM)
 obtain ⟨o,e3⟩:=qqq underlying4 (h2 2 _ rfl _ _ _ rfl rfl qtm)
 obtain ⟨A,n,q,la,e4,w4⟩:=qqT (h2 3 _ rfl _ _ _ rfl rfl qtz)
 have z1:a=St l:=qc0 e1
 have z2:b=.int .u32 v:=qc0 e2
 have z3:c=.bool o:=qc0 e3
 have z4:d=.slice A n q:=qc0 e4
 subst z1;subst z2;subst z3;subst z4
 exact ⟨⟨l,v,o,la⟩,A,n,q,rfl,w4,w1,qmH w2⟩
theorem qqf(h:Rd W 22 cs):∃ A n c l,cs=[.slice A n c]∧Inss W A n c l:=qnQ underlying22 qtn Dc h fun _ hd=>qtw hd
theorem qnd(h:Rd W 25 cs):∃ A n c l,cs=[.slice A n c]∧Wds W A n c l:=qnQ underlying25 qpM Dc h fun _ hd=>by
 obtain ⟨n,h1,h2⟩:=qfQ underlying38 hd
 exact ⟨n,h1,qmH h2⟩
theorem qo6(h:Rd W 26 cs):∃ A n c l,cs=[.slice A n c]∧Bts W A n c l:=qnQ underlying26 c_u8 Dc h fun _ hd=>by
 obtain ⟨n,h1,h2⟩:=qfQ underlying5 hd
 have:=bounds_u8 h2
 refine ⟨UInt8.ofNat n.toNat,h1.trans ?_⟩
 have e:((UInt8.ofNat n.toNat).toNat:Int)=n:=by simp [UInt8.toNat_ofNat'];omega
 rw [e]
theorem qn5(h:Rd W 24 cs):∃ (t:Tab) (A:Option Addr) (n c:Nat),cs=[.int .i64 t.cells,.slice A n c]∧Inss W A n c t.ins:=by
 obtain ⟨h1,h2⟩:=qfX underlying24 h qtN
 obtain ⟨a,b,rfl⟩:=len2 h1
 obtain ⟨k,e1,_⟩:=qfQ underlying3 (h2 0 _ rfl _ _ _ rfl rfl qpa)
 obtain ⟨A,n,c,l,e2,w2⟩:=qqf (h2 1 _ rfl _ _ _ rfl rfl qsQ)
 have z1:a=.int .i64 k:=qc0 e1
 have z2:b=.slice A n c:=qc0 e2
 subst z1;subst z2
 exact ⟨⟨k,l⟩,A,n,c,rfl,w2⟩
end
section
variable{H:Type}{enc:TypeId×Value→H}{W:World}{base:Nat}{v:Value}{d:DataW H}{ps:List MemPlace}
theorem qoX{t:TypeId}(hd:DataW.Trod enc prog W 0 (fun _=>true) true t v d ps):Rd W t v.cells.toList:=by
 obtain ⟨n,h⟩:=hd
 exact ⟨H,enc,n,_,h⟩
theorem qtg{t:TypeId}{fs:Array Field}(ht:prog.underlying t=some (.struct fs))(hv:Value.okWide prog W .any base t v):∃ cs,v=.agg cs:=by
 unfold Value.okWide at hv
 rw [ht] at hv
 obtain ⟨cs,h,_⟩:=hv
 exact ⟨cs,h⟩
theorem qkY(hv:Value.okWide prog W .any base 24 v)(hd:DataW.Trod enc prog W 0 (fun _=>true) true 24 v d ps):∃ (t:Tab) (A:Option Addr) (n c:Nat),v=.agg #[.int .i64 t.cells,.slice A n c]∧Inss W A n c t.ins:=by
 obtain ⟨cs,rfl⟩:=qtg underlying24 hv
 obtain ⟨t,A,n,c,h1,h2⟩:=qn5 (qoX hd)
 refine ⟨t,A,n,c,?_,h2⟩
 simp only [Value.cells] at h1
 rw [← h1]
theorem qk0{t e:TypeId}(ht:prog.underlying t=some (.slice e))(hv:Value.okWide prog W .any base t v):v.cells.toList=[v]:=by
 unfold Value.okWide at hv
 rw [ht] at hv
 simp only [Cell.okWide] at hv
 cases v <;> simp_all [Value.cells,Cell.ok]
theorem qmA(hv:Value.okWide prog W .any base 25 v)(hd:DataW.Trod enc prog W 0 (fun _=>true) true 25 v d ps):∃ A n c l,v=.slice A n c∧Wds W A n c l:=by
 obtain ⟨A,n,c,l,h1,h2⟩:=qnd (qoX hd)
 rw [qk0 underlying25 hv] at h1
 exact ⟨A,n,c,l,qc0 h1,h2⟩
theorem qlg(hv:Value.okWide prog W .any base 26 v)(hd:DataW.Trod enc prog W 0 (fun _=>true) true 26 v d ps):∃ A n c l,v=.slice A n c∧Bts W A n c l:=by
 obtain ⟨A,n,c,l,h1,h2⟩:=qo6 (qoX hd)
 rw [qk0 underlying26 hv] at h1
 exact ⟨A,n,c,l,qc0 h1,h2⟩
end
open Go Go.FL Go.RowKit
theorem qlW(u:TypeId)(hu:prog.typeName? 3 u=prog.typeName? 3 229):u=229:=
 have hn:prog.typeName? 3 229=some ("*" ++ "errors.errorString"):=by kernel_rfl
 typeName_ptr_named (nm := "errors.errorString") V V Dc u (hu.trans hn)
theorem qtC{W:World}{nm:String}{g:Nat}{cs:Array Value}(hg:prog.globalNamed nm=some g)(h:W.var? prog nm=some cs):∃ ty fz,W.heap[g]?=some (.cells cs ty fz):=by
  unfold World.var? at h
  rw [hg] at h
  simp only [Option.bind_some] at h
  split at h
  · rename_i c t f hb
    injection h with h
    subst h
    exact ⟨t,f,hb⟩
  · cases h
theorem qtX{W:World}(h:laidMetH prog Rows.asmRenumberedTextsRunAlikeRow.laid W):GW W:=by
 rw [MakeChecks.laidMetH_plain _ _ _ V] at h
 have h2:=h.tail.tail
 have hpow:=Lib.tabIs_of_head (zs:=Lib.pow10Tab) (k:=.u64) (g:=0) V V underlying202 underlying116 V V h2
 have h4:=h2.tail.tail
 obtain ⟨a1,s1,hv1,_⟩:=laid_sentinel (g:=7) h4 V V underlying106 (fun u hu=>qlW u (hu.trans V)) underlying229 underlying231 rfl rfl underlying9 V V
 obtain ⟨a2,s2,hv2,_⟩:=laid_sentinel (g:=6) h4.tail V V underlying106 (fun u hu=>qlW u (hu.trans V)) underlying229 underlying231 rfl rfl underlying9 V V
 refine ⟨?_,?_,?_⟩
 · exact qtC (g:=0) V hpow
 · exact ⟨_,_,World.var?_cell (g:=6) V hv2 0⟩
 · exact ⟨_,_,World.var?_cell (g:=7) V hv1 0⟩
set_option maxRecDepth 100000
section
variable{H:Type}{enc:TypeId×Value→H}{W:World}{base:Nat}{v:Value}{d:DataW H}{ps:List MemPlace}
theorem qsi(hv:Value.okWide Tryz.prog W .any base 9 v)(hd:DataW.Trod enc Tryz.prog W 0 (fun _=>true) true 9 v d ps):∃ l,v=St l∧l.length≤9223372036854775807:=by
 obtain ⟨x,h1,h2⟩:=qpl Tryz.underlying9 (qoX hd)
 obtain ⟨u,rfl⟩:=okWide_string Tryz.underlying9 hv
 exact ⟨x,qc0 h1,h2⟩
end
end Go.Proofs.YtjindleklapakaaGreatDoor
