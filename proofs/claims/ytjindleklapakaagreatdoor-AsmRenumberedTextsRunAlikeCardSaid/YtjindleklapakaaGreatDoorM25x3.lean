/- Part 3. -/
import Derived.Test.YtjindleklapakaaGreatDoorM25x2
import Derived.Lib.AppendStr
import Derived.Laws.IdiomStrings
import Derived.WideLaws
import Derived.Laws.OwnMore
set_option linter.unusedVariables false
set_option linter.unusedSimpArgs false
set_option linter.unnecessarySimpa false
set_option maxRecDepth 100000
set_option maxHeartbeats 8000000
namespace Go.Proofs.YtjindleklapakaaGreatDoor
open Go.FL
attribute [local irreducible] JC JO JA JB qa7 qaP qdj AC fill CellsAt QE Ev Mid
theorem qpC(D:Nat)(L:Hl)(s:World)(bm:Nat)(Ax:Option Addr)(nx cx:Nat)(sm:List Int)(hsm:sm.length=256)(bq:Nat)(es:List (Int×Value×Nat))(ck:Nat)(op:Int)(m:Mst)(M:Hl)(hM:qiI bm (.slice Ax nx cx) sm bq es ck op m M s)(a:Ac)(ba oa:Nat)(hca:CellsAt s ba oa [.int .i64 a.kind,.int .i64 a.tgt,.int .i64 a.x.kind,.int .u32 a.x.val,.int .i64 a.y.kind,.int .u32 a.y.val])(hok:MOK m)(hop:U32 op)(ha:AcOK a):AC Tryz.prog D 82 [.pointer (some ⟨bm,0,none⟩),.pointer (some ⟨ba,oa,none⟩)] (M++L) s fun v L' s'=>∃ M',L'=M'++L∧v=.tuple #[]∧qiI bm (.slice Ax nx cx) sm bq es ck op (qbj m a op) M' s':=by
 obtain ⟨bc,cc,yc,Oq9,Ao,co,Ai,ni,ci,rfl,hO,hI,hcc,hcc2⟩:=hM
 have hux:=qea hok hop ha.ux
 have huy:=qea hok hop ha.uy
 have hux1:=hux.1
 have hux2:=hux.2
 have hnc:=hok.cells
 have hni:=hI.1
 have hno:=hok.output
 simp only [List.cons_append]
 refine qai (fn:=Tryz.f82) qaG Tryz.func82 V Z Tryz.ntmps82 Z (rs:=[]) Z [(0,_),(1,_)] Z<|Sr<|qjE Z Z Z ?_
 intro β1 s1 h1
 refine qjE Z Z Z ?_
 intro β2 s2 h2
 refine Nt<|Zs<|qbH qaf 14 Z _ (fun _ h=>h) ?_
 intro s3 h3
 refine za 0 Z (Wd 1 Y5) Z<|za 1 Z (Wd 0 Y5) Z<|za 2 Z (qau Z) Z<|za 3 Z (qdh Z Z Z Z) Z<|za 4 Z (qbG Z Z Z (CellsAt.sub (us:=[_,_]) 2 (hca.le (h1.t h2|>.t h3)) Z) Z) Z<|za 6 Z (Wd 1 Y5) Z<|za 7 Z (Wd 0 Y5) Z<|za 8 Z (qau Z) Z<|za 9 Z (qdh Z Z Z Z) Z<|za 10 Z (qbG Z Z Z (CellsAt.sub (us:=[_,_]) 4 (hca.le (h1.t h2|>.t h3)) Z) Z) Z<|qah 5 V<|Jb Z Tt Z Z Z (AC.mid [_,_] [_] _ (qjK D _ _ _ _ _ _ _ _ _ _ _ _ _ _ _ _ _ _ _ hsm a.x ha.x)) ?_
 rintro _ _ s4 h4 ⟨_,rfl,rfl,rfl⟩
 refine ⟨fun _ _ h=>h,?_⟩
 simp only [cQ9,nQ9]
 refine qah 11 V<|Jb Z Tt Z Z Z (AC.mid [_,_] [_] _ (qjK D _ _ _ _ _ _ _ _ _ _ _ _ _ _ _ _ _ _ _ hsm a.y ha.y)) ?_
 rintro _ _ s5 h5 ⟨_,rfl,rfl,rfl⟩
 refine ⟨fun _ _ h=>h,?_⟩
 simp only [cQ9,nQ9]
 refine za 12 Z (qcq Z) Z<|za 13 Z (qcq Z) Z<|qac V<|Zt<|Sr<|qae (qfx Z) Z<|At Z Z<|Sr<|Wl 0 Y6<|qbo Z Z<|W0 Y5<|qae (qaq Z Z Z (hca.le (h1.t h2|>.t h3|>.t h4|>.t h5)) Z) Z<|Nt<|Zp<|Sr<|qaJ Z Z Z<|At Z Z<|?_
 refine qab Z (fun c6=>?_) (fun c6=>?_)
 ·
  refine Zr<|Zqm Z Z<|Zqm Z Z<|qaz (first:=[]) (captured:=[_,_]) Z Z Z (qbC D _ _ _ _ _ _ _ _ _ _ _ _ _ _ _ _ _ _ _ hsm _ a ba oa _ _ (hca.le (h1.t h2|>.t h3|>.t h4|>.t h5)) ha.tgt) ?_
  rintro _ _ s7 h7 ⟨rfl,rfl⟩
  refine Zn<|Zb<|?_
  refine qat [_,_] _ (.inl Z) (.nil) Z (h1.t h2|>.t h3|>.t h4|>.t h5|>.t h7) fun _ hS2=>?_
  refine ⟨_::_::_::Oq9,Z,Z,?_⟩
  rw [qsT As];exact ⟨bc,cc,yc,Oq9,Ao,co,Ai,ni,ci,rfl,hO,hI.le (h1.t h2|>.t h3|>.t h4|>.t h5|>.t h7|>.t hS2),hcc,hcc2⟩
 refine Sr<|qaJ Z Z Z<|At Z Z<|?_
 refine qab Z (fun c8=>?_) (fun c8=>?_)
 ·
  refine Sr<|Zqm Z Z<|qaJ Z Z Z<|Nt<|?_
  refine qab Z (fun c9=>?_) (fun c9=>?_)
  ·
   refine Zr<|Zqm Z Z<|Zqm Z Z<|qaz (first:=[]) (captured:=[_,_]) Z Z Z (qbC D _ _ _ _ _ _ _ _ _ _ _ _ _ _ _ _ _ _ _ hsm _ a ba oa _ _ (hca.le (h1.t h2|>.t h3|>.t h4|>.t h5)) ha.tgt) ?_
   rintro _ _ s10 h10 ⟨rfl,rfl⟩
   refine Zn<|Zb<|?_
   refine qat [_,_] _ (.inl Z) (.nil) Z (h1.t h2|>.t h3|>.t h4|>.t h5|>.t h10) fun _ hS2=>?_
   refine ⟨_::_::_::Oq9,Z,Z,?_⟩
   rw [qrl As As];exact ⟨bc,cc,yc,Oq9,Ao,co,Ai,ni,ci,rfl,hO,hI.le (h1.t h2|>.t h3|>.t h4|>.t h5|>.t h10|>.t hS2),hcc,hcc2⟩
  refine Zk<|Zb<|?_
  refine qat [_,_] _ (.inl Z) (.nil) Z (h1.t h2|>.t h3|>.t h4|>.t h5) fun _ hS2=>?_
  refine ⟨_::_::_::Oq9,Z,Z,?_⟩
  rw [qm6 As As];exact ⟨bc,cc,yc,Oq9,Ao,co,Ai,ni,ci,rfl,hO,hI.le (h1.t h2|>.t h3|>.t h4|>.t h5|>.t hS2),hcc,hcc2⟩
 refine Zs<|Sr<|qaJ Z Z Z<|At Z Z<|?_
 refine qab Z (fun c11=>?_) (fun c11=>?_)
 ·
  refine Zk<|Zt<|?_
  refine qab Z (fun c12=>?_) (fun c12=>?_)
  ·
   refine Zp<|Sr<|Zqm Z Z<|qaJ Z Z Z<|At Z Z<|?_
   refine qab Z (fun c13=>?_) (fun c13=>?_)
   ·
    refine Zr<|Wl 1 Y6<|qbo Z Z<|W0 Y5<|Wb Y5<|qdc 2 (_::_::_::_::_::_::_::_::_::_::_::_) Z Z Z Z Z Z Z Z Z<|Zn<|Zb<|Zb<|?_
    refine qat [_,_] _ (.inl Z) (.nil) Z (h1.t h2|>.t h3|>.t h4|>.t h5) fun _ hS2=>?_
    refine ⟨_::_::_::Oq9,Z,Z,?_⟩
    rw [qqy As As];exact ⟨bc,cc,yc,Oq9,Ao,co,Ai,ni,ci,rfl,hO,hI.le (h1.t h2|>.t h3|>.t h4|>.t h5|>.t hS2),hcc,hcc2⟩
   refine Sr<|Wl 0 Y6<|qbo Z Z<|W0 Y5<|qae (qaq Z Z Z (hca.le (h1.t h2|>.t h3|>.t h4|>.t h5)) Z) Z<|qaJ Z Z Z<|At Z Z<|?_
   refine qab Z (fun c14=>?_) (fun c14=>?_)
   ·
    refine Zr<|Zqm Z Z<|Zqm Z Z<|Zqm Z Z<|qae (qed Z Z As) Z<|qaz (first:=[]) (captured:=[_,_]) Z Z Z (qbC D _ _ _ _ _ _ _ _ _ _ _ _ _ _ _ _ _ _ _ hsm _ a ba oa _ _ (hca.le (h1.t h2|>.t h3|>.t h4|>.t h5)) ha.tgt) ?_
    rintro _ _ s15 h15 ⟨rfl,rfl⟩
    refine Zn<|Zb<|Zb<|?_
    refine qat [_,_] _ (.inl Z) (.nil) Z (h1.t h2|>.t h3|>.t h4|>.t h5|>.t h15) fun _ hS2=>?_
    refine ⟨_::_::_::Oq9,Z,Z,?_⟩
    rw [qtf As As,← quc hux huy,← qc9];exact ⟨bc,cc,yc,Oq9,Ao,co,Ai,ni,ci,rfl,hO,hI.le (h1.t h2|>.t h3|>.t h4|>.t h5|>.t h15|>.t hS2),hcc,hcc2⟩
   refine Zr<|Zqm Z Z<|Zqm Z Z<|Zqm Z Z<|qae (qgY Z Z As) Z<|qaz (first:=[]) (captured:=[_,_]) Z Z Z (qbC D _ _ _ _ _ _ _ _ _ _ _ _ _ _ _ _ _ _ _ hsm _ a ba oa _ _ (hca.le (h1.t h2|>.t h3|>.t h4|>.t h5)) ha.tgt) ?_
   rintro _ _ s16 h16 ⟨rfl,rfl⟩
   refine Zn<|Zb<|Zb<|?_
   refine qat [_,_] _ (.inl Z) (.nil) Z (h1.t h2|>.t h3|>.t h4|>.t h5|>.t h16) fun _ hS2=>?_
   exfalso;omega
  refine Zs<|Sr<|qaJ Z Z Z<|At Z Z<|?_
  refine qab Z (fun c17=>?_) (fun c17=>?_)
  ·
   refine Zk<|Zt<|?_
   refine qab Z (fun c18=>?_) (fun c18=>?_)
   ·
    refine Zp<|Sr<|Wl 1 Y6<|Zqm Z Z<|Jc Z Z Z (AC.mid [_,_] [_] _ (qdI D _ _ _ _ _ _ _ _ _ _ _ _ _ _ _ _ _ _ _ hsm _ hux hnc)) ?_
    rintro _ _ s19 h19 ⟨_,rfl,rfl,rfl⟩
    simp only [cQ9,nQ9]
    refine qcQ Z Z<|At Z Z<|?_
    refine qbc Z (fun c20=>?_) (fun c20=>?_)
    ·
     refine Zr<|Wl 1 Y6<|qbo Z Z<|W0 Y5<|Wb Y5<|qdc 2 (_::_::_::_::_::_::_::_::_::_::_::_) Z Z Z Z Z Z Z Z Z<|Zn<|Zb<|Zb<|?_
     refine qat [_,_] _ (.inl Z) (.nil) Z (h1.t h2|>.t h3|>.t h4|>.t h5|>.t h19) fun _ hS2=>?_
     exfalso;omega
    refine Sr<|Wl 0 Y6<|qbo Z Z<|W0 Y5<|qae (qaq Z Z Z (hca.le (h1.t h2|>.t h3|>.t h4|>.t h5|>.t h19)) Z) Z<|qaJ Z Z Z<|At Z Z<|?_
    refine qab Z (fun c21=>?_) (fun c21=>?_)
    ·
     refine Zr<|Zqm Z Z<|Wl 1 Y6<|qbo Z Z<|W0 Y5<|W0 Y5<|Wl 2 Y6<|Zqm Z Z<|qae (qcb Z Z Z Z Z Z hux1 As) Z<|qae (qbL 3 Z Z Z Z (qcO hux1 As)) Z<|qaz (first:=[]) (captured:=[_,_]) Z Z Z (qbC D _ _ _ _ _ _ _ _ _ _ _ _ _ _ _ _ _ _ _ hsm _ a ba oa _ _ (hca.le (h1.t h2|>.t h3|>.t h4|>.t h5|>.t h19)) ha.tgt) ?_
     rintro _ _ s22 h22 ⟨rfl,rfl⟩
     refine Zn<|Zb<|Zb<|?_
     refine qat [_,_] _ (.inl Z) (.nil) Z (h1.t h2|>.t h3|>.t h4|>.t h5|>.t h19|>.t h22) fun _ hS2=>?_
     exfalso;omega
    refine Zr<|Wl 1 Y6<|qbo Z Z<|W0 Y5<|W0 Y5<|Wl 2 Y6<|Zqm Z Z<|Zqm Z Z<|qae (qcb Z Z Z Z Z Z hux1 As) Z<|qdc 3 _ Z Z Z Z Z (qfn hux1 As) Z (qfC _ hux1 As) Z<|Zn<|Zb<|Zb<|?_
    refine qat [_,_] _ (.inl Z) (.nil) Z (h1.t h2|>.t h3|>.t h4|>.t h5|>.t h19) fun _ hS2=>?_
    exfalso;omega
   refine Sr<|qaJ Z Z Z<|At Z Z<|?_
   refine qab Z (fun c24=>?_) (fun c24=>?_)
   ·
    refine Zs<|Sr<|Wl 1 Y6<|qbo Z Z<|W0 Y5<|Wb Y5<|Wl 2 Y6<|Ws Y4<|qaJ Z Z Z<|Nt<|?_
    refine qab Z (fun c25=>?_) (fun c25=>?_)
    ·
     refine Sr<|Zqm Z Z<|qaz (first:=[]) (captured:=[_,_]) Z Z Z (qbC D _ _ _ _ _ _ _ _ _ _ _ _ _ _ _ _ _ _ _ hsm _ a ba oa _ _ (hca.le (h1.t h2|>.t h3|>.t h4|>.t h5)) ha.tgt) ?_
     rintro _ _ s26 h26 ⟨rfl,rfl⟩
     refine Nt<|Zo<|Zu<|Zc<|?_
     refine rR [_,_] _ (.nil) Z (h1.t h2|>.t h3|>.t h4|>.t h5|>.t h26) fun _ hS2=>?_
     exfalso;omega
    obtain ⟨bi,oi,xi,rfl,hxi,hci⟩:=Bts.at_ (hI.le (h1.t h2|>.t h3|>.t h4|>.t h5)) (show 0 < ni by omega)
    refine Zk<|Zt<|Sr<|Zqm Z Z<|Wl 1 Y6<|qbo Z Z<|W0 Y5<|Wb Y5<|Wl 2 Y6<|qae (qcb Z Z Z Z Z Z Dc O) Z<|qae (qaq Z Z Z (hci.le (Lr D)) Z) Z<|qae (qaH Z Z Z Z Z (qcS O (by have:=xi.toNat_lt;omega))) Z<|qaz (first:=[]) (captured:=[_,_]) Z Z Z (qbC D _ _ _ _ _ _ _ _ _ _ _ _ _ _ _ _ _ _ _ hsm _ a ba oa _ _ (hca.le (h1.t h2|>.t h3|>.t h4|>.t h5)) ha.tgt) ?_
    rintro _ _ s27 h27 ⟨rfl,rfl⟩
    refine Nt<|qaD qaf 11 Z [2] (by intro x hx;exact qan hx) ?_
    intro s28 h28
    refine za 0 Z (Wd 1 Y5) Z<|za 1 Z (Wd 1 Y5) Z<|za 2 Z (qau Z) Z<|za 3 Z (qaw Z Z Z Z) Z<|za 4 Z (We Y4) Z<|qah 5 V<|qb1 Z Tt (Wd 2 Y5) Z<|za 6 Z (qgP (j:=1) Z Z Z Z Z O) Z<|za 7 Z (qau Z) Z<|za 8 Z (qaw Z Z Z Z) Z<|za 9 Z (We Y4) Z<|qah 10 V<|qa9 Z Tt 2 (_::_::_::_::_::_::_::_::_::_::_::_) Z Z Z Z Z Z Z Z Z (sM (qaI (sbE _)))<|qac V<|Zb ?_
    refine qat [_,_] _ (.inl Z) (.nil) Z (h1.t h2|>.t h3|>.t h4|>.t h5|>.t h27|>.t h28) fun _ hS2=>?_
    exfalso;omega
   refine Sr<|qaJ Z Z Z<|At Z Z<|?_
   refine qab Z (fun c29=>?_) (fun c29=>?_)
   ·
    refine Zs<|Sr<|Wl 1 Y6<|qbo Z Z<|W0 Y5<|Wb Y5<|Wl 2 Y6<|Ws Y4<|qgW Z Z Z<|Nt<|?_
    refine qab Z (fun c30=>?_) (fun c30=>?_)
    ·
     refine Sr<|Wl 1 Y6<|qbo Z Z<|W0 Y5<|Wb Y5<|qdc 2 (_::_::_::_::_::_::_::_::_::_::_::_) Z Z Z Z Z Z Z Z Z<|Nt<|Zo<|Zu<|Zc<|?_
     refine rR [_,_] _ (.nil) Z (h1.t h2|>.t h3|>.t h4|>.t h5) fun _ hS2=>?_
     exfalso;omega
    refine Zk<|Zt<|qaT qaf 14 Z 2 ?_
    intro s31 h31
    refine za 0 Z (Wd 1 Y5) Z<|za 1 Z (Wd 1 Y5) Z<|za 2 Z (qau Z) Z<|za 3 Z (qaw Z Z Z Z) Z<|za 4 Z (We Y4) Z<|za 6 Z (qao Z) Z<|za 7 Z (qav (qb9 Z Z Z Z Z) (congrArg (Value.int .u8) (qoq hux))) Z ?_
    refine qcg 5 8 V ?_ ?_
    ·
     refine qb1 Z Tt (Wd 2 Y5) Z<|qah 8 V<|qas Z Tt [(_,_)] [_] Z Z Z Z Z Z Z Z Z ?_
     intro βn s32 h32 hcn
     refine qah 9 V<|qbM (sz:=1) Z (by exact Tt) [_,_,_,_,_] Oq9 _ Z Z Z Z Z Z Z hO (Row.of_cells (hcn.le (Lr D)) Z Z) ⟨by simp [ti5];omega,by omega⟩ Z (fun A2 x hx _=>List.mem_append_left _ (by simp at hx ⊢;grind)) ?_
     intro v1 A1 s33 h33 o1
     obtain ⟨Ao1,co1,rfl,ko1,ko2⟩:=Own.slice o1
     simp only [cQ9,nQ9]
     refine za 10 Z (qau Z) Z<|za 11 Z (qaw Z Z Z Z) Z<|za 12 Z (We Y4) Z<|qah 13 V<|qa9 Z Tt 2 (_::_::_::_::_::_::_::_::_::_::_::_) Z Z Z Z Z Z Z Z Z (sM (qew (sb0 _)))<|qac V<|Zb ?_
     refine qat [_,_] _ (.inl Z) (.nil) Z (h1.t h2|>.t h3|>.t h4|>.t h5|>.t h31|>.t h32|>.t h33) fun _ hS2=>?_
     exfalso;omega
    refine qas Z Tt [(_,_)] [_] Z Z Z Z Z Z Z Z Z ?_
    intro βn s34 h34 hcn
    refine qah 5 V<|qb1 Z Tt (Wd 2 Y5) Z<|qah 9 V<|qbM (sz:=1) Z (by exact Tt) [_,_,_,_,_] Oq9 _ Z Z Z Z Z Z Z hO (Row.of_cells (hcn.le (Lr D)) Z Z) ⟨by simp [ti5];omega,by omega⟩ Z (fun A2 x hx _=>List.mem_append_left _ (by simp at hx ⊢;grind)) ?_
    intro v1 A1 s35 h35 o1
    obtain ⟨Ao1,co1,rfl,ko1,ko2⟩:=Own.slice o1
    simp only [cQ9,nQ9]
    refine za 10 Z (qau Z) Z<|za 11 Z (qaw Z Z Z Z) Z<|za 12 Z (We Y4) Z<|qah 13 V<|qa9 Z Tt 2 (_::_::_::_::_::_::_::_::_::_::_::_) Z Z Z Z Z Z Z Z Z (sM (qew (sb0 _)))<|qac V<|Zb ?_
    refine qat [_,_] _ (.inl Z) (.nil) Z (h1.t h2|>.t h3|>.t h4|>.t h5|>.t h31|>.t h34|>.t h35) fun _ hS2=>?_
    exfalso;omega
   refine Zs<|Sr<|qaJ Z Z Z<|At Z Z<|?_
   refine qab Z (fun c36=>?_) (fun c36=>?_)
   ·
    refine Zk<|Zt<|?_
    refine qab Z (fun c37=>?_) (fun c37=>?_)
    ·
     refine Sr<|Wl 0 Y6<|qbo Z Z<|W0 Y5<|qae (qaq Z Z Z (hca.le (h1.t h2|>.t h3|>.t h4|>.t h5)) Z) Z<|qaJ Z Z Z<|Zqm Z Z<|?_
     refine qam (t:=172) Z (fun c38=>?_) (fun c38=>?_)
     ·
      refine Wf Y4<|Wf Y4<|ZqT Z Z Z<|Nt<|Zy Z<|qaD qaf 11 Z [2] (by intro x hx;exact qan hx) ?_
      intro s39 h39
      refine za 0 Z (Wd 1 Y5) Z<|za 1 Z (Wd 1 Y5) Z<|za 2 Z (qao Z) Z<|za 3 Z (qau Z) Z<|za 4 Z (qaw Z Z Z Z) Z<|za 5 Z (We Y4) Z<|qah 6 V<|qa9 Z Tt 2 (_::_::_::_::_::_::_::_::_::_::_::_) Z Z Z Z Z Z Z Z Z (sM (qaI (sbE _)))<|za 7 Z (qau Z) Z<|za 8 Z (qaw Z Z Z Z) Z<|za 9 Z (We Y4) Z<|qah 10 V ?_
      refine qa9 Z Tt 2 (_::_::_::_::_::_::_::_::_::_::_::_) Z Z Z Z Z Z Z Z Z (sM (qaI (sbE _)))<|qac V<|Zb ?_
      refine qat [_,_] _ (.inl Z) (.nil) Z (h1.t h2|>.t h3|>.t h4|>.t h5|>.t h39) fun _ hS2=>?_
      exfalso;omega
     refine Zg Z Z<|Zqm Z Z<|Zg Z Z<|qaJ Z Z Z<|ZqF Z Z Z<|Nt<|?_
     refine qab Z (fun c40=>?_) (fun c40=>?_)
     ·
      refine qaD qaf 11 Z [2] (by intro x hx;exact qan hx) ?_
      intro s41 h41
      refine za 0 Z (Wd 1 Y5) Z<|za 1 Z (Wd 1 Y5) Z<|za 2 Z (qao Z) Z<|za 3 Z (qau Z) Z<|za 4 Z (qaw Z Z Z Z) Z<|za 5 Z (We Y4) Z<|qah 6 V<|qa9 Z Tt 2 (_::_::_::_::_::_::_::_::_::_::_::_) Z Z Z Z Z Z Z Z Z (sM (qaI (sbE _)))<|za 7 Z (qau Z) Z<|za 8 Z (qaw Z Z Z Z) Z<|za 9 Z (We Y4) Z<|qah 10 V ?_
      refine qa9 Z Tt 2 (_::_::_::_::_::_::_::_::_::_::_::_) Z Z Z Z Z Z Z Z Z (sM (qaI (sbE _)))<|qac V<|Zb ?_
      refine qat [_,_] _ (.inl Z) (.nil) Z (h1.t h2|>.t h3|>.t h4|>.t h5|>.t h41) fun _ hS2=>?_
      exfalso;omega
     refine Zk<|Zb<|?_
     refine qat [_,_] _ (.inl Z) (.nil) Z (h1.t h2|>.t h3|>.t h4|>.t h5) fun _ hS2=>?_
     exfalso;omega
    refine Zr<|Zqm Z Z<|Wl 0 Y6<|qbo Z Z<|W0 Y5<|qae (qaq Z Z Z (hca.le (h1.t h2|>.t h3|>.t h4|>.t h5)) Z) Z<|Zqm Z Z<|Zqm Z Z<|Jc Z Z Z (qcj D _ _ _ _ _ hux huy (by have:=ha.kind;omega)) ?_
    rintro _ _ s42 h42 ⟨rfl,rfl⟩
    refine qaz (first:=[]) (captured:=[_,_]) Z Z Z (qbC D _ _ _ _ _ _ _ _ _ _ _ _ _ _ _ _ _ _ _ hsm _ a ba oa _ _ (hca.le (h1.t h2|>.t h3|>.t h4|>.t h5|>.t h42)) ha.tgt) ?_
    rintro _ _ s43 h43 ⟨rfl,rfl⟩
    refine Zn<|Zb<|?_
    refine qat [_,_] _ (.inl Z) (.nil) Z (h1.t h2|>.t h3|>.t h4|>.t h5|>.t h42|>.t h43) fun _ hS2=>?_
    exfalso;omega
   refine Zr<|qaJ Z Z Z<|At Z Z<|?_
   refine qab Z (fun c44=>?_) (fun c44=>?_)
   ·
    refine Sr<|Wl 0 Y6<|qbo Z Z<|W0 Y5<|qae (qaq Z Z Z (hca.le (h1.t h2|>.t h3|>.t h4|>.t h5)) Z) Z<|qaJ Z Z Z<|Zqm Z Z<|?_
    refine qam (t:=172) Z (fun c45=>?_) (fun c45=>?_)
    ·
     refine Wf Y4<|Wf Y4<|ZqT Z Z Z<|Nt<|Zy Z<|qaD qaf 11 Z [2] (by intro x hx;exact qan hx) ?_
     intro s46 h46
     refine za 0 Z (Wd 1 Y5) Z<|za 1 Z (Wd 1 Y5) Z<|za 2 Z (qao Z) Z<|za 3 Z (qau Z) Z<|za 4 Z (qaw Z Z Z Z) Z<|za 5 Z (We Y4) Z<|qah 6 V<|qa9 Z Tt 2 (_::_::_::_::_::_::_::_::_::_::_::_) Z Z Z Z Z Z Z Z Z (sM (qaI (sbE _)))<|za 7 Z (qau Z) Z<|za 8 Z (qaw Z Z Z Z) Z<|za 9 Z (We Y4) Z<|qah 10 V ?_
     refine qa9 Z Tt 2 (_::_::_::_::_::_::_::_::_::_::_::_) Z Z Z Z Z Z Z Z Z (sM (qaI (sbE _)))<|qac V<|Zb ?_
     refine qat [_,_] _ (.inl Z) (.nil) Z (h1.t h2|>.t h3|>.t h4|>.t h5|>.t h46) fun _ hS2=>?_
     exfalso;omega
    refine Zg Z Z<|Zqm Z Z<|Zg Z Z<|qaJ Z Z Z<|ZqF Z Z Z<|Nt<|?_
    refine qab Z (fun c47=>?_) (fun c47=>?_)
    ·
     refine qaD qaf 11 Z [2] (by intro x hx;exact qan hx) ?_
     intro s48 h48
     refine za 0 Z (Wd 1 Y5) Z<|za 1 Z (Wd 1 Y5) Z<|za 2 Z (qao Z) Z<|za 3 Z (qau Z) Z<|za 4 Z (qaw Z Z Z Z) Z<|za 5 Z (We Y4) Z<|qah 6 V<|qa9 Z Tt 2 (_::_::_::_::_::_::_::_::_::_::_::_) Z Z Z Z Z Z Z Z Z (sM (qaI (sbE _)))<|za 7 Z (qau Z) Z<|za 8 Z (qaw Z Z Z Z) Z<|za 9 Z (We Y4) Z<|qah 10 V ?_
     refine qa9 Z Tt 2 (_::_::_::_::_::_::_::_::_::_::_::_) Z Z Z Z Z Z Z Z Z (sM (qaI (sbE _)))<|qac V<|Zb ?_
     refine qat [_,_] _ (.inl Z) (.nil) Z (h1.t h2|>.t h3|>.t h4|>.t h5|>.t h48) fun _ hS2=>?_
     exfalso;omega
    refine Zk<|Zb<|?_
    refine qat [_,_] _ (.inl Z) (.nil) Z (h1.t h2|>.t h3|>.t h4|>.t h5) fun _ hS2=>?_
    exfalso;omega
   refine Zr<|Zqm Z Z<|Wl 0 Y6<|qbo Z Z<|W0 Y5<|qae (qaq Z Z Z (hca.le (h1.t h2|>.t h3|>.t h4|>.t h5)) Z) Z<|Zqm Z Z<|Zqm Z Z<|Jc Z Z Z (qcj D _ _ _ _ _ hux huy (by have:=ha.kind;omega)) ?_
   rintro _ _ s49 h49 ⟨rfl,rfl⟩
   refine qaz (first:=[]) (captured:=[_,_]) Z Z Z (qbC D _ _ _ _ _ _ _ _ _ _ _ _ _ _ _ _ _ _ _ hsm _ a ba oa _ _ (hca.le (h1.t h2|>.t h3|>.t h4|>.t h5|>.t h49)) ha.tgt) ?_
   rintro _ _ s50 h50 ⟨rfl,rfl⟩
   refine Zn<|Zb<|?_
   refine qat [_,_] _ (.inl Z) (.nil) Z (h1.t h2|>.t h3|>.t h4|>.t h5|>.t h49|>.t h50) fun _ hS2=>?_
   exfalso;omega
  refine Zr<|qaJ Z Z Z<|At Z Z<|?_
  refine qab Z (fun c51=>?_) (fun c51=>?_)
  ·
   refine Zp<|Sr<|Wl 1 Y6<|Zqm Z Z<|Jc Z Z Z (AC.mid [_,_] [_] _ (qdI D _ _ _ _ _ _ _ _ _ _ _ _ _ _ _ _ _ _ _ hsm _ hux hnc)) ?_
   rintro _ _ s52 h52 ⟨_,rfl,rfl,rfl⟩
   simp only [cQ9,nQ9]
   refine qcQ Z Z<|At Z Z<|?_
   refine qbc Z (fun c53=>?_) (fun c53=>?_)
   ·
    refine Zr<|Wl 1 Y6<|qbo Z Z<|W0 Y5<|Wb Y5<|qdc 2 (_::_::_::_::_::_::_::_::_::_::_::_) Z Z Z Z Z Z Z Z Z<|Zn<|Zb<|Zb<|?_
    refine qat [_,_] _ (.inl Z) (.nil) Z (h1.t h2|>.t h3|>.t h4|>.t h5|>.t h52) fun _ hS2=>?_
    exfalso;omega
   refine Sr<|Wl 0 Y6<|qbo Z Z<|W0 Y5<|qae (qaq Z Z Z (hca.le (h1.t h2|>.t h3|>.t h4|>.t h5|>.t h52)) Z) Z<|qaJ Z Z Z<|At Z Z<|?_
   refine qab Z (fun c54=>?_) (fun c54=>?_)
   ·
    refine Zr<|Zqm Z Z<|Wl 1 Y6<|qbo Z Z<|W0 Y5<|W0 Y5<|Wl 2 Y6<|Zqm Z Z<|qae (qcb Z Z Z Z Z Z hux1 As) Z<|qae (qbL 3 Z Z Z Z (qcO hux1 As)) Z<|qaz (first:=[]) (captured:=[_,_]) Z Z Z (qbC D _ _ _ _ _ _ _ _ _ _ _ _ _ _ _ _ _ _ _ hsm _ a ba oa _ _ (hca.le (h1.t h2|>.t h3|>.t h4|>.t h5|>.t h52)) ha.tgt) ?_
    rintro _ _ s55 h55 ⟨rfl,rfl⟩
    refine Zn<|Zb<|Zb<|?_
    refine qat [_,_] _ (.inl Z) (.nil) Z (h1.t h2|>.t h3|>.t h4|>.t h5|>.t h52|>.t h55) fun _ hS2=>?_
    exfalso;omega
   refine Zr<|Wl 1 Y6<|qbo Z Z<|W0 Y5<|W0 Y5<|Wl 2 Y6<|Zqm Z Z<|Zqm Z Z<|qae (qcb Z Z Z Z Z Z hux1 As) Z<|qdc 3 _ Z Z Z Z Z (qfn hux1 As) Z (qfC _ hux1 As) Z<|Zn<|Zb<|Zb<|?_
   refine qat [_,_] _ (.inl Z) (.nil) Z (h1.t h2|>.t h3|>.t h4|>.t h5|>.t h52) fun _ hS2=>?_
   exfalso;omega
  refine Sr<|qaJ Z Z Z<|At Z Z<|?_
  refine qab Z (fun c57=>?_) (fun c57=>?_)
  ·
   refine Zs<|Sr<|Wl 1 Y6<|qbo Z Z<|W0 Y5<|Wb Y5<|Wl 2 Y6<|Ws Y4<|qaJ Z Z Z<|Nt<|?_
   refine qab Z (fun c58=>?_) (fun c58=>?_)
   ·
    refine Sr<|Zqm Z Z<|qaz (first:=[]) (captured:=[_,_]) Z Z Z (qbC D _ _ _ _ _ _ _ _ _ _ _ _ _ _ _ _ _ _ _ hsm _ a ba oa _ _ (hca.le (h1.t h2|>.t h3|>.t h4|>.t h5)) ha.tgt) ?_
    rintro _ _ s59 h59 ⟨rfl,rfl⟩
    refine Nt<|Zo<|Zu<|Zc<|?_
    refine rR [_,_] _ (.nil) Z (h1.t h2|>.t h3|>.t h4|>.t h5|>.t h59) fun _ hS2=>?_
    exfalso;omega
   obtain ⟨bi,oi,xi,rfl,hxi,hci⟩:=Bts.at_ (hI.le (h1.t h2|>.t h3|>.t h4|>.t h5)) (show 0 < ni by omega)
   refine Zk<|Zt<|Sr<|Zqm Z Z<|Wl 1 Y6<|qbo Z Z<|W0 Y5<|Wb Y5<|Wl 2 Y6<|qae (qcb Z Z Z Z Z Z Dc O) Z<|qae (qaq Z Z Z (hci.le (Lr D)) Z) Z<|qae (qaH Z Z Z Z Z (qcS O (by have:=xi.toNat_lt;omega))) Z<|qaz (first:=[]) (captured:=[_,_]) Z Z Z (qbC D _ _ _ _ _ _ _ _ _ _ _ _ _ _ _ _ _ _ _ hsm _ a ba oa _ _ (hca.le (h1.t h2|>.t h3|>.t h4|>.t h5)) ha.tgt) ?_
   rintro _ _ s60 h60 ⟨rfl,rfl⟩
   refine Nt<|qaD qaf 11 Z [2] (by intro x hx;exact qan hx) ?_
   intro s61 h61
   refine za 0 Z (Wd 1 Y5) Z<|za 1 Z (Wd 1 Y5) Z<|za 2 Z (qau Z) Z<|za 3 Z (qaw Z Z Z Z) Z<|za 4 Z (We Y4) Z<|qah 5 V<|qb1 Z Tt (Wd 2 Y5) Z<|za 6 Z (qgP (j:=1) Z Z Z Z Z O) Z<|za 7 Z (qau Z) Z<|za 8 Z (qaw Z Z Z Z) Z<|za 9 Z (We Y4) Z<|qah 10 V<|qa9 Z Tt 2 (_::_::_::_::_::_::_::_::_::_::_::_) Z Z Z Z Z Z Z Z Z (sM (qaI (sbE _)))<|qac V<|Zb ?_
   refine qat [_,_] _ (.inl Z) (.nil) Z (h1.t h2|>.t h3|>.t h4|>.t h5|>.t h60|>.t h61) fun _ hS2=>?_
   exfalso;omega
  refine Sr<|qaJ Z Z Z<|At Z Z<|?_
  refine qab Z (fun c62=>?_) (fun c62=>?_)
  ·
   refine Zs<|Sr<|Wl 1 Y6<|qbo Z Z<|W0 Y5<|Wb Y5<|Wl 2 Y6<|Ws Y4<|qgW Z Z Z<|Nt<|?_
   refine qab Z (fun c63=>?_) (fun c63=>?_)
   ·
    refine Sr<|Wl 1 Y6<|qbo Z Z<|W0 Y5<|Wb Y5<|qdc 2 (_::_::_::_::_::_::_::_::_::_::_::_) Z Z Z Z Z Z Z Z Z<|Nt<|Zo<|Zu<|Zc<|?_
    refine rR [_,_] _ (.nil) Z (h1.t h2|>.t h3|>.t h4|>.t h5) fun _ hS2=>?_
    exfalso;omega
   refine Zk<|Zt<|qaT qaf 14 Z 2 ?_
   intro s64 h64
   refine za 0 Z (Wd 1 Y5) Z<|za 1 Z (Wd 1 Y5) Z<|za 2 Z (qau Z) Z<|za 3 Z (qaw Z Z Z Z) Z<|za 4 Z (We Y4) Z<|za 6 Z (qao Z) Z<|za 7 Z (qav (qb9 Z Z Z Z Z) (congrArg (Value.int .u8) (qoq hux))) Z ?_
   refine qcg 5 8 V ?_ ?_
   ·
    refine qb1 Z Tt (Wd 2 Y5) Z<|qah 8 V<|qas Z Tt [(_,_)] [_] Z Z Z Z Z Z Z Z Z ?_
    intro βn s65 h65 hcn
    refine qah 9 V<|qbM (sz:=1) Z (by exact Tt) [_,_,_,_,_] Oq9 _ Z Z Z Z Z Z Z hO (Row.of_cells (hcn.le (Lr D)) Z Z) ⟨by simp [ti5];omega,by omega⟩ Z (fun A2 x hx _=>List.mem_append_left _ (by simp at hx ⊢;grind)) ?_
    intro v1 A1 s66 h66 o1
    obtain ⟨Ao1,co1,rfl,ko1,ko2⟩:=Own.slice o1
    simp only [cQ9,nQ9]
    refine za 10 Z (qau Z) Z<|za 11 Z (qaw Z Z Z Z) Z<|za 12 Z (We Y4) Z<|qah 13 V<|qa9 Z Tt 2 (_::_::_::_::_::_::_::_::_::_::_::_) Z Z Z Z Z Z Z Z Z (sM (qew (sb0 _)))<|qac V<|Zb ?_
    refine qat [_,_] _ (.inl Z) (.nil) Z (h1.t h2|>.t h3|>.t h4|>.t h5|>.t h64|>.t h65|>.t h66) fun _ hS2=>?_
    exfalso;omega
   refine qas Z Tt [(_,_)] [_] Z Z Z Z Z Z Z Z Z ?_
   intro βn s67 h67 hcn
   refine qah 5 V<|qb1 Z Tt (Wd 2 Y5) Z<|qah 9 V<|qbM (sz:=1) Z (by exact Tt) [_,_,_,_,_] Oq9 _ Z Z Z Z Z Z Z hO (Row.of_cells (hcn.le (Lr D)) Z Z) ⟨by simp [ti5];omega,by omega⟩ Z (fun A2 x hx _=>List.mem_append_left _ (by simp at hx ⊢;grind)) ?_
   intro v1 A1 s68 h68 o1
   obtain ⟨Ao1,co1,rfl,ko1,ko2⟩:=Own.slice o1
   simp only [cQ9,nQ9]
   refine za 10 Z (qau Z) Z<|za 11 Z (qaw Z Z Z Z) Z<|za 12 Z (We Y4) Z<|qah 13 V<|qa9 Z Tt 2 (_::_::_::_::_::_::_::_::_::_::_::_) Z Z Z Z Z Z Z Z Z (sM (qew (sb0 _)))<|qac V<|Zb ?_
   refine qat [_,_] _ (.inl Z) (.nil) Z (h1.t h2|>.t h3|>.t h4|>.t h5|>.t h64|>.t h67|>.t h68) fun _ hS2=>?_
   exfalso;omega
  refine Zs<|Sr<|qaJ Z Z Z<|At Z Z<|?_
  refine qab Z (fun c69=>?_) (fun c69=>?_)
  ·
   refine Zk<|Zt<|?_
   refine qab Z (fun c70=>?_) (fun c70=>?_)
   ·
    refine Sr<|Wl 0 Y6<|qbo Z Z<|W0 Y5<|qae (qaq Z Z Z (hca.le (h1.t h2|>.t h3|>.t h4|>.t h5)) Z) Z<|qaJ Z Z Z<|Zqm Z Z<|?_
    refine qam (t:=172) Z (fun c71=>?_) (fun c71=>?_)
    ·
     refine Wf Y4<|Wf Y4<|ZqT Z Z Z<|Nt<|Zy Z<|qaD qaf 11 Z [2] (by intro x hx;exact qan hx) ?_
     intro s72 h72
     refine za 0 Z (Wd 1 Y5) Z<|za 1 Z (Wd 1 Y5) Z<|za 2 Z (qao Z) Z<|za 3 Z (qau Z) Z<|za 4 Z (qaw Z Z Z Z) Z<|za 5 Z (We Y4) Z<|qah 6 V<|qa9 Z Tt 2 (_::_::_::_::_::_::_::_::_::_::_::_) Z Z Z Z Z Z Z Z Z (sM (qaI (sbE _)))<|za 7 Z (qau Z) Z<|za 8 Z (qaw Z Z Z Z) Z<|za 9 Z (We Y4) Z<|qah 10 V ?_
     refine qa9 Z Tt 2 (_::_::_::_::_::_::_::_::_::_::_::_) Z Z Z Z Z Z Z Z Z (sM (qaI (sbE _)))<|qac V<|Zb ?_
     refine qat [_,_] _ (.inl Z) (.nil) Z (h1.t h2|>.t h3|>.t h4|>.t h5|>.t h72) fun _ hS2=>?_
     exfalso;omega
    refine Zg Z Z<|Zqm Z Z<|Zg Z Z<|qaJ Z Z Z<|ZqF Z Z Z<|Nt<|?_
    refine qab Z (fun c73=>?_) (fun c73=>?_)
    ·
     refine qaD qaf 11 Z [2] (by intro x hx;exact qan hx) ?_
     intro s74 h74
     refine za 0 Z (Wd 1 Y5) Z<|za 1 Z (Wd 1 Y5) Z<|za 2 Z (qao Z) Z<|za 3 Z (qau Z) Z<|za 4 Z (qaw Z Z Z Z) Z<|za 5 Z (We Y4) Z<|qah 6 V<|qa9 Z Tt 2 (_::_::_::_::_::_::_::_::_::_::_::_) Z Z Z Z Z Z Z Z Z (sM (qaI (sbE _)))<|za 7 Z (qau Z) Z<|za 8 Z (qaw Z Z Z Z) Z<|za 9 Z (We Y4) Z<|qah 10 V ?_
     refine qa9 Z Tt 2 (_::_::_::_::_::_::_::_::_::_::_::_) Z Z Z Z Z Z Z Z Z (sM (qaI (sbE _)))<|qac V<|Zb ?_
     refine qat [_,_] _ (.inl Z) (.nil) Z (h1.t h2|>.t h3|>.t h4|>.t h5|>.t h74) fun _ hS2=>?_
     exfalso;omega
    refine Zk<|Zb<|?_
    refine qat [_,_] _ (.inl Z) (.nil) Z (h1.t h2|>.t h3|>.t h4|>.t h5) fun _ hS2=>?_
    exfalso;omega
   refine Zr<|Zqm Z Z<|Wl 0 Y6<|qbo Z Z<|W0 Y5<|qae (qaq Z Z Z (hca.le (h1.t h2|>.t h3|>.t h4|>.t h5)) Z) Z<|Zqm Z Z<|Zqm Z Z<|Jc Z Z Z (qcj D _ _ _ _ _ hux huy (by have:=ha.kind;omega)) ?_
   rintro _ _ s75 h75 ⟨rfl,rfl⟩
   refine qaz (first:=[]) (captured:=[_,_]) Z Z Z (qbC D _ _ _ _ _ _ _ _ _ _ _ _ _ _ _ _ _ _ _ hsm _ a ba oa _ _ (hca.le (h1.t h2|>.t h3|>.t h4|>.t h5|>.t h75)) ha.tgt) ?_
   rintro _ _ s76 h76 ⟨rfl,rfl⟩
   refine Zn<|Zb<|?_
   refine qat [_,_] _ (.inl Z) (.nil) Z (h1.t h2|>.t h3|>.t h4|>.t h5|>.t h75|>.t h76) fun _ hS2=>?_
   exfalso;omega
  refine Zr<|qaJ Z Z Z<|At Z Z<|?_
  refine qab Z (fun c77=>?_) (fun c77=>?_)
  ·
   refine Sr<|Wl 0 Y6<|qbo Z Z<|W0 Y5<|qae (qaq Z Z Z (hca.le (h1.t h2|>.t h3|>.t h4|>.t h5)) Z) Z<|qaJ Z Z Z<|Zqm Z Z<|?_
   refine qam (t:=172) Z (fun c78=>?_) (fun c78=>?_)
   ·
    refine Wf Y4<|Wf Y4<|ZqT Z Z Z<|Nt<|Zy Z<|qaD qaf 11 Z [2] (by intro x hx;exact qan hx) ?_
    intro s79 h79
    refine za 0 Z (Wd 1 Y5) Z<|za 1 Z (Wd 1 Y5) Z<|za 2 Z (qao Z) Z<|za 3 Z (qau Z) Z<|za 4 Z (qaw Z Z Z Z) Z<|za 5 Z (We Y4) Z<|qah 6 V<|qa9 Z Tt 2 (_::_::_::_::_::_::_::_::_::_::_::_) Z Z Z Z Z Z Z Z Z (sM (qaI (sbE _)))<|za 7 Z (qau Z) Z<|za 8 Z (qaw Z Z Z Z) Z<|za 9 Z (We Y4) Z<|qah 10 V ?_
    refine qa9 Z Tt 2 (_::_::_::_::_::_::_::_::_::_::_::_) Z Z Z Z Z Z Z Z Z (sM (qaI (sbE _)))<|qac V<|Zb ?_
    refine qat [_,_] _ (.inl Z) (.nil) Z (h1.t h2|>.t h3|>.t h4|>.t h5|>.t h79) fun _ hS2=>?_
    exfalso;omega
   refine Zg Z Z<|Zqm Z Z<|Zg Z Z<|qaJ Z Z Z<|ZqF Z Z Z<|Nt<|?_
   refine qab Z (fun c80=>?_) (fun c80=>?_)
   ·
    refine qaD qaf 11 Z [2] (by intro x hx;exact qan hx) ?_
    intro s81 h81
    refine za 0 Z (Wd 1 Y5) Z<|za 1 Z (Wd 1 Y5) Z<|za 2 Z (qao Z) Z<|za 3 Z (qau Z) Z<|za 4 Z (qaw Z Z Z Z) Z<|za 5 Z (We Y4) Z<|qah 6 V<|qa9 Z Tt 2 (_::_::_::_::_::_::_::_::_::_::_::_) Z Z Z Z Z Z Z Z Z (sM (qaI (sbE _)))<|za 7 Z (qau Z) Z<|za 8 Z (qaw Z Z Z Z) Z<|za 9 Z (We Y4) Z<|qah 10 V ?_
    refine qa9 Z Tt 2 (_::_::_::_::_::_::_::_::_::_::_::_) Z Z Z Z Z Z Z Z Z (sM (qaI (sbE _)))<|qac V<|Zb ?_
    refine qat [_,_] _ (.inl Z) (.nil) Z (h1.t h2|>.t h3|>.t h4|>.t h5|>.t h81) fun _ hS2=>?_
    exfalso;omega
   refine Zk<|Zb<|?_
   refine qat [_,_] _ (.inl Z) (.nil) Z (h1.t h2|>.t h3|>.t h4|>.t h5) fun _ hS2=>?_
   exfalso;omega
  refine Zr<|Zqm Z Z<|Wl 0 Y6<|qbo Z Z<|W0 Y5<|qae (qaq Z Z Z (hca.le (h1.t h2|>.t h3|>.t h4|>.t h5)) Z) Z<|Zqm Z Z<|Zqm Z Z<|Jc Z Z Z (qcj D _ _ _ _ _ hux huy (by have:=ha.kind;omega)) ?_
  rintro _ _ s82 h82 ⟨rfl,rfl⟩
  refine qaz (first:=[]) (captured:=[_,_]) Z Z Z (qbC D _ _ _ _ _ _ _ _ _ _ _ _ _ _ _ _ _ _ _ hsm _ a ba oa _ _ (hca.le (h1.t h2|>.t h3|>.t h4|>.t h5|>.t h82)) ha.tgt) ?_
  rintro _ _ s83 h83 ⟨rfl,rfl⟩
  refine Zn<|Zb<|?_
  refine qat [_,_] _ (.inl Z) (.nil) Z (h1.t h2|>.t h3|>.t h4|>.t h5|>.t h82|>.t h83) fun _ hS2=>?_
  exfalso;omega
 refine Zr<|qaJ Z Z Z<|At Z Z<|?_
 refine qab Z (fun c84=>?_) (fun c84=>?_)
 ·
  refine Zp<|Sr<|Zqm Z Z<|qaJ Z Z Z<|At Z Z<|?_
  refine qab Z (fun c85=>?_) (fun c85=>?_)
  ·
   refine Zr<|Wl 1 Y6<|qbo Z Z<|W0 Y5<|Wb Y5<|qdc 2 (_::_::_::_::_::_::_::_::_::_::_::_) Z Z Z Z Z Z Z Z Z<|Zn<|Zb<|Zb<|?_
   refine qat [_,_] _ (.inl Z) (.nil) Z (h1.t h2|>.t h3|>.t h4|>.t h5) fun _ hS2=>?_
   refine ⟨_::_::_::Oq9,Z,Z,?_⟩
   rw [qsc As As];exact ⟨bc,cc,yc,Oq9,Ao,co,Ai,ni,ci,rfl,hO,hI.le (h1.t h2|>.t h3|>.t h4|>.t h5|>.t hS2),hcc,hcc2⟩
  refine Sr<|Wl 0 Y6<|qbo Z Z<|W0 Y5<|qae (qaq Z Z Z (hca.le (h1.t h2|>.t h3|>.t h4|>.t h5)) Z) Z<|qaJ Z Z Z<|At Z Z<|?_
  refine qab Z (fun c86=>?_) (fun c86=>?_)
  ·
   refine Zr<|Zqm Z Z<|Zqm Z Z<|Zqm Z Z<|qae (qed Z Z As) Z<|qaz (first:=[]) (captured:=[_,_]) Z Z Z (qbC D _ _ _ _ _ _ _ _ _ _ _ _ _ _ _ _ _ _ _ hsm _ a ba oa _ _ (hca.le (h1.t h2|>.t h3|>.t h4|>.t h5)) ha.tgt) ?_
   rintro _ _ s87 h87 ⟨rfl,rfl⟩
   refine Zn<|Zb<|Zb<|?_
   refine qat [_,_] _ (.inl Z) (.nil) Z (h1.t h2|>.t h3|>.t h4|>.t h5|>.t h87) fun _ hS2=>?_
   exfalso;omega
  refine Zr<|Zqm Z Z<|Zqm Z Z<|Zqm Z Z<|qae (qgY Z Z As) Z<|qaz (first:=[]) (captured:=[_,_]) Z Z Z (qbC D _ _ _ _ _ _ _ _ _ _ _ _ _ _ _ _ _ _ _ hsm _ a ba oa _ _ (hca.le (h1.t h2|>.t h3|>.t h4|>.t h5)) ha.tgt) ?_
  rintro _ _ s88 h88 ⟨rfl,rfl⟩
  refine Zn<|Zb<|Zb<|?_
  refine qat [_,_] _ (.inl Z) (.nil) Z (h1.t h2|>.t h3|>.t h4|>.t h5|>.t h88) fun _ hS2=>?_
  refine ⟨_::_::_::Oq9,Z,Z,?_⟩
  rw [qtc As As,← modW hux];exact ⟨bc,cc,yc,Oq9,Ao,co,Ai,ni,ci,rfl,hO,hI.le (h1.t h2|>.t h3|>.t h4|>.t h5|>.t h88|>.t hS2),hcc,hcc2⟩
 refine Zs<|Sr<|qaJ Z Z Z<|At Z Z<|?_
 refine qab Z (fun c89=>?_) (fun c89=>?_)
 ·
  refine Zk<|Zt<|?_
  refine qab Z (fun c90=>?_) (fun c90=>?_)
  ·
   refine Zp<|Sr<|Wl 1 Y6<|Zqm Z Z<|Jc Z Z Z (AC.mid [_,_] [_] _ (qdI D _ _ _ _ _ _ _ _ _ _ _ _ _ _ _ _ _ _ _ hsm _ hux hnc)) ?_
   rintro _ _ s91 h91 ⟨_,rfl,rfl,rfl⟩
   simp only [cQ9,nQ9]
   refine qcQ Z Z<|At Z Z<|?_
   refine qbc Z (fun c92=>?_) (fun c92=>?_)
   ·
    refine Zr<|Wl 1 Y6<|qbo Z Z<|W0 Y5<|Wb Y5<|qdc 2 (_::_::_::_::_::_::_::_::_::_::_::_) Z Z Z Z Z Z Z Z Z<|Zn<|Zb<|Zb<|?_
    refine qat [_,_] _ (.inl Z) (.nil) Z (h1.t h2|>.t h3|>.t h4|>.t h5|>.t h91) fun _ hS2=>?_
    refine ⟨_::_::_::Oq9,Z,Z,?_⟩
    rw [qoa As As];exact ⟨bc,cc,yc,Oq9,Ao,co,Ai,ni,ci,rfl,hO,hI.le (h1.t h2|>.t h3|>.t h4|>.t h5|>.t h91|>.t hS2),hcc,hcc2⟩
   refine Sr<|Wl 0 Y6<|qbo Z Z<|W0 Y5<|qae (qaq Z Z Z (hca.le (h1.t h2|>.t h3|>.t h4|>.t h5|>.t h91)) Z) Z<|qaJ Z Z Z<|At Z Z<|?_
   refine qab Z (fun c93=>?_) (fun c93=>?_)
   ·
    refine Zr<|Zqm Z Z<|Wl 1 Y6<|qbo Z Z<|W0 Y5<|W0 Y5<|Wl 2 Y6<|Zqm Z Z<|qae (qcb Z Z Z Z Z Z hux1 As) Z<|qae (qbL 3 Z Z Z Z (qcO hux1 As)) Z<|qaz (first:=[]) (captured:=[_,_]) Z Z Z (qbC D _ _ _ _ _ _ _ _ _ _ _ _ _ _ _ _ _ _ _ hsm _ a ba oa _ _ (hca.le (h1.t h2|>.t h3|>.t h4|>.t h5|>.t h91)) ha.tgt) ?_
    rintro _ _ s94 h94 ⟨rfl,rfl⟩
    refine Zn<|Zb<|Zb<|?_
    refine qat [_,_] _ (.inl Z) (.nil) Z (h1.t h2|>.t h3|>.t h4|>.t h5|>.t h91|>.t h94) fun _ hS2=>?_
    refine ⟨_::_::_::Oq9,Z,Z,?_⟩
    rw [qcJ As As];exact ⟨bc,cc,yc,Oq9,Ao,co,Ai,ni,ci,rfl,hO,hI.le (h1.t h2|>.t h3|>.t h4|>.t h5|>.t h91|>.t h94|>.t hS2),hcc,hcc2⟩
   refine Zr<|Wl 1 Y6<|qbo Z Z<|W0 Y5<|W0 Y5<|Wl 2 Y6<|Zqm Z Z<|Zqm Z Z<|qae (qcb Z Z Z Z Z Z hux1 As) Z<|qdc 3 _ Z Z Z Z Z (qfn hux1 As) Z (qfC _ hux1 As) Z<|Zn<|Zb<|Zb<|?_
   refine qat [_,_] _ (.inl Z) (.nil) Z (h1.t h2|>.t h3|>.t h4|>.t h5|>.t h91) fun _ hS2=>?_
   exfalso;omega
  refine Sr<|qaJ Z Z Z<|At Z Z<|?_
  refine qab Z (fun c96=>?_) (fun c96=>?_)
  ·
   refine Zs<|Sr<|Wl 1 Y6<|qbo Z Z<|W0 Y5<|Wb Y5<|Wl 2 Y6<|Ws Y4<|qaJ Z Z Z<|Nt<|?_
   refine qab Z (fun c97=>?_) (fun c97=>?_)
   ·
    refine Sr<|Zqm Z Z<|qaz (first:=[]) (captured:=[_,_]) Z Z Z (qbC D _ _ _ _ _ _ _ _ _ _ _ _ _ _ _ _ _ _ _ hsm _ a ba oa _ _ (hca.le (h1.t h2|>.t h3|>.t h4|>.t h5)) ha.tgt) ?_
    rintro _ _ s98 h98 ⟨rfl,rfl⟩
    refine Nt<|Zo<|Zu<|Zc<|?_
    refine rR [_,_] _ (.nil) Z (h1.t h2|>.t h3|>.t h4|>.t h5|>.t h98) fun _ hS2=>?_
    exfalso;omega
   obtain ⟨bi,oi,xi,rfl,hxi,hci⟩:=Bts.at_ (hI.le (h1.t h2|>.t h3|>.t h4|>.t h5)) (show 0 < ni by omega)
   refine Zk<|Zt<|Sr<|Zqm Z Z<|Wl 1 Y6<|qbo Z Z<|W0 Y5<|Wb Y5<|Wl 2 Y6<|qae (qcb Z Z Z Z Z Z Dc O) Z<|qae (qaq Z Z Z (hci.le (Lr D)) Z) Z<|qae (qaH Z Z Z Z Z (qcS O (by have:=xi.toNat_lt;omega))) Z<|qaz (first:=[]) (captured:=[_,_]) Z Z Z (qbC D _ _ _ _ _ _ _ _ _ _ _ _ _ _ _ _ _ _ _ hsm _ a ba oa _ _ (hca.le (h1.t h2|>.t h3|>.t h4|>.t h5)) ha.tgt) ?_
   rintro _ _ s99 h99 ⟨rfl,rfl⟩
   refine Nt<|qaD qaf 11 Z [2] (by intro x hx;exact qan hx) ?_
   intro s100 h100
   refine za 0 Z (Wd 1 Y5) Z<|za 1 Z (Wd 1 Y5) Z<|za 2 Z (qau Z) Z<|za 3 Z (qaw Z Z Z Z) Z<|za 4 Z (We Y4) Z<|qah 5 V<|qb1 Z Tt (Wd 2 Y5) Z<|za 6 Z (qgP (j:=1) Z Z Z Z Z O) Z<|za 7 Z (qau Z) Z<|za 8 Z (qaw Z Z Z Z) Z<|za 9 Z (We Y4) Z<|qah 10 V<|qa9 Z Tt 2 (_::_::_::_::_::_::_::_::_::_::_::_) Z Z Z Z Z Z Z Z Z (sM (qaI (sbE _)))<|qac V<|Zb ?_
   refine qat [_,_] _ (.inl Z) (.nil) Z (h1.t h2|>.t h3|>.t h4|>.t h5|>.t h99|>.t h100) fun _ hS2=>?_
   exfalso;omega
  refine Sr<|qaJ Z Z Z<|At Z Z<|?_
  refine qab Z (fun c101=>?_) (fun c101=>?_)
  ·
   refine Zs<|Sr<|Wl 1 Y6<|qbo Z Z<|W0 Y5<|Wb Y5<|Wl 2 Y6<|Ws Y4<|qgW Z Z Z<|Nt<|?_
   refine qab Z (fun c102=>?_) (fun c102=>?_)
   ·
    refine Sr<|Wl 1 Y6<|qbo Z Z<|W0 Y5<|Wb Y5<|qdc 2 (_::_::_::_::_::_::_::_::_::_::_::_) Z Z Z Z Z Z Z Z Z<|Nt<|Zo<|Zu<|Zc<|?_
    refine rR [_,_] _ (.nil) Z (h1.t h2|>.t h3|>.t h4|>.t h5) fun _ hS2=>?_
    exfalso;omega
   refine Zk<|Zt<|qaT qaf 14 Z 2 ?_
   intro s103 h103
   refine za 0 Z (Wd 1 Y5) Z<|za 1 Z (Wd 1 Y5) Z<|za 2 Z (qau Z) Z<|za 3 Z (qaw Z Z Z Z) Z<|za 4 Z (We Y4) Z<|za 6 Z (qao Z) Z<|za 7 Z (qav (qb9 Z Z Z Z Z) (congrArg (Value.int .u8) (qoq hux))) Z ?_
   refine qcg 5 8 V ?_ ?_
   ·
    refine qb1 Z Tt (Wd 2 Y5) Z<|qah 8 V<|qas Z Tt [(_,_)] [_] Z Z Z Z Z Z Z Z Z ?_
    intro βn s104 h104 hcn
    refine qah 9 V<|qbM (sz:=1) Z (by exact Tt) [_,_,_,_,_] Oq9 _ Z Z Z Z Z Z Z hO (Row.of_cells (hcn.le (Lr D)) Z Z) ⟨by simp [ti5];omega,by omega⟩ Z (fun A2 x hx _=>List.mem_append_left _ (by simp at hx ⊢;grind)) ?_
    intro v1 A1 s105 h105 o1
    obtain ⟨Ao1,co1,rfl,ko1,ko2⟩:=Own.slice o1
    simp only [cQ9,nQ9]
    refine za 10 Z (qau Z) Z<|za 11 Z (qaw Z Z Z Z) Z<|za 12 Z (We Y4) Z<|qah 13 V<|qa9 Z Tt 2 (_::_::_::_::_::_::_::_::_::_::_::_) Z Z Z Z Z Z Z Z Z (sM (qew (sb0 _)))<|qac V<|Zb ?_
    refine qat [_,_] _ (.inl Z) (.nil) Z (h1.t h2|>.t h3|>.t h4|>.t h5|>.t h103|>.t h104|>.t h105) fun _ hS2=>?_
    exfalso;omega
   refine qas Z Tt [(_,_)] [_] Z Z Z Z Z Z Z Z Z ?_
   intro βn s106 h106 hcn
   refine qah 5 V<|qb1 Z Tt (Wd 2 Y5) Z<|qah 9 V<|qbM (sz:=1) Z (by exact Tt) [_,_,_,_,_] Oq9 _ Z Z Z Z Z Z Z hO (Row.of_cells (hcn.le (Lr D)) Z Z) ⟨by simp [ti5];omega,by omega⟩ Z (fun A2 x hx _=>List.mem_append_left _ (by simp at hx ⊢;grind)) ?_
   intro v1 A1 s107 h107 o1
   obtain ⟨Ao1,co1,rfl,ko1,ko2⟩:=Own.slice o1
   simp only [cQ9,nQ9]
   refine za 10 Z (qau Z) Z<|za 11 Z (qaw Z Z Z Z) Z<|za 12 Z (We Y4) Z<|qah 13 V<|qa9 Z Tt 2 (_::_::_::_::_::_::_::_::_::_::_::_) Z Z Z Z Z Z Z Z Z (sM (qew (sb0 _)))<|qac V<|Zb ?_
   refine qat [_,_] _ (.inl Z) (.nil) Z (h1.t h2|>.t h3|>.t h4|>.t h5|>.t h103|>.t h106|>.t h107) fun _ hS2=>?_
   exfalso;omega
  refine Zs<|Sr<|qaJ Z Z Z<|At Z Z<|?_
  refine qab Z (fun c108=>?_) (fun c108=>?_)
  ·
   refine Zk<|Zt<|?_
   refine qab Z (fun c109=>?_) (fun c109=>?_)
   ·
    refine Sr<|Wl 0 Y6<|qbo Z Z<|W0 Y5<|qae (qaq Z Z Z (hca.le (h1.t h2|>.t h3|>.t h4|>.t h5)) Z) Z<|qaJ Z Z Z<|Zqm Z Z<|?_
    refine qam (t:=172) Z (fun c110=>?_) (fun c110=>?_)
    ·
     refine Wf Y4<|Wf Y4<|ZqT Z Z Z<|Nt<|Zy Z<|qaD qaf 11 Z [2] (by intro x hx;exact qan hx) ?_
     intro s111 h111
     refine za 0 Z (Wd 1 Y5) Z<|za 1 Z (Wd 1 Y5) Z<|za 2 Z (qao Z) Z<|za 3 Z (qau Z) Z<|za 4 Z (qaw Z Z Z Z) Z<|za 5 Z (We Y4) Z<|qah 6 V<|qa9 Z Tt 2 (_::_::_::_::_::_::_::_::_::_::_::_) Z Z Z Z Z Z Z Z Z (sM (qaI (sbE _)))<|za 7 Z (qau Z) Z<|za 8 Z (qaw Z Z Z Z) Z<|za 9 Z (We Y4) Z<|qah 10 V ?_
     refine qa9 Z Tt 2 (_::_::_::_::_::_::_::_::_::_::_::_) Z Z Z Z Z Z Z Z Z (sM (qaI (sbE _)))<|qac V<|Zb ?_
     refine qat [_,_] _ (.inl Z) (.nil) Z (h1.t h2|>.t h3|>.t h4|>.t h5|>.t h111) fun _ hS2=>?_
     exfalso;omega
    refine Zg Z Z<|Zqm Z Z<|Zg Z Z<|qaJ Z Z Z<|ZqF Z Z Z<|Nt<|?_
    refine qab Z (fun c112=>?_) (fun c112=>?_)
    ·
     refine qaD qaf 11 Z [2] (by intro x hx;exact qan hx) ?_
     intro s113 h113
     refine za 0 Z (Wd 1 Y5) Z<|za 1 Z (Wd 1 Y5) Z<|za 2 Z (qao Z) Z<|za 3 Z (qau Z) Z<|za 4 Z (qaw Z Z Z Z) Z<|za 5 Z (We Y4) Z<|qah 6 V<|qa9 Z Tt 2 (_::_::_::_::_::_::_::_::_::_::_::_) Z Z Z Z Z Z Z Z Z (sM (qaI (sbE _)))<|za 7 Z (qau Z) Z<|za 8 Z (qaw Z Z Z Z) Z<|za 9 Z (We Y4) Z<|qah 10 V ?_
     refine qa9 Z Tt 2 (_::_::_::_::_::_::_::_::_::_::_::_) Z Z Z Z Z Z Z Z Z (sM (qaI (sbE _)))<|qac V<|Zb ?_
     refine qat [_,_] _ (.inl Z) (.nil) Z (h1.t h2|>.t h3|>.t h4|>.t h5|>.t h113) fun _ hS2=>?_
     exfalso;omega
    refine Zk<|Zb<|?_
    refine qat [_,_] _ (.inl Z) (.nil) Z (h1.t h2|>.t h3|>.t h4|>.t h5) fun _ hS2=>?_
    exfalso;omega
   refine Zr<|Zqm Z Z<|Wl 0 Y6<|qbo Z Z<|W0 Y5<|qae (qaq Z Z Z (hca.le (h1.t h2|>.t h3|>.t h4|>.t h5)) Z) Z<|Zqm Z Z<|Zqm Z Z<|Jc Z Z Z (qcj D _ _ _ _ _ hux huy (by have:=ha.kind;omega)) ?_
   rintro _ _ s114 h114 ⟨rfl,rfl⟩
   refine qaz (first:=[]) (captured:=[_,_]) Z Z Z (qbC D _ _ _ _ _ _ _ _ _ _ _ _ _ _ _ _ _ _ _ hsm _ a ba oa _ _ (hca.le (h1.t h2|>.t h3|>.t h4|>.t h5|>.t h114)) ha.tgt) ?_
   rintro _ _ s115 h115 ⟨rfl,rfl⟩
   refine Zn<|Zb<|?_
   refine qat [_,_] _ (.inl Z) (.nil) Z (h1.t h2|>.t h3|>.t h4|>.t h5|>.t h114|>.t h115) fun _ hS2=>?_
   exfalso;omega
  refine Zr<|qaJ Z Z Z<|At Z Z<|?_
  refine qab Z (fun c116=>?_) (fun c116=>?_)
  ·
   refine Sr<|Wl 0 Y6<|qbo Z Z<|W0 Y5<|qae (qaq Z Z Z (hca.le (h1.t h2|>.t h3|>.t h4|>.t h5)) Z) Z<|qaJ Z Z Z<|Zqm Z Z<|?_
   refine qam (t:=172) Z (fun c117=>?_) (fun c117=>?_)
   ·
    refine Wf Y4<|Wf Y4<|ZqT Z Z Z<|Nt<|Zy Z<|qaD qaf 11 Z [2] (by intro x hx;exact qan hx) ?_
    intro s118 h118
    refine za 0 Z (Wd 1 Y5) Z<|za 1 Z (Wd 1 Y5) Z<|za 2 Z (qao Z) Z<|za 3 Z (qau Z) Z<|za 4 Z (qaw Z Z Z Z) Z<|za 5 Z (We Y4) Z<|qah 6 V<|qa9 Z Tt 2 (_::_::_::_::_::_::_::_::_::_::_::_) Z Z Z Z Z Z Z Z Z (sM (qaI (sbE _)))<|za 7 Z (qau Z) Z<|za 8 Z (qaw Z Z Z Z) Z<|za 9 Z (We Y4) Z<|qah 10 V ?_
    refine qa9 Z Tt 2 (_::_::_::_::_::_::_::_::_::_::_::_) Z Z Z Z Z Z Z Z Z (sM (qaI (sbE _)))<|qac V<|Zb ?_
    refine qat [_,_] _ (.inl Z) (.nil) Z (h1.t h2|>.t h3|>.t h4|>.t h5|>.t h118) fun _ hS2=>?_
    exfalso;omega
   refine Zg Z Z<|Zqm Z Z<|Zg Z Z<|qaJ Z Z Z<|ZqF Z Z Z<|Nt<|?_
   refine qab Z (fun c119=>?_) (fun c119=>?_)
   ·
    refine qaD qaf 11 Z [2] (by intro x hx;exact qan hx) ?_
    intro s120 h120
    refine za 0 Z (Wd 1 Y5) Z<|za 1 Z (Wd 1 Y5) Z<|za 2 Z (qao Z) Z<|za 3 Z (qau Z) Z<|za 4 Z (qaw Z Z Z Z) Z<|za 5 Z (We Y4) Z<|qah 6 V<|qa9 Z Tt 2 (_::_::_::_::_::_::_::_::_::_::_::_) Z Z Z Z Z Z Z Z Z (sM (qaI (sbE _)))<|za 7 Z (qau Z) Z<|za 8 Z (qaw Z Z Z Z) Z<|za 9 Z (We Y4) Z<|qah 10 V ?_
    refine qa9 Z Tt 2 (_::_::_::_::_::_::_::_::_::_::_::_) Z Z Z Z Z Z Z Z Z (sM (qaI (sbE _)))<|qac V<|Zb ?_
    refine qat [_,_] _ (.inl Z) (.nil) Z (h1.t h2|>.t h3|>.t h4|>.t h5|>.t h120) fun _ hS2=>?_
    exfalso;omega
   refine Zk<|Zb<|?_
   refine qat [_,_] _ (.inl Z) (.nil) Z (h1.t h2|>.t h3|>.t h4|>.t h5) fun _ hS2=>?_
   exfalso;omega
  refine Zr<|Zqm Z Z<|Wl 0 Y6<|qbo Z Z<|W0 Y5<|qae (qaq Z Z Z (hca.le (h1.t h2|>.t h3|>.t h4|>.t h5)) Z) Z<|Zqm Z Z<|Zqm Z Z<|Jc Z Z Z (qcj D _ _ _ _ _ hux huy (by have:=ha.kind;omega)) ?_
  rintro _ _ s121 h121 ⟨rfl,rfl⟩
  refine qaz (first:=[]) (captured:=[_,_]) Z Z Z (qbC D _ _ _ _ _ _ _ _ _ _ _ _ _ _ _ _ _ _ _ hsm _ a ba oa _ _ (hca.le (h1.t h2|>.t h3|>.t h4|>.t h5|>.t h121)) ha.tgt) ?_
  rintro _ _ s122 h122 ⟨rfl,rfl⟩
  refine Zn<|Zb<|?_
  refine qat [_,_] _ (.inl Z) (.nil) Z (h1.t h2|>.t h3|>.t h4|>.t h5|>.t h121|>.t h122) fun _ hS2=>?_
  exfalso;omega
 refine Zr<|qaJ Z Z Z<|At Z Z<|?_
 refine qab Z (fun c123=>?_) (fun c123=>?_)
 ·
  refine Zp<|Sr<|Wl 1 Y6<|Zqm Z Z<|Jc Z Z Z (AC.mid [_,_] [_] _ (qdI D _ _ _ _ _ _ _ _ _ _ _ _ _ _ _ _ _ _ _ hsm _ hux hnc)) ?_
  rintro _ _ s124 h124 ⟨_,rfl,rfl,rfl⟩
  simp only [cQ9,nQ9]
  refine qcQ Z Z<|At Z Z<|?_
  refine qbc Z (fun c125=>?_) (fun c125=>?_)
  ·
   refine Zr<|Wl 1 Y6<|qbo Z Z<|W0 Y5<|Wb Y5<|qdc 2 (_::_::_::_::_::_::_::_::_::_::_::_) Z Z Z Z Z Z Z Z Z<|Zn<|Zb<|Zb<|?_
   refine qat [_,_] _ (.inl Z) (.nil) Z (h1.t h2|>.t h3|>.t h4|>.t h5|>.t h124) fun _ hS2=>?_
   refine ⟨_::_::_::Oq9,Z,Z,?_⟩
   rw [qnH As As];exact ⟨bc,cc,yc,Oq9,Ao,co,Ai,ni,ci,rfl,hO,hI.le (h1.t h2|>.t h3|>.t h4|>.t h5|>.t h124|>.t hS2),hcc,hcc2⟩
  refine Sr<|Wl 0 Y6<|qbo Z Z<|W0 Y5<|qae (qaq Z Z Z (hca.le (h1.t h2|>.t h3|>.t h4|>.t h5|>.t h124)) Z) Z<|qaJ Z Z Z<|At Z Z<|?_
  refine qab Z (fun c126=>?_) (fun c126=>?_)
  ·
   refine Zr<|Zqm Z Z<|Wl 1 Y6<|qbo Z Z<|W0 Y5<|W0 Y5<|Wl 2 Y6<|Zqm Z Z<|qae (qcb Z Z Z Z Z Z hux1 As) Z<|qae (qbL 3 Z Z Z Z (qcO hux1 As)) Z<|qaz (first:=[]) (captured:=[_,_]) Z Z Z (qbC D _ _ _ _ _ _ _ _ _ _ _ _ _ _ _ _ _ _ _ hsm _ a ba oa _ _ (hca.le (h1.t h2|>.t h3|>.t h4|>.t h5|>.t h124)) ha.tgt) ?_
   rintro _ _ s127 h127 ⟨rfl,rfl⟩
   refine Zn<|Zb<|Zb<|?_
   refine qat [_,_] _ (.inl Z) (.nil) Z (h1.t h2|>.t h3|>.t h4|>.t h5|>.t h124|>.t h127) fun _ hS2=>?_
   exfalso;omega
  refine Zr<|Wl 1 Y6<|qbo Z Z<|W0 Y5<|W0 Y5<|Wl 2 Y6<|Zqm Z Z<|Zqm Z Z<|qae (qcb Z Z Z Z Z Z hux1 As) Z<|qdc 3 _ Z Z Z Z Z (qfn hux1 As) Z (qfC _ hux1 As) Z<|Zn<|Zb<|Zb<|?_
  refine qat [_,_] _ (.inl Z) (.nil) Z (h1.t h2|>.t h3|>.t h4|>.t h5|>.t h124) fun _ hS2=>?_
  refine ⟨_::_::_::Oq9,Z,Z,?_⟩
  rw [qcP As As];exact ⟨bc,cc,yc,Oq9,Ao,co,Ai,ni,ci,by simp,hO,hI.le (h1.t h2|>.t h3|>.t h4|>.t h5|>.t h124|>.t hS2),by simp;exact hcc,hcc2⟩
 refine Sr<|qaJ Z Z Z<|At Z Z<|?_
 refine qab Z (fun c129=>?_) (fun c129=>?_)
 ·
  refine Zs<|Sr<|Wl 1 Y6<|qbo Z Z<|W0 Y5<|Wb Y5<|Wl 2 Y6<|Ws Y4<|qaJ Z Z Z<|Nt<|?_
  refine qab Z (fun c130=>?_) (fun c130=>?_)
  ·
   refine Sr<|Zqm Z Z<|qaz (first:=[]) (captured:=[_,_]) Z Z Z (qbC D _ _ _ _ _ _ _ _ _ _ _ _ _ _ _ _ _ _ _ hsm _ a ba oa _ _ (hca.le (h1.t h2|>.t h3|>.t h4|>.t h5)) ha.tgt) ?_
   rintro _ _ s131 h131 ⟨rfl,rfl⟩
   refine Nt<|Zo<|Zu<|Zc<|?_
   refine rR [_,_] _ (.nil) Z (h1.t h2|>.t h3|>.t h4|>.t h5|>.t h131) fun _ hS2=>?_
   refine ⟨_::_::_::Oq9,Z,Z,?_⟩
   have hi0:m.input=[]:=List.eq_nil_of_length_eq_zero O
   rw [qch As hi0];exact ⟨bc,cc,yc,Oq9,Ao,co,Ai,ni,ci,rfl,hO,hI.le (h1.t h2|>.t h3|>.t h4|>.t h5|>.t h131|>.t hS2),hcc,hcc2⟩
  obtain ⟨bi,oi,xi,rfl,hxi,hci⟩:=Bts.at_ (hI.le (h1.t h2|>.t h3|>.t h4|>.t h5)) (show 0 < ni by omega)
  refine Zk<|Zt<|Sr<|Zqm Z Z<|Wl 1 Y6<|qbo Z Z<|W0 Y5<|Wb Y5<|Wl 2 Y6<|qae (qcb Z Z Z Z Z Z Dc O) Z<|qae (qaq Z Z Z (hci.le (Lr D)) Z) Z<|qae (qaH Z Z Z Z Z (qcS O (by have:=xi.toNat_lt;omega))) Z<|qaz (first:=[]) (captured:=[_,_]) Z Z Z (qbC D _ _ _ _ _ _ _ _ _ _ _ _ _ _ _ _ _ _ _ hsm _ a ba oa _ _ (hca.le (h1.t h2|>.t h3|>.t h4|>.t h5)) ha.tgt) ?_
  rintro _ _ s132 h132 ⟨rfl,rfl⟩
  refine Nt<|qaD qaf 11 Z [2] (by intro x hx;exact qan hx) ?_
  intro s133 h133
  refine za 0 Z (Wd 1 Y5) Z<|za 1 Z (Wd 1 Y5) Z<|za 2 Z (qau Z) Z<|za 3 Z (qaw Z Z Z Z) Z<|za 4 Z (We Y4) Z<|qah 5 V<|qb1 Z Tt (Wd 2 Y5) Z<|za 6 Z (qgP (j:=1) Z Z Z Z Z O) Z<|za 7 Z (qau Z) Z<|za 8 Z (qaw Z Z Z Z) Z<|za 9 Z (We Y4) Z<|qah 10 V<|qa9 Z Tt 2 (_::_::_::_::_::_::_::_::_::_::_::_) Z Z Z Z Z Z Z Z Z (sM (qaI (sbE _)))<|qac V<|Zb ?_
  refine qat [_,_] _ (.inl Z) (.nil) Z (h1.t h2|>.t h3|>.t h4|>.t h5|>.t h132|>.t h133) fun _ hS2=>?_
  refine ⟨_::_::_::Oq9,Z,Z,?_⟩
  obtain ⟨r,hr⟩:=qbs hxi
  rw [qcN As hr]
  rw [hr] at hI
  exact ⟨bc,cc,yc,Oq9,Ao,co,_,_,_,rfl,hO,(Bts.tail hI).le (h1.t h2|>.t h3|>.t h4|>.t h5|>.t h132|>.t h133|>.t hS2),hcc,hcc2⟩
 refine Sr<|qaJ Z Z Z<|At Z Z<|?_
 refine qab Z (fun c134=>?_) (fun c134=>?_)
 ·
  refine Zs<|Sr<|Wl 1 Y6<|qbo Z Z<|W0 Y5<|Wb Y5<|Wl 2 Y6<|Ws Y4<|qgW Z Z Z<|Nt<|?_
  refine qab Z (fun c135=>?_) (fun c135=>?_)
  ·
   refine Sr<|Wl 1 Y6<|qbo Z Z<|W0 Y5<|Wb Y5<|qdc 2 (_::_::_::_::_::_::_::_::_::_::_::_) Z Z Z Z Z Z Z Z Z<|Nt<|Zo<|Zu<|Zc<|?_
   refine rR [_,_] _ (.nil) Z (h1.t h2|>.t h3|>.t h4|>.t h5) fun _ hS2=>?_
   refine ⟨_::_::_::Oq9,Z,Z,?_⟩
   rw [qoJ As hok O];exact ⟨bc,cc,yc,Oq9,Ao,co,Ai,ni,ci,rfl,hO,hI.le (h1.t h2|>.t h3|>.t h4|>.t h5|>.t hS2),hcc,hcc2⟩
  refine Zk<|Zt<|qaT qaf 14 Z 2 ?_
  intro s136 h136
  refine za 0 Z (Wd 1 Y5) Z<|za 1 Z (Wd 1 Y5) Z<|za 2 Z (qau Z) Z<|za 3 Z (qaw Z Z Z Z) Z<|za 4 Z (We Y4) Z<|za 6 Z (qao Z) Z<|za 7 Z (qav (qb9 Z Z Z Z Z) (congrArg (Value.int .u8) (qoq hux))) Z ?_
  refine qcg 5 8 V ?_ ?_
  ·
   refine qb1 Z Tt (Wd 2 Y5) Z<|qah 8 V<|qas Z Tt [(_,_)] [_] Z Z Z Z Z Z Z Z Z ?_
   intro βn s137 h137 hcn
   refine qah 9 V<|qbM (sz:=1) Z (by exact Tt) [_,_,_,_,_] Oq9 _ Z Z Z Z Z Z Z hO (Row.of_cells (hcn.le (Lr D)) Z Z) ⟨by simp [ti5];omega,by omega⟩ Z (fun A2 x hx _=>List.mem_append_left _ (by simp at hx ⊢;grind)) ?_
   intro v1 A1 s138 h138 o1
   obtain ⟨Ao1,co1,rfl,ko1,ko2⟩:=Own.slice o1
   simp only [cQ9,nQ9]
   refine za 10 Z (qau Z) Z<|za 11 Z (qaw Z Z Z Z) Z<|za 12 Z (We Y4) Z<|qah 13 V<|qa9 Z Tt 2 (_::_::_::_::_::_::_::_::_::_::_::_) Z Z Z Z Z Z Z Z Z (sM (qew (sb0 _)))<|qac V<|Zb ?_
   refine qat [_,_] _ (.inl Z) (.nil) Z (h1.t h2|>.t h3|>.t h4|>.t h5|>.t h136|>.t h137|>.t h138) fun _ hS2=>?_
   refine ⟨_::_::_::A1,Z,Z,?_⟩
   rw [qcw As O]
   have hb:bv (m.output++[UInt8.ofNat ((qba m op a.x).toNat % 256)])=bv m.output++[Value.int .u8 ((UInt8.ofNat ((qba m op a.x).toNat % 256)).toNat:Int)]:=by simp [bv]
   exact ⟨bc,cc,yc,A1,Ao1,co1,Ai,ni,ci,by simp,by simpa [hb] using o1,hI.le (h1.t h2|>.t h3|>.t h4|>.t h5|>.t h136|>.t h137|>.t h138|>.t hS2),hcc,hcc2⟩
  refine qas Z Tt [(_,_)] [_] Z Z Z Z Z Z Z Z Z ?_
  intro βn s139 h139 hcn
  refine qah 5 V<|qb1 Z Tt (Wd 2 Y5) Z<|qah 9 V<|qbM (sz:=1) Z (by exact Tt) [_,_,_,_,_] Oq9 _ Z Z Z Z Z Z Z hO (Row.of_cells (hcn.le (Lr D)) Z Z) ⟨by simp [ti5];omega,by omega⟩ Z (fun A2 x hx _=>List.mem_append_left _ (by simp at hx ⊢;grind)) ?_
  intro v1 A1 s140 h140 o1
  obtain ⟨Ao1,co1,rfl,ko1,ko2⟩:=Own.slice o1
  simp only [cQ9,nQ9]
  refine za 10 Z (qau Z) Z<|za 11 Z (qaw Z Z Z Z) Z<|za 12 Z (We Y4) Z<|qah 13 V<|qa9 Z Tt 2 (_::_::_::_::_::_::_::_::_::_::_::_) Z Z Z Z Z Z Z Z Z (sM (qew (sb0 _)))<|qac V<|Zb ?_
  refine qat [_,_] _ (.inl Z) (.nil) Z (h1.t h2|>.t h3|>.t h4|>.t h5|>.t h136|>.t h139|>.t h140) fun _ hS2=>?_
  refine ⟨_::_::_::A1,Z,Z,?_⟩
  rw [qcw As O]
  have hb:bv (m.output++[UInt8.ofNat ((qba m op a.x).toNat % 256)])=bv m.output++[Value.int .u8 ((UInt8.ofNat ((qba m op a.x).toNat % 256)).toNat:Int)]:=by simp [bv]
  exact ⟨bc,cc,yc,A1,Ao1,co1,Ai,ni,ci,by simp,by simpa [hb] using o1,hI.le (h1.t h2|>.t h3|>.t h4|>.t h5|>.t h136|>.t h139|>.t h140|>.t hS2),hcc,hcc2⟩
 refine Zs<|Sr<|qaJ Z Z Z<|At Z Z<|?_
 refine qab Z (fun c141=>?_) (fun c141=>?_)
 ·
  refine Zk<|Zt<|?_
  refine qab Z (fun c142=>?_) (fun c142=>?_)
  ·
   refine Sr<|Wl 0 Y6<|qbo Z Z<|W0 Y5<|qae (qaq Z Z Z (hca.le (h1.t h2|>.t h3|>.t h4|>.t h5)) Z) Z<|qaJ Z Z Z<|Zqm Z Z<|?_
   refine qam (t:=172) Z (fun c143=>?_) (fun c143=>?_)
   ·
    refine Wf Y4<|Wf Y4<|ZqT Z Z Z<|Nt<|Zy Z<|qaD qaf 11 Z [2] (by intro x hx;exact qan hx) ?_
    intro s144 h144
    refine za 0 Z (Wd 1 Y5) Z<|za 1 Z (Wd 1 Y5) Z<|za 2 Z (qao Z) Z<|za 3 Z (qau Z) Z<|za 4 Z (qaw Z Z Z Z) Z<|za 5 Z (We Y4) Z<|qah 6 V<|qa9 Z Tt 2 (_::_::_::_::_::_::_::_::_::_::_::_) Z Z Z Z Z Z Z Z Z (sM (qaI (sbE _)))<|za 7 Z (qau Z) Z<|za 8 Z (qaw Z Z Z Z) Z<|za 9 Z (We Y4) Z<|qah 10 V ?_
    refine qa9 Z Tt 2 (_::_::_::_::_::_::_::_::_::_::_::_) Z Z Z Z Z Z Z Z Z (sM (qaI (sbE _)))<|qac V<|Zb ?_
    refine qat [_,_] _ (.inl Z) (.nil) Z (h1.t h2|>.t h3|>.t h4|>.t h5|>.t h144) fun _ hS2=>?_
    refine ⟨_::_::_::Oq9,Z,Z,?_⟩
    rw [qlz As];exact ⟨bc,cc,yc,Oq9,Ao,co,Ai,ni,ci,rfl,hO,hI.le (h1.t h2|>.t h3|>.t h4|>.t h5|>.t h144|>.t hS2),hcc,hcc2⟩
   refine Zg Z Z<|Zqm Z Z<|Zg Z Z<|qaJ Z Z Z<|ZqF Z Z Z<|Nt<|?_
   refine qab Z (fun c145=>?_) (fun c145=>?_)
   ·
    refine qaD qaf 11 Z [2] (by intro x hx;exact qan hx) ?_
    intro s146 h146
    refine za 0 Z (Wd 1 Y5) Z<|za 1 Z (Wd 1 Y5) Z<|za 2 Z (qao Z) Z<|za 3 Z (qau Z) Z<|za 4 Z (qaw Z Z Z Z) Z<|za 5 Z (We Y4) Z<|qah 6 V<|qa9 Z Tt 2 (_::_::_::_::_::_::_::_::_::_::_::_) Z Z Z Z Z Z Z Z Z (sM (qaI (sbE _)))<|za 7 Z (qau Z) Z<|za 8 Z (qaw Z Z Z Z) Z<|za 9 Z (We Y4) Z<|qah 10 V ?_
    refine qa9 Z Tt 2 (_::_::_::_::_::_::_::_::_::_::_::_) Z Z Z Z Z Z Z Z Z (sM (qaI (sbE _)))<|qac V<|Zb ?_
    refine qat [_,_] _ (.inl Z) (.nil) Z (h1.t h2|>.t h3|>.t h4|>.t h5|>.t h146) fun _ hS2=>?_
    exfalso;omega
   refine Zk<|Zb<|?_
   refine qat [_,_] _ (.inl Z) (.nil) Z (h1.t h2|>.t h3|>.t h4|>.t h5) fun _ hS2=>?_
   exfalso;omega
  refine Zr<|Zqm Z Z<|Wl 0 Y6<|qbo Z Z<|W0 Y5<|qae (qaq Z Z Z (hca.le (h1.t h2|>.t h3|>.t h4|>.t h5)) Z) Z<|Zqm Z Z<|Zqm Z Z<|Jc Z Z Z (qcj D _ _ _ _ _ hux huy (by have:=ha.kind;omega)) ?_
  rintro _ _ s147 h147 ⟨rfl,rfl⟩
  refine qaz (first:=[]) (captured:=[_,_]) Z Z Z (qbC D _ _ _ _ _ _ _ _ _ _ _ _ _ _ _ _ _ _ _ hsm _ a ba oa _ _ (hca.le (h1.t h2|>.t h3|>.t h4|>.t h5|>.t h147)) ha.tgt) ?_
  rintro _ _ s148 h148 ⟨rfl,rfl⟩
  refine Zn<|Zb<|?_
  refine qat [_,_] _ (.inl Z) (.nil) Z (h1.t h2|>.t h3|>.t h4|>.t h5|>.t h147|>.t h148) fun _ hS2=>?_
  exfalso;omega
 refine Zr<|qaJ Z Z Z<|At Z Z<|?_
 refine qab Z (fun c149=>?_) (fun c149=>?_)
 ·
  refine Sr<|Wl 0 Y6<|qbo Z Z<|W0 Y5<|qae (qaq Z Z Z (hca.le (h1.t h2|>.t h3|>.t h4|>.t h5)) Z) Z<|qaJ Z Z Z<|Zqm Z Z<|?_
  refine qam (t:=172) Z (fun c150=>?_) (fun c150=>?_)
  ·
   refine Wf Y4<|Wf Y4<|ZqT Z Z Z<|Nt<|Zy Z<|qaD qaf 11 Z [2] (by intro x hx;exact qan hx) ?_
   intro s151 h151
   refine za 0 Z (Wd 1 Y5) Z<|za 1 Z (Wd 1 Y5) Z<|za 2 Z (qao Z) Z<|za 3 Z (qau Z) Z<|za 4 Z (qaw Z Z Z Z) Z<|za 5 Z (We Y4) Z<|qah 6 V<|qa9 Z Tt 2 (_::_::_::_::_::_::_::_::_::_::_::_) Z Z Z Z Z Z Z Z Z (sM (qaI (sbE _)))<|za 7 Z (qau Z) Z<|za 8 Z (qaw Z Z Z Z) Z<|za 9 Z (We Y4) Z<|qah 10 V ?_
   refine qa9 Z Tt 2 (_::_::_::_::_::_::_::_::_::_::_::_) Z Z Z Z Z Z Z Z Z (sM (qaI (sbE _)))<|qac V<|Zb ?_
   refine qat [_,_] _ (.inl Z) (.nil) Z (h1.t h2|>.t h3|>.t h4|>.t h5|>.t h151) fun _ hS2=>?_
   exfalso;omega
  refine Zg Z Z<|Zqm Z Z<|Zg Z Z<|qaJ Z Z Z<|ZqF Z Z Z<|Nt<|?_
  refine qab Z (fun c152=>?_) (fun c152=>?_)
  ·
   refine qaD qaf 11 Z [2] (by intro x hx;exact qan hx) ?_
   intro s153 h153
   refine za 0 Z (Wd 1 Y5) Z<|za 1 Z (Wd 1 Y5) Z<|za 2 Z (qao Z) Z<|za 3 Z (qau Z) Z<|za 4 Z (qaw Z Z Z Z) Z<|za 5 Z (We Y4) Z<|qah 6 V<|qa9 Z Tt 2 (_::_::_::_::_::_::_::_::_::_::_::_) Z Z Z Z Z Z Z Z Z (sM (qaI (sbE _)))<|za 7 Z (qau Z) Z<|za 8 Z (qaw Z Z Z Z) Z<|za 9 Z (We Y4) Z<|qah 10 V ?_
   refine qa9 Z Tt 2 (_::_::_::_::_::_::_::_::_::_::_::_) Z Z Z Z Z Z Z Z Z (sM (qaI (sbE _)))<|qac V<|Zb ?_
   refine qat [_,_] _ (.inl Z) (.nil) Z (h1.t h2|>.t h3|>.t h4|>.t h5|>.t h153) fun _ hS2=>?_
   refine ⟨_::_::_::Oq9,Z,Z,?_⟩
   rw [qmg As As];exact ⟨bc,cc,yc,Oq9,Ao,co,Ai,ni,ci,rfl,hO,hI.le (h1.t h2|>.t h3|>.t h4|>.t h5|>.t h153|>.t hS2),hcc,hcc2⟩
  refine Zk<|Zb<|?_
  refine qat [_,_] _ (.inl Z) (.nil) Z (h1.t h2|>.t h3|>.t h4|>.t h5) fun _ hS2=>?_
  refine ⟨_::_::_::Oq9,Z,Z,?_⟩
  rw [qnq As As];exact ⟨bc,cc,yc,Oq9,Ao,co,Ai,ni,ci,rfl,hO,hI.le (h1.t h2|>.t h3|>.t h4|>.t h5|>.t hS2),hcc,hcc2⟩
 refine Zr<|Zqm Z Z<|Wl 0 Y6<|qbo Z Z<|W0 Y5<|qae (qaq Z Z Z (hca.le (h1.t h2|>.t h3|>.t h4|>.t h5)) Z) Z<|Zqm Z Z<|Zqm Z Z<|Jc Z Z Z (qcj D _ _ _ _ _ hux huy (by have:=ha.kind;omega)) ?_
 rintro _ _ s154 h154 ⟨rfl,rfl⟩
 refine qaz (first:=[]) (captured:=[_,_]) Z Z Z (qbC D _ _ _ _ _ _ _ _ _ _ _ _ _ _ _ _ _ _ _ hsm _ a ba oa _ _ (hca.le (h1.t h2|>.t h3|>.t h4|>.t h5|>.t h154)) ha.tgt) ?_
 rintro _ _ s155 h155 ⟨rfl,rfl⟩
 refine Zn<|Zb<|?_
 refine qat [_,_] _ (.inl Z) (.nil) Z (h1.t h2|>.t h3|>.t h4|>.t h5|>.t h154|>.t h155) fun _ hS2=>?_
 refine ⟨_::_::_::Oq9,Z,Z,?_⟩
 rw [qoz (by have:=ha.kind;omega)];exact ⟨bc,cc,yc,Oq9,Ao,co,Ai,ni,ci,rfl,hO,hI.le (h1.t h2|>.t h3|>.t h4|>.t h5|>.t h154|>.t h155|>.t hS2),hcc,hcc2⟩
end Go.Proofs.YtjindleklapakaaGreatDoor
namespace Go.Proofs.YtjindleklapakaaGreatDoor
open Go Go.FL
structure TabG(t:Tab):Prop where
 cells:1≤t.cells∧t.cells≤65536
 len:t.ins.length≤64
 codes:∀ (i j:Nat) (x y:Ins),t.ins[i]?=some x→t.ins[j]?=some y→x.code=y.code→i=j
 acts:∀ (i:Nat) (x:Ins) (a:Ac),t.ins[i]?=some x→a∈x.acts→AcOK a∧(x.operand=false→a.x.kind≠2∧a.y.kind≠2)
 few:∀ (i:Nat) (x:Ins),t.ins[i]?=some x→x.acts.length≤8
theorem qdl{f:Nat→Int}{m j:Nat}(h:(qb3 f m j).1=0):∀ i,j≤i→i < j+m→f i=0:=by
  induction m generalizing j with
  | zero=>intro i h1 h2;omega
  | succ m ih=>
    simp only [qb3] at h
    split at h
    · contradiction
    · rename_i h0
      simp at h0
      intro i h1 h2
      rcases Nat.eq_or_lt_of_le h1 with rfl | h3
      · exact h0
      · exact ih h i h3 O
theorem qjb{α:Type}{f:α→Int}{l:List α}(h:qdY (l.map f)=0):∀ a∈l,f a=0:=by
  induction l with
  | nil=>intro a ha;cases ha
  | cons x l ih=>
    simp only [List.map_cons,qdY] at h
    split at h
    · contradiction
    · rename_i h0
      simp at h0
      intro a ha
      rcases List.mem_cons.1 ha with rfl | ha
      · exact h0
      · exact ih h a ha
theorem Inss.u32{s:World}{A:Option Addr}{n c:Nat}{l:List Ins}(h:Inss s A n c l){i:Nat}{x:Ins}{a:Ac}(hi:l[i]?=some x)(ha:a∈x.acts):U32 a.x.val∧U32 a.y.val:=by
 obtain ⟨b,off,cs,h1,h2,h3,A',n',c',rfl,h5,h6⟩:=h.2.2.2 i x hi
 obtain ⟨j,hj⟩:=List.getElem?_of_mem ha
 obtain ⟨_,_,_,_,_,_,_,h7⟩:=h5.2.2.2 j a hj
 exact h7
theorem ql1{x:Tm}{u o:Bool}(h:qgw x u o=true):(x.kind=1→x.val≤4)∧(o=false→x.kind≠2):=by
 unfold qgw at h
 cases u <;> cases o <;> simp at h ⊢ <;> omega
theorem qoc{t:Tab}{s:World}{A:Option Addr}{n c:Nat}(hX:Inss s A n c t.ins)(h:(qak t).1=0):TabG t:=by
  unfold qak at h
  split at h
  · cases h
  rename_i h1
  split at h
  · cases h
  rename_i h2
  have hr:=qdl h
  have hrow:∀ (i:Nat) (x:Ins),t.ins[i]?=some x→qb8 x=0∧(t.ins.take i).any (qdz x)=false:=fun i x hi=>by
    have hl:i < t.ins.length:=(List.getElem?_eq_some_iff.1 hi).1
    have:=hr i (Nat.zero_le _) O
    simp only [qbR,hi] at this
    split at this
    · contradiction
    · rename_i h0
      simp at h0
      refine ⟨h0,?_⟩
      split at this
      · cases this
      · rename_i h3;simpa using h3
  refine ⟨by omega,by omega,?_,?_,?_⟩
  · have key:∀ (i j:Nat) (x y:Ins),i < j→t.ins[i]?=some x→t.ins[j]?=some y→x.code≠y.code:=fun i j x y hij hi hj he=>by
      have:=(hrow j y hj).2
      rw [List.any_eq_false] at this
      have hx:x∈t.ins.take j:=List.mem_of_getElem? (i:=i) (by rw [List.getElem?_take,if_pos hij];exact hi)
      have:=this x hx
      simp [qdz,he] at this
    intro i j x y hi hj he
    rcases Nat.lt_trichotomy i j with h | h | h
    · exact absurd he (key i j x y h hi hj)
    · exact h
    · exact absurd he.symm (key j i y x h hj hi)
  · intro i x a hi ha
    obtain ⟨hu1,hu2⟩:=Inss.u32 hX hi ha
    have hc:=(hrow i x hi).1
    unfold qb8 at hc
    split at hc
    · cases hc
    split at hc
    · cases hc
    have hac:=qjb hc a ha
    unfold qbT at hac
    split at hac
    · cases hac
    split at hac
    · cases hac
    split at hac
    · cases hac
    rename_i k1 k2 k3
    simp only [Bool.or_eq_true,not_or,Bool.not_eq_true',Bool.not_eq_false] at k3
    have hx:=ql1 k3.1.2
    have hy:=ql1 k3.2
    exact ⟨⟨by omega,by omega,fun e=>⟨hu1.1,hx.1 e⟩,fun e=>⟨hu2.1,hy.1 e⟩,hu1,hu2⟩,fun e=>⟨hx.2 e,hy.2 e⟩⟩
  · intro i x hi
    have hc:=(hrow i x hi).1
    unfold qb8 at hc
    split at hc
    · cases hc
    split at hc
    · cases hc
    omega
theorem qpX(ins:List Ins)(c:Int)(k:Nat):qeR ins c k≤k:=by
 induction k with
 | zero=>exact Nat.le_refl _
 | succ k ih=>simp only [qeR];split <;> (try split) <;> omega
theorem qmi{ins:List Ins}{c:Int}{k:Nat}(h:qeR ins c k=0):∀ i x,i < k→ins[i]?=some x→x.code≠c:=by
  induction k with
  | zero=>intro i x hi;omega
  | succ k ih=>
    intro i x hi hx
    simp only [qeR] at h
    cases hk:ins[k]? with
    | none=>
      rw [hk] at h
      by_cases e:i=k
      · subst e;rw [hk] at hx;cases hx
      · exact ih h i x O hx
    | some y=>
      rw [hk] at h
      simp only at h
      split at h
      · omega
      · rename_i hy
        by_cases e:i=k
        · subst e;rw [hk] at hx;injection hx with hx;subst hx;exact hy
        · exact ih h i x O hx
theorem qoe{ins:List Ins}{c:Int}{k:Nat}(h:qeR ins c k≠0):∃ x,ins[qeR ins c k - 1]?=some x∧x.code=c:=by
 induction k with
 | zero=>exact absurd rfl h
 | succ k ih=>
  simp only [qeR] at h ⊢
  cases hk:ins[k]? with
  | none=>simp only [hk] at h ⊢;exact ih h
  | some y=>
   simp only [hk] at h ⊢
   by_cases hy:y.code=c
   · simp only [hy,if_true];exact ⟨y,hk,hy⟩
   · simp only [hy,if_false] at h ⊢;exact ih h
theorem qgL{ins:List Ins}{c:Int}(h:∀ i x,i < ins.length→ins[i]?=some x→x.code≠c):qbZ ins c=none:=by
 unfold qbZ
 rw [List.find?_eq_none]
 intro x hx
 obtain ⟨i,hi⟩:=List.getElem?_of_mem hx
 have:=h i x (List.getElem?_eq_some_iff.1 hi).1 hi
 simp [this]
theorem qem{t:Tab}(hG:TabG t){c:Int}{p:Nat}{x:Ins}(hx:t.ins[p]?=some x)(hc:x.code=c):qbZ t.ins c=some x:=by
 unfold qbZ
 cases hf:t.ins.find? (fun x=>decide (x.code=c)) with
 | none=>
  rw [List.find?_eq_none] at hf
  have:=hf x (List.mem_of_getElem? hx)
  simp [hc] at this
 | some y=>
  have h1:=List.find?_some hf
  obtain ⟨j,hj⟩:=List.getElem?_of_mem (List.mem_of_find?_eq_some hf)
  have:=hG.codes p j x y hx hj (by rw [hc];simpa using (of_decide_eq_true h1).symm)
  subst this
  rw [hx] at hj
  exact hj.symm
theorem qhp{m:Mst}(h:MOK m){i v:Int}(hv:U32 v):MOK (qd9 m i v):=by
 refine ⟨h.cells,h.wide,?_,?_,?_,?_,?_,h.output,h.input,h.code⟩ <;> simp only [qd9] <;> split <;> first | exact hv | exact h.u0 | exact h.u1 | exact h.u2 | exact h.u3 | exact h.u4
theorem qqO{k x y:Int}(hx:U32 x)(hy:U32 y):U32 (comp k x y):=by
  obtain ⟨x1,x2⟩:=hx
  obtain ⟨y1,y2⟩:=hy
  have hX:x.toNat < 2 ^ 32:=by omega
  have hY:y.toNat < 2 ^ 32:=by omega
  have a1:=Nat.and_lt_two_pow x.toNat hY
  have a2:=Nat.or_lt_two_pow hX hY
  have a3:=Nat.xor_lt_two_pow hX hY
  have a4:x.toNat >>> y.toNat≤x.toNat:=Nat.shiftRight_le _ _
  have d1:0≤x / y:=Int.ediv_nonneg x1 y1
  have d2:x / y≤x:=Int.ediv_le_self _ x1
  have e1:0≤x % y∧x % y≤x:=by
    by_cases h0:y=0
    · subst h0;simp;omega
    · exact ⟨Int.emod_nonneg x h0,by have:=Int.emod_add_mul_ediv x y;have:0≤y * (x / y):=Int.mul_nonneg y1 d1;omega⟩
  unfold comp w32
  by_cases h1:k=1
  · rw [if_pos h1];unfold U32;omega
  rw [if_neg h1]
  by_cases h2:k=2
  · rw [if_pos h2];unfold U32;omega
  rw [if_neg h2]
  by_cases h3:k=3
  · rw [if_pos h3];unfold U32;omega
  rw [if_neg h3]
  by_cases h4:k=4
  · rw [if_pos h4];unfold U32;omega
  rw [if_neg h4]
  by_cases h5:k=5
  · rw [if_pos h5];unfold U32;omega
  rw [if_neg h5]
  by_cases h6:k=6
  · rw [if_pos h6];unfold U32;omega
  rw [if_neg h6]
  by_cases h7:k=7
  · rw [if_pos h7];unfold U32;omega
  rw [if_neg h7]
  by_cases h8:k=8
  · rw [if_pos h8];unfold U32;omega
  rw [if_neg h8]
  by_cases h9:k=9
  · rw [if_pos h9];unfold U32;omega
  rw [if_neg h9]
  by_cases h10:k=10
  · rw [if_pos h10];clear a1 a2 a3;generalize x.toNat >>> y.toNat=z at a4 ⊢;unfold U32;omega
  rw [if_neg h10]
  by_cases h11:k=11
  · rw [if_pos h11];by_cases e:x=y
    · rw [if_pos e];exact ⟨by decide,by decide⟩
    · rw [if_neg e];exact ⟨by decide,by decide⟩
  rw [if_neg h11]
  by_cases h12:k=12
  · rw [if_pos h12];by_cases e:x < y
    · rw [if_pos e];exact ⟨by decide,by decide⟩
    · rw [if_neg e];exact ⟨by decide,by decide⟩
  rw [if_neg h12];exact ⟨x1,x2⟩
theorem qgu{m:Mst}(h:MOK m){a:Ac}(ha:AcOK a){op:Int}(ho:U32 op):MOK (qbj m a op):=by
  have hx:=qea h ho ha.ux
  have hy:=qea h ho ha.uy
  unfold qbj
  simp only
  repeat' split
  all_goals first
    | exact h
    | exact ⟨h.cells,h.wide,h.u0,h.u1,h.u2,h.u3,h.u4,h.output,h.input,h.code⟩
    | exact qhp h (qqO hx hy)
    | exact qhp h ⟨by decide,by decide⟩
    | exact ⟨h.cells,h.wide,h.u0,h.u1,h.u2,h.u3,h.u4,h.output,h.input,hx⟩
    | skip
  · refine qhp h ?_
    by_cases hl:(qba m op a.x).toNat < m.cells.length
    · simp only [List.getD,List.getElem?_eq_getElem hl,Option.getD_some]
      exact h.wide _ (List.getElem_mem hl)
    · simp [List.getD,List.getElem?_eq_none (Nat.le_of_not_lt hl)];exact ⟨by decide,by decide⟩
  · refine ⟨by simpa using h.cells,fun x hx=>?_,h.u0,h.u1,h.u2,h.u3,h.u4,h.output,h.input,h.code⟩
    rcases List.mem_or_eq_of_mem_set hx with h1 | h1
    · exact h.wide x h1
    · rw [h1];exact hy
  · rename_i c r hi
    have hu:U32 (c.toNat:Int):=⟨by omega,by have:=c.toNat_lt;omega⟩
    have h2:=qhp (i:=a.tgt) h hu
    have h3:=h.input
    rw [hi] at h3
    exact ⟨h2.cells,h2.wide,h2.u0,h2.u1,h2.u2,h2.u3,h2.u4,h2.output,by simp at h3;show r.length≤400000;omega,h2.code⟩
  · rename_i k1 _ _ _ k2
    have h1:=h.output
    refine ⟨h.cells,h.wide,h.u0,h.u1,h.u2,h.u3,h.u4,?_,h.input,h.code⟩
    simp only [List.length_append,List.length_cons,List.length_nil]
    have:m.output.length≠20000:=fun e=>k1 ⟨k2,e⟩
    omega
theorem qth{m:Mst}{a:Ac}(hx:a.x.kind≠2)(hy:a.y.kind≠2)(o o':Int):qbj m a o=qbj m a o':=by
 have e1:qba m o a.x=qba m o' a.x:=by simp [qba,hx]
 have e2:qba m o a.y=qba m o' a.y:=by simp [qba,hy]
 unfold qbj
 rw [e1,e2]
theorem qrD{l:List Ac}(h:∀ a∈l,a.x.kind≠2∧a.y.kind≠2)(m:Mst)(o o':Int):qca m o l=qca m o' l:=by
 induction l generalizing m with
 | nil=>rfl
 | cons a r ih=>
  have h1:=h a Mc
  simp only [qca,qth h1.1 h1.2 o o']
  rw [ih (fun b hb=>h b (List.mem_cons_of_mem _ hb))]
open Go.FL
attribute [local irreducible] JC JO JA JB qa7 qaP qdj AC fill CellsAt QE Ev Mid
section
variable{t:Tab}{m:Mst}{x:Ins}
theorem qjF(h:¬ m.r4 < (m.cells.length:Int)):qbl t m={ m with stop:=3 }:=by unfold qbl;rw [if_pos O]
theorem qkb(h:m.r4 < (m.cells.length:Int))(hf:qbZ t.ins (m.cells.getD m.r4.toNat 0)=none):qbl t m={ m with stop:=2 }:=by unfold qbl;rw [if_neg O,hf]
theorem qj4(h:m.r4 < (m.cells.length:Int))(hf:qbZ t.ins (m.cells.getD m.r4.toNat 0)=some x)(ho:x.operand=true)(h1:¬ m.r4+1 < (m.cells.length:Int)):qbl t m={ m with stop:=3 }:=by
 unfold qbl;rw [if_neg O,hf];simp only [ho,if_true];rw [if_pos O]
theorem qhk(h:m.r4 < (m.cells.length:Int))(hf:qbZ t.ins (m.cells.getD m.r4.toNat 0)=some x)(ho:x.operand=true)(h1:m.r4+1 < (m.cells.length:Int)):qbl t m=qca { m with r4:=m.r4+2 } (m.cells.getD (m.r4+1).toNat 0) x.acts:=by
 unfold qbl;rw [if_neg O,hf];simp only [ho,if_true];rw [if_neg O]
theorem qhe(h:m.r4 < (m.cells.length:Int))(hf:qbZ t.ins (m.cells.getD m.r4.toNat 0)=some x)(ho:x.operand=false)(ha:∀ a∈x.acts,a.x.kind≠2∧a.y.kind≠2)(op:Int):qbl t m=qca { m with r4:=m.r4+1 } op x.acts:=by
 unfold qbl;rw [if_neg O,hf];simp only [ho];rw [qrD ha _ op 0];rfl
end
theorem qjo{m:Mst}{op:Int}{l:List Ac}{k:Nat}{a:Ac}(h:l[k]?=some a)(hs:(qbj m a op).stop=0):qca m op (l.drop k)=qca (qbj m a op) op (l.drop (k+1)):=by
 obtain ⟨hk,rfl⟩:=List.getElem?_eq_some_iff.1 h
 rw [List.drop_eq_getElem_cons hk];simp [qca,hs]
theorem qgs{m:Mst}{op:Int}{l:List Ac}{k:Nat}{a:Ac}(h:l[k]?=some a)(hs:¬ (qbj m a op).stop=0):qca m op (l.drop k)=qbj m a op:=by
 obtain ⟨hk,rfl⟩:=List.getElem?_eq_some_iff.1 h
 rw [List.drop_eq_getElem_cons hk];simp [qca,hs]
theorem qdM{m:Mst}{op:Int}{l:List Ac}{k:Nat}(h:l.length≤k):qca m op (l.drop k)=m:=by rw [List.drop_eq_nil_of_le h];rfl
theorem qdX{l:List Int}(h:∀ x∈l,U32 x)(i:Nat):U32 (l.getD i 0):=by
 by_cases hl:i < l.length
 · simp only [List.getD,List.getElem?_eq_getElem hl,Option.getD_some];exact h _ (List.getElem_mem hl)
 · simp [List.getD,List.getElem?_eq_none (Nat.le_of_not_lt hl)];exact ⟨by decide,by decide⟩
theorem qkF{m:Mst}(h:MOK m){v:Int}(hv:U32 v):MOK { m with r4:=v }:=⟨h.cells,h.wide,h.u0,h.u1,h.u2,h.u3,hv,h.output,h.input,h.code⟩
theorem qrQ(D:Nat)(L:Hl)(s:World)(bm:Nat)(Ax:Option Addr)(nx cx:Nat)(sm:List Int)(hsm:sm.length=256)(bq:Nat)(es:List (Int×Value×Nat))(ck:Nat)(op:Int)(m:Mst)(M:Hl)(hM:qiI bm (.slice Ax nx cx) sm bq es ck op m M s)(t:Tab)(hX:Inss s Ax nx cx t.ins)(hG:TabG t)(hok:MOK m)(hop:U32 op)(hst:m.stop=0)(hS:∀ c,0≤c→c < 256→sm[c.toNat]?=some (qeR t.ins c nx:Int))(hB:∀ c,256≤c→(qb4 es c).getD (.int .i64 0)=.int .i64 (qeR t.ins c nx:Int)):AC Tryz.prog D 61 [.pointer (some ⟨bm,0,none⟩)] (M++L) s fun v L' s'=>∃ M',L'=M'++L∧v=.tuple #[]∧∃ op',U32 op'∧qiI bm (.slice Ax nx cx) sm bq es ck op' (qbl t m) M' s':=by
 obtain ⟨bc,cc,yc,Oq9,Ao,co,Ai,ni,ci,rfl,hO,hI,hcc,hcc2⟩:=hM
 have hu4:=hok.u4
 have hr1:=hu4.1
 have hr2:=hu4.2
 have hnc:=hok.cells
 have hnx:=hX.1
 have hple:=qpX t.ins (m.cells.getD m.r4.toNat 0) nx
 have hcu:=qdX hok.wide m.r4.toNat
 simp only [List.cons_append]
 refine qai (fn:=Tryz.f61) qaG Tryz.func61 V Z Tryz.ntmps61 Z (rs:=[]) Z [(0,_)] Z<|Sr<|Zqm Z Z<|qbo Z Z<|W0 Y5<|Wb Y5<|qae (qeA (sz:=1) 4 Z Z Z Z Z Z Dc) Z<|Wl 0 Y6<|At Z Z<|Zs<|Sr<|Zqm Z Z<|Zqm Z Z<|Jc Z Z Z (AC.mid [] [_] _ (qdI D _ _ _ _ _ _ _ _ _ _ _ _ _ _ _ _ _ _ _ hsm _ hu4 hnc)) ?_
 rintro _ _ s1 h1 ⟨_,rfl,rfl,rfl⟩
 simp only [cQ9,nQ9]
 refine qcQ Z Z<|Nt<|?_
 refine qbc Z (fun c2=>?_) (fun c2=>?_)
 ·
  have hfar:=c2
  refine Sr<|Zqm Z Z<|qbo Z Z<|W0 Y5<|Wb Y5<|qdc 0 (_::_::_::_::_::_::_::_::_::_::_::_) Z Z Z Z Z Z Z Z Z<|Nt<|Zo<|Zu<|?_
  refine rR [] _ (.nil) Z h1 fun _ hS2=>?_
  refine ⟨_::_::_::Oq9,Z,Z,op,hop,?_⟩
  rw [qjF hfar];exact ⟨bc,cc,yc,Oq9,Ao,co,Ai,ni,ci,rfl,hO,hI.le (h1.t hS2),hcc,hcc2⟩
 have hfar:m.r4 < (m.cells.length:Int):=c2
 refine Zk<|Zt<|Sr<|Zqm Z Z<|Zqm Z Z<|qbo Z Z<|W0 Y5<|W0 Y5<|Wl 0 Y6<|Zqm Z Z<|qae (qcb Z Z Z Z Z Z hr1 hfar) Z<|qae (qbL 1 Z Z Z Z (qcO hr1 hfar)) Z<|Jc Z Z Z (qqD D _ _ _ _ _ _ _ _ _ _ _ _ _ _ _ _ _ _ _ hsm _ es ck t.ins (hX.le h1) _ hcu (qeR t.ins (m.cells.getD m.r4.toNat 0) nx) hple (hS _ hcu.1) (hB _)) ?_
 rintro _ _ s3 h3 ⟨_,rfl,rfl,rfl⟩
 simp only [cQ9,nQ9]
 refine Zqm Z Z<|Zqx Z Z Z<|Zqx Z Z Z<|Zqa Z Z<|At Z Z<|Zs<|Zp<|Sr<|Zqm Z Z<|qcQ Z Z<|At Z Z<|?_
 refine qbc Z (fun c4=>?_) (fun c4=>?_)
 ·
  have hp0:qeR t.ins (m.cells.getD m.r4.toNat 0) nx=0:=by simpa using c4
  have hfi:=qgL (fun i x hi hx=>qmi hp0 i x O hx)
  refine Sr<|Zqm Z Z<|qbo Z Z<|W0 Y5<|Wb Y5<|qdc 0 (_::_::_::_::_::_::_::_::_::_::_::_) Z Z Z Z Z Z Z Z Z<|Nt<|Zo<|Zc<|Zu<|?_
  refine rR [] _ (.nil) Z (h1.t h3) fun _ hS2=>?_
  refine ⟨_::_::_::Oq9,Z,Z,op,hop,?_⟩
  rw [qkb hfar hfi];exact ⟨bc,cc,yc,Oq9,Ao,co,Ai,ni,ci,rfl,hO,hI.le (h1.t h3|>.t hS2),hcc,hcc2⟩
 have hp0:qeR t.ins (m.cells.getD m.r4.toNat 0) nx≠0:=by simpa using c4
 obtain ⟨bx,ox,x,A',n',c',hAx,hx,hcx,hax,_,_⟩:=Inss.at_ (hX.le (h1.t h3)) (show qeR t.ins (m.cells.getD m.r4.toNat 0) nx - 1 < nx by omega)
 subst hAx
 rw [qqM hp0]
 obtain ⟨x',hx',hxc⟩:=qoe hp0
 rw [hx] at hx'
 injection hx' with hx'
 subst hx'
 have hfi:=qem hG hx hxc
 have hn':=hax.1
 have hfew:=hG.few _ _ hx
 refine Sr<|Zqm Z Z<|qbo Z Z<|qae (qdh Z Z Z Z) Z<|qae (qcK 2 Z Z Z (hcx.le (Lr D)) Z) Z<|qcQ Z Z<|At Z Z<|?_
 refine qbU Z (fun c5=>?_) (fun c5=>?_)
 ·
  have hopd:=c5
  refine Zr<|Zqm Z Z<|Zqm Z Z<|qae (qby Z Z (qcS O O)) Z<|qbo Z Z<|W0 Y5<|Wb Y5<|qae (qeA (sz:=1) 4 Z Z Z Z Z Z Dc) Z<|qdc 0 (_::_::_::_::_::_::_::_::_::_::_::_) Z Z Z Z Z Z Z Z Z<|Zn<|Zb<|Zt<|Sr<|Zqm Z Z<|qbo Z Z<|qae (qdh Z Z Z Z) Z<|qae (qcK 3 Z Z Z (hcx.le (Lr D)) Z) Z<|Ws Y4<|Zqm Z Z<|Nt<|Zp<|?_
  refine qaQ (γ:=Nat×Mst×Int×Hl) (fun g=>[(0,_),(3,_),(86,_),(87,.int .i64 (g.1:Int))]) (fun g=>g.2.2.2++L) (fun g tw=>Le D s3 tw∧(g.1≤n'∧qiI bm (.slice (some ⟨bx,ox,none⟩) nx cx) sm bq es ck g.2.2.1 g.2.1 g.2.2.2 tw∧MOK g.2.1∧U32 g.2.2.1∧g.2.1.stop=0∧qbl t m=qca g.2.1 g.2.2.1 (x.acts.drop g.1))) (fun g=>n' - g.1) (fun _ _ _ h hl=>⟨h.1.trans hl,by obtain ⟨_,k1,⟨bc,cc,yc,Oq9,Ao,co,Ai,ni,ci,k2,k3,k4,k5⟩,k6⟩:=h;exact ⟨k1,⟨bc,cc,yc,Oq9,Ao,co,Ai,ni,ci,k2,k3,k4.le hl,k5⟩,k6⟩⟩) (0,{ m with r4:=m.r4+1 },op,_::_::_::Oq9) (.c4 Z Z Z Z (.nil _)) Z ⟨Le.refl _,⟨Nat.zero_le _,⟨bc,cc,yc,Oq9,Ao,co,Ai,ni,ci,Z,hO,hI.le (h1.t h3),hcc,hcc2⟩,qkF hok (by constructor <;> omega),by first | exact hop | exact qdX hok.wide _,hst,by first | exact qhk hfar hfi hopd hnext | exact qhe hfar hfi hopd (fun a ha=>(hG.acts _ _ _ hx ha).2 hopd) _⟩⟩ ?_
  intro g s6 I6
  obtain ⟨k,mk,opk,Mk⟩:=g
  obtain ⟨hk0,⟨bc1,cc1,yc1,O1,Ao1,co1,Ai1,ni1,ci1,hMk,hO1,hI1,hcc1,hcc21⟩,hok1,hop1,hst1,hact⟩:=I6.2
  simp only at hk0 hMk hO1 hI1 hcc1 hok1 hop1 hst1 hact
  subst hMk
  simp only [List.cons_append]
  refine Sr<|qbY Z Z Z<|Nt<|Zs<|?_
  refine qab Z (fun c7=>?_) (fun c7=>?_)
  ·
   have hk:k < n':=by omega
   obtain ⟨b2,off2,a,rfl,ha,hca,hau⟩:=Acs.at_ (hax.le I6.1) hk
   have hacOK:=hG.acts _ _ _ hx (List.mem_of_getElem? ha)
   refine Zk<|Zt<|Zs<|Zp<|Sr<|Zqm Z Z<|At Z Z<|Sr<|Zqm Z Z<|Zqm Z Z<|qbo Z Z<|qae (qdh Z Z Z Z) Z<|qae (qcK 3 Z Z Z (hcx.le I6.1) Z) Z<|Zqm Z Z<|qae (qbw Z Z Z Z Z Z hk) Z<|Jc Z Z Z (qpC D _ _ bm _ _ _ sm hsm bq es ck opk mk _ ⟨bc1,cc1,yc1,O1,Ao1,co1,Ai1,ni1,ci1,Z,hO1,hI1.le (Lr D),hcc1,hcc21⟩ a _ _ (hca.le (Lr D)) hok1 hop1 hacOK.1) ?_
   rintro _ _ s8 h8 ⟨M2,rfl,rfl,bc2,cc2,yc2,O2,Ao2,co2,Ai2,ni2,ci2,rfl,hO2,hI2,hcc22,hcc23⟩
   simp only [List.cons_append]
   refine Nt<|Sr<|Zqm Z Z<|qbo Z Z<|W0 Y5<|Wb Y5<|Wl 0 Y6<|qj3 Z Z Z<|Nt<|?_
   refine qbc Z (fun c9=>?_) (fun c9=>?_)
   ·
    have hs2:=c9
    refine Zo<|Zc<|Zu<|Zu<|Zc<|?_
    refine rR [] _ (.nil) Z (h1.t h3|>.t I6.1|>.t h8) fun _ hS2=>?_
    refine ⟨_::_::_::O2,Z,Z,opk,hop1,?_⟩
    rw [hact,qgs ha hs2];exact ⟨bc2,cc2,yc2,O2,Ao2,co2,Ai2,ni2,ci2,rfl,hO2,hI2.le ((Lr D).t hS2),hcc22,hcc23⟩
   have hs2:=c9
   refine Zk<|Zb<|Zt<|Zr<|qaW Z Z Z (w64 O O)<|Zqm Z Z<|Zn<|?_
   refine qaa ⟨(k+1,qbj mk a opk,opk,_::_::_::O2),[],kp,Z,⟨(I6.1.t h8),⟨by omega,⟨bc2,cc2,yc2,O2,Ao2,co2,Ai2,ni2,ci2,Z,hO2,hI2.le (Lr D),hcc22,hcc23⟩,qgu hok1 hacOK.1 hop1,hop1,hs2,by rw [hact,qjo ha hs2]⟩⟩,Oz⟩
  refine Zl<|Zv<|Zv<|Zd<|?_
  refine qat [] _ (.inl Z) (.nil) Z (h1.t h3|>.t I6.1) fun _ hS2=>?_
  refine ⟨_::_::_::O1,Z,Z,opk,hop1,?_⟩
  rw [hact,qdM O];exact ⟨bc1,cc1,yc1,O1,Ao1,co1,Ai1,ni1,ci1,rfl,hO1,hI1.le ((Lr D).t hS2),hcc1,hcc21⟩
 have hopd:=c5
 refine Sr<|Zqm Z Z<|Zqm Z Z<|qae (qby Z Z (qcS O O)) Z<|Jc Z Z Z (AC.mid [] [_] _ (qdI D _ _ _ _ _ _ _ _ _ _ _ _ _ _ _ _ _ _ _ hsm _ (show U32 (m.r4+1) from ⟨by omega,by omega⟩) hnc)) ?_
 rintro _ _ s10 h10 ⟨_,rfl,rfl,rfl⟩
 simp only [cQ9,nQ9]
 refine qcQ Z Z<|At Z Z<|?_
 refine qbc Z (fun c11=>?_) (fun c11=>?_)
 ·
  have hnext:=c11
  refine Sr<|Zqm Z Z<|qbo Z Z<|W0 Y5<|Wb Y5<|qdc 0 (_::_::_::_::_::_::_::_::_::_::_::_) Z Z Z Z Z Z Z Z Z<|Nt<|Zo<|Zc<|Zu<|?_
  refine rR [] _ (.nil) Z (h1.t h3|>.t h10) fun _ hS2=>?_
  refine ⟨_::_::_::Oq9,Z,Z,op,hop,?_⟩
  rw [qj4 hfar hfi hopd hnext];exact ⟨bc,cc,yc,Oq9,Ao,co,Ai,ni,ci,rfl,hO,hI.le (h1.t h3|>.t h10|>.t hS2),hcc,hcc2⟩
 have hnext:m.r4+1 < (m.cells.length:Int):=c11
 refine Sr<|Zqm Z Z<|Zqm Z Z<|qbo Z Z<|W0 Y5<|W0 Y5<|Wl 0 Y6<|Zqm Z Z<|qae (qby Z Z (qcS O O)) Z<|qae (qcb Z Z Z Z Z Z O hnext) Z<|qae (qbL 1 Z Z Z Z (qcO O hnext)) Z<|qbo Z Z<|Wb Y5<|qdc 0 _ Z Z Z Z Z (qs6 _ _ _ _ _ _ _ _ _ _ _ _ _ hsm) Z (qtl _ _ _ _ _ _ _ _ _ _ _ _ _ _ hsm) Z<|Nt<|Zr<|Zqm Z Z<|Zqm Z Z<|qae (qby Z Z (qcS O O)) Z<|qbo Z Z<|W0 Y5<|Wb Y5<|qae (qeA (sz:=1) 4 Z Z Z Z Z Z Dc) Z ?_
 refine qdc 0 (_::_::_::_::_::_::_::_::_::_::_::_) Z Z Z Z Z Z Z Z Z<|Zn<|Zb<|Zt<|Sr<|Zqm Z Z<|qbo Z Z<|qae (qdh Z Z Z Z) Z<|qae (qcK 3 Z Z Z (hcx.le h10) Z) Z<|Ws Y4<|Zqm Z Z<|Nt<|Zp<|?_
 refine qaQ (γ:=Nat×Mst×Int×Hl) (fun g=>[(0,_),(3,_),(86,_),(87,.int .i64 (g.1:Int))]) (fun g=>g.2.2.2++L) (fun g tw=>Le D s10 tw∧(g.1≤n'∧qiI bm (.slice (some ⟨bx,ox,none⟩) nx cx) sm bq es ck g.2.2.1 g.2.1 g.2.2.2 tw∧MOK g.2.1∧U32 g.2.2.1∧g.2.1.stop=0∧qbl t m=qca g.2.1 g.2.2.1 (x.acts.drop g.1))) (fun g=>n' - g.1) (fun _ _ _ h hl=>⟨h.1.trans hl,by obtain ⟨_,k1,⟨bc,cc,yc,Oq9,Ao,co,Ai,ni,ci,k2,k3,k4,k5⟩,k6⟩:=h;exact ⟨k1,⟨bc,cc,yc,Oq9,Ao,co,Ai,ni,ci,k2,k3,k4.le hl,k5⟩,k6⟩⟩) (0,{ m with r4:=m.r4+2 },m.cells.getD (m.r4+1).toNat 0,_::_::_::Oq9) (.c4 Z Z Z Z (.nil _)) Z ⟨Le.refl _,⟨Nat.zero_le _,⟨bc,cc,yc,Oq9,Ao,co,Ai,ni,ci,Z,hO,hI.le (h1.t h3|>.t h10),hcc,hcc2⟩,qkF hok (by constructor <;> omega),by first | exact hop | exact qdX hok.wide _,hst,by first | exact qhk hfar hfi hopd hnext | exact qhe hfar hfi hopd (fun a ha=>(hG.acts _ _ _ hx ha).2 hopd) _⟩⟩ ?_
 intro g s13 I13
 obtain ⟨k,mk,opk,Mk⟩:=g
 obtain ⟨hk0,⟨bc1,cc1,yc1,O1,Ao1,co1,Ai1,ni1,ci1,hMk,hO1,hI1,hcc1,hcc21⟩,hok1,hop1,hst1,hact⟩:=I13.2
 simp only at hk0 hMk hO1 hI1 hcc1 hok1 hop1 hst1 hact
 subst hMk
 simp only [List.cons_append]
 refine Sr<|qbY Z Z Z<|Nt<|Zs<|?_
 refine qab Z (fun c14=>?_) (fun c14=>?_)
 ·
  have hk:k < n':=by omega
  obtain ⟨b2,off2,a,rfl,ha,hca,hau⟩:=Acs.at_ (hax.le (h10.t I13.1)) hk
  have hacOK:=hG.acts _ _ _ hx (List.mem_of_getElem? ha)
  refine Zk<|Zt<|Zs<|Zp<|Sr<|Zqm Z Z<|At Z Z<|Sr<|Zqm Z Z<|Zqm Z Z<|qbo Z Z<|qae (qdh Z Z Z Z) Z<|qae (qcK 3 Z Z Z (hcx.le (h10.t I13.1)) Z) Z<|Zqm Z Z<|qae (qbw Z Z Z Z Z Z hk) Z<|Jc Z Z Z (qpC D _ _ bm _ _ _ sm hsm bq es ck opk mk _ ⟨bc1,cc1,yc1,O1,Ao1,co1,Ai1,ni1,ci1,Z,hO1,hI1.le (Lr D),hcc1,hcc21⟩ a _ _ (hca.le (Lr D)) hok1 hop1 hacOK.1) ?_
  rintro _ _ s15 h15 ⟨M2,rfl,rfl,bc2,cc2,yc2,O2,Ao2,co2,Ai2,ni2,ci2,rfl,hO2,hI2,hcc22,hcc23⟩
  simp only [List.cons_append]
  refine Nt<|Sr<|Zqm Z Z<|qbo Z Z<|W0 Y5<|Wb Y5<|Wl 0 Y6<|qj3 Z Z Z<|Nt<|?_
  refine qbc Z (fun c16=>?_) (fun c16=>?_)
  ·
   have hs2:=c16
   refine Zo<|Zc<|Zu<|Zu<|Zc<|?_
   refine rR [] _ (.nil) Z (h1.t h3|>.t h10|>.t I13.1|>.t h15) fun _ hS2=>?_
   refine ⟨_::_::_::O2,Z,Z,opk,hop1,?_⟩
   rw [hact,qgs ha hs2];exact ⟨bc2,cc2,yc2,O2,Ao2,co2,Ai2,ni2,ci2,rfl,hO2,hI2.le ((Lr D).t hS2),hcc22,hcc23⟩
  have hs2:=c16
  refine Zk<|Zb<|Zt<|Zr<|qaW Z Z Z (w64 O O)<|Zqm Z Z<|Zn<|?_
  refine qaa ⟨(k+1,qbj mk a opk,opk,_::_::_::O2),[],kp,Z,⟨(I13.1.t h15),⟨by omega,⟨bc2,cc2,yc2,O2,Ao2,co2,Ai2,ni2,ci2,Z,hO2,hI2.le (Lr D),hcc22,hcc23⟩,qgu hok1 hacOK.1 hop1,hop1,hs2,by rw [hact,qjo ha hs2]⟩⟩,Oz⟩
 refine Zl<|Zv<|Zv<|Zd<|?_
 refine qat [] _ (.inl Z) (.nil) Z (h1.t h3|>.t h10|>.t I13.1) fun _ hS2=>?_
 refine ⟨_::_::_::O1,Z,Z,opk,hop1,?_⟩
 rw [hact,qdM O];exact ⟨bc1,cc1,yc1,O1,Ao1,co1,Ai1,ni1,ci1,rfl,hO1,hI1.le ((Lr D).t hS2),hcc1,hcc21⟩
open Go.Proofs.Tryz
theorem qic(D:Nat)(L:Hl)(s:World)(m:Mst)(op:Int)(bm bc bq:Nat)(Ai Ao Ax:Option Addr)(nc cc ni ci no co nx cx:Nat)(sm:List Int)(hsm:sm.length=256)(hI:Bts s Ai ni ci m.input)(hni:ni≤1000000):AC prog D 62 [.pointer (some ⟨bm,0,none⟩)] ([(bm,cb (.slice (some ⟨bc,0,none⟩) nc cc::.int .u32 m.r0::.int .u32 m.r1::.int .u32 m.r2::.int .u32 m.r3::.int .u32 m.r4::.slice Ai ni ci::.slice Ao no co::.int .i64 m.stop::.int .u32 m.code::.slice Ax nx cx::(iv sm++[.map (some bq),.int .u32 op])) 140)]++L) s fun v L' s'=>∃ M',L'=M'++L∧M'=[(bm,cb (.slice (some ⟨bc,0,none⟩) nc cc::.int .u32 m.r0::.int .u32 m.r1::.int .u32 m.r2::.int .u32 m.r3::.int .u32 m.r4::.slice Ai ni ci::.slice Ao no co::.int .i64 m.stop::.int .u32 m.code::.slice Ax nx cx::(iv sm++[.map (some bq),.int .u32 op])) 140)]∧∃ Ad c',v=.agg #[.slice (some ⟨bc,0,none⟩) nc cc,.int .u32 m.r0,.int .u32 m.r1,.int .u32 m.r2,.int .u32 m.r3,.int .u32 m.r4,.slice Ad ni c',.slice Ao no co,.int .i64 m.stop,.int .u32 m.code]∧Bts s' Ad ni c' m.input:=by
 refine qai (fn:=f62) qaG func62 V Z ntmps62 Z (rs:=[.cell 2 82]) Z [(0,_)] Z<|Sr<|qag Z [_,_,_,_,_,_,_,_,_,_] Z Z ?_
 intro β1 s1 h1
 refine Nt<|Sr<|Zqm Z Z<|qbo Z Z<|W0 Y5<|qae (qad 1 [_,_,_,_,_,_,_,_,_,_] Z Z Z Z Z) Z<|qag Z [_,_,_,_,_,_,_,_,_,_] Z Z ?_
 intro β2 s2 h2
 refine Wt 0 [_,_,_,_,_,_,_,_,_,_] Y9<|Nt<|Sr<|Wb Y5<|Wl 0 Y6<|Jc Z Z Z (AC.pub (qaB D _ _ _ _ _ _ (hI.le (h1.t h2)) hni)) ?_
 rintro _ _ s3 h3 ⟨rfl,M1,sw,⟨Ad,c1,rfl,_,_,hOw⟩,hsw,hcw⟩
 have hB1:=Own.bts hOw hcw
 refine Wb Y5<|Wt 0 [_,_,_,_,_,_,_,_,_,_] Y9<|Nt<|Sr<|qae (qad 0 [_,_,_,_,_,_,_,_,_,_] Z Z Z Z Z) Z<|Wt 1 [_,_,_,_,_,_,_,_,_,_] Y9<|Nt<|Zo<|?_
 refine rR [_,_] _ (.agg (us:=[_,_,_,_,_,_,_,_,_,_]) 1 Z Z Z Z Z (.nil)) Z (h1.t h2|>.t h3) fun _ hS2=>?_
 exact ⟨[_],rfl,rfl,Ad,c1,rfl,hB1.le ((Lr D).t hS2)⟩
theorem qe5{ins:List Ins}{k:Nat}{x:Ins}(h:ins[k]?=some x)(c:Int):qeR ins c (k+1)=if x.code=c then k+1 else qeR ins c k:=by simp [qeR,h]
theorem qeT{ins:List Ins}{k:Nat}{x:Ins}{sm:List Int}(h:ins[k]?=some x)(hx:U32 x.code)(hlt:x.code < 256)(hl:sm.length=256)(hS:∀ c:Int,0≤c→c < 256→sm[c.toNat]?=some (qeR ins c k:Int)) :
    (sm.set x.code.toNat ((k:Int)+1)).length=256∧∀ c:Int,0≤c→c < 256→(sm.set x.code.toNat ((k:Int)+1))[c.toNat]?=some (qeR ins c (k+1):Int):=by
  refine ⟨by simpa using hl,fun c h1 h2=>?_⟩
  have hx0:=hx.1
  rw [qe5 h]
  by_cases e:x.code=c
  · subst e
    rw [if_pos rfl,List.getElem?_set_self O];simp
  · rw [if_neg e,List.getElem?_set_ne O];exact hS c h1 h2
theorem qh1{ins:List Ins}{k:Nat}{x:Ins}{es:List (Int×Value×Nat)}(h:ins[k]?=some x)(hlt:x.code < 256)(hB:∀ c:Int,256≤c→(qb4 es c).getD (.int .i64 0)=.int .i64 (qeR ins c k:Int)) :
  ∀ c:Int,256≤c→(qb4 es c).getD (.int .i64 0)=.int .i64 (qeR ins c (k+1):Int):=fun c hc=>by
 rw [qe5 h,if_neg O];exact hB c hc
theorem qh4{ins:List Ins}{k:Nat}{x:Ins}{sm:List Int}(h:ins[k]?=some x)(hge:¬ x.code < 256)(hS:∀ c:Int,0≤c→c < 256→sm[c.toNat]?=some (qeR ins c k:Int)) :
  ∀ c:Int,0≤c→c < 256→sm[c.toNat]?=some (qeR ins c (k+1):Int):=fun c h1 h2=>by
 rw [qe5 h,if_neg O];exact hS c h1 h2
theorem qk6{ins:List Ins}{k:Nat}{x:Ins}{es:List (Int×Value×Nat)}{ck:Nat}(h:ins[k]?=some x)(hB:∀ c:Int,256≤c→(qb4 es c).getD (.int .i64 0)=.int .i64 (qeR ins c k:Int)) :
  ∀ c:Int,256≤c→(qb4 (qh2 es x.code (.int .i64 ((k:Int)+1)) ck) c).getD (.int .i64 0)=.int .i64 (qeR ins c (k+1):Int):=fun c hc=>by
 rw [qgI,qe5 h]
 by_cases e:c=x.code
 · rw [if_pos e,if_pos e.symm];simp
 · rw [if_neg e,if_neg (fun h=>e h.symm)];exact hB c hc
theorem qrv(D:Nat)(L:Hl)(s:World)(t:Tab)(A:Option Addr)(n c:Nat)(hA:Inss s A n c t.ins)(m:Mst)(Ax Bx Ox:Option Addr)(nAx cAx nBx cBx nOx cOx:Nat)(hAx:Wds s Ax nAx cAx m.cells)(hBx:Bts s Bx nBx cBx m.input)(hOx:Bts s Ox nOx cOx m.output)(hok:MOK m)(hc0:0 < m.cells.length):AC prog D 60 [.agg #[.int .i64 t.cells,.slice A n c],.agg #[.slice Ax nAx cAx,.int .u32 m.r0,.int .u32 m.r1,.int .u32 m.r2,.int .u32 m.r3,.int .u32 m.r4,.slice Bx nBx cBx,.slice Ox nOx cOx,.int .i64 m.stop,.int .u32 m.code]] L s fun v L' s'=>∃ M',L'=M'++L∧∃ bm sm bq es ck,v=.pointer (some ⟨bm,0,none⟩)∧sm.length=256∧(∀ c:Int,0≤c→c < 256→sm[c.toNat]?=some (qeR t.ins c n:Int))∧(∀ c:Int,256≤c→(qb4 es c).getD (.int .i64 0)=.int .i64 (qeR t.ins c n:Int))∧qiI bm (.slice A n c) sm bq es ck 0 m M' s':=by
 obtain rfl:=hAx.1
 obtain rfl:=hOx.1
 have hnB:=hBx.1
 have hb1:=hok.cells
 have hb2:=hok.input
 have hb3:=hok.output
 have hn:=hA.1
 have hcn:=hA.2.1
 have hcm:=hA.2.2.1
 refine qai (fn:=f60) qaG func60 V Z ntmps60 Z (rs:=[.tmp 4]) Z [(0,_),(1,_)] Z<|Sr<|qaL Z Z ?_
 intro β1 s1 h1
 refine qaL Z Z ?_
 intro β2 s2 h2
 refine At Z Z<|?_
 refine qpo (γ:=Nat×Nat×List Value×Hl×Option Addr×Nat×Option Addr×Nat) (fun g=>[(2,.pointer (some ⟨β1,0,none⟩)),(3,.pointer (some ⟨β2,0,none⟩)),(4,.pointer none)]) (fun g=>(β2,cb [.slice (some ⟨g.1,0,none⟩) m.cells.length g.2.1,.int .u32 m.r0,.int .u32 m.r1,.int .u32 m.r2,.int .u32 m.r3,.int .u32 m.r4,.slice g.2.2.2.2.2.2.1 nBx g.2.2.2.2.2.2.2,.slice g.2.2.2.2.1 m.output.length g.2.2.2.2.2.1,.int .i64 m.stop,.int .u32 m.code] 82)::(β1,cb [.int .i64 t.cells,.slice A n c] 24)::(g.1,cb (wv m.cells++g.2.2.1) 38)::(g.2.2.2.1++L)) (fun g tw=>Le D s2 tw∧(FL.Own 5 1 g.2.2.2.1 (.slice g.2.2.2.2.1 m.output.length g.2.2.2.2.2.1) m.output.length (bv m.output)∧Bts tw g.2.2.2.2.2.2.1 nBx g.2.2.2.2.2.2.2 m.input∧m.cells.length+g.2.2.1.length=g.2.1∧g.2.1≤9223372036854775807)) (fun _ _ _ h hl=>⟨h.1.trans hl,by obtain ⟨_,k1,k2,k3⟩:=h;exact ⟨k1,k2.le hl,k3⟩⟩) ?_ ?_
 ·
  refine qaT qaf 15 Z 0 ?_
  intro s4 h4
  refine za 0 Z (qaw Z Z Z Z) Z<|za 3 Z (We Y4) Z<|za 6 Z (We Y4) Z ?_
  refine qsl 1 4 7 V ?_ ?_ ?_
  ·
   refine qb1 Z Tt (Wd 0 Y5) Z ?_
   refine qsl 2 4 7 V ?_ ?_ ?_
   ·
    refine Jb Z Tt Z Z Z (AC.mid [_,_] [] _ (qbS D _ _ _ _ _ _ (hAx.le (h1.t h2|>.t h4)) O)) ?_
    rintro _ _ s5 h5 ⟨M1,rfl,Ad,c1,rfl,_,_,hO1⟩
    refine ⟨(fun x h _=>by cases h),?_⟩
    obtain ⟨bc,yc,rfl,rfl,hcy,hcy2⟩:=Own.blk_of hO1 hc0
    simp only [cQ9,nQ9]
    refine qcg 4 7 V ?_ ?_
    ·
     refine qb1 Z Tt (Wd 0 Y5) Z ?_
     refine qcg 5 7 V ?_ ?_
     ·
      refine Jb Z Tt Z Z Z (AC.pub (qaB D _ _ _ _ _ _ (hBx.le (h1.t h2|>.t h4|>.t h5)) O)) ?_
      rintro _ _ s6 h6 ⟨rfl,Mi,swi,⟨Ai1,ci1,rfl,_,_,hOi⟩,hswi,hcwi⟩
      refine ⟨fun _ _ h=>h,?_⟩
      have hBi:=Own.bts hOi hcwi
      refine qah 7 V<|qb1 Z Tt (Wd 0 Y5) Z<|za 9 Z (qaw Z Z Z Z) Z<|qah 8 V<|Jb Z Tt Z Z Z (AC.mid [_,_,_] [] _ (qaB D _ _ _ _ _ _ (hOx.le (h1.t h2|>.t h4|>.t h5|>.t h6)) O)) ?_
      rintro _ _ s7 h7 ⟨Oq9,rfl,Ao1,co1,rfl,_,_,hOo⟩
      refine ⟨(fun x h _=>by cases h),?_⟩
      simp only [cQ9,nQ9]
      refine qah 10 V<|Wu Z Tt 0 [_,_,_,_,_,_,_,_,_,_] Y9 (fun x hx=>by cases hx)<|za 11 Z (We Y4) Z<|qah 12 V<|Wu Z Tt 0 [_,_,_,_,_,_,_,_,_,_] Y9 (fun x hx=>by cases hx)<|za 13 Z (We Y4) Z<|qah 14 V<|Wu Z Tt 0 [_,_,_,_,_,_,_,_,_,_] Y9 (fun x hx=>by cases hx)<|qac V ?_
      refine qaa (Mid.mk (bc,c1,yc,Oq9,Ao1,co1,Ai1,ci1) [] kp Pr ⟨(h4.t h5|>.t h6|>.t h7),⟨hOo,hBi.le h7,by rw [← hcy,qb6],hcy2⟩⟩)
     refine qb1 Z Tt (Wd 0 Y5) Z<|za 9 Z (qaw Z Z Z Z) Z<|qah 5 V<|Jb Z Tt Z Z Z (AC.pub (qaB D _ _ _ _ _ _ (hBx.le (h1.t h2|>.t h4|>.t h5)) O)) ?_
     rintro _ _ s8 h8 ⟨rfl,Mi,swi,⟨Ai1,ci1,rfl,_,_,hOi⟩,hswi,hcwi⟩
     refine ⟨fun _ _ h=>h,?_⟩
     have hBi:=Own.bts hOi hcwi
     refine qah 8 V<|Jb Z Tt Z Z Z (AC.mid [_,_,_] [] _ (qaB D _ _ _ _ _ _ (hOx.le (h1.t h2|>.t h4|>.t h5|>.t h8)) O)) ?_
     rintro _ _ s9 h9 ⟨Oq9,rfl,Ao1,co1,rfl,_,_,hOo⟩
     refine ⟨(fun x h _=>by cases h),?_⟩
     simp only [cQ9,nQ9]
     refine qah 10 V<|Wu Z Tt 0 [_,_,_,_,_,_,_,_,_,_] Y9 (fun x hx=>by cases hx)<|za 11 Z (We Y4) Z<|qah 12 V<|Wu Z Tt 0 [_,_,_,_,_,_,_,_,_,_] Y9 (fun x hx=>by cases hx)<|za 13 Z (We Y4) Z<|qah 14 V<|Wu Z Tt 0 [_,_,_,_,_,_,_,_,_,_] Y9 (fun x hx=>by cases hx)<|qac V ?_
     refine qaa (Mid.mk (bc,c1,yc,Oq9,Ao1,co1,Ai1,ci1) [] kp Pr ⟨(h4.t h5|>.t h8|>.t h9),⟨hOo,hBi.le h9,by rw [← hcy,qb6],hcy2⟩⟩)
    refine qb1 Z Tt (Wd 0 Y5) Z<|qah 4 V<|qb1 Z Tt (Wd 0 Y5) Z<|za 9 Z (qaw Z Z Z Z) Z<|qah 5 V<|Jb Z Tt Z Z Z (AC.pub (qaB D _ _ _ _ _ _ (hBx.le (h1.t h2|>.t h4|>.t h5)) O)) ?_
    rintro _ _ s10 h10 ⟨rfl,Mi,swi,⟨Ai1,ci1,rfl,_,_,hOi⟩,hswi,hcwi⟩
    refine ⟨fun _ _ h=>h,?_⟩
    have hBi:=Own.bts hOi hcwi
    refine qah 8 V<|Jb Z Tt Z Z Z (AC.mid [_,_,_] [] _ (qaB D _ _ _ _ _ _ (hOx.le (h1.t h2|>.t h4|>.t h5|>.t h10)) O)) ?_
    rintro _ _ s11 h11 ⟨Oq9,rfl,Ao1,co1,rfl,_,_,hOo⟩
    refine ⟨(fun x h _=>by cases h),?_⟩
    simp only [cQ9,nQ9]
    refine qah 10 V<|Wu Z Tt 0 [_,_,_,_,_,_,_,_,_,_] Y9 (fun x hx=>by cases hx)<|za 11 Z (We Y4) Z<|qah 12 V<|Wu Z Tt 0 [_,_,_,_,_,_,_,_,_,_] Y9 (fun x hx=>by cases hx)<|za 13 Z (We Y4) Z<|qah 14 V<|Wu Z Tt 0 [_,_,_,_,_,_,_,_,_,_] Y9 (fun x hx=>by cases hx)<|qac V ?_
    refine qaa (Mid.mk (bc,c1,yc,Oq9,Ao1,co1,Ai1,ci1) [] kp Pr ⟨(h4.t h5|>.t h10|>.t h11),⟨hOo,hBi.le h11,by rw [← hcy,qb6],hcy2⟩⟩)
   ·
    refine qb1 Z Tt (Wd 0 Y5) Z ?_
    refine qcg 2 7 V ?_ ?_
    ·
     refine Jb Z Tt Z Z Z (AC.mid [_,_] [] _ (qbS D _ _ _ _ _ _ (hAx.le (h1.t h2|>.t h4)) O)) ?_
     rintro _ _ s12 h12 ⟨M1,rfl,Ad,c1,rfl,_,_,hO1⟩
     refine ⟨(fun x h _=>by cases h),?_⟩
     obtain ⟨bc,yc,rfl,rfl,hcy,hcy2⟩:=Own.blk_of hO1 hc0
     simp only [cQ9,nQ9]
     refine qcg 5 7 V ?_ ?_
     ·
      refine Jb Z Tt Z Z Z (AC.pub (qaB D _ _ _ _ _ _ (hBx.le (h1.t h2|>.t h4|>.t h12)) O)) ?_
      rintro _ _ s13 h13 ⟨rfl,Mi,swi,⟨Ai1,ci1,rfl,_,_,hOi⟩,hswi,hcwi⟩
      refine ⟨fun _ _ h=>h,?_⟩
      have hBi:=Own.bts hOi hcwi
      refine qah 7 V<|qb1 Z Tt (Wd 0 Y5) Z<|za 9 Z (qaw Z Z Z Z) Z<|qah 8 V<|Jb Z Tt Z Z Z (AC.mid [_,_,_] [] _ (qaB D _ _ _ _ _ _ (hOx.le (h1.t h2|>.t h4|>.t h12|>.t h13)) O)) ?_
      rintro _ _ s14 h14 ⟨Oq9,rfl,Ao1,co1,rfl,_,_,hOo⟩
      refine ⟨(fun x h _=>by cases h),?_⟩
      simp only [cQ9,nQ9]
      refine qah 10 V<|Wu Z Tt 0 [_,_,_,_,_,_,_,_,_,_] Y9 (fun x hx=>by cases hx)<|za 11 Z (We Y4) Z<|qah 12 V<|Wu Z Tt 0 [_,_,_,_,_,_,_,_,_,_] Y9 (fun x hx=>by cases hx)<|za 13 Z (We Y4) Z<|qah 14 V<|Wu Z Tt 0 [_,_,_,_,_,_,_,_,_,_] Y9 (fun x hx=>by cases hx)<|qac V ?_
      refine qaa (Mid.mk (bc,c1,yc,Oq9,Ao1,co1,Ai1,ci1) [] kp Pr ⟨(h4.t h12|>.t h13|>.t h14),⟨hOo,hBi.le h14,by rw [← hcy,qb6],hcy2⟩⟩)
     refine qb1 Z Tt (Wd 0 Y5) Z<|za 9 Z (qaw Z Z Z Z) Z<|qah 5 V<|Jb Z Tt Z Z Z (AC.pub (qaB D _ _ _ _ _ _ (hBx.le (h1.t h2|>.t h4|>.t h12)) O)) ?_
     rintro _ _ s15 h15 ⟨rfl,Mi,swi,⟨Ai1,ci1,rfl,_,_,hOi⟩,hswi,hcwi⟩
     refine ⟨fun _ _ h=>h,?_⟩
     have hBi:=Own.bts hOi hcwi
     refine qah 8 V<|Jb Z Tt Z Z Z (AC.mid [_,_,_] [] _ (qaB D _ _ _ _ _ _ (hOx.le (h1.t h2|>.t h4|>.t h12|>.t h15)) O)) ?_
     rintro _ _ s16 h16 ⟨Oq9,rfl,Ao1,co1,rfl,_,_,hOo⟩
     refine ⟨(fun x h _=>by cases h),?_⟩
     simp only [cQ9,nQ9]
     refine qah 10 V<|Wu Z Tt 0 [_,_,_,_,_,_,_,_,_,_] Y9 (fun x hx=>by cases hx)<|za 11 Z (We Y4) Z<|qah 12 V<|Wu Z Tt 0 [_,_,_,_,_,_,_,_,_,_] Y9 (fun x hx=>by cases hx)<|za 13 Z (We Y4) Z<|qah 14 V<|Wu Z Tt 0 [_,_,_,_,_,_,_,_,_,_] Y9 (fun x hx=>by cases hx)<|qac V ?_
     refine qaa (Mid.mk (bc,c1,yc,Oq9,Ao1,co1,Ai1,ci1) [] kp Pr ⟨(h4.t h12|>.t h15|>.t h16),⟨hOo,hBi.le h16,by rw [← hcy,qb6],hcy2⟩⟩)
    refine qb1 Z Tt (Wd 0 Y5) Z<|qah 2 V<|Jb Z Tt Z Z Z (AC.mid [_,_] [] _ (qbS D _ _ _ _ _ _ (hAx.le (h1.t h2|>.t h4)) O)) ?_
    rintro _ _ s17 h17 ⟨M1,rfl,Ad,c1,rfl,_,_,hO1⟩
    refine ⟨(fun x h _=>by cases h),?_⟩
    obtain ⟨bc,yc,rfl,rfl,hcy,hcy2⟩:=Own.blk_of hO1 hc0
    simp only [cQ9,nQ9]
    refine za 9 Z (qaw Z Z Z Z) Z<|qah 5 V<|Jb Z Tt Z Z Z (AC.pub (qaB D _ _ _ _ _ _ (hBx.le (h1.t h2|>.t h4|>.t h17)) O)) ?_
    rintro _ _ s18 h18 ⟨rfl,Mi,swi,⟨Ai1,ci1,rfl,_,_,hOi⟩,hswi,hcwi⟩
    refine ⟨fun _ _ h=>h,?_⟩
    have hBi:=Own.bts hOi hcwi
    refine qah 8 V<|Jb Z Tt Z Z Z (AC.mid [_,_,_] [] _ (qaB D _ _ _ _ _ _ (hOx.le (h1.t h2|>.t h4|>.t h17|>.t h18)) O)) ?_
    rintro _ _ s19 h19 ⟨Oq9,rfl,Ao1,co1,rfl,_,_,hOo⟩
    refine ⟨(fun x h _=>by cases h),?_⟩
    simp only [cQ9,nQ9]
    refine qah 10 V<|Wu Z Tt 0 [_,_,_,_,_,_,_,_,_,_] Y9 (fun x hx=>by cases hx)<|za 11 Z (We Y4) Z<|qah 12 V<|Wu Z Tt 0 [_,_,_,_,_,_,_,_,_,_] Y9 (fun x hx=>by cases hx)<|za 13 Z (We Y4) Z<|qah 14 V<|Wu Z Tt 0 [_,_,_,_,_,_,_,_,_,_] Y9 (fun x hx=>by cases hx)<|qac V ?_
    refine qaa (Mid.mk (bc,c1,yc,Oq9,Ao1,co1,Ai1,ci1) [] kp Pr ⟨(h4.t h17|>.t h18|>.t h19),⟨hOo,hBi.le h19,by rw [← hcy,qb6],hcy2⟩⟩)
   refine qb1 Z Tt (Wd 0 Y5) Z ?_
   refine qcg 2 4 V ?_ ?_
   ·
    refine Jb Z Tt Z Z Z (AC.mid [_,_] [] _ (qbS D _ _ _ _ _ _ (hAx.le (h1.t h2|>.t h4)) O)) ?_
    rintro _ _ s20 h20 ⟨M1,rfl,Ad,c1,rfl,_,_,hO1⟩
    refine ⟨(fun x h _=>by cases h),?_⟩
    obtain ⟨bc,yc,rfl,rfl,hcy,hcy2⟩:=Own.blk_of hO1 hc0
    simp only [cQ9,nQ9]
    refine qah 4 V<|qb1 Z Tt (Wd 0 Y5) Z<|za 9 Z (qaw Z Z Z Z) Z<|qah 5 V<|Jb Z Tt Z Z Z (AC.pub (qaB D _ _ _ _ _ _ (hBx.le (h1.t h2|>.t h4|>.t h20)) O)) ?_
    rintro _ _ s21 h21 ⟨rfl,Mi,swi,⟨Ai1,ci1,rfl,_,_,hOi⟩,hswi,hcwi⟩
    refine ⟨fun _ _ h=>h,?_⟩
    have hBi:=Own.bts hOi hcwi
    refine qah 8 V<|Jb Z Tt Z Z Z (AC.mid [_,_,_] [] _ (qaB D _ _ _ _ _ _ (hOx.le (h1.t h2|>.t h4|>.t h20|>.t h21)) O)) ?_
    rintro _ _ s22 h22 ⟨Oq9,rfl,Ao1,co1,rfl,_,_,hOo⟩
    refine ⟨(fun x h _=>by cases h),?_⟩
    simp only [cQ9,nQ9]
    refine qah 10 V<|Wu Z Tt 0 [_,_,_,_,_,_,_,_,_,_] Y9 (fun x hx=>by cases hx)<|za 11 Z (We Y4) Z<|qah 12 V<|Wu Z Tt 0 [_,_,_,_,_,_,_,_,_,_] Y9 (fun x hx=>by cases hx)<|za 13 Z (We Y4) Z<|qah 14 V<|Wu Z Tt 0 [_,_,_,_,_,_,_,_,_,_] Y9 (fun x hx=>by cases hx)<|qac V ?_
    refine qaa (Mid.mk (bc,c1,yc,Oq9,Ao1,co1,Ai1,ci1) [] kp Pr ⟨(h4.t h20|>.t h21|>.t h22),⟨hOo,hBi.le h22,by rw [← hcy,qb6],hcy2⟩⟩)
   refine qb1 Z Tt (Wd 0 Y5) Z<|qah 2 V<|Jb Z Tt Z Z Z (AC.mid [_,_] [] _ (qbS D _ _ _ _ _ _ (hAx.le (h1.t h2|>.t h4)) O)) ?_
   rintro _ _ s23 h23 ⟨M1,rfl,Ad,c1,rfl,_,_,hO1⟩
   refine ⟨(fun x h _=>by cases h),?_⟩
   obtain ⟨bc,yc,rfl,rfl,hcy,hcy2⟩:=Own.blk_of hO1 hc0
   simp only [cQ9,nQ9]
   refine za 9 Z (qaw Z Z Z Z) Z<|qah 5 V<|Jb Z Tt Z Z Z (AC.pub (qaB D _ _ _ _ _ _ (hBx.le (h1.t h2|>.t h4|>.t h23)) O)) ?_
   rintro _ _ s24 h24 ⟨rfl,Mi,swi,⟨Ai1,ci1,rfl,_,_,hOi⟩,hswi,hcwi⟩
   refine ⟨fun _ _ h=>h,?_⟩
   have hBi:=Own.bts hOi hcwi
   refine qah 8 V<|Jb Z Tt Z Z Z (AC.mid [_,_,_] [] _ (qaB D _ _ _ _ _ _ (hOx.le (h1.t h2|>.t h4|>.t h23|>.t h24)) O)) ?_
   rintro _ _ s25 h25 ⟨Oq9,rfl,Ao1,co1,rfl,_,_,hOo⟩
   refine ⟨(fun x h _=>by cases h),?_⟩
   simp only [cQ9,nQ9]
   refine qah 10 V<|Wu Z Tt 0 [_,_,_,_,_,_,_,_,_,_] Y9 (fun x hx=>by cases hx)<|za 11 Z (We Y4) Z<|qah 12 V<|Wu Z Tt 0 [_,_,_,_,_,_,_,_,_,_] Y9 (fun x hx=>by cases hx)<|za 13 Z (We Y4) Z<|qah 14 V<|Wu Z Tt 0 [_,_,_,_,_,_,_,_,_,_] Y9 (fun x hx=>by cases hx)<|qac V ?_
   refine qaa (Mid.mk (bc,c1,yc,Oq9,Ao1,co1,Ai1,ci1) [] kp Pr ⟨(h4.t h23|>.t h24|>.t h25),⟨hOo,hBi.le h25,by rw [← hcy,qb6],hcy2⟩⟩)
  ·
   refine qb1 Z Tt (Wd 0 Y5) Z ?_
   refine qcg 1 7 V ?_ ?_
   ·
    refine qb1 Z Tt (Wd 0 Y5) Z ?_
    refine qcg 2 7 V ?_ ?_
    ·
     refine Jb Z Tt Z Z Z (AC.mid [_,_] [] _ (qbS D _ _ _ _ _ _ (hAx.le (h1.t h2|>.t h4)) O)) ?_
     rintro _ _ s26 h26 ⟨M1,rfl,Ad,c1,rfl,_,_,hO1⟩
     refine ⟨(fun x h _=>by cases h),?_⟩
     obtain ⟨bc,yc,rfl,rfl,hcy,hcy2⟩:=Own.blk_of hO1 hc0
     simp only [cQ9,nQ9]
     refine qcg 5 7 V ?_ ?_
     ·
      refine Jb Z Tt Z Z Z (AC.pub (qaB D _ _ _ _ _ _ (hBx.le (h1.t h2|>.t h4|>.t h26)) O)) ?_
      rintro _ _ s27 h27 ⟨rfl,Mi,swi,⟨Ai1,ci1,rfl,_,_,hOi⟩,hswi,hcwi⟩
      refine ⟨fun _ _ h=>h,?_⟩
      have hBi:=Own.bts hOi hcwi
      refine qah 7 V<|qb1 Z Tt (Wd 0 Y5) Z<|za 9 Z (qaw Z Z Z Z) Z<|qah 8 V<|Jb Z Tt Z Z Z (AC.mid [_,_,_] [] _ (qaB D _ _ _ _ _ _ (hOx.le (h1.t h2|>.t h4|>.t h26|>.t h27)) O)) ?_
      rintro _ _ s28 h28 ⟨Oq9,rfl,Ao1,co1,rfl,_,_,hOo⟩
      refine ⟨(fun x h _=>by cases h),?_⟩
      simp only [cQ9,nQ9]
      refine qah 10 V<|Wu Z Tt 0 [_,_,_,_,_,_,_,_,_,_] Y9 (fun x hx=>by cases hx)<|za 11 Z (We Y4) Z<|qah 12 V<|Wu Z Tt 0 [_,_,_,_,_,_,_,_,_,_] Y9 (fun x hx=>by cases hx)<|za 13 Z (We Y4) Z<|qah 14 V<|Wu Z Tt 0 [_,_,_,_,_,_,_,_,_,_] Y9 (fun x hx=>by cases hx)<|qac V ?_
      refine qaa (Mid.mk (bc,c1,yc,Oq9,Ao1,co1,Ai1,ci1) [] kp Pr ⟨(h4.t h26|>.t h27|>.t h28),⟨hOo,hBi.le h28,by rw [← hcy,qb6],hcy2⟩⟩)
     refine qb1 Z Tt (Wd 0 Y5) Z<|za 9 Z (qaw Z Z Z Z) Z<|qah 5 V<|Jb Z Tt Z Z Z (AC.pub (qaB D _ _ _ _ _ _ (hBx.le (h1.t h2|>.t h4|>.t h26)) O)) ?_
     rintro _ _ s29 h29 ⟨rfl,Mi,swi,⟨Ai1,ci1,rfl,_,_,hOi⟩,hswi,hcwi⟩
     refine ⟨fun _ _ h=>h,?_⟩
     have hBi:=Own.bts hOi hcwi
     refine qah 8 V<|Jb Z Tt Z Z Z (AC.mid [_,_,_] [] _ (qaB D _ _ _ _ _ _ (hOx.le (h1.t h2|>.t h4|>.t h26|>.t h29)) O)) ?_
     rintro _ _ s30 h30 ⟨Oq9,rfl,Ao1,co1,rfl,_,_,hOo⟩
     refine ⟨(fun x h _=>by cases h),?_⟩
     simp only [cQ9,nQ9]
     refine qah 10 V<|Wu Z Tt 0 [_,_,_,_,_,_,_,_,_,_] Y9 (fun x hx=>by cases hx)<|za 11 Z (We Y4) Z<|qah 12 V<|Wu Z Tt 0 [_,_,_,_,_,_,_,_,_,_] Y9 (fun x hx=>by cases hx)<|za 13 Z (We Y4) Z<|qah 14 V<|Wu Z Tt 0 [_,_,_,_,_,_,_,_,_,_] Y9 (fun x hx=>by cases hx)<|qac V ?_
     refine qaa (Mid.mk (bc,c1,yc,Oq9,Ao1,co1,Ai1,ci1) [] kp Pr ⟨(h4.t h26|>.t h29|>.t h30),⟨hOo,hBi.le h30,by rw [← hcy,qb6],hcy2⟩⟩)
    refine qb1 Z Tt (Wd 0 Y5) Z<|qah 2 V<|Jb Z Tt Z Z Z (AC.mid [_,_] [] _ (qbS D _ _ _ _ _ _ (hAx.le (h1.t h2|>.t h4)) O)) ?_
    rintro _ _ s31 h31 ⟨M1,rfl,Ad,c1,rfl,_,_,hO1⟩
    refine ⟨(fun x h _=>by cases h),?_⟩
    obtain ⟨bc,yc,rfl,rfl,hcy,hcy2⟩:=Own.blk_of hO1 hc0
    simp only [cQ9,nQ9]
    refine za 9 Z (qaw Z Z Z Z) Z<|qah 5 V<|Jb Z Tt Z Z Z (AC.pub (qaB D _ _ _ _ _ _ (hBx.le (h1.t h2|>.t h4|>.t h31)) O)) ?_
    rintro _ _ s32 h32 ⟨rfl,Mi,swi,⟨Ai1,ci1,rfl,_,_,hOi⟩,hswi,hcwi⟩
    refine ⟨fun _ _ h=>h,?_⟩
    have hBi:=Own.bts hOi hcwi
    refine qah 8 V<|Jb Z Tt Z Z Z (AC.mid [_,_,_] [] _ (qaB D _ _ _ _ _ _ (hOx.le (h1.t h2|>.t h4|>.t h31|>.t h32)) O)) ?_
    rintro _ _ s33 h33 ⟨Oq9,rfl,Ao1,co1,rfl,_,_,hOo⟩
    refine ⟨(fun x h _=>by cases h),?_⟩
    simp only [cQ9,nQ9]
    refine qah 10 V<|Wu Z Tt 0 [_,_,_,_,_,_,_,_,_,_] Y9 (fun x hx=>by cases hx)<|za 11 Z (We Y4) Z<|qah 12 V<|Wu Z Tt 0 [_,_,_,_,_,_,_,_,_,_] Y9 (fun x hx=>by cases hx)<|za 13 Z (We Y4) Z<|qah 14 V<|Wu Z Tt 0 [_,_,_,_,_,_,_,_,_,_] Y9 (fun x hx=>by cases hx)<|qac V ?_
    refine qaa (Mid.mk (bc,c1,yc,Oq9,Ao1,co1,Ai1,ci1) [] kp Pr ⟨(h4.t h31|>.t h32|>.t h33),⟨hOo,hBi.le h33,by rw [← hcy,qb6],hcy2⟩⟩)
   refine qb1 Z Tt (Wd 0 Y5) Z<|qah 1 V<|qb1 Z Tt (Wd 0 Y5) Z<|qah 2 V<|Jb Z Tt Z Z Z (AC.mid [_,_] [] _ (qbS D _ _ _ _ _ _ (hAx.le (h1.t h2|>.t h4)) O)) ?_
   rintro _ _ s34 h34 ⟨M1,rfl,Ad,c1,rfl,_,_,hO1⟩
   refine ⟨(fun x h _=>by cases h),?_⟩
   obtain ⟨bc,yc,rfl,rfl,hcy,hcy2⟩:=Own.blk_of hO1 hc0
   simp only [cQ9,nQ9]
   refine za 9 Z (qaw Z Z Z Z) Z<|qah 5 V<|Jb Z Tt Z Z Z (AC.pub (qaB D _ _ _ _ _ _ (hBx.le (h1.t h2|>.t h4|>.t h34)) O)) ?_
   rintro _ _ s35 h35 ⟨rfl,Mi,swi,⟨Ai1,ci1,rfl,_,_,hOi⟩,hswi,hcwi⟩
   refine ⟨fun _ _ h=>h,?_⟩
   have hBi:=Own.bts hOi hcwi
   refine qah 8 V<|Jb Z Tt Z Z Z (AC.mid [_,_,_] [] _ (qaB D _ _ _ _ _ _ (hOx.le (h1.t h2|>.t h4|>.t h34|>.t h35)) O)) ?_
   rintro _ _ s36 h36 ⟨Oq9,rfl,Ao1,co1,rfl,_,_,hOo⟩
   refine ⟨(fun x h _=>by cases h),?_⟩
   simp only [cQ9,nQ9]
   refine qah 10 V<|Wu Z Tt 0 [_,_,_,_,_,_,_,_,_,_] Y9 (fun x hx=>by cases hx)<|za 11 Z (We Y4) Z<|qah 12 V<|Wu Z Tt 0 [_,_,_,_,_,_,_,_,_,_] Y9 (fun x hx=>by cases hx)<|za 13 Z (We Y4) Z<|qah 14 V<|Wu Z Tt 0 [_,_,_,_,_,_,_,_,_,_] Y9 (fun x hx=>by cases hx)<|qac V ?_
   refine qaa (Mid.mk (bc,c1,yc,Oq9,Ao1,co1,Ai1,ci1) [] kp Pr ⟨(h4.t h34|>.t h35|>.t h36),⟨hOo,hBi.le h36,by rw [← hcy,qb6],hcy2⟩⟩)
  refine qb1 Z Tt (Wd 0 Y5) Z ?_
  refine qcg 1 4 V ?_ ?_
  ·
   refine qb1 Z Tt (Wd 0 Y5) Z ?_
   refine qcg 2 4 V ?_ ?_
   ·
    refine Jb Z Tt Z Z Z (AC.mid [_,_] [] _ (qbS D _ _ _ _ _ _ (hAx.le (h1.t h2|>.t h4)) O)) ?_
    rintro _ _ s37 h37 ⟨M1,rfl,Ad,c1,rfl,_,_,hO1⟩
    refine ⟨(fun x h _=>by cases h),?_⟩
    obtain ⟨bc,yc,rfl,rfl,hcy,hcy2⟩:=Own.blk_of hO1 hc0
    simp only [cQ9,nQ9]
    refine qah 4 V<|qb1 Z Tt (Wd 0 Y5) Z<|za 9 Z (qaw Z Z Z Z) Z<|qah 5 V<|Jb Z Tt Z Z Z (AC.pub (qaB D _ _ _ _ _ _ (hBx.le (h1.t h2|>.t h4|>.t h37)) O)) ?_
    rintro _ _ s38 h38 ⟨rfl,Mi,swi,⟨Ai1,ci1,rfl,_,_,hOi⟩,hswi,hcwi⟩
    refine ⟨fun _ _ h=>h,?_⟩
    have hBi:=Own.bts hOi hcwi
    refine qah 8 V<|Jb Z Tt Z Z Z (AC.mid [_,_,_] [] _ (qaB D _ _ _ _ _ _ (hOx.le (h1.t h2|>.t h4|>.t h37|>.t h38)) O)) ?_
    rintro _ _ s39 h39 ⟨Oq9,rfl,Ao1,co1,rfl,_,_,hOo⟩
    refine ⟨(fun x h _=>by cases h),?_⟩
    simp only [cQ9,nQ9]
    refine qah 10 V<|Wu Z Tt 0 [_,_,_,_,_,_,_,_,_,_] Y9 (fun x hx=>by cases hx)<|za 11 Z (We Y4) Z<|qah 12 V<|Wu Z Tt 0 [_,_,_,_,_,_,_,_,_,_] Y9 (fun x hx=>by cases hx)<|za 13 Z (We Y4) Z<|qah 14 V<|Wu Z Tt 0 [_,_,_,_,_,_,_,_,_,_] Y9 (fun x hx=>by cases hx)<|qac V ?_
    refine qaa (Mid.mk (bc,c1,yc,Oq9,Ao1,co1,Ai1,ci1) [] kp Pr ⟨(h4.t h37|>.t h38|>.t h39),⟨hOo,hBi.le h39,by rw [← hcy,qb6],hcy2⟩⟩)
   refine qb1 Z Tt (Wd 0 Y5) Z<|qah 2 V<|Jb Z Tt Z Z Z (AC.mid [_,_] [] _ (qbS D _ _ _ _ _ _ (hAx.le (h1.t h2|>.t h4)) O)) ?_
   rintro _ _ s40 h40 ⟨M1,rfl,Ad,c1,rfl,_,_,hO1⟩
   refine ⟨(fun x h _=>by cases h),?_⟩
   obtain ⟨bc,yc,rfl,rfl,hcy,hcy2⟩:=Own.blk_of hO1 hc0
   simp only [cQ9,nQ9]
   refine za 9 Z (qaw Z Z Z Z) Z<|qah 5 V<|Jb Z Tt Z Z Z (AC.pub (qaB D _ _ _ _ _ _ (hBx.le (h1.t h2|>.t h4|>.t h40)) O)) ?_
   rintro _ _ s41 h41 ⟨rfl,Mi,swi,⟨Ai1,ci1,rfl,_,_,hOi⟩,hswi,hcwi⟩
   refine ⟨fun _ _ h=>h,?_⟩
   have hBi:=Own.bts hOi hcwi
   refine qah 8 V<|Jb Z Tt Z Z Z (AC.mid [_,_,_] [] _ (qaB D _ _ _ _ _ _ (hOx.le (h1.t h2|>.t h4|>.t h40|>.t h41)) O)) ?_
   rintro _ _ s42 h42 ⟨Oq9,rfl,Ao1,co1,rfl,_,_,hOo⟩
   refine ⟨(fun x h _=>by cases h),?_⟩
   simp only [cQ9,nQ9]
   refine qah 10 V<|Wu Z Tt 0 [_,_,_,_,_,_,_,_,_,_] Y9 (fun x hx=>by cases hx)<|za 11 Z (We Y4) Z<|qah 12 V<|Wu Z Tt 0 [_,_,_,_,_,_,_,_,_,_] Y9 (fun x hx=>by cases hx)<|za 13 Z (We Y4) Z<|qah 14 V<|Wu Z Tt 0 [_,_,_,_,_,_,_,_,_,_] Y9 (fun x hx=>by cases hx)<|qac V ?_
   refine qaa (Mid.mk (bc,c1,yc,Oq9,Ao1,co1,Ai1,ci1) [] kp Pr ⟨(h4.t h40|>.t h41|>.t h42),⟨hOo,hBi.le h42,by rw [← hcy,qb6],hcy2⟩⟩)
  refine qb1 Z Tt (Wd 0 Y5) Z<|qah 1 V<|qb1 Z Tt (Wd 0 Y5) Z<|qah 2 V<|Jb Z Tt Z Z Z (AC.mid [_,_] [] _ (qbS D _ _ _ _ _ _ (hAx.le (h1.t h2|>.t h4)) O)) ?_
  rintro _ _ s43 h43 ⟨M1,rfl,Ad,c1,rfl,_,_,hO1⟩
  refine ⟨(fun x h _=>by cases h),?_⟩
  obtain ⟨bc,yc,rfl,rfl,hcy,hcy2⟩:=Own.blk_of hO1 hc0
  simp only [cQ9,nQ9]
  refine za 9 Z (qaw Z Z Z Z) Z<|qah 5 V<|Jb Z Tt Z Z Z (AC.pub (qaB D _ _ _ _ _ _ (hBx.le (h1.t h2|>.t h4|>.t h43)) O)) ?_
  rintro _ _ s44 h44 ⟨rfl,Mi,swi,⟨Ai1,ci1,rfl,_,_,hOi⟩,hswi,hcwi⟩
  refine ⟨fun _ _ h=>h,?_⟩
  have hBi:=Own.bts hOi hcwi
  refine qah 8 V<|Jb Z Tt Z Z Z (AC.mid [_,_,_] [] _ (qaB D _ _ _ _ _ _ (hOx.le (h1.t h2|>.t h4|>.t h43|>.t h44)) O)) ?_
  rintro _ _ s45 h45 ⟨Oq9,rfl,Ao1,co1,rfl,_,_,hOo⟩
  refine ⟨(fun x h _=>by cases h),?_⟩
  simp only [cQ9,nQ9]
  refine qah 10 V<|Wu Z Tt 0 [_,_,_,_,_,_,_,_,_,_] Y9 (fun x hx=>by cases hx)<|za 11 Z (We Y4) Z<|qah 12 V<|Wu Z Tt 0 [_,_,_,_,_,_,_,_,_,_] Y9 (fun x hx=>by cases hx)<|za 13 Z (We Y4) Z<|qah 14 V<|Wu Z Tt 0 [_,_,_,_,_,_,_,_,_,_] Y9 (fun x hx=>by cases hx)<|qac V ?_
  refine qaa (Mid.mk (bc,c1,yc,Oq9,Ao1,co1,Ai1,ci1) [] kp Pr ⟨(h4.t h43|>.t h44|>.t h45),⟨hOo,hBi.le h45,by rw [← hcy,qb6],hcy2⟩⟩)
 intro g s3 I3
 obtain ⟨bc,c1,yc,Oq9,Ao1,co1,Ai1,ci1⟩:=g
 obtain ⟨hOo,hBi,hcc,hcc2⟩:=I3.2
 dsimp only at hOo hBi hcc hcc2
 dsimp only
 refine Sr<|qae (qad 0 [_,_,_,_,_,_,_,_,_,_] Z Z Z Z Z) Z<|Wb Y5<|Wl 1 Y6<|qjS (Value.int .u32) Z ?_
 intro bq s46 h46
 refine qae (qal [(_,_),(_,_),(_,_)] (_::_::_::_::_::_::_::_::_::_::_::(iv (List.replicate 256 0)++[_,_])) Z Z Z Z Z (by rfl)) Z<|qaL Z Z ?_
 intro bm s47 h47
 refine At Z Z<|Zs<|Sr<|Wb Y5<|Wl 3 Y6<|Ws Y4<|Zqm Z Z<|Nt<|Zp ?_
 refine qaQ (γ:=Nat×List Int×List (Int×Value×Nat)×Nat) (fun g=>[(4,_),(5,_),(27,_),(28,_),(29,.int .i64 (g.1:Int))]) (fun g=>(bm,cb (.slice (some ⟨bc,0,none⟩) m.cells.length c1::.int .u32 m.r0::.int .u32 m.r1::.int .u32 m.r2::.int .u32 m.r3::.int .u32 m.r4::.slice Ai1 nBx ci1::.slice Ao1 m.output.length co1::.int .i64 m.stop::.int .u32 m.code::.slice A n c::(iv g.2.1++[.map (some bq),.int .u32 0])) 140)::(bq,mp (Value.int .u32) g.2.2.1 g.2.2.2)::(β2,cb [.slice (some ⟨bc,0,none⟩) m.cells.length c1,.int .u32 m.r0,.int .u32 m.r1,.int .u32 m.r2,.int .u32 m.r3,.int .u32 m.r4,.slice Ai1 nBx ci1,.slice Ao1 m.output.length co1,.int .i64 m.stop,.int .u32 m.code] 82)::(β1,cb [.int .i64 t.cells,.slice A n c] 24)::(bc,cb (wv m.cells++yc) 38)::(Oq9++L)) (fun g tw=>Le D s47 tw∧(g.1≤n∧g.2.1.length=256∧(∀ c:Int,0≤c→c < 256→g.2.1[c.toNat]?=some (qeR t.ins c g.1:Int))∧(∀ c:Int,256≤c→(qb4 g.2.2.1 c).getD (.int .i64 0)=.int .i64 (qeR t.ins c g.1:Int)))) (fun g=>n - g.1) (fun _ _ _ h hl=>⟨h.1.trans hl,h.2⟩) (0,List.replicate 256 0,[],0) (.c5 Z Z Z Z Z (.nil _)) Z ⟨Le.refl _,⟨Nat.zero_le _,by simp,fun c h1 h2=>by rw [List.getElem?_replicate,if_pos O];rfl,fun c _=>rfl⟩⟩ ?_
 intro g s48 I48
 obtain ⟨k,sm,es,ck⟩:=g
 obtain ⟨hk0,hsm,hS,hB⟩:=I48.2
 simp only at hk0 hsm hS hB
 dsimp only
 refine Sr<|qbY Z Z Z<|Nt<|Zs<|?_
 refine qab Z (fun c49=>?_) (fun c49=>?_)
 ·
  have hk:k < n:=by omega
  obtain ⟨b,off,x,A',n',c',rfl,hx,hcx,hax,hnl,hcd⟩:=Inss.at_ (hA.le (h1.t h2|>.t I3.1|>.t h46|>.t h47|>.t I48.1)) hk
  refine Zk<|Zt<|Zs<|Zp<|Sr<|Zqm Z Z<|qae (qbw Z Z Z Z Z Z hk) Z<|qae (qbG Z Z Z hcx Z) Z<|qag Z [_,_,_,_] Z Z ?_
  intro β50 s50 h50
  refine Zqa Z Z<|Wt 0 [_,_,_,_] Y9<|Nt<|Sr<|Wb Y5<|Wl 0 Y6<|qbY Z Z Z<|Nt<|?_
  refine qab Z (fun c51=>?_) (fun c51=>?_)
  ·
   have hlt:=c51
   refine qaD qaf 9 Z [1] (by intro x hx;exact qan hx) ?_
   intro s52 h52
   refine za 0 Z (qao Z) Z<|za 1 Z (We Y4) Z<|za 2 Z (Wd 0 Y5) Z<|za 3 Z (qao Z) Z<|za 4 Z (qby Z Z (w64 O O)) Z<|za 5 Z (qau Z) Z<|za 6 Z (We Y4) Z<|za 7 Z (qeV Z Z Z Z Z Z hcd.1 O) Z<|qah 8 V<|qa9 Z Tt 1 _ Z Z Z Z Z (qmz _ _ _ _ _ _ _ _ _ _ _ _ _ hsm O) Z (qmP _ _ _ _ _ _ _ _ _ _ _ _ _ _ O) Z (fun x hx=>hx)<|qac V<|Zb<|Zt<|Zr<|qaW Z Z Z (w64 O O)<|Zqm Z Z<|Zn<|?_
   refine qaa ⟨(k+1,sm.set x.code.toNat ((k:Int)+1),es,ck),[_],kp,Z,⟨(I48.1.t h50|>.t h52),by first | exact ⟨by omega,(qeT hx hcd hlt hsm hS).1,(qeT hx hcd hlt hsm hS).2,qh1 hx hlt hB⟩ | exact ⟨by omega,hsm,qh4 hx hlt hS,qk6 hx hB⟩⟩,Oz⟩
  have hlt:=c51
  refine qaD qaf 9 Z [2] (by intro x hx;exact qan hx) ?_
  intro s54 h54
  refine za 0 Z (qao Z) Z<|za 1 Z (qau Z) Z<|za 2 Z (We Y4) Z<|za 3 Z (qbL 1 Z Z Z Z (qlh _ _ _ _ _ _ _ _ _ _ _ _ _ hsm)) Z<|za 4 Z (We Y4) Z<|za 5 Z (Wd 0 Y5) Z<|za 6 Z (qao Z) Z<|za 7 Z (qby Z Z (w64 O O)) Z<|qah 8 V<|qlU (KeyK.int .u32) Z Tt 2 (qsq default) Z Z Z Z (fun x hx=>hx) ?_
  intro ck1
  refine qac V<|Zb<|Zt<|Zr<|qaW Z Z Z (w64 O O)<|Zqm Z Z<|Zn<|?_
  refine qaa ⟨(k+1,sm,qh2 es x.code (.int .i64 ((k:Int)+1)) ck,ck1),[_],kp,Z,⟨(I48.1.t h50|>.t h54),by first | exact ⟨by omega,(qeT hx hcd hlt hsm hS).1,(qeT hx hcd hlt hsm hS).2,qh1 hx hlt hB⟩ | exact ⟨by omega,hsm,qh4 hx hlt hS,qk6 hx hB⟩⟩,Oz⟩
 refine Zl<|Zv<|Zv<|Zd<|Zt<|Zs<|qbE 1<|qbE 4<|qbE 2<|qbE 4<|qbE 4<|Zr<|Zqm Z Z<|At Z Z<|Zo<|?_
 refine rR [_,_] _ (.t1 Z) Z (h1.t h2|>.t I3.1|>.t h46|>.t h47|>.t I48.1) fun _ hS2=>?_
 have hkn:k=n:=by omega
 subst hkn
 exact ⟨_::_::_::Oq9,rfl,bm,sm,bq,es,ck,rfl,hsm,hS,hB,bc,c1,yc,Oq9,Ao1,co1,Ai1,nBx,ci1,rfl,hOo,hBi.le (h46.t h47|>.t I48.1|>.t hS2),hcc,hcc2⟩
end Go.Proofs.YtjindleklapakaaGreatDoor
namespace Go.Proofs.YtjindleklapakaaGreatDoor
open Go Go.FL
structure MU(m:Mst):Prop where
 u0:U32 m.r0
 u1:U32 m.r1
 u2:U32 m.r2
 u3:U32 m.r3
 u4:U32 m.r4
 code:U32 m.code
def qgt:Mst:=⟨[],0,0,0,0,0,[],[],0,0⟩
theorem qtU:MU qgt:=by constructor <;> exact ⟨by decide,by decide⟩
def StW(s:World)(m:Mst)(v:Value):Prop:=∃ A nA cA B nB cB Oq9 nO cO,v=.agg #[.slice A nA cA,.int .u32 m.r0,.int .u32 m.r1,.int .u32 m.r2,.int .u32 m.r3,.int .u32 m.r4,.slice B nB cB,.slice Oq9 nO cO,.int .i64 m.stop,.int .u32 m.code]
 ∧ Wds s A nA cA m.cells∧Bts s B nB cB m.input∧Bts s Oq9 nO cO m.output
theorem StW.zero(s:World):StW s qgt (.agg #[.slice none 0 0,.int .u32 0,.int .u32 0,.int .u32 0,.int .u32 0,.int .u32 0,.slice none 0 0,.slice none 0 0,.int .i64 0,.int .u32 0]):=
 ⟨none,0,0,none,0,0,none,0,0,rfl,Wds.nil _ _ _ O,Bts.nil _ _ _ O,Bts.nil _ _ _ O⟩
structure SOK(m:Mst):Prop where
 stop:0≤m.stop∧m.stop≤5
 code:m.code≠0→m.stop=1
theorem qsf(t:Tab)(m:Mst):(qa5 t m).1=0→(qa5 t m).2=0:=by
 unfold qa5
 repeat' split
 all_goals (intro h;first | rfl | contradiction | (exact absurd h Dc))
theorem qto{t:Tab}{m:Mst}{s:World}{A Ax:Option Addr}{n c nx cx:Nat}(hX:Inss s A n c t.ins)(hA:Wds s Ax nx cx m.cells)(hU:MU m)(h:(qa5 t m).1=0):TabG t∧MOK m∧SOK m∧(m.cells.length:Int)=t.cells:=by
 unfold qa5 at h
 split at h
 · contradiction
 rename_i h0
 simp at h0
 have hG:=qoc hX h0
 split at h
 · exact absurd h Dc
 rename_i h1
 split at h
 · exact absurd h Dc
 rename_i h2
 split at h
 · exact absurd h Dc
 rename_i h3
 split at h
 · exact absurd h Dc
 rename_i h4
 have:=hG.cells
 refine ⟨hG,⟨by omega,fun x hx=>?_,hU.u0,hU.u1,hU.u2,hU.u3,hU.u4,by omega,by omega,hU.code⟩,⟨by omega,fun hc=>by omega⟩,by omega⟩
 obtain ⟨i,hi⟩:=List.getElem?_of_mem hx
 obtain ⟨_,_,_,_,_,_,_,h5⟩:=hA.2.2.2 i x hi
 exact h5
theorem qsb{t:Tab}{m:Mst}(ht:(qak t).1=0)(hm:MOK m)(hs:SOK m)(hl:(m.cells.length:Int)=t.cells):qa5 t m=(0,0):=by
 have h1:=hm.input
 have h2:=hm.output
 have h3:=hs.stop
 have h4:=hs.code
 unfold qa5
 rw [if_neg O,if_neg O,if_neg O,if_neg O,if_neg O]
theorem qrn(m:Mst)(a:Ac)(op:Int):(qbj m a op).cells.length=m.cells.length:=by
 unfold qbj
 simp only
 repeat' split
 all_goals simp [qd9]
theorem qqi{m:Mst}(a:Ac)(op:Int)(h0:m.stop=0)(hc:m.code=0):SOK (qbj m a op)∧((qbj m a op).stop=0→(qbj m a op).code=0):=by
 unfold qbj
 simp only
 repeat' split
 all_goals (refine ⟨⟨?_,?_⟩,?_⟩ <;> simp [qd9,h0,hc])
theorem qib{l:List Ac}(hl:∀ a∈l,AcOK a){m:Mst}(hm:MOK m)(h0:m.stop=0)(hc:m.code=0){op:Int}(ho:U32 op) :
    MOK (qca m op l)∧SOK (qca m op l)∧(qca m op l).cells.length=m.cells.length∧((qca m op l).stop=0→(qca m op l).code=0):=by
  induction l generalizing m with
  | nil=>exact ⟨hm,⟨by simp only [qca];omega,fun h=>by simp only [qca] at h;contradiction⟩,rfl,fun _=>hc⟩
  | cons a r ih=>
    have h1:=qgu hm (hl a Mc) ho
    obtain ⟨h2,h3⟩:=qqi a op h0 hc
    have h4:=qrn m a op
    simp only [qca]
    split
    · rename_i hs
      obtain ⟨k1,k2,k3,k4⟩:=ih (fun b hb=>hl b (List.mem_cons_of_mem _ hb)) h1 hs (h3 hs)
      exact ⟨k1,k2,by omega,k4⟩
    · exact ⟨h1,h2,h4,h3⟩
theorem qcY{t:Tab}(hG:TabG t){m:Mst}(hm:MOK m)(h0:m.stop=0)(hc:m.code=0) :
    MOK (qbl t m)∧SOK (qbl t m)∧(qbl t m).cells.length=m.cells.length∧((qbl t m).stop=0→(qbl t m).code=0):=by
  have hu:∀ i,U32 (m.cells.getD i 0):=fun i=>by
    by_cases hl:i < m.cells.length
    · simp only [List.getD,List.getElem?_eq_getElem hl,Option.getD_some];exact hm.wide _ (List.getElem_mem hl)
    · simp [List.getD,List.getElem?_eq_none (Nat.le_of_not_lt hl)];exact ⟨by decide,by decide⟩
  have hst:∀ k:Int,0≤k→k≤5→MOK { m with stop:=k }∧SOK { m with stop:=k }∧({ m with stop:=k }:Mst).cells.length=m.cells.length∧(({ m with stop:=k }:Mst).stop=0→({ m with stop:=k }:Mst).code=0):=fun k h1 h2=>
    ⟨⟨hm.cells,hm.wide,hm.u0,hm.u1,hm.u2,hm.u3,hm.u4,hm.output,hm.input,hm.code⟩,⟨⟨h1,h2⟩,fun h=>absurd hc h⟩,rfl,fun _=>hc⟩
  have hr4:∀ v:Int,U32 v→MOK { m with r4:=v }:=fun v hv=>⟨hm.cells,hm.wide,hm.u0,hm.u1,hm.u2,hm.u3,hv,hm.output,hm.input,hm.code⟩
  have h4:=hm.u4
  have h5:=hm.cells
  unfold U32 at h4
  unfold qbl
  split
  · exact hst 3 O O
  rename_i hfar
  split
  · exact hst 2 O O
  rename_i x hx
  have hmem:∃ i:Nat,t.ins[i]?=some x:=List.getElem?_of_mem (List.mem_of_find?_eq_some hx)
  obtain ⟨i,hi⟩:=hmem
  have hac:∀ a∈x.acts,AcOK a:=fun a ha=>(hG.acts i x a hi ha).1
  split
  · split
    · exact hst 3 O O
    · exact qib hac (hr4 (m.r4+2) ⟨by omega,by omega⟩) h0 hc (hu _)
  · exact qib hac (hr4 (m.r4+1) ⟨by omega,by omega⟩) h0 hc ⟨by decide,by decide⟩
def qjt(t:Tab)(m:Mst)(k:Int):Mst×Int×Int×Int:=
 if (qa5 t m).1≠0 then (qgt,0,(qa5 t m).1,(qa5 t m).2)
 else if k < 0∨50000000 < k then (qgt,0,4,-3)
 else ((qeD t m k.toNat).1,((qeD t m k.toNat).2:Int),0,0)
theorem qoO{t:Tab}{m:Mst}{k:Int}(h:(qa5 t m).1≠0):qjt t m k=(qgt,0,(qa5 t m).1,(qa5 t m).2):=by unfold qjt;rw [if_pos h]
theorem qjT{t:Tab}{m:Mst}{k:Int}(h:(qa5 t m).1=0)(hk:k < 0∨50000000 < k):qjt t m k=(qgt,0,4,-3):=by unfold qjt;rw [if_neg (by simpa using h),if_pos hk]
theorem qi5{t:Tab}{m:Mst}{k:Int}(h:(qa5 t m).1=0)(hk:¬ (k < 0∨50000000 < k)):qjt t m k=((qeD t m k.toNat).1,((qeD t m k.toNat).2:Int),0,0):=by unfold qjt;rw [if_neg (by simpa using h),if_neg hk]
theorem qqN{t:Tab}{m mk:Mst}{K j:Nat}(h:qeD t m K=((qeD t mk (K - j)).1,j+(qeD t mk (K - j)).2))(hj:j < K)(h0:mk.stop=0) :
  qeD t m K=((qeD t (qbl t mk) (K - (j+1))).1,(j+1)+(qeD t (qbl t mk) (K - (j+1))).2):=by
 rw [h]
 obtain ⟨d,hd⟩:∃ d,K - j=d+1:=⟨K - j - 1,by omega⟩
 rw [hd,show K - (j+1)=d by omega]
 simp only [qeD,h0,if_true,Prod.mk.injEq,true_and]
 omega
theorem qmD{t:Tab}{m mk:Mst}{K j:Nat}(h:qeD t m K=((qeD t mk (K - j)).1,j+(qeD t mk (K - j)).2))(he:¬ j < K∨¬ mk.stop=0):qeD t m K=(mk,j):=by
 rw [h]
 cases hd:K - j with
 | zero=>simp [qeD]
 | succ d=>
  rcases he with he | he
  · omega
  · simp [qeD,he]
open Go.FL
attribute [local irreducible] JC JO JA JB qa7 qaP qdj AC fill CellsAt QE Ev Mid
theorem qgd{s:World}{bc cc:Nat}{l:List Int}{yc:List Value}(hp:CellsAt s bc 0 (wv l++yc))(hu:∀ x∈l,U32 x)(h1:l.length+yc.length=cc)(h2:cc≤9223372036854775807):Wds s (some ⟨bc,0,none⟩) l.length cc l:=
 Own.wds (e:=0) (A:=[(bc,cb (wv l++yc) 0)]) (.blk bc cc l.length (wv l) yc (by simp [wv]) (by rw [qb6];omega) O h2) hu (fun b zs t hm=>by
  simp only [List.mem_singleton,Prod.mk.injEq,cb,Obj.cells.injEq] at hm
  obtain ⟨rfl,h,rfl,_⟩:=hm
  have e:zs=wv l++yc:=by simpa using h
  rw [e];exact hp)
theorem qaj:U32 0:=⟨by decide,by decide⟩
theorem qgX{m:Mst}(h:SOK m)(h0:m.stop=0):m.code=0:=by
 by_cases hc:m.code=0
 · exact hc
 · have:=h.code hc;omega
theorem qqP(D:Nat)(L:Hl)(s:World)(t:Tab)(A:Option Addr)(n c:Nat)(hA:Inss s A n c t.ins)(m:Mst)(Ax Bx Ox:Option Addr)(nAx cAx nBx cBx nOx cOx:Nat)(hAx:Wds s Ax nAx cAx m.cells)(hBx:Bts s Bx nBx cBx m.input)(hOx:Bts s Ox nOx cOx m.output)(hU:MU m)(k:Int):AC Tryz.prog D 33 [.agg #[.int .i64 t.cells,.slice A n c],.agg #[.slice Ax nAx cAx,.int .u32 m.r0,.int .u32 m.r1,.int .u32 m.r2,.int .u32 m.r3,.int .u32 m.r4,.slice Bx nBx cBx,.slice Ox nOx cOx,.int .i64 m.stop,.int .u32 m.code],.int .i64 k] L s fun v L' s'=>∃ M',L'=M'++L∧∀ s2,Le D s' s2→Pub M' s2→∃ vs,StW s2 (qjt t m k).1 vs∧v=.tuple #[vs,.int .i64 (qjt t m k).2.1,.agg #[.int .i64 (qjt t m k).2.2.1,.int .i64 (qjt t m k).2.2.2]]:=by
 have hF:=qsf t m
 refine qai (fn:=Tryz.f33) qaG Tryz.func33 V Z Tryz.ntmps33 Z (rs:=[.cell 6 82,.tmp 7,.cell 8 29]) Z [(0,_),(1,_),(2,_)] Z<|Sr<|qaL Z Z ?_
 intro β1 s1 h1
 refine qaL Z Z ?_
 intro β2 s2 h2
 refine qag Z [_,_,_,_,_,_,_,_,_,_] Z Z ?_
 intro β3 s3 h3
 refine Zqa Z Z<|qag Z [_,_] Z Z ?_
 intro β4 s4 h4
 refine Nt<|Zs<|Sr<|qae (qad 3 [_,_] Z Z Z Z Z) Z<|qae (qad 2 [_,_,_,_,_,_,_,_,_,_] Z Z Z Z Z) Z<|Jc Z Z Z (qm1 D _ _ _ _ _ _ (hA.le (h1.t h2|>.t h3|>.t h4)) _ _ _ _ _ _ _ _ _ _ (hAx.le (h1.t h2|>.t h3|>.t h4)) (hBx.le (h1.t h2|>.t h3|>.t h4)) (hOx.le (h1.t h2|>.t h3|>.t h4))) ?_
 rintro _ _ s5 h5 ⟨rfl,rfl⟩
 refine qag Z [_,_] Z Z ?_
 intro β6 s6 h6
 refine Wt 0 [_,_] Y9<|Nt<|Sr<|qae (qad 0 [_,_] Z Z Z Z Z) Z<|qae (qal [] [_,_] Z Z Z Z Z Z) Z<|qae (qef Z Z (qdD _ _ _ _)) Z<|Nt<|?_
 refine qbc Z (fun c7=>?_) (fun c7=>?_)
 ·
  have hbad:(qa5 t m).1≠0:=fun h=>c7 ⟨h,hF h⟩
  refine Zs<|qaD qaf 5 Z [2,1] (by intro x hx;exact qan hx) ?_
  intro s8 h8
  refine za 0 Z (qal [] [_,_,_,_,_,_,_,_,_,_] Z Z Z Z Z Z) Z<|za 1 Z (qad 0 [_,_] Z Z Z Z Z) Z<|qah 2 V<|Wu Z Tt 2 [_,_,_,_,_,_,_,_,_,_] Y9 (sM (sbY (sbN (qew (sbE _)))))<|za 3 Z (qcq Z) Z<|qah 4 V<|Wu Z Tt 1 [_,_] Y9 (sM (sbY (sbN (qew (sbE _)))))<|qac V<|Zt<|Zo<|Zu<|?_
  refine rR [_,_] _ (.agg (us:=[_,_,_,_,_,_,_,_,_,_]) 2 Z Z Z Z Z (.tmp Z (.agg (us:=[_,_]) 1 Z Z Z Z Z (.nil)))) Z (h1.t h2|>.t h3|>.t h4|>.t h5|>.t h6|>.t h8) fun _ hS2=>?_
  refine ⟨[_,_,_],Z,fun s2 h2 hp=>?_⟩
  rw [qoO hbad];exact ⟨_,StW.zero _,rfl⟩
 have hst0:(qa5 t m).1=0:=c7.1
 obtain ⟨hG,hok,hsok,hlen⟩:=qto hA hAx hU hst0
 refine Zk<|Zt<|Zs<|Sr<|Zqm Z Z<|qbY Z Z Z<|Zqm Z Z<|?_
 refine qam (t:=22) Z (fun c9=>?_) (fun c9=>?_)
 ·
  refine Wf Y4<|Wf Y4<|ZqT Z Z Z<|Nt<|Zy Z<|?_
  have hfar:k < 0∨50000000 < k:=by omega
  refine Sr<|qae (qal [] [_,_,_,_,_,_,_,_,_,_] Z Z Z Z Z Z) Z<|Jc Z Z Z (qbk D _ _ _ _) ?_
  rintro _ _ s10 h10 ⟨rfl,rfl⟩
  refine Wt 2 [_,_,_,_,_,_,_,_,_,_] Y9<|Zqa Z Z<|Wt 1 [_,_] Y9<|Nt<|Zo<|Zu<|?_
  refine rR [_,_] _ (.agg (us:=[_,_,_,_,_,_,_,_,_,_]) 2 Z Z Z Z Z (.tmp Z (.agg (us:=[_,_]) 1 Z Z Z Z Z (.nil)))) Z (h1.t h2|>.t h3|>.t h4|>.t h5|>.t h6|>.t h10) fun _ hS2=>?_
  refine ⟨[_,_,_],Z,fun s2 h2 hp=>?_⟩
  rw [qjT hst0 hfar];exact ⟨_,StW.zero _,rfl⟩
 refine Zg Z Z<|Zqm Z Z<|Zg Z Z<|qdP Z Z Z<|ZqF Z Z Z<|Nt<|?_
 refine qab Z (fun c11=>?_) (fun c11=>?_)
 ·
  have hfar:k < 0∨50000000 < k:=by omega
  refine Sr<|qae (qal [] [_,_,_,_,_,_,_,_,_,_] Z Z Z Z Z Z) Z<|Jc Z Z Z (qbk D _ _ _ _) ?_
  rintro _ _ s12 h12 ⟨rfl,rfl⟩
  refine Wt 2 [_,_,_,_,_,_,_,_,_,_] Y9<|Zqa Z Z<|Wt 1 [_,_] Y9<|Nt<|Zo<|Zu<|?_
  refine rR [_,_] _ (.agg (us:=[_,_,_,_,_,_,_,_,_,_]) 2 Z Z Z Z Z (.tmp Z (.agg (us:=[_,_]) 1 Z Z Z Z Z (.nil)))) Z (h1.t h2|>.t h3|>.t h4|>.t h5|>.t h6|>.t h12) fun _ hS2=>?_
  refine ⟨[_,_,_],Z,fun s2 h2 hp=>?_⟩
  rw [qjT hst0 hfar];exact ⟨_,StW.zero _,rfl⟩
 have hin:¬ (k < 0∨50000000 < k):=by omega
 refine Zk<|Zt<|Sr<|qae (qad 4 [_,_] Z Z Z Z Z) Z<|qae (qad 3 [_,_,_,_,_,_,_,_,_,_] Z Z Z Z Z) Z<|Jc Z Z Z (AC.mid [_,_,_,_,_] [] _ (qrv D _ _ _ _ _ _ (hA.le (h1.t h2|>.t h3|>.t h4|>.t h5|>.t h6)) _ _ _ _ _ _ _ _ _ _ (hAx.le (h1.t h2|>.t h3|>.t h4|>.t h5|>.t h6)) (hBx.le (h1.t h2|>.t h3|>.t h4|>.t h5|>.t h6)) (hOx.le (h1.t h2|>.t h3|>.t h4|>.t h5|>.t h6)) hok (by have:=hG.cells;omega))) ?_
 rintro _ _ s13 h13 ⟨M1,rfl,bm,sm,bq,es,ck,rfl,hsm,hS,hB,bc,cc,yc,Oq9,Ao,co,Ai,ni,ci,rfl,hO,hI,hcc,hcc2⟩
 simp only [cQ9,nQ9]
 refine At Z Z<|Sr<|At Z Z<|Zs<|Zp<|?_
 refine qdS [_,_,_,_,_] (γ:=Nat×Mst×Int×Hl) (fun g=>[(2,_),(6,_),(7,_),(8,_),(10,_),(11,.int .i64 (g.1:Int))]) (fun g=>g.2.2.2++L) (fun g tw=>Le D s13 tw∧(g.1≤k.toNat∧qiI bm (.slice A n c) sm bq es ck g.2.2.1 g.2.1 g.2.2.2 tw∧MOK g.2.1∧SOK g.2.1∧U32 g.2.2.1∧qeD t m k.toNat=((qeD t g.2.1 (k.toNat - g.1)).1,g.1+(qeD t g.2.1 (k.toNat - g.1)).2))) (fun g=>k.toNat - g.1) (fun _ _ _ h hl=>⟨h.1.trans hl,by obtain ⟨_,k1,⟨bc,cc,yc,Oq9,Ao,co,Ai,ni,ci,k2,k3,k4,k5⟩,k6⟩:=h;exact ⟨k1,⟨bc,cc,yc,Oq9,Ao,co,Ai,ni,ci,k2,k3,k4.le hl,k5⟩,k6⟩⟩) (0,m,0,_::_::_::Oq9) (.c6 Z Z Z Z Z Z (.nil _)) Z ⟨Le.refl _,⟨Nat.zero_le _,⟨bc,cc,yc,Oq9,Ao,co,Ai,ni,ci,Z,hO,hI.le (Lr D),hcc,hcc2⟩,hok,hsok,qaj,by simp⟩⟩ ?_
 intro g s14 I14
 simp only [cQ9,nQ9]
 obtain ⟨j,mk,opk,Mk⟩:=g
 obtain ⟨hj0,⟨bc1,cc1,yc1,O1,Ao1,co1,Ai1,ni1,ci1,hMk,hO1,hI1,hcc1,hcc21⟩,hok1,hsok1,hop1,hrun⟩:=I14.2
 simp only at hj0 hMk hO1 hI1 hcc1 hok1 hop1 hrun hsok1
 subst hMk
 simp only [List.cons_append]
 refine Zs<|Sr<|Zqm Z Z<|Zqm Z Z<|qbY Z Z Z<|Zqm Z Z<|?_
 refine qam (t:=34) Z (fun c15=>?_) (fun c15=>?_)
 ·
  refine Zg Z Z<|Zqm Z Z<|Zg Z Z<|qbo Z Z<|Zg Z Z<|W0 Y5<|Zg Z Z<|Wb Y5<|Zg Z Z<|Wl 5 Y6<|Zg Z Z<|qaJ Z Z Z<|ZqT Z Z Z<|Nt<|?_
  refine qab Z (fun c16=>?_) (fun c16=>?_)
  ·
   have hs1:mk.stop=0:=c16
   have hj1:j < k.toNat:=by omega
   refine Zk<|Zt<|Zp<|Sr<|Zqm Z Z<|Jc Z Z Z (AC.mid [_,_,_,_,_] (_::_::_::O1) L (qrQ D _ _ bm _ _ _ sm hsm bq es ck opk mk _ ⟨bc1,cc1,yc1,O1,Ao1,co1,Ai1,ni1,ci1,Z,hO1,hI1.le (Lr D),hcc1,hcc21⟩ t (hA.le (h1.t h2|>.t h3|>.t h4|>.t h5|>.t h6|>.t h13|>.t I14.1)) hG hok1 hop1 hs1 hS hB)) ?_
   rintro _ _ s17 h17 ⟨M2,rfl,rfl,op2,hop2,bc2,cc2,yc2,O2,Ao2,co2,Ai2,ni2,ci2,rfl,hO2,hI2,hcc22,hcc23⟩
   simp only [cQ9,nQ9]
   refine Nt<|Zr<|Zqm Z Z<|qaW Z Z Z (w64 O O)<|Zqa Z Z<|Zn<|Zb<|?_
   refine qaa ⟨(j+1,qbl t mk,op2,_::_::_::O2),[],kp,Z,⟨(I14.1.t h17),⟨hj1,⟨bc2,cc2,yc2,O2,Ao2,co2,Ai2,ni2,ci2,Z,hO2,hI2.le (Lr D),hcc22,hcc23⟩,(qcY hG hok1 hs1 (qgX hsok1 hs1)).1,(qcY hG hok1 hs1 (qgX hsok1 hs1)).2.1,hop2,qqN hrun hj1 hs1⟩⟩,Oz⟩
  have hend:¬ j < k.toNat∨¬ mk.stop=0:=by first | exact .inr c16 | exact .inl O
  refine Zl<|Zv<|Zv<|Zd<|Zt<|Sr<|Zqm Z Z<|Jc Z Z Z (AC.mid [_,_,_,_,_] [_] _ (qic D _ _ _ _ _ _ _ _ _ _ _ _ _ _ _ _ _ _ _ hsm (hI1.le (Lr D)) (by have:=hI1.1;have:=hok1.input;omega))) ?_
  rintro _ _ s18 h18 ⟨_,rfl,rfl,Ad,c9,rfl,hB9⟩
  simp only [cQ9,nQ9]
  refine Zqm Z Z<|qae (qal [] [_,_] Z Z Z Z Z Z) Z<|Wt 2 [_,_,_,_,_,_,_,_,_,_] Y9<|Zqa Z Z<|Wt 1 [_,_] Y9<|Nt<|Zo<|?_
  refine rR [_,_,_,_,_] _ (.agg (us:=[_,_,_,_,_,_,_,_,_,_]) 2 Z Z Z Z Z (.tmp Z (.agg (us:=[_,_]) 1 Z Z Z Z Z (.nil)))) Z (h1.t h2|>.t h3|>.t h4|>.t h5|>.t h6|>.t h13|>.t I14.1|>.t h18) fun _ hS2=>?_
  refine ⟨_::_::_::O1,Z,fun s2 h2 hp=>?_⟩
  rw [qi5 hst0 hin,qmD hrun hend]
  exact ⟨_,⟨_,_,_,_,_,_,_,_,_,rfl,qgd (hp _ _ _ (List.mem_cons_of_mem _ Mc)) hok1.wide hcc1 hcc21,hB9.le ((Lr D).t (hS2.t h2)),Own.bts hO1 hp.tail.tail.tail⟩,rfl⟩
 refine Wf Y4<|Wf Y4<|Wf Y4<|Wf Y4<|Wf Y4<|Wf Y4<|ZqF Z Z Z<|Nt<|Zz Z<|?_
 have hend:¬ j < k.toNat∨¬ mk.stop=0:=by first | exact .inr trivial | exact .inl O
 refine Zl<|Zv<|Zv<|Zd<|Zt<|Sr<|Zqm Z Z<|Jc Z Z Z (AC.mid [_,_,_,_,_] [_] _ (qic D _ _ _ _ _ _ _ _ _ _ _ _ _ _ _ _ _ _ _ hsm (hI1.le (Lr D)) (by have:=hI1.1;have:=hok1.input;omega))) ?_
 rintro _ _ s19 h19 ⟨_,rfl,rfl,Ad,c9,rfl,hB9⟩
 simp only [cQ9,nQ9]
 refine Zqm Z Z<|qae (qal [] [_,_] Z Z Z Z Z Z) Z<|Wt 2 [_,_,_,_,_,_,_,_,_,_] Y9<|Zqa Z Z<|Wt 1 [_,_] Y9<|Nt<|Zo<|?_
 refine rR [_,_,_,_,_] _ (.agg (us:=[_,_,_,_,_,_,_,_,_,_]) 2 Z Z Z Z Z (.tmp Z (.agg (us:=[_,_]) 1 Z Z Z Z Z (.nil)))) Z (h1.t h2|>.t h3|>.t h4|>.t h5|>.t h6|>.t h13|>.t I14.1|>.t h19) fun _ hS2=>?_
 refine ⟨_::_::_::O1,Z,fun s2 h2 hp=>?_⟩
 rw [qi5 hst0 hin,qmD hrun hend]
 exact ⟨_,⟨_,_,_,_,_,_,_,_,_,rfl,qgd (hp _ _ _ (List.mem_cons_of_mem _ Mc)) hok1.wide hcc1 hcc21,hB9.le ((Lr D).t (hS2.t h2)),Own.bts hO1 hp.tail.tail.tail⟩,rfl⟩
end Go.Proofs.YtjindleklapakaaGreatDoor
namespace Go.Proofs.YtjindleklapakaaGreatDoor
open Go Go.FL
inductive All2{α β:Type}(R:α→β→Prop):List α→List β→Prop
 | nil:All2 R [] []
 | cons {a:α} {b:β} {l:List α} {m:List β} (h:R a b) (k:All2 R l m):All2 R (a::l) (b::m)
theorem qpv{α:Type}{sz:Nat}{R:World→α→List Value→Prop}{s:World}{b:Nat}{l:List α}{css:List (List Value)}(h:All2 (fun x cs=>cs.length=sz∧R s x cs) l css) :
  ∀ off,CellsAt s b off css.flatten→∀ i x,l[i]?=some x→∃ cs,CellsAt s b (off+i * sz) cs∧cs.length=sz∧R s x cs:=by
 induction h with
 | nil=>intro off _ i x hi;cases hi
 | @cons a c l m h k ih=>
  intro off hc i x hi
  have h1:CellsAt s b off c:=fun j v hj=>hc j v (by rw [List.flatten_cons,List.getElem?_append_left (List.getElem?_eq_some_iff.1 hj).1];exact hj)
  have h2:CellsAt s b (off+sz) m.flatten:=fun j v hj=>by
   have:=hc (sz+j) v (by rw [List.flatten_cons,List.getElem?_append_right O,h.1];simpa using hj)
   rwa [← Nat.add_assoc] at this
  cases i with
  | zero=>simp at hi;subst hi;exact ⟨c,by simpa using h1,h.1,h.2⟩
  | succ i=>
   obtain ⟨cs,k1,k2⟩:=ih (off+sz) h2 i x (by simpa using hi)
   exact ⟨cs,by rw [Nat.succ_mul];rwa [show off+sz+i * sz=off+(i * sz+sz) by omega] at k1,k2⟩
theorem Sl.lit{α:Type}{sz:Nat}{R:World→α→List Value→Prop}{s:World}{b:Nat}{l:List α}(css:List (List Value)){zs:List Value}(hc:CellsAt s b 0 zs)(hz:css.flatten=zs)(h:All2 (fun x cs=>cs.length=sz∧R s x cs) l css)(n:Nat)(hn:n=l.length)(hm:n≤9223372036854775807):Sl sz R s (some ⟨b,0,none⟩) n n l:=
 ⟨hn,Nat.le_refl _,hm,fun i x hi=>by
  obtain ⟨cs,h1,h2⟩:=qpv h 0 (hz▸hc) i x hi
  exact ⟨b,0,cs,rfl,h1,h2⟩⟩
theorem qlf{s:World}{b cc:Nat}{l:List UInt8}{yc:List Value}(hp:CellsAt s b 0 (bv l++yc))(h1:l.length+yc.length=cc)(h2:cc≤9223372036854775807):Bts s (some ⟨b,0,none⟩) l.length cc l:=
 Own.bts (e:=0) (A:=[(b,cb (bv l++yc) 0)]) (.blk b cc l.length (bv l) yc (by simp [bv]) (by rw [qeF];omega) O h2) (fun b zs t hm=>by
  simp only [List.mem_singleton,Prod.mk.injEq,cb,Obj.cells.injEq] at hm
  obtain ⟨rfl,h,rfl,_⟩:=hm
  have e:zs=bv l++yc:=by simpa using h
  rw [e];exact hp)
end Go.Proofs.YtjindleklapakaaGreatDoor
namespace Go.FL
open Go Go.RowKit
theorem qhx{P:Program}{TT:qbf}{D n:Nat}{Q:qbF}{fr:Fr}{s:World}{c:Code}(X A Y:Hl)(h:∀ s',Le D s s'→Pub A s'→JC P TT D n Q c fr (X++Y) s'):JC P TT D n Q c fr (X++(A++Y)) s:=fun ht a hr ho=>by
 have hp:(X++(A++Y)).Perm (A++(X++Y)):=by
  rw [← List.append_assoc,← List.append_assoc]
  exact (List.perm_append_comm).append_right Y
 rw [qbn hp _ ho]
 have ho2:=ho.perm hp
 obtain ⟨e,d1,d2⟩:=qbx ho2
 rw [e]
 refine h _ d2 (fun b zs t hm j u hj=>?_) ht a hr d1
 rw [qcF ho2.left hm,Nat.zero_add];exact hj
end Go.FL
namespace Go.Proofs.YtjindleklapakaaGreatDoor
open Go Go.FL
theorem All2.mono{α β:Type}{R R':α→β→Prop}{l:List α}{m:List β}(h:All2 R l m)(hr:∀ a b,R a b→R' a b):All2 R' l m:=by
 induction h with
 | nil=>exact .nil
 | cons h _ ih=>exact .cons (hr _ _ h) ih
theorem All2.snoc{α β:Type}{R:α→β→Prop}{l:List α}{m:List β}{a:α}{b:β}(h:All2 R l m)(k:R a b):All2 R (l++[a]) (m++[b]):=by
 induction h with
 | nil=>exact .cons k .nil
 | cons h _ ih=>exact .cons h ih
theorem Own.rows{α:Type}{e sz:Nat}{A:Hl}{Ad:Option Addr}{n c:Nat}{css:List (List Value)}{l:List α}{R:World→α→List Value→Prop}{s:World}(h:FL.Own e sz A (.slice Ad n c) n css.flatten)(hp:Pub A s)(ha:All2 (fun x cs=>cs.length=sz∧R s x cs) l css)(hn:n=l.length):Sl sz R s Ad n c l:=by
 generalize hv:Value.slice Ad n c=v at h
 generalize hx:css.flatten=xs at h
 cases h with
 | nil=>
  injection hv with e1 e2 e3
  subst e1;subst e3
  have:l=[]:=List.eq_nil_of_length_eq_zero hn.symm
  subst this
  exact ⟨rfl,Nat.le_refl _,by omega,fun i x h=>by cases h⟩
 | blk b cap n xs ys h1 h2 h3 h4=>
  injection hv with e1 e2 e3
  subst e1;subst e3;subst hx
  have hc:CellsAt s b 0 css.flatten:=fun j v hj=>hp b _ e Mc j v (by rw [List.getElem?_append_left (List.getElem?_eq_some_iff.1 hj).1];exact hj)
  exact ⟨hn,h3,h4,fun i x hi=>by
   obtain ⟨cs,k1,k2⟩:=qpv ha 0 hc i x hi
   exact ⟨b,0,cs,rfl,k1,k2⟩⟩
def Strs(s:World)(A:Option Addr)(n c:Nat)(l:List (List UInt8)):Prop:=Sl 1 (fun _ x cs=>cs=[St x]∧x.length≤9223372036854775807) s A n c l
theorem Strs.le{D:Nat}{s s':World}{A:Option Addr}{n c:Nat}{l:List (List UInt8)}(h:Strs s A n c l)(hl:Le D s s'):Strs s' A n c l:=Sl.le (fun _ _ h=>h) h hl
theorem Strs.at_{s:World}{A:Option Addr}{n c k:Nat}{l:List (List UInt8)}(h:Strs s A n c l)(hk:k < n):∃ b off x,A=some ⟨b,off,none⟩∧l[k]?=some x∧CellsAt s b (off+k) [St x]∧x.length≤9223372036854775807:=by
 have hl:k < l.length:=by rw [← h.1];exact hk
 obtain ⟨b,off,cs,h1,h2,_,rfl,h4⟩:=h.2.2.2 k l[k] (List.getElem?_eq_getElem hl)
 exact ⟨b,off,l[k],h1,List.getElem?_eq_getElem hl,by simpa using h2,h4⟩
end Go.Proofs.YtjindleklapakaaGreatDoor
namespace Go.FL
open Go Go.RowKit
section
variable{P:Program}{TT:qbf}{D n:Nat}{Q:qbF}{fr:Fr}{L:Hl}{s:World}
def MidF{γ:Type}(D:Nat)(s:World)(fr:Fr)(X:Hl)(H:γ→Hl)(I:γ→World→Prop):Fr→Hl→World→Prop:=fun fr' L' s'=>∃ g A,Le D s s'∧L'.Perm (A++(X++H g))∧I g s'∧Keeps fr' fr
theorem MidF.mk{γ:Type}{X:Hl}{H:γ→Hl}{I:γ→World→Prop}{fr':Fr}{L':Hl}{s':World}(g:γ)(A:Hl)(hl:Le D s s')(hK:Keeps fr' fr)(hp:L'.Perm (A++(X++H g)))(hI:I g s'):MidF D s fr X H I fr' L' s':=⟨g,A,hl,hp,hI,hK⟩
theorem qa1{γ:Type}{x y:Code}(X:Hl){Y:Hl}(_hX:L=X++Y)(H:γ→Hl)(I:γ→World→Prop)(mono:∀ g s s',I g s→Le D s s'→I g s')(h1:JC P TT D n (qa7 (MidF D s fr X H I) Q) x fr L s)
  (h2:∀ g s',Le D s s'→I g s'→JC P TT D n Q y fr (X++H g) s'):JC P TT D n Q (.seq x y) fr L s:=fun ht a hr ho=>
 wp_seq (wp_mono (h1 ht a hr ho) fun e a w ⟨fr',L',s',k1,k2,k3,k4⟩=>by
  cases e with
  | normal=>
   subst k3
   obtain ⟨g,A,j0,j2,j3,j1⟩:=k4
   rw [qbn j2 _ k2]
   obtain ⟨e,d1,d2⟩:=qbx (k2.perm j2)
   rw [e]
   exact h2 g _ (j0.trans d2) (mono _ _ _ j3 d2) ht a (k1.sub j1) d1
  | _=>exact ⟨fr',L',s',k1,k2,k3,k4⟩)
end
end Go.FL
namespace Go.Proofs.YtjindleklapakaaGreatDoor
open Go Go.FL
theorem qqr{css:List (List Value)}{sz:Nat}(hl:∀ cs∈css,cs.length=sz){j:Nat}{u:Value}(h:css.flatten[j]?=some u):∃ i cs r,css[i]?=some cs∧cs[r]?=some u∧j=i * sz+r:=by
  induction css generalizing j with
  | nil=>cases h
  | cons c m ih=>
    have hc:=hl c Mc
    rw [List.flatten_cons] at h
    by_cases hj:j < c.length
    · rw [List.getElem?_append_left hj] at h
      exact ⟨0,c,j,rfl,h,by omega⟩
    · rw [List.getElem?_append_right O] at h
      obtain ⟨i,cs,r,h1,h2,h3⟩:=ih (fun x hx=>hl x (List.mem_cons_of_mem _ hx)) h
      exact ⟨i+1,cs,r,by simpa using h1,h2,by rw [Nat.succ_mul];omega⟩
def acv(l:List Ac):List Value:=(l.map Ac.cs).flatten
theorem qqS(l m:List Ac):acv (l++m)=acv l++acv m:=by simp [acv]
theorem qqY(l:List Ac):(acv l).length=l.length * 6:=by
 induction l with
 | nil=>rfl
 | cons a r ih=>simp only [acv,List.map_cons,List.flatten_cons,List.length_append,List.length_cons] at ih ⊢;rw [ih];simp only [Ac.cs,List.length_cons,List.length_nil];omega
theorem Acs.row{s:World}{A:Option Addr}{n c:Nat}{l:List Ac}(h:Acs s A n c l):Row s A n 6 (acv l):=by
  refine ⟨by rw [qqY,h.1],fun u hu=>?_,fun j u hj=>?_⟩
  · obtain ⟨cs,h1,h2⟩:=List.mem_flatten.1 hu
    obtain ⟨a,_,rfl⟩:=List.mem_map.1 h1
    simp only [Ac.cs,List.mem_cons,List.not_mem_nil,or_false] at h2
    rcases h2 with rfl | rfl | rfl | rfl | rfl | rfl <;> rfl
  · obtain ⟨i,cs,r,h1,h2,h3⟩:=qqr (sz:=6) (fun cs hcs=>by obtain ⟨a,_,rfl⟩:=List.mem_map.1 hcs;rfl) hj
    rw [List.getElem?_map] at h1
    cases ha:l[i]? with
    | none=>simp [ha] at h1
    | some a=>
      simp [ha] at h1
      subst h1
      obtain ⟨b,off,cs,k1,k2,_,k3,_⟩:=h.2.2.2 i a ha
      subst k3
      refine ⟨b,off,k1,?_⟩
      have:=k2 r u h2
      rwa [Nat.add_assoc,← h3] at this
theorem Own.acs{e:Nat}{A:Hl}{Ad:Option Addr}{n c:Nat}{l:List Ac}{s:World}(h:FL.Own e 6 A (.slice Ad n c) n (acv l))(hu:∀ a∈l,U32 a.x.val∧U32 a.y.val)(hp:Pub A s)(hn:n=l.length):Acs s Ad n c l:=by
 refine Own.rows (css:=l.map Ac.cs) h hp ?_ hn
 clear h hn
 induction l with
 | nil=>exact .nil
 | cons a r ih=>exact .cons ⟨rfl,rfl,hu a Mc⟩ (ih fun b hb=>hu b (List.mem_cons_of_mem _ hb))
theorem Acs.u{s:World}{A:Option Addr}{n c:Nat}{l:List Ac}(h:Acs s A n c l):∀ a∈l,U32 a.x.val∧U32 a.y.val:=fun a ha=>by
 obtain ⟨i,hi⟩:=List.getElem?_of_mem ha
 obtain ⟨_,_,_,_,_,_,_,h5⟩:=h.2.2.2 i a hi
 exact h5
def Tms(s:World)(A:Option Addr)(n c:Nat)(l:List Tm):Prop:=Sl 2 (fun _ x cs=>cs=[.int .i64 x.kind,.int .u32 x.val]∧U32 x.val) s A n c l
theorem Tms.le{D:Nat}{s s':World}{A:Option Addr}{n c:Nat}{l:List Tm}(h:Tms s A n c l)(hl:Le D s s'):Tms s' A n c l:=Sl.le (fun _ _ h=>h) h hl
theorem Tms.at_{s:World}{A:Option Addr}{n c k:Nat}{l:List Tm}(h:Tms s A n c l)(hk:k < n):∃ b off x,A=some ⟨b,off,none⟩∧l[k]?=some x∧CellsAt s b (off+k * 2) [.int .i64 x.kind,.int .u32 x.val]∧U32 x.val:=by
 have hl:k < l.length:=by rw [← h.1];exact hk
 obtain ⟨b,off,cs,h1,h2,_,rfl,h4⟩:=h.2.2.2 k l[k] (List.getElem?_eq_getElem hl)
 exact ⟨b,off,l[k],h1,List.getElem?_eq_getElem hl,h2,h4⟩
theorem qdO{s:World}{b:Nat}{a c:Int}(h:CellsAt s b 0 [.int .i64 a,.int .u32 c])(hc:U32 c):Tms s (some ⟨b,0,none⟩) 1 1 [⟨a,c⟩]:=Sl.lit [[_,_]] h rfl (.cons ⟨rfl,rfl,hc⟩ .nil) 1 rfl O
theorem qbA{s:World}{b:Nat}{a c d e:Int}(h:CellsAt s b 0 [.int .i64 a,.int .u32 c,.int .i64 d,.int .u32 e])(hc:U32 c)(he:U32 e):Tms s (some ⟨b,0,none⟩) 2 2 [⟨a,c⟩,⟨d,e⟩]:=Sl.lit [[_,_],[_,_]] h rfl (.cons ⟨rfl,rfl,hc⟩ (.cons ⟨rfl,rfl,he⟩ .nil)) 2 rfl O
theorem qgA{s:World}{b:Nat}{k0 t0 a0 b0 c0 d0:Int}(h:CellsAt s b 0 [.int .i64 k0,.int .i64 t0,.int .i64 a0,.int .u32 b0,.int .i64 c0,.int .u32 d0])(hu:(U32 b0∧U32 d0)):Acs s (some ⟨b,0,none⟩) 1 1 [⟨k0,t0,⟨a0,b0⟩,⟨c0,d0⟩⟩]:=Sl.lit [[_,_,_,_,_,_]] h rfl (.cons ⟨rfl,rfl,hu⟩ (.nil)) 1 rfl O
theorem qcR{s:World}{b:Nat}{k0 t0 a0 b0 c0 d0 k1 t1 a1 b1 c1 d1:Int}(h:CellsAt s b 0 [.int .i64 k0,.int .i64 t0,.int .i64 a0,.int .u32 b0,.int .i64 c0,.int .u32 d0,.int .i64 k1,.int .i64 t1,.int .i64 a1,.int .u32 b1,.int .i64 c1,.int .u32 d1])(hu:(U32 b0∧U32 d0)∧(U32 b1∧U32 d1)):Acs s (some ⟨b,0,none⟩) 2 2 [⟨k0,t0,⟨a0,b0⟩,⟨c0,d0⟩⟩,⟨k1,t1,⟨a1,b1⟩,⟨c1,d1⟩⟩]:=Sl.lit [[_,_,_,_,_,_],[_,_,_,_,_,_]] h rfl (.cons ⟨rfl,rfl,hu.1⟩ (.cons ⟨rfl,rfl,hu.2⟩ (.nil))) 2 rfl O
theorem qtK{s:World}{b:Nat}{k0 t0 a0 b0 c0 d0 k1 t1 a1 b1 c1 d1 k2 t2 a2 b2 c2 d2:Int}(h:CellsAt s b 0 [.int .i64 k0,.int .i64 t0,.int .i64 a0,.int .u32 b0,.int .i64 c0,.int .u32 d0,.int .i64 k1,.int .i64 t1,.int .i64 a1,.int .u32 b1,.int .i64 c1,.int .u32 d1,.int .i64 k2,.int .i64 t2,.int .i64 a2,.int .u32 b2,.int .i64 c2,.int .u32 d2])(hu:(U32 b0∧U32 d0)∧(U32 b1∧U32 d1)∧(U32 b2∧U32 d2)):Acs s (some ⟨b,0,none⟩) 3 3 [⟨k0,t0,⟨a0,b0⟩,⟨c0,d0⟩⟩,⟨k1,t1,⟨a1,b1⟩,⟨c1,d1⟩⟩,⟨k2,t2,⟨a2,b2⟩,⟨c2,d2⟩⟩]:=Sl.lit [[_,_,_,_,_,_],[_,_,_,_,_,_],[_,_,_,_,_,_]] h rfl (.cons ⟨rfl,rfl,hu.1⟩ (.cons ⟨rfl,rfl,hu.2.1⟩ (.cons ⟨rfl,rfl,hu.2.2⟩ (.nil)))) 3 rfl O
theorem acs6{s:World}{b:Nat}{k0 t0 a0 b0 c0 d0 k1 t1 a1 b1 c1 d1 k2 t2 a2 b2 c2 d2 k3 t3 a3 b3 c3 d3 k4 t4 a4 b4 c4 d4 k5 t5 a5 b5 c5 d5:Int}(h:CellsAt s b 0 [.int .i64 k0,.int .i64 t0,.int .i64 a0,.int .u32 b0,.int .i64 c0,.int .u32 d0,.int .i64 k1,.int .i64 t1,.int .i64 a1,.int .u32 b1,.int .i64 c1,.int .u32 d1,.int .i64 k2,.int .i64 t2,.int .i64 a2,.int .u32 b2,.int .i64 c2,.int .u32 d2,.int .i64 k3,.int .i64 t3,.int .i64 a3,.int .u32 b3,.int .i64 c3,.int .u32 d3,.int .i64 k4,.int .i64 t4,.int .i64 a4,.int .u32 b4,.int .i64 c4,.int .u32 d4,.int .i64 k5,.int .i64 t5,.int .i64 a5,.int .u32 b5,.int .i64 c5,.int .u32 d5])(hu:(U32 b0∧U32 d0)∧(U32 b1∧U32 d1)∧(U32 b2∧U32 d2)∧(U32 b3∧U32 d3)∧(U32 b4∧U32 d4)∧(U32 b5∧U32 d5)):Acs s (some ⟨b,0,none⟩) 6 6 [⟨k0,t0,⟨a0,b0⟩,⟨c0,d0⟩⟩,⟨k1,t1,⟨a1,b1⟩,⟨c1,d1⟩⟩,⟨k2,t2,⟨a2,b2⟩,⟨c2,d2⟩⟩,⟨k3,t3,⟨a3,b3⟩,⟨c3,d3⟩⟩,⟨k4,t4,⟨a4,b4⟩,⟨c4,d4⟩⟩,⟨k5,t5,⟨a5,b5⟩,⟨c5,d5⟩⟩]:=Sl.lit [[_,_,_,_,_,_],[_,_,_,_,_,_],[_,_,_,_,_,_],[_,_,_,_,_,_],[_,_,_,_,_,_],[_,_,_,_,_,_]] h rfl (.cons ⟨rfl,rfl,hu.1⟩ (.cons ⟨rfl,rfl,hu.2.1⟩ (.cons ⟨rfl,rfl,hu.2.2.1⟩ (.cons ⟨rfl,rfl,hu.2.2.2.1⟩ (.cons ⟨rfl,rfl,hu.2.2.2.2.1⟩ (.cons ⟨rfl,rfl,hu.2.2.2.2.2⟩ (.nil))))))) 6 rfl O
theorem tms0(s:World):Tms s none 0 0 []:=⟨rfl,Nat.le_refl _,by omega,fun i x h=>by cases h⟩
end Go.Proofs.YtjindleklapakaaGreatDoor
namespace Go.FL
open Go Go.RowKit
def JE(P:Program)(TT:qbf)(D n:Nat)(ops:Array Oper)(Q:Exit→Act→World→Prop)(i d:Nat)(fr:Fr)(L:Hl)(s:World)(R:Value→World→Prop):Prop:=
 TabOK P TT→∀ a,FrRel n a fr→OKL D L s→wpOp P ops Q i (fun a' w'=>∃ v s',a'=a.put (some d) v∧w'=fill L s'∧OKL D L s'∧Le D s s'∧R v s') a (fill L s)
section
variable{P:Program}{TT:qbf}{D n:Nat}{ops:Array Oper}{Q':Exit→Act→World→Prop}{fr:Fr}{L:Hl}{s s':World}{d ty:Nat}{op:Op}{pos:String}{af:Array Edge}{v:Value}{i:Nat}{R:Value→World→Prop}
theorem qsR(hi:ops[i]?=some ⟨some d,op,ty,pos,af,none⟩)(h:Ev P TT D fr op ty L s (.value v) L s')(hle:Le D s s')(hR:R v s'):JE P TT D n ops Q' i d fr L s R:=fun ht a hf ho=>by
 obtain ⟨h1,h2⟩:=h ht ho (some d) pos af none a.eval (fun x v hx=>hf.ev hx)
 simp only [wpOp,hi,Region.wanted,if_true]
 refine .inl ?_
 simp only [Oper.wp,h1,Oper.upon]
 exact ⟨v,s',rfl,rfl,h2,hle,hR⟩
theorem qjV(hi:ops[i]?=some ⟨some d,op,ty,pos,af,none⟩)(h:QE P TT D fr op ty L s v)(hR:R v s):JE P TT D n ops Q' i d fr L s R:=
 qsR hi (fun ht ho dst pos af g ρ hρ=>⟨h ht dst pos af g ρ hρ L s ho (Le.refl _) (fun _ hx=>hx),ho⟩) (Le.refl _) hR
theorem qdy{f:FuncId}{x:Operand}{xs:List Operand}{first captured vs:List Value}{ts:Array TypeId}{R0:Value→Hl→World→Prop}(hi:ops[i]?=some ⟨some d,.call { callee:=.value x,args:=xs.toArray,argTypes:=ts },ty,pos,af,none⟩)
  (hx:lk fr x=some (.func (.func f) first.toArray captured.toArray)) (hv:lks fr xs=some vs) (h:AC P D f (first++vs++captured) L s R0)
  (k:∀ v L' s',Le D s s'→R0 v L' s'→L'=L∧R v s'):JE P TT D n ops Q' i d fr L s R:=fun hT a hf ho=>by
 obtain ⟨⟨fn,h1,h2,h3⟩,hc⟩:=h
 have hρ:∀ x v,lk fr x=some v→a.eval x=v:=fun x v hx=>hf.ev hx
 simp only [wpOp,hi,Region.wanted,if_true]
 refine .inl ?_
 have hrun:(execOp a.eval ⟨some d,.call { callee:=.value x,args:=xs.toArray,argTypes:=ts },ty,pos,af,none⟩).run P (fill L s)=.ok (.enter f (first++vs++captured).toArray) (fill L s):=by
  have h2':¬ fn.name = "runtime.NumGoroutine" := by simpa using h2
  have h3':¬ fn.body=none:=by intro e;simp [e] at h3
  simp [execOp,resolve,Deferred.ofValue,invoke,callFunc,hρ x _ hx,qg4 hρ hv,h1,h2',h3']
 simp only [Oper.wp,hrun,Oper.upon]
 refine (hc ho).mono ?_
 rintro e w' ⟨v,L',s',rfl,rfl,h4,h5,h6⟩
 obtain ⟨rfl,k2⟩:=k v L' s' h5 h6
 exact ⟨v,s',rfl,rfl,h4,h5,k2⟩
theorem qi6{t e len:Nat}{ti te:TI}{ps:List (Nat×Operand)}(hi:ops[i]?=some ⟨some d,.buildSlice t len ps.toArray,ty,pos,af,none⟩)(vals:List (Nat×Value))(vs:List Value)(ht:qaA TT t=some ti)(hk:ti.kind=.sl e)(he:qaA TT e=some te)(hv:lkp fr ps=some vals)(hsz:Nat.ble (len * te.size) 16777216=true)(hpos:Nat.blt 0 len=true)(hp:vals.all (fun x=>Nat.blt x.1 len)=true)
  (hb:bld (qfV te.size 0 len) (List.replicate len te.zeros).flatten vals=some vs) (k:∀ β s',Le D s s'→CellsAt s' β 0 vs→R (.slice (some ⟨β,0,none⟩) len len) s'):JE P TT D n ops Q' i d fr L s R:=fun hT a hr ho=>by
 obtain ⟨h1,h2,h3⟩:=qa2 ho (cb vs e)
 obtain ⟨d1,d2,d3⟩:=qbx (A:=[(s.heap.size,cb vs e)]) (B:=L) h2
 refine qsR (s':=fill [(s.heap.size,cb vs e)] (s.alloc (dum D))) hi (fun hT _ dst pos af g ρ hρ=>⟨?_,d2⟩) (h3.trans d3) (k _ _ (h3.trans d3) (qfo h2)) hT a hr ho
 rw [← d1]
 exact (qrt vals vs ht hk he hv hsz hpos hp hb ho hT ho dst pos af g ρ hρ).1
end
def qn4(l:List Oper)(i j:Nat):Bool:=match l[i]? with
 | some o=>o.after.any fun e=>Region.binds .any e && e.on == j
 | none=>false
def dstB(l:List Oper)(ds:List Nat)(m:Nat):Bool:=(List.range m).all fun i=>(match l[i]? with | some o=>o.dst == ds[i]? && o.guard.isNone | none=>false)
def qtL(l:List Oper):Bool:=(List.range l.length).all fun i=>(match l[i]? with | some o=>o.after.all fun e=>!Region.binds .any e || decide (e.on < i) | none=>true)
def qs3(l:List Oper)(m:Nat):Bool:=(List.range m).all fun j=>(List.range (m+1)).any fun i=>decide (j < i) && qn4 l i j
def depB(l:List Oper)(dp:List (List Nat))(m:Nat):Bool:=(List.range m).all fun i=>(dp.getD i []).all fun j=>decide (j < m) && qn4 l i j
def qsI(fr:Fr)(ds:List Nat)(n:Nat):Bool:=ds.all fun d=>(qaZ fr d).isNone && Nat.blt d n
def Obl(Φ:Nat→Value→World→Prop)(ds:List Nat)(s:World)(K:Fr→Prop):List Nat→Fr→Prop
 | [],fr=>K fr
 | j::r,fr=>∀ u,Φ j u s→Obl Φ ds s K r ((ds.getD j 0,u)::fr)
inductive Fct where
 | eq (v:Value)
 | row (len:Nat) (vs:List Value)
def Fct.holds:Fct→Value→World→Prop
 | .eq u,v,_=>v=u
 | .row len vs,v,s=>∃ b,v=.slice (some ⟨b,0,none⟩) len len∧CellsAt s b 0 vs
theorem Fct.le{D:Nat}(fs:List Fct)(i:Nat)(v:Value)(s s':World)(h:(fs.getD i (.eq undef)).holds v s)(hl:Le D s s'):(fs.getD i (.eq undef)).holds v s':=by
 generalize fs.getD i (.eq undef)=f at h ⊢
 cases f with
 | eq u=>exact h
 | row len vs=>obtain ⟨b,h1,h2⟩:=h;exact ⟨b,h1,h2.le hl⟩
def AllLt(p:Nat→Prop):Nat→Prop
 | 0=>True
 | m+1=>AllLt p m∧p m
theorem AllLt.get{p:Nat→Prop}{m:Nat}(h:AllLt p m):∀ i,i < m→p i:=by
 induction m with
 | zero=>intro i hi;omega
 | succ m ih=>
  intro i hi
  rcases Nat.lt_succ_iff_lt_or_eq.1 hi with h1 | rfl
  · exact ih h.1 i h1
  · exact h.2
section
variable{P:Program}{TT:qbf}{D n:Nat}{Q:qbF}{fr:Fr}{L:Hl}{s:World}
theorem FrRel.more{a:Act}(hr:FrRel n a fr){d:Nat}{u:Value}(h1:d < n)(h2:a.tmps[d]?=some u):FrRel n a ((d,u)::fr):=by
  refine ⟨hr.size,hr.defers,fun t ht v hv=>?_,fun t v hv=>?_⟩
  · rw [qa8] at hv
    split at hv
    · rename_i he;subst he;simp at hv;subst hv;exact h2
    · exact hr.slot t ht v hv
  · rw [qa8] at hv
    split at hv
    · rename_i he;subst he;exact h1
    · exact hr.top t v hv
theorem Obl.apply{Φ:Nat→Value→World→Prop}{ds:List Nat}{K:Fr→Prop}{a:Act}{js:List Nat}(hr:FrRel n a fr)(h:Obl Φ ds s K js fr)(hj:∀ j∈js,ds.getD j 0 < n∧∃ v,a.tmps[ds.getD j 0]?=some v∧Φ j v s):∃ fr',FrRel n a fr'∧K fr':=by
 induction js generalizing fr with
 | nil=>exact ⟨fr,hr,h⟩
 | cons j r ih=>
  obtain ⟨h1,v,h2,h3⟩:=hj j Mc
  exact ih (hr.more h1 h2) (h v h3) fun x hx=>hj x (List.mem_cons_of_mem _ hx)
theorem qir{l:List Oper}{i j:Nat}(h:qn4 l i j=true):∃ o,l[i]?=some o∧∃ e∈o.after,Region.binds .any e=true∧e.on=j:=by
  unfold qn4 at h
  split at h
  · rename_i o ho
    rw [Array.any_eq_true] at h
    obtain ⟨k,hk,h1⟩:=h
    simp only [Bool.and_eq_true,beq_iff_eq] at h1
    exact ⟨o,ho,o.after[k],Array.getElem_mem hk,h1.1,h1.2⟩
  · cases h
theorem qqo{id:Nat}{l:List Oper}(hm:P.follows .mixedOrders=true)(m:Nat)(hN:l.length=m+1)(ds:List Nat)(dp:List (List Nat))(h1:dstB l ds m=true)(h2:qtL l=true)(h3:qs3 l m=true)(h4:depB l dp m=true)(h5:qsI fr ds n=true)(h6:ds.Nodup)(h7:ds.length=m)
    (Φ:Nat→Value→World→Prop) (mono:∀ i v s s',Φ i v s→Le D s s'→Φ i v s')
    (obl0:AllLt (fun i=>∀ s',Le D s s'→Obl Φ ds s' (fun fr'=>JE P TT D n l.toArray (qpR D n Q) i (ds.getD i 0) fr' L s' (Φ i)) (dp.getD i []) fr) m)
    (lastd:List Nat) (h8:lastd.all (fun j=>decide (j < m))=true) (last:∀ s',Le D s s'→Obl Φ ds s' (fun fr'=>JA P TT D n l.toArray Q [] s' 1 ((Array.replicate m true).push false) fr' L s') lastd fr) :
    JC P TT D n Q (.region id l.toArray true) fr L s:=fun ht a0 hr0 ho0=>by
  have obl:=obl0.get
  have key:∀ (N:Nat) (todo:List Nat) (listed:Array Bool) (a:Act) (s':World),todo.length=N→todo.Nodup→(∀ i,i∈todo↔i < m∧listed.getD i true=false)→listed.size=m+1→listed.getD m true=false →
      (∀ i o,l[i]?=some o→i < m→listed.getD i true=true→∀ e∈o.after,Region.binds .any e=true→listed.getD e.on false=true) →
      FrRel n a fr→OKL D L s'→Le D s s'→(∀ i,i < m→listed.getD i true=true→∃ v,a.tmps[ds.getD i 0]?=some v∧Φ i v s')→wpAny P .any l.toArray (qpR D n Q) (N+1) listed a (fill L s'):=by
    have hdlt:∀ i,i < m→ds.getD i 0 < n∧qaZ fr (ds.getD i 0)=none:=fun i hi=>by
      have hmem:ds.getD i 0∈ds:=by simp [List.getD,show i < ds.length by omega]
      have:=List.all_eq_true.1 h5 _ hmem
      simp only [Bool.and_eq_true,Option.isNone_iff_eq_none] at this
      exact ⟨Nat.le_of_ble_eq_true this.2,this.1⟩
    intro N
    induction N with
    | zero=>
      intro todo listed a s' hlen _ hmem hsz hlast hcl hfr ho hle hfact
      have hnil:todo=[]:=List.eq_nil_of_length_eq_zero hlen
      subst hnil
      have hall:∀ i,i < m→listed.getD i true=true:=fun i hi=>by
        cases hb:listed.getD i true with
        | true=>rfl
        | false=>exact absurd ((hmem i).2 ⟨hi,hb⟩) (by simp)
      have hl:listed=(Array.replicate m true).push false:=by
        apply Array.ext
        · simp [hsz]
        · intro i hi hi'
          rw [Array.getElem_push]
          have hg:listed.getD i true=listed[i]:=by simp [hi]
          split
          · rename_i hlt
            simp at hlt
            rw [Array.getElem_replicate,← hg,hall i hlt]
          · rename_i hge
            simp at hge
            have:i=m:=by omega
            subst this
            rw [← hg,hlast]
      subst hl
      obtain ⟨fr',hf',hJ⟩:=(last s' hle).apply hfr (a:=a) (fun j hj=>by
        have hj':j < m:=by simpa using List.all_eq_true.1 h8 j hj
        exact ⟨(hdlt j hj').1,hfact j hj' (hall j hj')⟩)
      exact wpAny_of_held _ _ _ _ (hJ ht a hf' ho (Le.refl _) (fun x hx=>by cases hx))
    | succ N ih=>
      intro todo listed a s' hlen hnd hmem hsz hlast hcl hfr ho hle hfact
      refine ⟨fun hready=>?_,fun i hi=>?_⟩
      ·
        exfalso
        have hex:∃ i,i < m∧listed.getD i true=false:=by
          cases todo with
          | nil=>simp at hlen
          | cons x r=>exact ⟨x,(hmem x).1 Mc⟩
        have hleast:∃ i,(i < m∧listed.getD i true=false)∧∀ j,j < i→¬ (j < m∧listed.getD j true=false):=by
          obtain ⟨i,hi⟩:=hex
          induction i using Nat.strongRecOn with
          | ind i ihi=>
            by_cases hx:∃ j,j < i∧(j < m∧listed.getD j true=false)
            · obtain ⟨j,hj1,hj2⟩:=hx
              exact ihi j hj1 hj2
            · exact ⟨i,hi,fun j hj hj2=>hx ⟨j,hj,hj2⟩⟩
        obtain ⟨i,⟨hi1,hi2⟩,hi3⟩:=hleast
        have hlt:i < l.length:=by omega
        have hin:i∈Region.ready .any l.toArray listed:=by
          rw [mem_ready]
          refine ⟨hi2,l[i],by simp [hlt],fun e he hb=>?_⟩
          have ht2:=List.all_eq_true.1 h2 i (List.mem_range.2 hlt)
          simp only [List.getElem?_eq_getElem hlt] at ht2
          rw [Array.all_eq_true_iff_forall_mem] at ht2
          have:=ht2 e he
          simp only [hb,Bool.not_true,Bool.false_or,decide_eq_true_eq] at this
          have hn:=hi3 e.on this
          have hm1:e.on < m:=by omega
          have h8:listed.getD e.on true=true:=by
            cases hc:listed.getD e.on true with
            | true=>rfl
            | false=>exact absurd ⟨hm1,hc⟩ hn
          have h9:e.on < listed.size:=by omega
          simp only [Array.getD,h9,dif_pos] at h8 ⊢
          exact h8
        rw [hready] at hin
        cases hin
      · have hi':=hi
        rw [mem_ready] at hi
        obtain ⟨hu,o,ho1,hall⟩:=hi
        have hol:l[i]?=some o:=by simpa using ho1
        have hilen:i < l.length:=(List.getElem?_eq_some_iff.1 hol).1
        have him:i≠m:=by
          intro e
          subst e
          -- the greatest one that is not listed is ready's own forerunner
          have hmax:∀ k,∀ j,j < i→i - j≤k→listed.getD j true=true:=by
            intro k
            induction k with
            | zero=>intro j hj hk;omega
            | succ k ihk=>
              intro j hj hk
              have hcv:=List.all_eq_true.1 h3 j (List.mem_range.2 hj)
              rw [List.any_eq_true] at hcv
              obtain ⟨i2,hi2,hc⟩:=hcv
              simp only [Bool.and_eq_true,decide_eq_true_eq] at hc
              obtain ⟨o2,ho2,e,he,hb,hon⟩:=qir hc.2
              have hi2':=List.mem_range.1 hi2
              have hgot:listed.getD e.on false=true:=by
                by_cases hlastone:i2=i
                · subst hlastone
                  rw [hol] at ho2;injection ho2 with ho2;subst ho2
                  exact hall e he hb
                · exact hcl i2 o2 ho2 O (ihk i2 O O) e he hb
              rw [hon] at hgot
              have h9:j < listed.size:=by omega
              simp only [Array.getD,h9,dif_pos] at hgot ⊢
              exact hgot
          cases todo with
          | nil=>simp at hlen
          | cons x r=>
            have hx:=(hmem x).1 Mc
            have:=hmax i x hx.1 O
            rw [hx.2] at this;cases this
        have hilt:i < m:=by omega
        have hdeps:∀ j∈dp.getD i [],j < m∧listed.getD j true=true:=fun j hj=>by
          have hd:=List.all_eq_true.1 h4 i (List.mem_range.2 hilt)
          have hd2:=List.all_eq_true.1 hd j hj
          simp only [Bool.and_eq_true,decide_eq_true_eq] at hd2
          obtain ⟨o2,ho2,e,he,hb,hon⟩:=qir hd2.2
          rw [hol] at ho2;injection ho2 with ho2;subst ho2
          have hgot:=hall e he hb
          rw [hon] at hgot
          have h9:j < listed.size:=by omega
          simp only [Array.getD,h9,dif_pos] at hgot ⊢
          exact ⟨hd2.1,hgot⟩
        obtain ⟨fr',hf',hJ⟩:=(obl i hilt s' hle).apply hfr (a:=a) (fun j hj=>⟨(hdlt j (hdeps j hj).1).1,hfact j (hdeps j hj).1 (hdeps j hj).2⟩)
        refine wpOp_mono ?_ (hJ ht a hf' ho)
        rintro a' w' ⟨v,s2,rfl,rfl,ho2,hle2,hΦ⟩
        have hdi:=hdlt i hilt
        have hsz2:a.tmps.size=n:=hfr.size
        refine ih (todo.erase i) _ _ s2 (by rw [List.length_erase_of_mem ((hmem i).2 ⟨hilt,hu⟩)];omega) (hnd.erase i) (fun j=>?_) (by simpa using hsz) ?_ ?_ ?_ ho2 (hle.trans hle2) ?_
        · rw [hnd.mem_erase_iff,hmem j]
          by_cases hj:j=i
          · subst hj;simp [show j < listed.size by omega]
          · rw [getD_set_ne true (fun e=>hj e.symm)];simp [hj]
        · rw [getD_set_ne true him];exact hlast
        · intro j oj hoj hjm hlj e he hb
          by_cases hj:j=i
          · subst hj
            rw [hol] at hoj;injection hoj with hoj;subst hoj
            exact getD_set_true (hall e he hb)
          · rw [getD_set_ne true (fun e=>hj e.symm)] at hlj
            exact getD_set_true (hcl j oj hoj hjm hlj e he hb)
        · refine ⟨by simp [Act.put,hsz2],by simp [Act.put,hfr.defers],fun t ht2 u hu2=>?_,hfr.top⟩
          have hne:ds.getD i 0≠t:=by
            intro e;rw [e] at hdi;rw [hdi.2] at hu2;cases hu2
          simp only [Act.put,Array.getElem?_setIfInBounds_ne hne]
          exact hfr.slot t ht2 u hu2
        · intro j hjm hlj
          by_cases hj:j=i
          · subst hj
            refine ⟨v,?_,hΦ⟩
            have hd1:=hdi.1
            generalize ds.getD j 0=dd at hd1 ⊢
            simp [Act.put,hsz2,hd1]
          · rw [getD_set_ne true (fun e=>hj e.symm)] at hlj
            obtain ⟨u,k1,k2⟩:=hfact j hjm hlj
            have hne:ds.getD i 0≠ds.getD j 0:=by
              intro e
              simp only [List.getD,List.getElem?_eq_getElem (show i < ds.length by omega),List.getElem?_eq_getElem (show j < ds.length by omega),Option.getD_some] at e
              exact hj ((List.getElem_inj h6).1 e).symm
            exact ⟨u,by simp only [Act.put,Array.getElem?_setIfInBounds_ne hne];exact k1,mono _ _ _ _ k2 hle2⟩
  have hstart:=key m (List.range m) (Array.replicate (m+1) false) a0 s.drew (by simp) List.nodup_range (fun i=>⟨fun h=>⟨List.mem_range.1 h,by have:=List.mem_range.1 h;simp [show i < m+1 by omega]⟩,fun h=>List.mem_range.2 h.1⟩) (by simp) (by simp) (fun i o _ him hli=>by simp [show i < m+1 by omega] at hli) hr0 ho0.drew (Le.drew s) (fun i him hli=>by simp [show i < m+1 by omega] at hli)
  refine wp_mono (wp_region_any (Q:=qpR D n Q) hm ?_) (fun e a w hq=>by
    cases e with
    | panic ch=>obtain ⟨h1,L1,s1,h2,h3,h4⟩:=hq;exact ⟨[],L1,s1,h1,h2,h3,h4 []⟩
    | _=>exact hq)
  rw [← qgp] at hstart
  simpa [hN] using hstart
end
structure Apps(P:Program)(w:World)(t u ty e:Nat)(i:TypeInfo)(z:Value)(y:Value)(m:Nat)(news:List Value):Prop where
 none:m=0→(Builtin.append_ #[t,u] ty #[.slice none 0 0,y]).run P w=.ok (.slice none 0 0) w
 nil:0 < m→m≤9223372036854775807→m * i.bytes≤140737488355328→(Builtin.append_ #[t,u] ty #[.slice .none 0 0,y]).run P w=.ok (.slice (some ⟨w.heap.size,0,.none⟩) m (grownCap w m 0 e)) (w.drew.alloc (.cells (news.toArray++Builtin.zeroCells z.cells (grownCap w m 0 e - m)) e))
 room:∀ g sLen sCap (cur:Array Value),w.heap[g]?=some (.cells cur e (0,0))→sLen+m≤sCap→sLen * i.size+news.length≤cur.size→(Builtin.append_ #[t,u] ty #[.slice (some ⟨g,0,.none⟩) sLen sCap,y]).run P w=.ok (.slice (some ⟨g,0,.none⟩) (sLen+m) sCap) (w.setRow g (cur.toList.take (sLen * i.size)++news++cur.toList.drop (sLen * i.size+news.length)).toArray)
 grow:∀ g n cap (xs:List Value),xs.length=n * i.size→(∀ j v,xs[j]?=some v→w.cell? ((⟨g,0,.none⟩:Addr).add j)=some v)→cap < n+m→n+m≤9223372036854775807→(n+m) * i.bytes≤140737488355328 →
  (Builtin.append_ #[t,u] ty #[.slice (some ⟨g,0,.none⟩) n cap,y]).run P w=.ok (.slice (some ⟨w.heap.size,0,.none⟩) (n+m) (grownCap w (n+m) cap e)) (w.drew.alloc (.cells (xs.toArray++news.toArray++Builtin.zeroCells z.cells (grownCap w (n+m) cap e - (n+m))) e))
theorem qoZ{P:Program}{w:World}{t u ty e:Nat}{i:TypeInfo}{z y:Value}{m size bytes:Nat}{news:List Value}(hS:Apps P w t u ty e i z y m news)(hsize:i.size=size)(hby:i.bytes=bytes)(hzs:z.cells.size=size)
    (v:Value) (n:Nat) (xs:List Value) (hown:w.ownsRow 0 e size v n xs) (hl:news.length=m * size) (h63:n+m≤maxLen) (hbytes:(n+m) * bytes≤140737488355328) :
    ∃ v' w',(Builtin.append_ #[t,u] ty #[v,y]).run P w=.ok v' w'∧w'.ownsRow 0 e size v' (n+m) (xs++news)∧w.grownBy w' v.ownBlock∧(v'.ownBlock=v.ownBlock∨v'.ownBlock=some w.heap.size)∧(v=.slice none 0 0→m=0→v'=.slice none 0 0):=by
  subst hsize
  subst hby
  have hsmall:n+m≤9223372036854775807:=by simp only [maxLen] at h63;omega
  have hlen:(xs++news).length=(n+m) * i.size:=by rw [List.length_append,hown.1,hl,Nat.add_mul]
  have grown:∀ (old:Nat),old < n+m→∀ (row:Option Nat),
      (w.drew.alloc (.cells (xs.toArray++news.toArray++Builtin.zeroCells z.cells (grownCap w (n+m) old e - (n+m))) e)).ownsRow 0 e i.size
        (.slice (some ⟨w.heap.size,0,none⟩) (n+m) (grownCap w (n+m) old e)) (n+m) (xs++news) ∧
      w.grownBy (w.drew.alloc (.cells (xs.toArray++news.toArray++Builtin.zeroCells z.cells (grownCap w (n+m) old e - (n+m))) e)) row:=by
    intro old ho row
    have hge:=grownCap_ge w (n+m) old e
    have hcm:grownCap w (n+m) old e≤maxLen:=grownCap_le_maxLen w (n+m) old e h63
    refine ⟨⟨hlen,.inr ⟨w.heap.size,_,_,Z,Nat.zero_le _,heap_alloc_new w.drew _,hge,hcm,?_,?_⟩⟩,⟨Z,Z,Z,by simp,fun k hk _=>by show (w.heap.push _)[k]?=w.heap[k]?;rw [Array.getElem?_push,if_neg (Nat.ne_of_lt hk)]⟩⟩
    · simp only [Array.size_append,List.size_toArray,size_zeroCells,hzs,hown.1,hl,← Nat.add_mul]
      congr 1
      omega
    · simp only [Array.toList_append,List.append_assoc]
      rw [← List.append_assoc,← hlen]
      exact List.take_left
  rcases hown.2 with ⟨rfl,rfl⟩ | ⟨g,cap,cur,rfl,hbg,hg,hnc,hcm,hcs,htake⟩
  · have hx:xs=[]:=List.eq_nil_of_length_eq_zero (by simpa using hown.1)
    subst hx
    by_cases hm:m=0
    · have hn:news=[]:=List.eq_nil_of_length_eq_zero (by rw [hl,hm];simp)
      refine ⟨.slice none 0 0,w,hS.none hm,?_,⟨Z,Z,Z,Nat.le_refl _,fun _ _ _=>rfl⟩,Or.inl Z,fun _ _=>rfl⟩
      rw [hn,hm];exact World.ownsRow_nil w 0 e i.size
    · have hr:=hS.nil O O (by have hb:=hbytes;simp only [Nat.zero_add] at hb;exact hb)
      have hgr:=grown 0 O (Value.ownBlock (.slice none 0 0))
      simp only [Nat.zero_add,List.nil_append,Array.empty_append] at hgr ⊢
      exact ⟨_,_,hr,hgr.1,hgr.2,Or.inr rfl,fun _ h=>absurd h hm⟩
  · by_cases hroom:n+m≤cap
    · have hfit:n * i.size+news.length≤cur.size:=by rw [hl,hcs,← Nat.add_mul];exact Nat.mul_le_mul_right _ hroom
      have hr:=hS.room g n cap cur hg hroom hfit
      refine ⟨_,_,hr,⟨hlen,.inr ⟨g,cap,_,Z,hbg,setRow_heap w g cur _ e _ hg,hroom,hcm,?_,?_⟩⟩,⟨Z,Z,Z,by simp,fun k _ hk=>setRow_other w g k _ (fun e=>hk (by simp [Value.ownBlock,e]))⟩,Or.inl Z,fun h=>by cases h⟩
      · simp only [List.size_toArray,List.length_append,List.length_take,List.length_drop,Array.length_toList]
        omega
      · rw [htake,← hlen]
        exact List.take_left
    · have holds:∀ j u,xs[j]?=some u→w.cell? ((⟨g,0,none⟩:Addr).add j)=some u:=hown.cells (g:=g) rfl
      have hr:=hS.grow g n cap xs hown.1 holds O hsmall hbytes
      have hgr:=grown cap O (Value.ownBlock (.slice (some ⟨g,0,none⟩) n cap))
      exact ⟨_,_,hr,hgr.1,hgr.2,Or.inr rfl,fun h=>by cases h⟩
section
variable{P:Program}{TT:qbf}{D n:Nat}{Q:qbF}{fr:Fr}{L L' K:Hl}{s s' s0:World}{ops:Array Oper}{rest:List Oper}{d ty:Nat}{op:Op}{pos:String}{af:Array Edge}{v:Value}
theorem qlI{t u e m k sz:Nat}{x y:Operand}{yv:Value}{ti te:TI}{news xs:List Value}(B A L0:Hl)(hT:TabOK P TT)(hx:lk fr x=some v)(hy:lk fr y=some yv)(ht:qaA TT t=some ti)(hk:ti.kind=.sl e)(he:qaA TT e=some te)(hsz:te.size=sz)
  (hO:FL.Own e sz A v k xs) (hl:news.length=m * sz) (hS:∀ w i,P.underlying t=some (.slice e)→P.info? e=some i→i.size=te.size→i.bytes=te.bytes→i.zero=some te.zero→Apps P w t u ty e i te.zero yv m news) (h63:(k+m) * te.bytes≤140737488355328∧k+m≤9223372036854775807) (ho:OKL D (B++(A++L0)) s) :
  ∃ v' A' s',Ev P TT D fr (.call { callee:=.builtin .append,args:=#[x,y],argTypes:=#[t,u] }) ty (B++(A++L0)) s (.value v') (B++(A'++L0)) s'∧Le D s s'∧FL.Own e sz A' v' (k+m) (xs++news)∧(v=.slice none 0 0→m=0→v'=.slice none 0 0):=by
 obtain ⟨k1,k2,_⟩:=hT.at_ ht
 rw [hk] at k2
 simp only [TK.fits] at k2
 rw [k2] at k1
 have hte:=hT.at_ he
 obtain ⟨i,i1,i2,i3,i4⟩:=qdC hte
 have hzs:te.zero.cells.size=te.size:=by rw [qcD hte];simpa using hte.2.2.2.1
 have hin:∀ x∈A,(fill (B++(A++L0)) s).heap[x.1]?=some x.2:=fun x hx=>qa3 ho (mem_mid.2 (.inr (.inl hx)))
 obtain ⟨v',w',hrun,hown',hgr,hat,hnl⟩:=qoZ (hS (fill (B++(A++L0)) s) i k1 i1 i2 i3 i4) (i2.trans hsz) i3 (by rw [hzs,hsz]) v k xs (hO.owns hin) hl (by simpa [maxLen] using h63.2) h63.1
 obtain ⟨A',hO',hA'⟩:=Own.of_owns hown'
 rw [qaC] at hat
 obtain ⟨r1,r2,r3⟩:=qlM (D:=D) ho hO hO' hA' hgr hat
 refine ⟨v',A',qcB D (B++(A'++L0)) w',fun hT ho dst pos af g ρ hρ=>⟨?_,r2⟩,r3,hO',hnl⟩
 rw [← r1]
 simp only [execOp,resolve,invoke,builtin,Sem.run_bind,Sem.run_pure,Result.andThen_ok,List.map_toArray,List.map_cons,List.map_nil,hρ x _ hx,hρ y _ hy,hrun]
theorem qqW{t u e m k sz:Nat}{x y:Operand}{yv:Value}{ti te:TI}{news xs:List Value}(B A L0:Hl)(hL:L=B++(A++L0))(hx:lk fr x=some v)(hy:lk fr y=some yv)(ht:qaA TT t=some ti)(hk:ti.kind=.sl e)(he:qaA TT e=some te)(hsz:te.size=sz)
  (hO:FL.Own e sz A v k xs) (hl:news.length=m * sz) (hS:TabOK P TT→∀ w i,P.underlying t=some (.slice e)→P.info? e=some i→i.size=te.size→i.bytes=te.bytes→i.zero=some te.zero→Apps P w t u ty e i te.zero yv m news) (h63:(k+m) * te.bytes≤140737488355328∧k+m≤9223372036854775807) (hd:Nat.blt d n=true)
  (kk:∀ v' A' s',Le D s s'→FL.Own e sz A' v' (k+m) (xs++news)→(v=.slice none 0 0→m=0→v'=.slice none 0 0)→JO P TT D n ops Q rest ((d,v')::fr) (B++(A'++L0)) s') :
  JO P TT D n ops Q (⟨some d,.call { callee:=.builtin .append,args:=#[x,y],argTypes:=#[t,u] },ty,pos,af,none⟩::rest) fr L s:=fun hT a hr ho=>by
 subst hL
 obtain ⟨v',A',s',h1,h2,h3,h4⟩:=qlI (ty:=ty) B A L0 hT hx hy ht hk he hsz hO hl (hS hT) h63 ho
 exact qgf hd h1 (kk v' A' s' h2 h3 h4) hT a hr ho
theorem qq5{i0 t u e m k sz:Nat}{g:Option (Nat×Bool)}{fuel:Nat}{listed:Array Bool}{x y:Operand}{yv:Value}{ti te:TI}{news xs:List Value}(hi0:ops[i0]?=some ⟨some d,.call { callee:=.builtin .append,args:=#[x,y],argTypes:=#[t,u] },ty,pos,af,g⟩)(hgk:GOK ops fr g)
  (B A L0:Hl) (hL:L=B++(A++L0)) (hx:lk fr x=some v) (hy:lk fr y=some yv) (ht:qaA TT t=some ti) (hk:ti.kind=.sl e) (he:qaA TT e=some te) (hsz:te.size=sz)
  (hO:FL.Own e sz A v k xs) (hl:news.length=m * sz) (hS:TabOK P TT→∀ w i,P.underlying t=some (.slice e)→P.info? e=some i→i.size=te.size→i.bytes=te.bytes→i.zero=some te.zero→Apps P w t u ty e i te.zero yv m news) (h63:(k+m) * te.bytes≤140737488355328∧k+m≤9223372036854775807) (hd:Nat.blt d n=true) (hK:∀ A',∀ x∈K,x∈B++(A++L0)→x∈B++(A'++L0))
  (kk:∀ v' A' s',Le D s s'→FL.Own e sz A' v' (k+m) (xs++news)→JA P TT D n ops Q K s0 fuel (listed.setIfInBounds i0 true) ((d,v')::fr) (B++(A'++L0)) s') :
  JB P TT D n ops Q K s0 fuel listed i0 fr L s:=fun hT a hr ho hl0 hKL=>by
 subst hL
 obtain ⟨v',A',s',h1,h2,h3,h4⟩:=qlI (ty:=ty) B A L0 hT hx hy ht hk he hsz hO hl (hS hT) h63 ho
 exact qju hi0 hgk h1 h2 (hK A') hd (kk v' A' s' h2 h3) hT a hr ho hl0 hKL
end
theorem qos{P:Program}{w:World}{t u ty e:Nat}{i:TypeInfo}{z:Value}(l:List UInt8)(ht:P.underlying t=some (.slice e))(hu:P.underlying u=some .string)(hi:P.info? e=some i)(hs:i.size=1)(hb:i.bytes=1)(hz:i.zero=some z) :
    Apps P w t u ty e i z (St l) l.length (l.map fun b=>Value.int .u8 (b.toNat:Int)):=by
  have hsz:(⟨l.toArray⟩:ByteArray).size=l.length:=by simp [ByteArray.size]
  have hcs:Lib.strCells ⟨l.toArray⟩=l.map fun b=>Value.int .u8 (b.toNat:Int):=by simp [Lib.strCells]
  refine ⟨fun h0=>?_,fun h1 h2 h3=>?_,fun g sLen sCap cur hg hr hf=>?_,fun g n cap xs hl hc hcap h63 hby=>?_⟩
  · have hf:=Lib.run_firstCells_string (P:=P) w 1 ⟨l.toArray⟩
    have hl:l=[]:=List.eq_nil_of_length_eq_zero h0
    subst hl
    simp [Builtin.append_,run_underlying ht,run_underlying hu,sizeOf,typeInfo,hi,hs,Builtin.lenOf,Builtin.firstCells,ByteArray.size]
  · have hr:=run_append_nil_string (P:=P) w t u ty e i z ht hu hi hz ⟨l.toArray⟩ (by rw [hsz];exact h1) (by rw [hsz];omega) (by rw [hsz];exact Nat.le_trans h3 O)
    rw [hsz] at hr
    have e1:((⟨l.toArray⟩:ByteArray).data.map fun b=>Value.int .u8 (b.toNat:Int))=(l.map fun b=>Value.int .u8 (b.toNat:Int)).toArray:=by apply Array.ext';simp
    rw [e1] at hr
    exact hr
  · have hr':=Lib.run_append_room_string (P:=P) (ty:=ty) w t u e i ht hu hi hs g sLen sCap cur hg ⟨l.toArray⟩ (by rw [hsz];exact hr) (by rw [hsz];simpa [hs] using hf)
    rw [hsz,hcs] at hr'
    rw [hs,Nat.mul_one,List.length_map]
    exact hr'
  · have hr:=Lib.run_append_grow_string (P:=P) (ty:=ty) w t u e i z ht hu hi hz ⟨g,0,none⟩ n cap xs hl hc ⟨l.toArray⟩ (by rw [hsz];exact hcap) (by rw [hsz];omega) (by rw [hsz];exact growslice_fits hcap hby)
    rw [hsz,hcs] at hr
    exact hr
theorem qk5{P:Program}{w:World}{t u ty e:Nat}{i:TypeInfo}{z:Value}{ik:IntKind}(m:Nat)(ht:P.underlying t=some (.slice e))(hu:P.underlying u=some (.int ik))(hi:P.info? e=some i)(hs:i.size=1)(hz:i.zero=some z)(hzc:z.cells=#[z])(h1c:z.oneCell'=true)(hm:m≤9223372036854775807)(hmb:(m:Int) * i.bytes≤281474976710656) :
    Apps P w t u ty e i z (.int ik (m:Int)) m (List.replicate m z):=by
  have hw:IntKind.i64.wrap (m:Int)=(m:Int):=w64 O O
  have h0:¬ ((m:Int) < 0):=by omega
  have hmb':¬ (281474976710656 < (m:Int) * (i.bytes:Int)):=by omega
  have hzz:Builtin.zeroCells z.cells m=(List.replicate m z).toArray:=by
    rw [hzc];apply Array.ext';simp only [Builtin.zeroCells]
    apply List.ext_getElem
    · simp
    · intro k h1 h2;simp [Nat.mod_one]
  have happ:∀ w':World,(if m * i.size=0 then (pure #[]:Sem (Array Value)) else do pure (Builtin.zeroCells (← zeroValue e).cells m)).run P w'=.ok (List.replicate m z).toArray w':=fun w'=>by
    by_cases hm0:m=0
    · subst hm0;simp
    · rw [if_neg (by rw [hs];omega)];simp [zeroValue,typeInfo,hi,hz,hzz]
  refine ⟨fun h0=>?_,fun h1 h2 h3=>?_,fun g sLen sCap cur hg hr hf=>?_,fun g n cap xs hl hc hcap h63 hby=>?_⟩
  · subst h0
    have hw0:IntKind.i64.wrap 0=0:=hw
    simp [Builtin.append_,run_underlying ht,run_underlying hu,sizeOf,typeInfo,hi,hs,asInt,asIntOf,hw0]
  · have hn:¬ (m=0):=by omega
    have h63':¬ (9223372036854775807 < (m:Int)):=by omega
    have h48':¬ (281474976710656 < Builtin.nextslicecap m 0 * i.bytes):=by rw [nextslicecap_zero h1];omega
    simp [Builtin.append_,run_underlying ht,run_underlying hu,sizeOf,typeInfo,zeroValue,hi,hz,hs,asInt,asIntOf,hw,h0,hmb',hn,h63',h48',Question.forced,newRow,grownCap,Builtin.firstCells,hzz]
  · have hst:=run_storeCells_at P g sLen e (List.replicate m z) 0 cur w hg (by simpa [hs] using hf) (fun u hu=>by rw [(List.mem_replicate.1 hu).2];exact h1c)
    simp only [Nat.add_zero] at hst
    by_cases hm0:m=0
    · subst hm0
      have hw0:IntKind.i64.wrap 0=0:=hw
      have hr0:sLen≤sCap:=hr
      simp at hst
      simp [Builtin.append_,run_underlying ht,run_underlying hu,sizeOf,typeInfo,zeroValue,hi,hz,hs,asInt,asIntOf,hw0,hr0,Addr.add_lit,hst]
    · simp [Builtin.append_,run_underlying ht,run_underlying hu,sizeOf,typeInfo,zeroValue,hi,hz,hs,asInt,asIntOf,hw,h0,hmb',hr,hm0,Addr.add_lit,hzz,hst]
  · have hn:¬ (n+m≤cap):=by omega
    have h63':¬ (9223372036854775807 < ((n:Int)+(m:Int))):=by omega
    have hgs:=growslice_fits hcap hby
    have h48':¬ (281474976710656 < Builtin.nextslicecap (n+m) cap * i.bytes):=by omega
    have hfo:=run_firstCells_some (P:=P) w.drew i.size n ⟨g,0,none⟩ n cap xs hl (by simpa using hc)
    by_cases hm0:m=0
    · subst hm0
      rw [hs] at hfo
      have hw0:IntKind.i64.wrap 0=0:=hw
      have hn0:¬ (n≤cap):=hn
      have h630:¬ (9223372036854775807 < (n:Int)):=by omega
      simp [Builtin.append_,run_underlying ht,run_underlying hu,sizeOf,typeInfo,zeroValue,hi,hz,hs,asInt,asIntOf,hw0,hn0,h630,Question.forced,newRow,grownCap,hfo]
      try exact fun h=>absurd h h48'
    · rw [hs] at hfo
      simp [Builtin.append_,run_underlying ht,run_underlying hu,sizeOf,typeInfo,zeroValue,hi,hz,hs,asInt,asIntOf,hw,h0,hmb',hn,hm0,h63',h48',Question.forced,newRow,grownCap,hfo,hzz]
section
variable{P:Program}{TT:qbf}{D n:Nat}{Q:qbF}{fr:Fr}{L L' K:Hl}{s s' s0:World}{ops:Array Oper}{rest:List Oper}{d ty:Nat}{op:Op}{pos:String}{af:Array Edge}{v:Value}
theorem qji{x y:Operand}{a b:List UInt8}{t t':Nat}(hx:lk fr x=some (St a))(hy:lk fr y=some (St b))(h:a.length+b.length≤9223372036854775807):QE P TT D fr (.binOp .add t x y t') ty K s0 (St (a++b)):=
 QE.pure fun _ dst pos af g ρ hρ w=>by
  have h1:¬ (9223372036854775807 < ((a.length:Int)+(b.length:Int))):=by omega
  have e:(⟨a.toArray⟩:ByteArray)++⟨b.toArray⟩=⟨(a++b).toArray⟩:=by
   apply ByteArray.ext;simp
  simp [execOp,hρ x _ hx,hρ y _ hy,eqGuard,binOp,Op.stringOp,ByteArray.size,h1,e]
def qtq(e:Value)(b:Bool):Prop:=(e=.nilIface∧b=true)∨∃ u p,e=.iface u p∧b=false
theorem qqu{x:Operand}{e:Value}{b:Bool}{t t':Nat}(hu:P.underlying t=some (.interface (P.methodsAt t)))(hx:lk fr x=some e)(hE:qtq e b):QE P TT D fr (.binOp .eql t x (.const .nilIface) t') ty K s0 (.bool b):=
 QE.pure fun _ dst pos af g ρ hρ w=>by
  have hc:=hρ (.const .nilIface) _ rfl
  rcases hE with ⟨rfl,rfl⟩ | ⟨u,p,rfl,rfl⟩
  · simp [execOp,hρ x _ hx,hc,eqGuard_nil_constR,run_eql_nil_nil w t hu]
  · simp [execOp,hρ x _ hx,hc,eqGuard,run_eql_held_nil w t u p hu]
theorem qk2(ho:OKL D L s)(o:Obj):(fill L s).drew.alloc o=fill L (fill [(s.heap.size,o)] (s.drew.alloc (dum D)))∧OKL D L (fill [(s.heap.size,o)] (s.drew.alloc (dum D)))∧Le D s (fill [(s.heap.size,o)] (s.drew.alloc (dum D))):=by
 obtain ⟨h1,h2,h3⟩:=qa2 ho.drew o
 obtain ⟨d1,d2,d3⟩:=qbx (A:=[(s.drew.heap.size,o)]) (B:=L) h2
 rw [qgp,h1]
 exact ⟨d1,d2,(Le.drew s).trans (h3.trans d3)⟩
end
open Go Go.RowKit Go.Proofs.YtjindleklapakaaGreatDoor
section
variable{P:Program}{TT:qbf}{D n:Nat}{Q:qbF}{fr:Fr}{L L' K:Hl}{s s' s0:World}{ops:Array Oper}{rest:List Oper}{d ty:Nat}{op:Op}{pos:String}{af:Array Edge}{v:Value}
theorem qri{e c:Nat}{l:List UInt8}(ho:OKL D L s)(fz:Nat×Nat)(hc:l.length≤c)(hc2:c≤9223372036854775807):Bts (fill [(s.heap.size,Obj.cells (bytesRow ⟨l.toArray⟩ c) e fz)] (s.drew.alloc (dum D))) (some ⟨s.heap.size,0,none⟩) l.length c l:=by
 refine ⟨Z,hc,hc2,fun i x hx=>⟨s.heap.size,0,[.int .u8 (x.toNat:Int)],Z,?_,Z,Z⟩⟩
 refine CellsAt.one ?_
 have h1:(fill [(s.heap.size,Obj.cells (bytesRow ⟨l.toArray⟩ c) e fz)] (s.drew.alloc (dum D))).heap[s.heap.size]?=some (Obj.cells (bytesRow ⟨l.toArray⟩ c) e fz):=by
  show (qbi (s.drew.alloc (dum D)) s.heap.size _).heap[s.heap.size]?=_
  refine qcx _ ?_
  show s.heap.size < (s.heap.push _).size
  simp
 obtain ⟨hi,rfl⟩:=List.getElem?_eq_some_iff.1 hx
 have h2:=bytesRow_at ⟨l.toArray⟩ c i (by simpa using hi)
 simp only [World.cell?,h1,Nat.zero_add,Nat.mul_one]
 simpa using h2
theorem qtu{t t' e:Nat}{x:Operand}{l:List UInt8}{ti ti' te:TI}(hx:lk fr x=some (St l))(ht:qaA TT t=some ti)(hk:ti.desc=.string)(ht':qaA TT t'=some ti')(hk':ti'.kind=.sl e)(he:qaA TT e=some te)(hke:te.desc=.int .u8)(hl:l.length≤9223372036854775807)(hd:Nat.blt d n=true)
  (k:∀ A c s',Le D s s'→Bts s' A l.length c l→JO P TT D n ops Q rest ((d,.slice A l.length c)::fr) L s') :
  JO P TT D n ops Q (⟨some d,.convert t t' x,ty,pos,af,none⟩::rest) fr L s:=fun hT a hr ho=>by
 obtain ⟨k1,k2,_⟩:=hT.at_ ht'
 rw [hk'] at k2
 simp only [TK.fits] at k2
 rw [k2] at k1
 have u1:=(hT.at_ ht).1;rw [hk] at u1
 have u2:=(hT.at_ he).1;rw [hke] at u2
 have hsz:(⟨l.toArray⟩:ByteArray).size=l.length:=by simp [ByteArray.size]
 have hrun:=run_bytes_of_string (P:=P) (fill L s) t t' e ⟨l.toArray⟩ u1 k1 u2
 rw [hsz,qaC] at hrun
 obtain ⟨w1,w2,w3⟩:=qk2 ho (Obj.cells (bytesRow ⟨l.toArray⟩ (grownCap (fill L s) l.length 0 e)) e ((bytesRow ⟨l.toArray⟩ (grownCap (fill L s) l.length 0 e)).size,(bytesRow ⟨l.toArray⟩ (grownCap (fill L s) l.length 0 e)).size+1))
 refine qgf (v:=.slice (some ⟨s.heap.size,0,none⟩) l.length (grownCap (fill L s) l.length 0 e)) hd (fun hT _ dst pos af g ρ hρ=>⟨?_,w2⟩) (k _ _ _ w3 (qri ho _ (grownCap_ge ..) (by have:=grownCap_le_maxLen (fill L s) l.length 0 e (by simpa [maxLen] using hl);simpa [maxLen] using this))) hT a hr ho
 rw [← w1]
 simp only [execOp,hρ x _ hx,Sem.run_bind,hrun,Result.andThen_ok,Sem.run_pure]
end
section
variable{P:Program}{TT:qbf}{D n:Nat}{Q:qbF}{fr:Fr}{L:Hl}{s:World}
inductive SufO(ks:List Nat)(fr:Fr):Fr→Prop
 | refl:SufO ks fr fr
 | push {d:Nat} {v:Value} {fr':Fr} (hd:((qaZ fr d).isNone || ks.any (Nat.beq d))=true) (h:SufO ks fr fr'):SufO ks fr ((d,v)::fr')
theorem So{p:Prop}(h:p:=by repeat (first | exact SufO.refl | refine SufO.push rfl ?_)):p:=h
theorem SufO.at_{ks:List Nat}{fr fr':Fr}(h:SufO ks fr fr'){t:Nat}{v:Value}(ht:ks.any (Nat.beq t)=false)(hv:qaZ fr t=some v):qaZ fr' t=some v:=by
 induction h with
 | refl=>exact hv
 | @push d u fr' hd _ ih=>
  rw [qa8]
  by_cases he:d=t
  · subst he;rw [hv,ht] at hd;cases hd
  · rw [if_neg he];exact ih
theorem qkj{l:Fr}{t:Nat}(h:qaZ l t=none):(l.map (·.1)).any (Nat.beq t)=false:=by
  induction l with
  | nil=>rfl
  | cons x l ih=>
    obtain ⟨d,v⟩:=x
    rw [qa8] at h
    by_cases he:d=t
    · rw [if_pos he] at h;cases h
    · rw [if_neg he] at h
      simp only [List.map_cons,List.any_cons,ih h,Bool.or_false]
      cases hb:Nat.beq t d with
      | false=>rfl
      | true=>exact absurd (Nat.eq_of_beq_eq_true hb).symm he
theorem qsy{new fr fr':Fr}(h1:Keeps fr' new)(h2:SufO (new.map (·.1)) fr fr'):Keeps fr' (new++fr):=by
 intro t v h
 rw [qiS] at h
 cases hn:qaZ new t with
 | none=>rw [hn] at h;exact h2.at_ (qkj hn) h
 | some u=>rw [hn] at h;exact h1 t v (by rw [hn];exact h)
def MidG{γ:Type}(D:Nat)(s:World)(fr:Fr)(new:γ→Fr)(X:Hl)(H:γ→Hl)(I:γ→World→Prop):Fr→Hl→World→Prop:=fun fr' L' s'=>∃ g A,Le D s s'∧L'.Perm (A++(X++H g))∧I g s'∧Keeps fr' (new g++fr)
theorem MidG.mk{γ:Type}{new:γ→Fr}{X:Hl}{H:γ→Hl}{I:γ→World→Prop}{fr':Fr}{L':Hl}{s':World}(g:γ)(A:Hl)(hl:Le D s s')(hK:Keeps fr' (new g))(hS:SufO ((new g).map (·.1)) fr fr')(hp:L'.Perm (A++(X++H g)))(hI:I g s'):MidG D s fr new X H I fr' L' s':=⟨g,A,hl,hp,hI,qsy hK hS⟩
theorem qi8{γ:Type}{x y:Code}(new:γ→Fr)(X:Hl){Y:Hl}(_hX:L=X++Y)(H:γ→Hl)(I:γ→World→Prop)(mono:∀ g s s',I g s→Le D s s'→I g s')(h1:JC P TT D n (qa7 (MidG D s fr new X H I) Q) x fr L s)
  (h2:∀ g s',Le D s s'→I g s'→JC P TT D n Q y (new g++fr) (X++H g) s'):JC P TT D n Q (.seq x y) fr L s:=fun ht a hr ho=>
 wp_seq (wp_mono (h1 ht a hr ho) fun e a w ⟨fr',L',s',k1,k2,k3,k4⟩=>by
  cases e with
  | normal=>
   subst k3
   obtain ⟨g,A,j0,j2,j3,j1⟩:=k4
   rw [qbn j2 _ k2]
   obtain ⟨e,d1,d2⟩:=qbx (k2.perm j2)
   rw [e]
   exact h2 g _ (j0.trans d2) (mono _ _ _ j3 d2) ht a (k1.sub j1) d1
  | _=>exact ⟨fr',L',s',k1,k2,k3,k4⟩)
end
theorem qhO{p q:Prop} [Decidable p] [Decidable q] (h:p↔¬ q):(!decide q)=decide p:=by
  by_cases hq:q
  · have hp:¬ p:=fun x=>(h.1 x) hq
    simp [hq,hp]
  · simp [hq,h.2 hq]
theorem AC.perm{P:Program}{D:Nat}{f:FuncId}{args:List Value}{L L1:Hl}{s:World}{R R':Value→Hl→World→Prop}(hp:L.Perm L1)(h:AC P D f args L1 s R)(hq:∀ v L1' s',R v L1' s'→∃ L',L1'.Perm L'∧R' v L' s'):AC P D f args L s R':=
 ⟨h.1,fun ho=>by
  rw [qbn hp _ ho]
  refine (h.2 (ho.perm hp)).mono ?_
  rintro e w' ⟨v,L1',s',he,hw,hok,hl,hr⟩
  obtain ⟨L',h1,h2⟩:=hq v L1' s' hr
  exact ⟨v,L',s',he,by rw [hw,qbn h1 _ hok],hok.perm h1,hl,h2⟩⟩
theorem qjU{L:Hl}{s:World}(nd:(L.map (·.1)).Nodup){b:Nat}{o:Obj}(hb:b < s.heap.size)(hx:(b,o)∈L):(fill L s).heap[b]?=some o:=by
  induction L with
  | nil=>cases hx
  | cons x L ih=>
    simp only [List.map_cons,List.nodup_cons] at nd
    rcases List.mem_cons.1 hx with rfl | hx
    · rw [fill];exact qcx _ (by rw [qaC];exact hb)
    · rw [fill,qbW]
      · exact ih nd.2 hx
      · intro e;exact nd.1 (by rw [e];exact List.mem_map.2 ⟨_,hx,rfl⟩)
theorem qrS{D:Nat}{M:Hl}{s:World}(h:OKL D M s):Pub M (fill M s):=fun b zs t hm j u hj=>by
 rw [qcF h hm,Nat.zero_add];exact hj
theorem qsr{e sz:Nat}{M:Hl}{v:Value}{n:Nat}{xs:List Value}(h:FL.Own e sz M v n xs){D:Nat}:∀ x∈M,x.2≠dum D:=by
 cases h with
 | nil=>intro x hx;cases hx
 | blk b cap n xs ys _ _ _ _=>
  intro x hx
  rw [List.mem_singleton] at hx;subst hx
  intro e;cases e
variable{P:Program}{TT:qbf}{D n:Nat}{Q:qbF}{fr:Fr}{L K:Hl}{s s0:World}{ops:Array Oper}{rest:List Oper}{d ty:Nat}{pos:String}{af:Array Edge}{v:Value}
def Kept(A K:Hl)(k m:Nat)(v v':Value):Prop:=(K=[]∧∃ a c,v=.slice a k c∧v'=.slice a (k+m) c)∨K=A
theorem qp3{t e m c k sz:Nat}{x y:Operand}{ti te:TI}{A1:Option Addr}{news xs:List Value}(B A L0:Hl)(hT:TabOK P TT)(hx:lk fr x=some v)(hy:lk fr y=some (.slice A1 m c))(ht:qaA TT t=some ti)(hk:ti.kind=.sl e)(he:qaA TT e=some te)(hsz:te.size=sz)
    (hO:FL.Own e sz A v k xs) (hR:Row s A1 m sz news) (hm:0 < m) (h63:(k+m) * te.bytes≤140737488355328∧k+m≤9223372036854775807) (ho:OKL D (B++(A++L0)) s) :
    ∃ v' A' K s',Ev P TT D fr (.call { callee:=.builtin .append,args:=#[x,y],argTypes:=#[t,t] }) ty (B++(A++L0)) s (.value v') (B++(A'++(K++L0))) s'∧Le D s s'∧FL.Own e sz A' v' (k+m) (xs++news)∧Kept A K k m v v':=by
  cases hO with
  | nil=>
    obtain ⟨v',A',s',h1,h2,h3⟩:=qmo (ty:=ty) B [] L0 hT hx hy ht hk he hsz .nil hR h63 ho
    exact ⟨v',A',[],s',h1,h2,h3,.inr rfl⟩
  | blk b cap _ xs ys hn hc hnc hmx=>
  have hO:FL.Own e sz [(b,cb (xs++ys) e)] (.slice (some ⟨b,0,none⟩) k cap) k xs:=.blk b cap k xs ys hn hc hnc hmx
  have hok:=hT.at_ ht
  obtain ⟨k1,k2,_⟩:=hok
  rw [hk] at k2
  simp only [TK.fits] at k2
  rw [k2] at k1
  have hte:=hT.at_ he
  obtain ⟨i,i1,i2,i3,i4⟩:=qdC hte
  have hpos:0 < te.size:=hte.2.2.2.2.2.1
  have hzs:te.zero.cells.size=te.size:=by rw [qcD hte];simpa using hte.2.2.2.1
  have h0:∃ b off,A1=some ⟨b,off,none⟩∧CellsAt s b off news:=by
    have hl:0 < news.length:=by rw [hR.1,← hsz];exact Nat.mul_pos hm hpos
    obtain ⟨b,off,h1,_⟩:=hR.2.2 0 news[0] (List.getElem?_eq_getElem hl)
    refine ⟨b,off,h1,fun j u hj=>?_⟩
    obtain ⟨b',off',h1',h2⟩:=hR.2.2 j u hj
    rw [h1] at h1'
    injection h1' with h1';injection h1' with e1 e2;subst e1;subst e2
    exact h2
  obtain ⟨b1,off1,rfl,hcells⟩:=h0
  have hin:∀ x∈[(b,cb (xs++ys) e)],(fill (B++([(b,cb (xs++ys) e)]++L0)) s).heap[x.1]?=some x.2:=fun x hx=>qa3 ho (mem_mid.2 (.inr (.inl hx)))
  have hown:=hO.owns hin
  by_cases hroom:k+m≤cap
  · obtain ⟨w',hrun,hown',hgr⟩:=run_append_fits (P:=P) (fill (B++([(b,cb (xs++ys) e)]++L0)) s) 0 t ty e i sz k1 i1 (i2.trans hsz) b k cap xs hown ⟨b1,off1,none⟩ m c news hR.1
      (fun j u hj=>by rw [add_lit];exact qc4 ho (hcells j u hj)) hR.2.1 hroom
    obtain ⟨A',hO',hA'⟩:=Own.of_owns hown'
    obtain ⟨r1,r2,r3⟩:=qlM (D:=D) ho hO hO' hA' hgr (.inl rfl)
    refine ⟨_,A',[],qcB D (B++(A'++L0)) w',fun hT ho dst pos af g ρ hρ=>⟨?_,r2⟩,r3,hO',.inl ⟨Z,_,_,Z,Z⟩⟩
    rw [List.nil_append,← r1]
    simp only [execOp,resolve,invoke,builtin,Sem.run_bind,Sem.run_pure,Result.andThen_ok,List.map_toArray,List.map_cons,List.map_nil,hρ x _ hx,hρ y _ hy,hrun]
  · obtain ⟨v',w',hrun,hown',hgr⟩:=run_append_arg_grows (P:=P) (fill (B++([(b,cb (xs++ys) e)]++L0)) s) t ty e i te.zero sz te.bytes k1 i1 i4 (i2.trans hsz) i3 (by rw [hzs,hsz]) (by rw [← hsz];exact hpos) ⟨b,0,none⟩ k cap xs hn (hown.cells (g:=b) rfl) ⟨b1,off1,none⟩ m c news hR.1
      (fun j u hj=>by rw [add_lit];exact qc4 ho (hcells j u hj)) O (by simpa [maxLen] using h63.2) h63.1
    obtain ⟨h1,h2⟩:=hown'
    rcases h2 with ⟨_,h0⟩ | ⟨g,cap',cur,rfl,hge,hg,hnc',hcm,hcs,ht2⟩
    · omega
    rw [qaC] at hge
    have hsize:=hgr.size
    rw [qaC] at hsize
    have hcur:cur=(xs++news++cur.toList.drop ((k+m) * sz)).toArray:=by
      rw [← ht2,List.take_append_drop]
    have hlt:∀ x∈B++([(b,cb (xs++ys) e)]++L0),x.1 < s.heap.size:=fun x hx=>ho.lt hx
    obtain ⟨r1,r2,r3⟩:=qj6 (D:=D) (L':=(g,cb (xs++news++cur.toList.drop ((k+m) * sz)) e)::(B++([(b,cb (xs++ys) e)]++L0))) ho (hgr.os.trans (qcM _ _)) (hgr.tape.trans (qbI _ _)) (hgr.output.trans (qbh _ _)) hsize
      (by
        rw [List.map_cons,List.nodup_cons]
        refine ⟨fun hm2=>?_,ho.nd⟩
        obtain ⟨x,hx,hx2⟩:=List.mem_map.1 hm2
        have:=hlt x hx
        simp only at hx2
        omega)
      (fun x hx=>by
        rcases List.mem_cons.1 hx with rfl | hx
        · rw [hg,cb,← hcur]
        · rw [hgr.block x.1 (by rw [qaC];exact hlt x hx) (by simp),qa3 ho hx])
      (fun x hx=>by
        rcases List.mem_cons.1 hx with rfl | hx
        · exact .inr hge
        · exact .inl (List.mem_map.2 ⟨x,hx,rfl⟩))
      (fun j hj hn=>by rw [hgr.block j (by rw [qaC];exact hj) (by simp),qa4 hn])
    have hp:((g,cb (xs++news++cur.toList.drop ((k+m) * sz)) e)::(B++([(b,cb (xs++ys) e)]++L0))).Perm (B++([(g,cb (xs++news++cur.toList.drop ((k+m) * sz)) e)]++([(b,cb (xs++ys) e)]++L0))):=List.perm_middle.symm
    have hxl:(xs++news).length=(k+m) * sz:=h1
    refine ⟨_,[(g,cb (xs++news++cur.toList.drop ((k+m) * sz)) e)],[(b,cb (xs++ys) e)],_,fun hT ho dst pos af g2 ρ hρ=>⟨?_,r2.perm hp⟩,r3,.blk g cap' (k+m) (xs++news) _ hxl (by
      rw [← List.length_append,← hcs]
      have:=congrArg Array.size hcur
      simpa using this.symm) hnc' (by simpa [maxLen] using hcm),.inr rfl⟩
    rw [qbn hp.symm _ (r2.perm hp),← r1]
    simp only [execOp,resolve,invoke,builtin,Sem.run_bind,Sem.run_pure,Result.andThen_ok,List.map_toArray,List.map_cons,List.map_nil,hρ x _ hx,hρ y _ hy,hrun]
theorem qqQ{t e m c k sz:Nat}{x y:Operand}{ti te:TI}{A1:Option Addr}{news xs:List Value}(B A L0:Hl)(hL:L=B++(A++L0))(hx:lk fr x=some v)(hy:lk fr y=some (.slice A1 m c))(ht:qaA TT t=some ti)(hk:ti.kind=.sl e)(he:qaA TT e=some te)(hsz:te.size=sz)
  (hO:FL.Own e sz A v k xs) (hR:Row s A1 m sz news) (hm:0 < m) (h63:(k+m) * te.bytes≤140737488355328∧k+m≤9223372036854775807) (hd:Nat.blt d n=true)
  (kk:∀ v' A' K s',Le D s s'→FL.Own e sz A' v' (k+m) (xs++news)→Kept A K k m v v'→JO P TT D n ops Q rest ((d,v')::fr) (B++(A'++(K++L0))) s') :
  JO P TT D n ops Q (⟨some d,.call { callee:=.builtin .append,args:=#[x,y],argTypes:=#[t,t] },ty,pos,af,none⟩::rest) fr L s:=fun hT a hr ho=>by
 subst hL
 obtain ⟨v',A',K,s',h1,h2,h3,h4⟩:=qp3 (ty:=ty) B A L0 hT hx hy ht hk he hsz hO hR hm h63 ho
 exact qgf hd h1 (kk v' A' K s' h2 h3 h4) hT a hr ho
theorem Own.short{e sz c k n:Nat}{A:Hl}{a:Option Addr}{xs:List Value}(h:FL.Own e sz A (.slice a n c) n xs)(hk:k≤n):FL.Own e sz A (.slice a k c) k (xs.take (k * sz)):=by
 cases h with
 | nil=>
   obtain rfl:k=0:=by omega
   simpa using Own.nil
 | blk b cap _ xs ys hn hc hnc hm=>
  have:=Own.blk (e:=e) (sz:=sz) b c k (xs.take (k * sz)) (xs.drop (k * sz)++ys) (by rw [List.length_take,hn];exact Nat.min_eq_left (Nat.mul_le_mul_right _ hk)) (by rw [List.length_append,List.length_drop,List.length_take,hn,← hc,hn];have:=Nat.mul_le_mul_right sz hk;omega) O hm
  rwa [← List.append_assoc,List.take_append_drop] at this
theorem AC.drop{P:Program}{D:Nat}{f:FuncId}{args:List Value}{L:Hl}{s:World}{R R':Value→Hl→World→Prop}(h:AC P D f args L s R)(hr:∀ v L' s',Le D s s'→R v L' s'→∃ M K Y,L'=M++(K++Y)∧∀ s2,Le D s' s2→Pub K s2→R' v (M++Y) s2):AC P D f args L s R':=by
 refine ⟨h.1,fun ho=>(h.2 ho).mono ?_⟩
 rintro e w' ⟨v,L',s',h1,rfl,h3,h4,h5⟩
 obtain ⟨M,K,Y,rfl,h6⟩:=hr _ _ _ h4 h5
 have hp:(M++(K++Y)).Perm (K++(M++Y)):=by
  rw [← List.append_assoc,← List.append_assoc]
  exact (List.perm_append_comm).append_right Y
 have h7:=h3.perm hp
 obtain ⟨d1,d2,d3⟩:=qbx h7
 refine ⟨v,M++Y,fill K s',h1,(qbn hp _ h3).trans d1,d2,h4.trans d3,h6 _ d3 fun b zs t hm j u hj=>?_⟩
 rw [qcF h7.left hm,Nat.zero_add];exact hj
theorem AC.lendG{P:Program}{D:Nat}{f:FuncId}{args:List Value}{L:Hl}{s:World}{R:Value→Hl→Prop}(M:Hl)(hM:∀ x∈M,x.2≠dum D)(hf:qj7 P f)(h:OKL D M s→AC P D f args L (fill M s) (fun v L' _=>R v L')) :
    AC P D f args (M++L) s (fun v L' _=>∃ L1,L'=M++L1∧R v L1):=by
  refine ⟨hf,fun ho=>?_⟩
  have hoM:OKL D M s:=ho.left
  have hp:(M++L).Perm (L++M):=List.perm_append_comm
  have hnd:=ho.nd
  rw [List.map_append,List.nodup_append] at hnd
  have hdis:∀ x∈L,x.1 ∉ M.map (·.1):=fun x hx hm=>hnd.2.2 _ hm _ (List.mem_map.2 ⟨x,hx,rfl⟩) rfl
  have e:fill (M++L) s=fill L (fill M s):=by rw [qbn hp _ ho,qeJ]
  have ho3:OKL D L (fill M s):=⟨ho.right.nd,fun x hx=>by rw [qa4 (hdis x hx)];exact ho.right.dm x hx⟩
  rw [e]
  refine ((h hoM).2 ho3).mono ?_
  rintro en w' ⟨v,L1,s1,h1,rfl,h3,h4,h6⟩
  have hlt:∀ x∈M,x.1 < s.heap.size:=fun x hx=>hoM.lt hx
  have hsz:s.heap.size≤s1.heap.size:=by have:=h4.size;rwa [qaC] at this
  have hs1:∀ x∈M,s1.heap[x.1]?=some x.2:=fun x hx=>by
    have hm:=qa3 hoM (b:=x.1) (o:=x.2) hx
    rcases h4.block x.1 (by rw [qaC];exact hlt x hx) with hd | hd
    · rw [hm] at hd;exact absurd (Option.some.inj hd) (hM x hx)
    · rw [hd,hm]
  have hdis1:∀ x∈L1,x.1 ∉ M.map (·.1):=fun x hx hm=>by
    obtain ⟨y,hy,e⟩:=List.mem_map.1 hm
    have h5:=h3.dm x hx
    rw [← e,hs1 y hy] at h5
    exact hM y hy (Option.some.inj h5)
  have hk:(M.map fun x=>(x.1,dum D)).map (·.1)=M.map (·.1):=by rw [List.map_map];rfl
  have hp1:(M++L1).Perm (L1++M):=List.perm_append_comm
  have ho4:OKL D (M++L1) (fill (M.map fun x=>(x.1,dum D)) s1):=⟨by
    rw [List.map_append,List.nodup_append]
    refine ⟨hnd.1,h3.nd,fun a ha b hb e=>?_⟩
    obtain ⟨x,hx,rfl⟩:=List.mem_map.1 hb
    exact hdis1 x hx (e▸ha),fun x hx=>by
    rcases List.mem_append.1 hx with hx | hx
    · exact qjU (by rw [hk];exact hnd.1) (Nat.lt_of_lt_of_le (hlt x hx) hsz) (List.mem_map.2 ⟨x,hx,rfl⟩)
    · rw [qa4 (by rw [hk];exact hdis1 x hx)];exact h3.dm x hx⟩
  have hw:fill M (fill (M.map fun x=>(x.1,dum D)) s1)=s1:=by
    refine qdu (qdr fun k=>?_) ?_ ?_ ?_ ?_
    · by_cases hm:k∈M.map (·.1)
      · obtain ⟨x,hx,rfl⟩:=List.mem_map.1 hm
        rw [qjU (o:=x.2) hnd.1 (by rw [qaC];exact Nat.lt_of_lt_of_le (hlt x hx) hsz) hx,hs1 x hx]
      · rw [qa4 hm,qa4 (by rw [hk];exact hm)]
    · rw [qbI,qbI]
    · rw [qcX,qcX]
    · rw [qcM,qcM]
    · rw [qbh,qbh]
  refine ⟨v,M++L1,fill (M.map fun x=>(x.1,dum D)) s1,h1,?_,ho4,?_,L1,Z,h6⟩
  · rw [qbn hp1 _ ho4,qeJ,hw]
  · refine ⟨?_,?_,?_,?_,fun k hk1=>?_⟩
    · rw [qcM,h4.os,qcM]
    · rw [qbI,h4.tape,qbI]
    · rw [qbh,h4.output,qbh]
    · rw [qaC];exact hsz
    · by_cases hm:k∈M.map (·.1)
      · obtain ⟨x,hx,rfl⟩:=List.mem_map.1 hm
        exact .inl (hoM.dm x hx)
      · rw [qa4 (by rw [hk];exact hm)]
        have:=h4.block k (by rw [qaC];exact hk1)
        rw [qa4 hm] at this;exact this
end Go.FL
