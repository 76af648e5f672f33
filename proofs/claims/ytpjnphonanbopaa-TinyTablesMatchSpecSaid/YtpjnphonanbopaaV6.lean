/- The machine: an action. -/
import Derived.Test.YtpjnphonanbopaaV5
import Derived.Test.YtpjnphonanbopaaDa
namespace Go.Proofs.Ytpjnphonanbopaa
open Go.FL
attribute [local irreducible] JC JO JA JB thenQ blockQ retQ AC fill CellsAt QE Ev Mid

set_option maxHeartbeats 4000000 in
set_option maxRecDepth 100000 in
theorem act_ac (D : Nat) (L : Hl) (s : World) (bm : Nat) (Ax : Option Addr) (nx cx : Nat) (sm : List Int) (hsm : sm.length = 256) (bq : Nat) (es : List (Int × Value × Nat)) (ck : Nat) (op : Int) (m : Mst) (M : Hl) (hM : MaMem bm (.slice Ax nx cx) sm bq es ck op m M s) (a : Ac) (ba oa : Nat) (hca : CellsAt s ba oa [.int .i64 a.kind, .int .i64 a.to, .int .i64 a.x.kind, .int .u32 a.x.val, .int .i64 a.y.kind, .int .u32 a.y.val]) (hok : MOK m) (hop : U32 op) (ha : AcOK a) : AC Try.prog D 60 [.pointer (some ⟨bm, 0, none⟩), .pointer (some ⟨ba, oa, none⟩)] (M ++ L) s fun v L' s' => ∃ M', L' = M' ++ L ∧ v = .tuple #[] ∧ MaMem bm (.slice Ax nx cx) sm bq es ck op (actM m a op) M' s' := by
 obtain ⟨bc, cc, yc, O, Ao, co, Ai, ni, ci, rfl, hO, hI, hcc, hcc2⟩ := hM
 have hux := U32_val hok hop ha.ux
 have huy := U32_val hok hop ha.uy
 have hux1 := hux.1
 have hux2 := hux.2
 have hnc := hok.cells
 have hni := hI.1
 have hno := hok.output
 simp only [List.cons_append]
 refine AC_enter (TT := TT) (fn := Try.f60) TT_ok Try.func60 (by kernel_rfl) rfl Try.ntmps60 rfl (rs := []) rfl [(0, _), (1, _)] rfl ?_
 refine JC_seq ?_
 refine JC_region ?_
 refine JO_box rfl rfl rfl ?_
 intro β1 s1 h1
 refine JO_box rfl rfl rfl ?_
 intro β2 s2 h2
 refine JO_nil ?_
 refine thenQ_n ?_
 refine JC_seq ?_
 refine JC_draw drawsMixed 14 rfl _ (fun _ h => h) ?_
 intro s3 h3
 refine JA_q 0 rfl (by kernel_rfl) (by kernel_rfl) (by kernel_rfl) trivial (QE_ld1 1 rfl rfl rfl rfl rfl) rfl ?_
 refine JA_q 1 rfl (by kernel_rfl) (by kernel_rfl) (by kernel_rfl) trivial (QE_ld1 0 rfl rfl rfl rfl rfl) rfl ?_
 refine JA_q 2 rfl (by kernel_rfl) (by kernel_rfl) (by kernel_rfl) trivial (QE_nil rfl) rfl ?_
 refine JA_q 3 rfl (by kernel_rfl) (by kernel_rfl) (by kernel_rfl) trivial (QE_fa rfl rfl rfl rfl) rfl ?_
 refine JA_q 4 rfl (by kernel_rfl) (by kernel_rfl) (by kernel_rfl) trivial (QE_ldsA rfl rfl rfl (CellsAt.sub (us := [_, _]) 2 (hca.le (Le.trans (Le.trans h1 h2) h3)) rfl) rfl) rfl ?_
 refine JA_q 6 rfl (by kernel_rfl) (by kernel_rfl) (by kernel_rfl) trivial (QE_ld1 1 rfl rfl rfl rfl rfl) rfl ?_
 refine JA_q 7 rfl (by kernel_rfl) (by kernel_rfl) (by kernel_rfl) trivial (QE_ld1 0 rfl rfl rfl rfl rfl) rfl ?_
 refine JA_q 8 rfl (by kernel_rfl) (by kernel_rfl) (by kernel_rfl) trivial (QE_nil rfl) rfl ?_
 refine JA_q 9 rfl (by kernel_rfl) (by kernel_rfl) (by kernel_rfl) trivial (QE_fa rfl rfl rfl rfl) rfl ?_
 refine JA_q 10 rfl (by kernel_rfl) (by kernel_rfl) (by kernel_rfl) trivial (QE_ldsA rfl rfl rfl (CellsAt.sub (us := [_, _]) 4 (hca.le (Le.trans (Le.trans h1 h2) h3)) rfl) rfl) rfl ?_
 refine JA_1 5 (by kernel_rfl) ?_
 refine JB_call rfl trivial (first := []) (captured := []) rfl rfl rfl (AC.mid [_, _] [_] _ (value_ac D _ _ _ _ _ _ _ _ _ _ _ _ _ _ _ _ _ _ _ hsm a.x ha.x)) ?_
 rintro _ _ s4 h4 ⟨_, rfl, rfl, rfl⟩
 refine ⟨fun _ _ h => h, ?_⟩
 simp only [List.cons_append, List.nil_append]
 refine JA_1 11 (by kernel_rfl) ?_
 refine JB_call rfl trivial (first := []) (captured := []) rfl rfl rfl (AC.mid [_, _] [_] _ (value_ac D _ _ _ _ _ _ _ _ _ _ _ _ _ _ _ _ _ _ _ hsm a.y ha.y)) ?_
 rintro _ _ s5 h5 ⟨_, rfl, rfl, rfl⟩
 refine ⟨fun _ _ h => h, ?_⟩
 simp only [List.cons_append, List.nil_append]
 refine JA_q 12 rfl (by kernel_rfl) (by kernel_rfl) (by kernel_rfl) trivial (QE_as rfl) rfl ?_
 refine JA_q 13 rfl (by kernel_rfl) (by kernel_rfl) (by kernel_rfl) trivial (QE_as rfl) rfl ?_
 refine JA_done (by kernel_rfl) ?_
 refine thenQ_n ?_
 refine JC_seq ?_
 refine JC_region ?_
 refine JO_q (QE_func rfl) rfl ?_
 refine JO_q (QE_as rfl) rfl ?_
 refine JO_nil ?_
 refine thenQ_n ?_
 refine JC_seq ?_
 refine JC_region ?_
 refine JO_q (QE_ld1 0 rfl rfl rfl rfl rfl) rfl ?_
 refine JO_q (QE_nil rfl) rfl ?_
 refine JO_q (QE_fa0 rfl rfl rfl rfl) rfl ?_
 refine JO_q (QE_ldsR0 rfl rfl rfl (hca.le (Le.trans (Le.trans (Le.trans (Le.trans h1 h2) h3) h4) h5)) rfl) rfl ?_
 refine JO_nil ?_
 refine thenQ_n ?_
 refine JC_block ?_
 refine JC_seq ?_
 refine JC_region ?_
 refine JO_q (QE_eq rfl rfl) rfl ?_
 refine JO_q (QE_as rfl) rfl ?_
 refine JO_nil ?_
 refine thenQ_n ?_
 refine JC_ifD rfl (fun c6 => ?_) (fun c6 => ?_)
 ·
  refine JC_region ?_
  refine JO_q (QE_mv rfl) rfl ?_
  refine JO_q (QE_mv rfl) rfl ?_
  refine JO_call (first := []) (captured := [_, _]) rfl rfl rfl (set_ac D _ _ _ _ _ _ _ _ _ _ _ _ _ _ _ _ _ _ _ hsm _ a ba oa _ _ (hca.le (Le.trans (Le.trans (Le.trans (Le.trans h1 h2) h3) h4) h5)) ha.to) ?_
  rintro _ _ s7 h7 ⟨rfl, rfl⟩
  refine JO_nil ?_
  refine blockQ_n ?_
  refine retQ_mk [_, _] _ (.inl rfl) (.nil) rfl (Le.trans (Le.trans (Le.trans (Le.trans (Le.trans h1 h2) h3) h4) h5) h7) (fun sR hS2 => ?_)
  refine ⟨_ :: _ :: _ :: O, rfl, rfl, ?_⟩
  rw [act_k0 (by assumption)]; exact ⟨bc, cc, yc, O, Ao, co, Ai, ni, ci, rfl, hO, hI.le (Le.trans (Le.trans (Le.trans (Le.trans (Le.trans (Le.trans h1 h2) h3) h4) h5) h7) hS2), hcc, hcc2⟩
 ·
  refine JC_seq ?_
  refine JC_region ?_
  refine JO_q (QE_eq rfl rfl) rfl ?_
  refine JO_q (QE_as rfl) rfl ?_
  refine JO_nil ?_
  refine thenQ_n ?_
  refine JC_ifD rfl (fun c8 => ?_) (fun c8 => ?_)
  ·
   refine JC_seq ?_
   refine JC_region ?_
   refine JO_q (QE_mv rfl) rfl ?_
   refine JO_q (QE_eq rfl rfl) rfl ?_
   refine JO_nil ?_
   refine thenQ_n ?_
   refine JC_ifD rfl (fun c9 => ?_) (fun c9 => ?_)
   ·
    refine JC_region ?_
    refine JO_q (QE_mv rfl) rfl ?_
    refine JO_q (QE_mv rfl) rfl ?_
    refine JO_call (first := []) (captured := [_, _]) rfl rfl rfl (set_ac D _ _ _ _ _ _ _ _ _ _ _ _ _ _ _ _ _ _ _ hsm _ a ba oa _ _ (hca.le (Le.trans (Le.trans (Le.trans (Le.trans h1 h2) h3) h4) h5)) ha.to) ?_
    rintro _ _ s10 h10 ⟨rfl, rfl⟩
    refine JO_nil ?_
    refine blockQ_n ?_
    refine retQ_mk [_, _] _ (.inl rfl) (.nil) rfl (Le.trans (Le.trans (Le.trans (Le.trans (Le.trans h1 h2) h3) h4) h5) h10) (fun sR hS2 => ?_)
    refine ⟨_ :: _ :: _ :: O, rfl, rfl, ?_⟩
    rw [act_k19 (by assumption) (by assumption)]; exact ⟨bc, cc, yc, O, Ao, co, Ai, ni, ci, rfl, hO, hI.le (Le.trans (Le.trans (Le.trans (Le.trans (Le.trans (Le.trans h1 h2) h3) h4) h5) h10) hS2), hcc, hcc2⟩
   ·
    refine JC_skip ?_
    refine blockQ_n ?_
    refine retQ_mk [_, _] _ (.inl rfl) (.nil) rfl (Le.trans (Le.trans (Le.trans (Le.trans h1 h2) h3) h4) h5) (fun sR hS2 => ?_)
    refine ⟨_ :: _ :: _ :: O, rfl, rfl, ?_⟩
    rw [act_k19n (by assumption) (by assumption)]; exact ⟨bc, cc, yc, O, Ao, co, Ai, ni, ci, rfl, hO, hI.le (Le.trans (Le.trans (Le.trans (Le.trans (Le.trans h1 h2) h3) h4) h5) hS2), hcc, hcc2⟩
  ·
   refine JC_seq ?_
   refine JC_seq ?_
   refine JC_region ?_
   refine JO_q (QE_eq rfl rfl) rfl ?_
   refine JO_q (QE_as rfl) rfl ?_
   refine JO_nil ?_
   refine thenQ_n ?_
   refine JC_ifD rfl (fun c11 => ?_) (fun c11 => ?_)
   ·
    refine JC_skip ?_
    refine thenQ_n ?_
    refine JC_ifD rfl (fun c12 => ?_) (fun c12 => ?_)
    ·
     refine JC_block ?_
     refine JC_seq ?_
     refine JC_region ?_
     refine JO_q (QE_mv rfl) rfl ?_
     refine JO_q (QE_eq rfl rfl) rfl ?_
     refine JO_q (QE_as rfl) rfl ?_
     refine JO_nil ?_
     refine thenQ_n ?_
     refine JC_ifD rfl (fun c13 => ?_) (fun c13 => ?_)
     ·
      refine JC_region ?_
      refine JO_q (QE_ld1 1 rfl rfl rfl rfl rfl) rfl ?_
      refine JO_q (QE_nil rfl) rfl ?_
      refine JO_q (QE_fa0 rfl rfl rfl rfl) rfl ?_
      refine JO_q (QE_faB rfl rfl rfl rfl) rfl ?_
      refine JO_st 2 (_ :: _ :: _ :: _ :: _ :: _ :: _ :: _ :: _ :: _ :: _ :: _) rfl rfl rfl rfl rfl rfl rfl rfl rfl ?_
      refine JO_nil ?_
      refine blockQ_n ?_
      refine blockQ_n ?_
      refine retQ_mk [_, _] _ (.inl rfl) (.nil) rfl (Le.trans (Le.trans (Le.trans (Le.trans h1 h2) h3) h4) h5) (fun sR hS2 => ?_)
      refine ⟨_ :: _ :: _ :: O, rfl, rfl, ?_⟩
      rw [act_k4z (by assumption) (by assumption)]; exact ⟨bc, cc, yc, O, Ao, co, Ai, ni, ci, rfl, hO, hI.le (Le.trans (Le.trans (Le.trans (Le.trans (Le.trans h1 h2) h3) h4) h5) hS2), hcc, hcc2⟩
     ·
      refine JC_seq ?_
      refine JC_region ?_
      refine JO_q (QE_ld1 0 rfl rfl rfl rfl rfl) rfl ?_
      refine JO_q (QE_nil rfl) rfl ?_
      refine JO_q (QE_fa0 rfl rfl rfl rfl) rfl ?_
      refine JO_q (QE_ldsR0 rfl rfl rfl (hca.le (Le.trans (Le.trans (Le.trans (Le.trans h1 h2) h3) h4) h5)) rfl) rfl ?_
      refine JO_q (QE_eq rfl rfl) rfl ?_
      refine JO_q (QE_as rfl) rfl ?_
      refine JO_nil ?_
      refine thenQ_n ?_
      refine JC_ifD rfl (fun c14 => ?_) (fun c14 => ?_)
      ·
       refine JC_region ?_
       refine JO_q (QE_mv rfl) rfl ?_
       refine JO_q (QE_mv rfl) rfl ?_
       refine JO_q (QE_mv rfl) rfl ?_
       refine JO_q (QE_quo rfl rfl (by assumption)) rfl ?_
       refine JO_call (first := []) (captured := [_, _]) rfl rfl rfl (set_ac D _ _ _ _ _ _ _ _ _ _ _ _ _ _ _ _ _ _ _ hsm _ a ba oa _ _ (hca.le (Le.trans (Le.trans (Le.trans (Le.trans h1 h2) h3) h4) h5)) ha.to) ?_
       rintro _ _ s15 h15 ⟨rfl, rfl⟩
       refine JO_nil ?_
       refine blockQ_n ?_
       refine blockQ_n ?_
       refine retQ_mk [_, _] _ (.inl rfl) (.nil) rfl (Le.trans (Le.trans (Le.trans (Le.trans (Le.trans h1 h2) h3) h4) h5) h15) (fun sR hS2 => ?_)
       refine ⟨_ :: _ :: _ :: O, rfl, rfl, ?_⟩
       rw [act_k4 (by assumption) (by assumption), ← divW hux huy, ← wrapW]; exact ⟨bc, cc, yc, O, Ao, co, Ai, ni, ci, rfl, hO, hI.le (Le.trans (Le.trans (Le.trans (Le.trans (Le.trans (Le.trans h1 h2) h3) h4) h5) h15) hS2), hcc, hcc2⟩
      ·
       refine JC_region ?_
       refine JO_q (QE_mv rfl) rfl ?_
       refine JO_q (QE_mv rfl) rfl ?_
       refine JO_q (QE_mv rfl) rfl ?_
       refine JO_q (QE_rem rfl rfl (by assumption)) rfl ?_
       refine JO_call (first := []) (captured := [_, _]) rfl rfl rfl (set_ac D _ _ _ _ _ _ _ _ _ _ _ _ _ _ _ _ _ _ _ hsm _ a ba oa _ _ (hca.le (Le.trans (Le.trans (Le.trans (Le.trans h1 h2) h3) h4) h5)) ha.to) ?_
       rintro _ _ s16 h16 ⟨rfl, rfl⟩
       refine JO_nil ?_
       refine blockQ_n ?_
       refine blockQ_n ?_
       refine retQ_mk [_, _] _ (.inl rfl) (.nil) rfl (Le.trans (Le.trans (Le.trans (Le.trans (Le.trans h1 h2) h3) h4) h5) h16) (fun sR hS2 => ?_)
       exfalso; omega
    ·
     refine JC_seq ?_
     refine JC_seq ?_
     refine JC_region ?_
     refine JO_q (QE_eq rfl rfl) rfl ?_
     refine JO_q (QE_as rfl) rfl ?_
     refine JO_nil ?_
     refine thenQ_n ?_
     refine JC_ifD rfl (fun c17 => ?_) (fun c17 => ?_)
     ·
      refine JC_skip ?_
      refine thenQ_n ?_
      refine JC_ifD rfl (fun c18 => ?_) (fun c18 => ?_)
      ·
       refine JC_block ?_
       refine JC_seq ?_
       refine JC_region ?_
       refine JO_q (QE_ld1 1 rfl rfl rfl rfl rfl) rfl ?_
       refine JO_q (QE_mv rfl) rfl ?_
       refine JO_call (first := []) (captured := []) rfl rfl rfl (AC.mid [_, _] [_] _ (isCell_ac D _ _ _ _ _ _ _ _ _ _ _ _ _ _ _ _ _ _ _ hsm _ hux hnc)) ?_
       rintro _ _ s19 h19 ⟨_, rfl, rfl, rfl⟩
       simp only [List.cons_append, List.nil_append]
       refine JO_q (QE_not rfl) rfl ?_
       refine JO_q (QE_as rfl) rfl ?_
       refine JO_nil ?_
       refine thenQ_n ?_
       refine JC_ifN rfl (fun c20 => ?_) (fun c20 => ?_)
       ·
        refine JC_region ?_
        refine JO_q (QE_ld1 1 rfl rfl rfl rfl rfl) rfl ?_
        refine JO_q (QE_nil rfl) rfl ?_
        refine JO_q (QE_fa0 rfl rfl rfl rfl) rfl ?_
        refine JO_q (QE_faB rfl rfl rfl rfl) rfl ?_
        refine JO_st 2 (_ :: _ :: _ :: _ :: _ :: _ :: _ :: _ :: _ :: _ :: _ :: _) rfl rfl rfl rfl rfl rfl rfl rfl rfl ?_
        refine JO_nil ?_
        refine blockQ_n ?_
        refine blockQ_n ?_
        refine retQ_mk [_, _] _ (.inl rfl) (.nil) rfl (Le.trans (Le.trans (Le.trans (Le.trans (Le.trans h1 h2) h3) h4) h5) h19) (fun sR hS2 => ?_)
        exfalso; omega
       ·
        refine JC_seq ?_
        refine JC_region ?_
        refine JO_q (QE_ld1 0 rfl rfl rfl rfl rfl) rfl ?_
        refine JO_q (QE_nil rfl) rfl ?_
        refine JO_q (QE_fa0 rfl rfl rfl rfl) rfl ?_
        refine JO_q (QE_ldsR0 rfl rfl rfl (hca.le (Le.trans (Le.trans (Le.trans (Le.trans (Le.trans h1 h2) h3) h4) h5) h19)) rfl) rfl ?_
        refine JO_q (QE_eq rfl rfl) rfl ?_
        refine JO_q (QE_as rfl) rfl ?_
        refine JO_nil ?_
        refine thenQ_n ?_
        refine JC_ifD rfl (fun c21 => ?_) (fun c21 => ?_)
        ·
         refine JC_region ?_
         refine JO_q (QE_mv rfl) rfl ?_
         refine JO_q (QE_ld1 1 rfl rfl rfl rfl rfl) rfl ?_
         refine JO_q (QE_nil rfl) rfl ?_
         refine JO_q (QE_fa0 rfl rfl rfl rfl) rfl ?_
         refine JO_q (QE_fa0 rfl rfl rfl rfl) rfl ?_
         refine JO_q (QE_ld1 2 rfl rfl rfl rfl rfl) rfl ?_
         refine JO_q (QE_mv rfl) rfl ?_
         refine JO_q (QE_iaS rfl rfl rfl rfl rfl rfl hux1 (by assumption)) rfl ?_
         refine JO_q (QE_ld1 3 rfl rfl rfl rfl (nth_wv0 hux1 (by assumption))) rfl ?_
         refine JO_call (first := []) (captured := [_, _]) rfl rfl rfl (set_ac D _ _ _ _ _ _ _ _ _ _ _ _ _ _ _ _ _ _ _ hsm _ a ba oa _ _ (hca.le (Le.trans (Le.trans (Le.trans (Le.trans (Le.trans h1 h2) h3) h4) h5) h19)) ha.to) ?_
         rintro _ _ s22 h22 ⟨rfl, rfl⟩
         refine JO_nil ?_
         refine blockQ_n ?_
         refine blockQ_n ?_
         refine retQ_mk [_, _] _ (.inl rfl) (.nil) rfl (Le.trans (Le.trans (Le.trans (Le.trans (Le.trans (Le.trans h1 h2) h3) h4) h5) h19) h22) (fun sR hS2 => ?_)
         exfalso; omega
        ·
         refine JC_region ?_
         refine JO_q (QE_ld1 1 rfl rfl rfl rfl rfl) rfl ?_
         refine JO_q (QE_nil rfl) rfl ?_
         refine JO_q (QE_fa0 rfl rfl rfl rfl) rfl ?_
         refine JO_q (QE_fa0 rfl rfl rfl rfl) rfl ?_
         refine JO_q (QE_ld1 2 rfl rfl rfl rfl rfl) rfl ?_
         refine JO_q (QE_mv rfl) rfl ?_
         refine JO_q (QE_mv rfl) rfl ?_
         refine JO_q (QE_iaS rfl rfl rfl rfl rfl rfl hux1 (by assumption)) rfl ?_
         refine JO_st 3 _ rfl rfl rfl rfl rfl (ble_wv0 hux1 (by assumption)) rfl (spl_wv0 _ hux1 (by assumption)) rfl ?_
         refine JO_nil ?_
         refine blockQ_n ?_
         refine blockQ_n ?_
         refine retQ_mk [_, _] _ (.inl rfl) (.nil) rfl (Le.trans (Le.trans (Le.trans (Le.trans (Le.trans h1 h2) h3) h4) h5) h19) (fun sR hS2 => ?_)
         exfalso; omega
      ·
       refine JC_seq ?_
       refine JC_region ?_
       refine JO_q (QE_eq rfl rfl) rfl ?_
       refine JO_q (QE_as rfl) rfl ?_
       refine JO_nil ?_
       refine thenQ_n ?_
       refine JC_ifD rfl (fun c24 => ?_) (fun c24 => ?_)
       ·
        refine JC_seq ?_
        refine JC_seq ?_
        refine JC_region ?_
        refine JO_q (QE_ld1 1 rfl rfl rfl rfl rfl) rfl ?_
        refine JO_q (QE_nil rfl) rfl ?_
        refine JO_q (QE_fa0 rfl rfl rfl rfl) rfl ?_
        refine JO_q (QE_faB rfl rfl rfl rfl) rfl ?_
        refine JO_q (QE_ld1 2 rfl rfl rfl rfl rfl) rfl ?_
        refine JO_q (QE_lenS rfl rfl rfl) rfl ?_
        refine JO_q (QE_eq rfl rfl) rfl ?_
        refine JO_nil ?_
        refine thenQ_n ?_
        refine JC_ifD rfl (fun c25 => ?_) (fun c25 => ?_)
        ·
         refine JC_seq ?_
         refine JC_region ?_
         refine JO_q (QE_mv rfl) rfl ?_
         refine JO_call (first := []) (captured := [_, _]) rfl rfl rfl (set_ac D _ _ _ _ _ _ _ _ _ _ _ _ _ _ _ _ _ _ _ hsm _ a ba oa _ _ (hca.le (Le.trans (Le.trans (Le.trans (Le.trans h1 h2) h3) h4) h5)) ha.to) ?_
         rintro _ _ s26 h26 ⟨rfl, rfl⟩
         refine JO_nil ?_
         refine thenQ_n ?_
         refine JC_ret ?_
         refine thenQ_r ?_
         refine blockQ_r ?_
         refine retQ_mk [_, _] _ (.inr rfl) (.nil) rfl (Le.trans (Le.trans (Le.trans (Le.trans (Le.trans h1 h2) h3) h4) h5) h26) (fun sR hS2 => ?_)
         exfalso; omega
        ·
         obtain ⟨bi, oi, xi, rfl, hxi, hci⟩ := Bts.at_ (hI.le (Le.trans (Le.trans (Le.trans (Le.trans h1 h2) h3) h4) h5)) (show 0 < ni by omega)
         refine JC_skip ?_
         refine thenQ_n ?_
         refine JC_seq ?_
         refine JC_region ?_
         refine JO_q (QE_mv rfl) rfl ?_
         refine JO_q (QE_ld1 1 rfl rfl rfl rfl rfl) rfl ?_
         refine JO_q (QE_nil rfl) rfl ?_
         refine JO_q (QE_fa0 rfl rfl rfl rfl) rfl ?_
         refine JO_q (QE_faB rfl rfl rfl rfl) rfl ?_
         refine JO_q (QE_ld1 2 rfl rfl rfl rfl rfl) rfl ?_
         refine JO_q (QE_iaS rfl rfl rfl rfl rfl rfl (by decide) (by omega)) rfl ?_
         refine JO_q (QE_ldsR0 rfl rfl rfl (hci.le (Le.refl (D := D) _)) rfl) rfl ?_
         refine JO_q (QE_conv' rfl rfl rfl rfl rfl (w32_in (by omega) (by have := xi.toNat_lt; omega))) rfl ?_
         refine JO_call (first := []) (captured := [_, _]) rfl rfl rfl (set_ac D _ _ _ _ _ _ _ _ _ _ _ _ _ _ _ _ _ _ _ hsm _ a ba oa _ _ (hca.le (Le.trans (Le.trans (Le.trans (Le.trans h1 h2) h3) h4) h5)) ha.to) ?_
         rintro _ _ s27 h27 ⟨rfl, rfl⟩
         refine JO_nil ?_
         refine thenQ_n ?_
         refine JC_drawE drawsMixed 11 rfl [2] (by intro x hx; exact eraseAll_mem hx) ?_
         intro s28 h28
         refine JA_q 0 rfl (by kernel_rfl) (by kernel_rfl) (by kernel_rfl) trivial (QE_ld1 1 rfl rfl rfl rfl rfl) rfl ?_
         refine JA_q 1 rfl (by kernel_rfl) (by kernel_rfl) (by kernel_rfl) trivial (QE_ld1 1 rfl rfl rfl rfl rfl) rfl ?_
         refine JA_q 2 rfl (by kernel_rfl) (by kernel_rfl) (by kernel_rfl) trivial (QE_nil rfl) rfl ?_
         refine JA_q 3 rfl (by kernel_rfl) (by kernel_rfl) (by kernel_rfl) trivial (QE_fa0 rfl rfl rfl rfl) rfl ?_
         refine JA_q 4 rfl (by kernel_rfl) (by kernel_rfl) (by kernel_rfl) trivial (QE_faB rfl rfl rfl rfl) rfl ?_
         refine JA_1 5 (by kernel_rfl) ?_
         refine JB_q rfl trivial (QE_ld1 2 rfl rfl rfl rfl rfl) rfl ?_
         refine JA_q 6 rfl (by kernel_rfl) (by kernel_rfl) (by kernel_rfl) trivial (QE_slL (j := 1) rfl rfl rfl rfl rfl (by omega)) rfl ?_
         refine JA_q 7 rfl (by kernel_rfl) (by kernel_rfl) (by kernel_rfl) trivial (QE_nil rfl) rfl ?_
         refine JA_q 8 rfl (by kernel_rfl) (by kernel_rfl) (by kernel_rfl) trivial (QE_fa0 rfl rfl rfl rfl) rfl ?_
         refine JA_q 9 rfl (by kernel_rfl) (by kernel_rfl) (by kernel_rfl) trivial (QE_faB rfl rfl rfl rfl) rfl ?_
         refine JA_1 10 (by kernel_rfl) ?_
         refine JB_st rfl trivial 2 (_ :: _ :: _ :: _ :: _ :: _ :: _ :: _ :: _ :: _ :: _ :: _) rfl rfl rfl rfl rfl rfl rfl rfl rfl (fun _ hx => sub_mem (sbY (sbY (sbY (sbY (sbE _))))) hx) ?_
         refine JA_done (by kernel_rfl) ?_
         refine blockQ_n ?_
         refine retQ_mk [_, _] _ (.inl rfl) (.nil) rfl (Le.trans (Le.trans (Le.trans (Le.trans (Le.trans (Le.trans h1 h2) h3) h4) h5) h27) h28) (fun sR hS2 => ?_)
         exfalso; omega
       ·
        refine JC_seq ?_
        refine JC_region ?_
        refine JO_q (QE_eq rfl rfl) rfl ?_
        refine JO_q (QE_as rfl) rfl ?_
        refine JO_nil ?_
        refine thenQ_n ?_
        refine JC_ifD rfl (fun c29 => ?_) (fun c29 => ?_)
        ·
         refine JC_seq ?_
         refine JC_seq ?_
         refine JC_region ?_
         refine JO_q (QE_ld1 1 rfl rfl rfl rfl rfl) rfl ?_
         refine JO_q (QE_nil rfl) rfl ?_
         refine JO_q (QE_fa0 rfl rfl rfl rfl) rfl ?_
         refine JO_q (QE_faB rfl rfl rfl rfl) rfl ?_
         refine JO_q (QE_ld1 2 rfl rfl rfl rfl rfl) rfl ?_
         refine JO_q (QE_lenS rfl rfl rfl) rfl ?_
         refine JO_q (QE_ge rfl rfl) rfl ?_
         refine JO_nil ?_
         refine thenQ_n ?_
         refine JC_ifD rfl (fun c30 => ?_) (fun c30 => ?_)
         ·
          refine JC_seq ?_
          refine JC_region ?_
          refine JO_q (QE_ld1 1 rfl rfl rfl rfl rfl) rfl ?_
          refine JO_q (QE_nil rfl) rfl ?_
          refine JO_q (QE_fa0 rfl rfl rfl rfl) rfl ?_
          refine JO_q (QE_faB rfl rfl rfl rfl) rfl ?_
          refine JO_st 2 (_ :: _ :: _ :: _ :: _ :: _ :: _ :: _ :: _ :: _ :: _ :: _) rfl rfl rfl rfl rfl rfl rfl rfl rfl ?_
          refine JO_nil ?_
          refine thenQ_n ?_
          refine JC_ret ?_
          refine thenQ_r ?_
          refine blockQ_r ?_
          refine retQ_mk [_, _] _ (.inr rfl) (.nil) rfl (Le.trans (Le.trans (Le.trans (Le.trans h1 h2) h3) h4) h5) (fun sR hS2 => ?_)
          exfalso; omega
         ·
          refine JC_skip ?_
          refine thenQ_n ?_
          refine JC_drawT drawsMixed 14 rfl 2 ?_
          intro s31 h31
          refine JA_q 0 rfl (by kernel_rfl) (by kernel_rfl) (by kernel_rfl) trivial (QE_ld1 1 rfl rfl rfl rfl rfl) rfl ?_
          refine JA_q 1 rfl (by kernel_rfl) (by kernel_rfl) (by kernel_rfl) trivial (QE_ld1 1 rfl rfl rfl rfl rfl) rfl ?_
          refine JA_q 2 rfl (by kernel_rfl) (by kernel_rfl) (by kernel_rfl) trivial (QE_nil rfl) rfl ?_
          refine JA_q 3 rfl (by kernel_rfl) (by kernel_rfl) (by kernel_rfl) trivial (QE_fa0 rfl rfl rfl rfl) rfl ?_
          refine JA_q 4 rfl (by kernel_rfl) (by kernel_rfl) (by kernel_rfl) trivial (QE_faB rfl rfl rfl rfl) rfl ?_
          refine JA_q 6 rfl (by kernel_rfl) (by kernel_rfl) (by kernel_rfl) trivial (QE_mv rfl) rfl ?_
          refine JA_q 7 rfl (by kernel_rfl) (by kernel_rfl) (by kernel_rfl) trivial (QE_cast (QE_conv rfl rfl rfl rfl rfl) (congrArg (Value.int .u8) (byteW hux))) rfl ?_
          refine JA_2 5 8 (by kernel_rfl) ?_ ?_
          ·
           refine JB_q rfl trivial (QE_ld1 2 rfl rfl rfl rfl rfl) rfl ?_
           refine JA_1 8 (by kernel_rfl) ?_
           refine JB_bs rfl trivial [(_, _)] [_] rfl rfl rfl rfl rfl rfl rfl rfl rfl ?_
           intro βn s32 h32 hcn
           refine JA_1 9 (by kernel_rfl) ?_
           refine JB_app (sz := 1) rfl trivial [_, _, _, _, _] O _ rfl rfl rfl rfl rfl rfl rfl hO (Row.of_cells (hcn.le (Le.refl (D := D) _)) rfl rfl) ⟨by simp [ti5]; omega, by omega⟩ rfl (fun A2 x hx _ => List.mem_append_left _ (by simp at hx ⊢; grind)) ?_
           intro v1 A1 s33 h33 o1
           obtain ⟨Ao1, co1, rfl, ko1, ko2⟩ := Own.slice o1
           simp only [List.cons_append, List.nil_append]
           refine JA_q 10 rfl (by kernel_rfl) (by kernel_rfl) (by kernel_rfl) trivial (QE_nil rfl) rfl ?_
           refine JA_q 11 rfl (by kernel_rfl) (by kernel_rfl) (by kernel_rfl) trivial (QE_fa0 rfl rfl rfl rfl) rfl ?_
           refine JA_q 12 rfl (by kernel_rfl) (by kernel_rfl) (by kernel_rfl) trivial (QE_faB rfl rfl rfl rfl) rfl ?_
           refine JA_1 13 (by kernel_rfl) ?_
           refine JB_st rfl trivial 2 (_ :: _ :: _ :: _ :: _ :: _ :: _ :: _ :: _ :: _ :: _ :: _) rfl rfl rfl rfl rfl rfl rfl rfl rfl (fun _ hx => sub_mem (sbY (sbY (sb0 _))) hx) ?_
           refine JA_done (by kernel_rfl) ?_
           refine blockQ_n ?_
           refine retQ_mk [_, _] _ (.inl rfl) (.nil) rfl (Le.trans (Le.trans (Le.trans (Le.trans (Le.trans (Le.trans (Le.trans h1 h2) h3) h4) h5) h31) h32) h33) (fun sR hS2 => ?_)
           exfalso; omega
          ·
           refine JB_bs rfl trivial [(_, _)] [_] rfl rfl rfl rfl rfl rfl rfl rfl rfl ?_
           intro βn s34 h34 hcn
           refine JA_1 5 (by kernel_rfl) ?_
           refine JB_q rfl trivial (QE_ld1 2 rfl rfl rfl rfl rfl) rfl ?_
           refine JA_1 9 (by kernel_rfl) ?_
           refine JB_app (sz := 1) rfl trivial [_, _, _, _, _] O _ rfl rfl rfl rfl rfl rfl rfl hO (Row.of_cells (hcn.le (Le.refl (D := D) _)) rfl rfl) ⟨by simp [ti5]; omega, by omega⟩ rfl (fun A2 x hx _ => List.mem_append_left _ (by simp at hx ⊢; grind)) ?_
           intro v1 A1 s35 h35 o1
           obtain ⟨Ao1, co1, rfl, ko1, ko2⟩ := Own.slice o1
           simp only [List.cons_append, List.nil_append]
           refine JA_q 10 rfl (by kernel_rfl) (by kernel_rfl) (by kernel_rfl) trivial (QE_nil rfl) rfl ?_
           refine JA_q 11 rfl (by kernel_rfl) (by kernel_rfl) (by kernel_rfl) trivial (QE_fa0 rfl rfl rfl rfl) rfl ?_
           refine JA_q 12 rfl (by kernel_rfl) (by kernel_rfl) (by kernel_rfl) trivial (QE_faB rfl rfl rfl rfl) rfl ?_
           refine JA_1 13 (by kernel_rfl) ?_
           refine JB_st rfl trivial 2 (_ :: _ :: _ :: _ :: _ :: _ :: _ :: _ :: _ :: _ :: _ :: _) rfl rfl rfl rfl rfl rfl rfl rfl rfl (fun _ hx => sub_mem (sbY (sbY (sb0 _))) hx) ?_
           refine JA_done (by kernel_rfl) ?_
           refine blockQ_n ?_
           refine retQ_mk [_, _] _ (.inl rfl) (.nil) rfl (Le.trans (Le.trans (Le.trans (Le.trans (Le.trans (Le.trans (Le.trans h1 h2) h3) h4) h5) h31) h34) h35) (fun sR hS2 => ?_)
           exfalso; omega
        ·
         refine JC_seq ?_
         refine JC_seq ?_
         refine JC_region ?_
         refine JO_q (QE_eq rfl rfl) rfl ?_
         refine JO_q (QE_as rfl) rfl ?_
         refine JO_nil ?_
         refine thenQ_n ?_
         refine JC_ifD rfl (fun c36 => ?_) (fun c36 => ?_)
         ·
          refine JC_skip ?_
          refine thenQ_n ?_
          refine JC_ifD rfl (fun c37 => ?_) (fun c37 => ?_)
          ·
           refine JC_seq ?_
           refine JC_region ?_
           refine JO_q (QE_ld1 0 rfl rfl rfl rfl rfl) rfl ?_
           refine JO_q (QE_nil rfl) rfl ?_
           refine JO_q (QE_fa0 rfl rfl rfl rfl) rfl ?_
           refine JO_q (QE_ldsR0 rfl rfl rfl (hca.le (Le.trans (Le.trans (Le.trans (Le.trans h1 h2) h3) h4) h5)) rfl) rfl ?_
           refine JO_q (QE_eq rfl rfl) rfl ?_
           refine JO_q (QE_mv rfl) rfl ?_
           refine JO_caseD (t := 172) rfl (fun c38 => ?_) (fun c38 => ?_)
           ·
            refine JO_gF rfl rfl rfl rfl ?_
            refine JO_gF rfl rfl rfl rfl ?_
            refine JO_q (QE_pickT rfl rfl) rfl ?_
            refine JO_nil ?_
            refine thenQ_n ?_
            refine JC_ifT rfl ?_
            refine JC_drawE drawsMixed 11 rfl [2] (by intro x hx; exact eraseAll_mem hx) ?_
            intro s39 h39
            refine JA_q 0 rfl (by kernel_rfl) (by kernel_rfl) (by kernel_rfl) trivial (QE_ld1 1 rfl rfl rfl rfl rfl) rfl ?_
            refine JA_q 1 rfl (by kernel_rfl) (by kernel_rfl) (by kernel_rfl) trivial (QE_ld1 1 rfl rfl rfl rfl rfl) rfl ?_
            refine JA_q 2 rfl (by kernel_rfl) (by kernel_rfl) (by kernel_rfl) trivial (QE_mv rfl) rfl ?_
            refine JA_q 3 rfl (by kernel_rfl) (by kernel_rfl) (by kernel_rfl) trivial (QE_nil rfl) rfl ?_
            refine JA_q 4 rfl (by kernel_rfl) (by kernel_rfl) (by kernel_rfl) trivial (QE_fa0 rfl rfl rfl rfl) rfl ?_
            refine JA_q 5 rfl (by kernel_rfl) (by kernel_rfl) (by kernel_rfl) trivial (QE_faB rfl rfl rfl rfl) rfl ?_
            refine JA_1 6 (by kernel_rfl) ?_
            refine JB_st rfl trivial 2 (_ :: _ :: _ :: _ :: _ :: _ :: _ :: _ :: _ :: _ :: _ :: _) rfl rfl rfl rfl rfl rfl rfl rfl rfl (fun _ hx => sub_mem (sbY (sbY (sbY (sbY (sbE _))))) hx) ?_
            refine JA_q 7 rfl (by kernel_rfl) (by kernel_rfl) (by kernel_rfl) trivial (QE_nil rfl) rfl ?_
            refine JA_q 8 rfl (by kernel_rfl) (by kernel_rfl) (by kernel_rfl) trivial (QE_fa0 rfl rfl rfl rfl) rfl ?_
            refine JA_q 9 rfl (by kernel_rfl) (by kernel_rfl) (by kernel_rfl) trivial (QE_faB rfl rfl rfl rfl) rfl ?_
            refine JA_1 10 (by kernel_rfl) ?_
            refine JB_st rfl trivial 2 (_ :: _ :: _ :: _ :: _ :: _ :: _ :: _ :: _ :: _ :: _ :: _) rfl rfl rfl rfl rfl rfl rfl rfl rfl (fun _ hx => sub_mem (sbY (sbY (sbY (sbY (sbE _))))) hx) ?_
            refine JA_done (by kernel_rfl) ?_
            refine blockQ_n ?_
            refine retQ_mk [_, _] _ (.inl rfl) (.nil) rfl (Le.trans (Le.trans (Le.trans (Le.trans (Le.trans h1 h2) h3) h4) h5) h39) (fun sR hS2 => ?_)
            exfalso; omega
           ·
            refine JO_gT rfl rfl ?_
            refine JO_q (QE_mv rfl) rfl ?_
            refine JO_gT rfl rfl ?_
            refine JO_q (QE_eq rfl rfl) rfl ?_
            refine JO_q (QE_pickF rfl rfl) rfl ?_
            refine JO_nil ?_
            refine thenQ_n ?_
            refine JC_ifD rfl (fun c40 => ?_) (fun c40 => ?_)
            ·
             refine JC_drawE drawsMixed 11 rfl [2] (by intro x hx; exact eraseAll_mem hx) ?_
             intro s41 h41
             refine JA_q 0 rfl (by kernel_rfl) (by kernel_rfl) (by kernel_rfl) trivial (QE_ld1 1 rfl rfl rfl rfl rfl) rfl ?_
             refine JA_q 1 rfl (by kernel_rfl) (by kernel_rfl) (by kernel_rfl) trivial (QE_ld1 1 rfl rfl rfl rfl rfl) rfl ?_
             refine JA_q 2 rfl (by kernel_rfl) (by kernel_rfl) (by kernel_rfl) trivial (QE_mv rfl) rfl ?_
             refine JA_q 3 rfl (by kernel_rfl) (by kernel_rfl) (by kernel_rfl) trivial (QE_nil rfl) rfl ?_
             refine JA_q 4 rfl (by kernel_rfl) (by kernel_rfl) (by kernel_rfl) trivial (QE_fa0 rfl rfl rfl rfl) rfl ?_
             refine JA_q 5 rfl (by kernel_rfl) (by kernel_rfl) (by kernel_rfl) trivial (QE_faB rfl rfl rfl rfl) rfl ?_
             refine JA_1 6 (by kernel_rfl) ?_
             refine JB_st rfl trivial 2 (_ :: _ :: _ :: _ :: _ :: _ :: _ :: _ :: _ :: _ :: _ :: _) rfl rfl rfl rfl rfl rfl rfl rfl rfl (fun _ hx => sub_mem (sbY (sbY (sbY (sbY (sbE _))))) hx) ?_
             refine JA_q 7 rfl (by kernel_rfl) (by kernel_rfl) (by kernel_rfl) trivial (QE_nil rfl) rfl ?_
             refine JA_q 8 rfl (by kernel_rfl) (by kernel_rfl) (by kernel_rfl) trivial (QE_fa0 rfl rfl rfl rfl) rfl ?_
             refine JA_q 9 rfl (by kernel_rfl) (by kernel_rfl) (by kernel_rfl) trivial (QE_faB rfl rfl rfl rfl) rfl ?_
             refine JA_1 10 (by kernel_rfl) ?_
             refine JB_st rfl trivial 2 (_ :: _ :: _ :: _ :: _ :: _ :: _ :: _ :: _ :: _ :: _ :: _) rfl rfl rfl rfl rfl rfl rfl rfl rfl (fun _ hx => sub_mem (sbY (sbY (sbY (sbY (sbE _))))) hx) ?_
             refine JA_done (by kernel_rfl) ?_
             refine blockQ_n ?_
             refine retQ_mk [_, _] _ (.inl rfl) (.nil) rfl (Le.trans (Le.trans (Le.trans (Le.trans (Le.trans h1 h2) h3) h4) h5) h41) (fun sR hS2 => ?_)
             exfalso; omega
            ·
             refine JC_skip ?_
             refine blockQ_n ?_
             refine retQ_mk [_, _] _ (.inl rfl) (.nil) rfl (Le.trans (Le.trans (Le.trans (Le.trans h1 h2) h3) h4) h5) (fun sR hS2 => ?_)
             exfalso; omega
          ·
           refine JC_region ?_
           refine JO_q (QE_mv rfl) rfl ?_
           refine JO_q (QE_ld1 0 rfl rfl rfl rfl rfl) rfl ?_
           refine JO_q (QE_nil rfl) rfl ?_
           refine JO_q (QE_fa0 rfl rfl rfl rfl) rfl ?_
           refine JO_q (QE_ldsR0 rfl rfl rfl (hca.le (Le.trans (Le.trans (Le.trans (Le.trans h1 h2) h3) h4) h5)) rfl) rfl ?_
           refine JO_q (QE_mv rfl) rfl ?_
           refine JO_q (QE_mv rfl) rfl ?_
           refine JO_call (first := []) (captured := []) rfl rfl rfl (compute_ac D _ _ _ _ _ hux huy (by have := ha.kind; omega)) ?_
           rintro _ _ s42 h42 ⟨rfl, rfl⟩
           refine JO_call (first := []) (captured := [_, _]) rfl rfl rfl (set_ac D _ _ _ _ _ _ _ _ _ _ _ _ _ _ _ _ _ _ _ hsm _ a ba oa _ _ (hca.le (Le.trans (Le.trans (Le.trans (Le.trans (Le.trans h1 h2) h3) h4) h5) h42)) ha.to) ?_
           rintro _ _ s43 h43 ⟨rfl, rfl⟩
           refine JO_nil ?_
           refine blockQ_n ?_
           refine retQ_mk [_, _] _ (.inl rfl) (.nil) rfl (Le.trans (Le.trans (Le.trans (Le.trans (Le.trans (Le.trans h1 h2) h3) h4) h5) h42) h43) (fun sR hS2 => ?_)
           exfalso; omega
         ·
          refine JC_region ?_
          refine JO_q (QE_eq rfl rfl) rfl ?_
          refine JO_q (QE_as rfl) rfl ?_
          refine JO_nil ?_
          refine thenQ_n ?_
          refine JC_ifD rfl (fun c44 => ?_) (fun c44 => ?_)
          ·
           refine JC_seq ?_
           refine JC_region ?_
           refine JO_q (QE_ld1 0 rfl rfl rfl rfl rfl) rfl ?_
           refine JO_q (QE_nil rfl) rfl ?_
           refine JO_q (QE_fa0 rfl rfl rfl rfl) rfl ?_
           refine JO_q (QE_ldsR0 rfl rfl rfl (hca.le (Le.trans (Le.trans (Le.trans (Le.trans h1 h2) h3) h4) h5)) rfl) rfl ?_
           refine JO_q (QE_eq rfl rfl) rfl ?_
           refine JO_q (QE_mv rfl) rfl ?_
           refine JO_caseD (t := 172) rfl (fun c45 => ?_) (fun c45 => ?_)
           ·
            refine JO_gF rfl rfl rfl rfl ?_
            refine JO_gF rfl rfl rfl rfl ?_
            refine JO_q (QE_pickT rfl rfl) rfl ?_
            refine JO_nil ?_
            refine thenQ_n ?_
            refine JC_ifT rfl ?_
            refine JC_drawE drawsMixed 11 rfl [2] (by intro x hx; exact eraseAll_mem hx) ?_
            intro s46 h46
            refine JA_q 0 rfl (by kernel_rfl) (by kernel_rfl) (by kernel_rfl) trivial (QE_ld1 1 rfl rfl rfl rfl rfl) rfl ?_
            refine JA_q 1 rfl (by kernel_rfl) (by kernel_rfl) (by kernel_rfl) trivial (QE_ld1 1 rfl rfl rfl rfl rfl) rfl ?_
            refine JA_q 2 rfl (by kernel_rfl) (by kernel_rfl) (by kernel_rfl) trivial (QE_mv rfl) rfl ?_
            refine JA_q 3 rfl (by kernel_rfl) (by kernel_rfl) (by kernel_rfl) trivial (QE_nil rfl) rfl ?_
            refine JA_q 4 rfl (by kernel_rfl) (by kernel_rfl) (by kernel_rfl) trivial (QE_fa0 rfl rfl rfl rfl) rfl ?_
            refine JA_q 5 rfl (by kernel_rfl) (by kernel_rfl) (by kernel_rfl) trivial (QE_faB rfl rfl rfl rfl) rfl ?_
            refine JA_1 6 (by kernel_rfl) ?_
            refine JB_st rfl trivial 2 (_ :: _ :: _ :: _ :: _ :: _ :: _ :: _ :: _ :: _ :: _ :: _) rfl rfl rfl rfl rfl rfl rfl rfl rfl (fun _ hx => sub_mem (sbY (sbY (sbY (sbY (sbE _))))) hx) ?_
            refine JA_q 7 rfl (by kernel_rfl) (by kernel_rfl) (by kernel_rfl) trivial (QE_nil rfl) rfl ?_
            refine JA_q 8 rfl (by kernel_rfl) (by kernel_rfl) (by kernel_rfl) trivial (QE_fa0 rfl rfl rfl rfl) rfl ?_
            refine JA_q 9 rfl (by kernel_rfl) (by kernel_rfl) (by kernel_rfl) trivial (QE_faB rfl rfl rfl rfl) rfl ?_
            refine JA_1 10 (by kernel_rfl) ?_
            refine JB_st rfl trivial 2 (_ :: _ :: _ :: _ :: _ :: _ :: _ :: _ :: _ :: _ :: _ :: _) rfl rfl rfl rfl rfl rfl rfl rfl rfl (fun _ hx => sub_mem (sbY (sbY (sbY (sbY (sbE _))))) hx) ?_
            refine JA_done (by kernel_rfl) ?_
            refine blockQ_n ?_
            refine retQ_mk [_, _] _ (.inl rfl) (.nil) rfl (Le.trans (Le.trans (Le.trans (Le.trans (Le.trans h1 h2) h3) h4) h5) h46) (fun sR hS2 => ?_)
            exfalso; omega
           ·
            refine JO_gT rfl rfl ?_
            refine JO_q (QE_mv rfl) rfl ?_
            refine JO_gT rfl rfl ?_
            refine JO_q (QE_eq rfl rfl) rfl ?_
            refine JO_q (QE_pickF rfl rfl) rfl ?_
            refine JO_nil ?_
            refine thenQ_n ?_
            refine JC_ifD rfl (fun c47 => ?_) (fun c47 => ?_)
            ·
             refine JC_drawE drawsMixed 11 rfl [2] (by intro x hx; exact eraseAll_mem hx) ?_
             intro s48 h48
             refine JA_q 0 rfl (by kernel_rfl) (by kernel_rfl) (by kernel_rfl) trivial (QE_ld1 1 rfl rfl rfl rfl rfl) rfl ?_
             refine JA_q 1 rfl (by kernel_rfl) (by kernel_rfl) (by kernel_rfl) trivial (QE_ld1 1 rfl rfl rfl rfl rfl) rfl ?_
             refine JA_q 2 rfl (by kernel_rfl) (by kernel_rfl) (by kernel_rfl) trivial (QE_mv rfl) rfl ?_
             refine JA_q 3 rfl (by kernel_rfl) (by kernel_rfl) (by kernel_rfl) trivial (QE_nil rfl) rfl ?_
             refine JA_q 4 rfl (by kernel_rfl) (by kernel_rfl) (by kernel_rfl) trivial (QE_fa0 rfl rfl rfl rfl) rfl ?_
             refine JA_q 5 rfl (by kernel_rfl) (by kernel_rfl) (by kernel_rfl) trivial (QE_faB rfl rfl rfl rfl) rfl ?_
             refine JA_1 6 (by kernel_rfl) ?_
             refine JB_st rfl trivial 2 (_ :: _ :: _ :: _ :: _ :: _ :: _ :: _ :: _ :: _ :: _ :: _) rfl rfl rfl rfl rfl rfl rfl rfl rfl (fun _ hx => sub_mem (sbY (sbY (sbY (sbY (sbE _))))) hx) ?_
             refine JA_q 7 rfl (by kernel_rfl) (by kernel_rfl) (by kernel_rfl) trivial (QE_nil rfl) rfl ?_
             refine JA_q 8 rfl (by kernel_rfl) (by kernel_rfl) (by kernel_rfl) trivial (QE_fa0 rfl rfl rfl rfl) rfl ?_
             refine JA_q 9 rfl (by kernel_rfl) (by kernel_rfl) (by kernel_rfl) trivial (QE_faB rfl rfl rfl rfl) rfl ?_
             refine JA_1 10 (by kernel_rfl) ?_
             refine JB_st rfl trivial 2 (_ :: _ :: _ :: _ :: _ :: _ :: _ :: _ :: _ :: _ :: _ :: _) rfl rfl rfl rfl rfl rfl rfl rfl rfl (fun _ hx => sub_mem (sbY (sbY (sbY (sbY (sbE _))))) hx) ?_
             refine JA_done (by kernel_rfl) ?_
             refine blockQ_n ?_
             refine retQ_mk [_, _] _ (.inl rfl) (.nil) rfl (Le.trans (Le.trans (Le.trans (Le.trans (Le.trans h1 h2) h3) h4) h5) h48) (fun sR hS2 => ?_)
             exfalso; omega
            ·
             refine JC_skip ?_
             refine blockQ_n ?_
             refine retQ_mk [_, _] _ (.inl rfl) (.nil) rfl (Le.trans (Le.trans (Le.trans (Le.trans h1 h2) h3) h4) h5) (fun sR hS2 => ?_)
             exfalso; omega
          ·
           refine JC_region ?_
           refine JO_q (QE_mv rfl) rfl ?_
           refine JO_q (QE_ld1 0 rfl rfl rfl rfl rfl) rfl ?_
           refine JO_q (QE_nil rfl) rfl ?_
           refine JO_q (QE_fa0 rfl rfl rfl rfl) rfl ?_
           refine JO_q (QE_ldsR0 rfl rfl rfl (hca.le (Le.trans (Le.trans (Le.trans (Le.trans h1 h2) h3) h4) h5)) rfl) rfl ?_
           refine JO_q (QE_mv rfl) rfl ?_
           refine JO_q (QE_mv rfl) rfl ?_
           refine JO_call (first := []) (captured := []) rfl rfl rfl (compute_ac D _ _ _ _ _ hux huy (by have := ha.kind; omega)) ?_
           rintro _ _ s49 h49 ⟨rfl, rfl⟩
           refine JO_call (first := []) (captured := [_, _]) rfl rfl rfl (set_ac D _ _ _ _ _ _ _ _ _ _ _ _ _ _ _ _ _ _ _ hsm _ a ba oa _ _ (hca.le (Le.trans (Le.trans (Le.trans (Le.trans (Le.trans h1 h2) h3) h4) h5) h49)) ha.to) ?_
           rintro _ _ s50 h50 ⟨rfl, rfl⟩
           refine JO_nil ?_
           refine blockQ_n ?_
           refine retQ_mk [_, _] _ (.inl rfl) (.nil) rfl (Le.trans (Le.trans (Le.trans (Le.trans (Le.trans (Le.trans h1 h2) h3) h4) h5) h49) h50) (fun sR hS2 => ?_)
           exfalso; omega
     ·
      refine JC_region ?_
      refine JO_q (QE_eq rfl rfl) rfl ?_
      refine JO_q (QE_as rfl) rfl ?_
      refine JO_nil ?_
      refine thenQ_n ?_
      refine JC_ifD rfl (fun c51 => ?_) (fun c51 => ?_)
      ·
       refine JC_block ?_
       refine JC_seq ?_
       refine JC_region ?_
       refine JO_q (QE_ld1 1 rfl rfl rfl rfl rfl) rfl ?_
       refine JO_q (QE_mv rfl) rfl ?_
       refine JO_call (first := []) (captured := []) rfl rfl rfl (AC.mid [_, _] [_] _ (isCell_ac D _ _ _ _ _ _ _ _ _ _ _ _ _ _ _ _ _ _ _ hsm _ hux hnc)) ?_
       rintro _ _ s52 h52 ⟨_, rfl, rfl, rfl⟩
       simp only [List.cons_append, List.nil_append]
       refine JO_q (QE_not rfl) rfl ?_
       refine JO_q (QE_as rfl) rfl ?_
       refine JO_nil ?_
       refine thenQ_n ?_
       refine JC_ifN rfl (fun c53 => ?_) (fun c53 => ?_)
       ·
        refine JC_region ?_
        refine JO_q (QE_ld1 1 rfl rfl rfl rfl rfl) rfl ?_
        refine JO_q (QE_nil rfl) rfl ?_
        refine JO_q (QE_fa0 rfl rfl rfl rfl) rfl ?_
        refine JO_q (QE_faB rfl rfl rfl rfl) rfl ?_
        refine JO_st 2 (_ :: _ :: _ :: _ :: _ :: _ :: _ :: _ :: _ :: _ :: _ :: _) rfl rfl rfl rfl rfl rfl rfl rfl rfl ?_
        refine JO_nil ?_
        refine blockQ_n ?_
        refine blockQ_n ?_
        refine retQ_mk [_, _] _ (.inl rfl) (.nil) rfl (Le.trans (Le.trans (Le.trans (Le.trans (Le.trans h1 h2) h3) h4) h5) h52) (fun sR hS2 => ?_)
        exfalso; omega
       ·
        refine JC_seq ?_
        refine JC_region ?_
        refine JO_q (QE_ld1 0 rfl rfl rfl rfl rfl) rfl ?_
        refine JO_q (QE_nil rfl) rfl ?_
        refine JO_q (QE_fa0 rfl rfl rfl rfl) rfl ?_
        refine JO_q (QE_ldsR0 rfl rfl rfl (hca.le (Le.trans (Le.trans (Le.trans (Le.trans (Le.trans h1 h2) h3) h4) h5) h52)) rfl) rfl ?_
        refine JO_q (QE_eq rfl rfl) rfl ?_
        refine JO_q (QE_as rfl) rfl ?_
        refine JO_nil ?_
        refine thenQ_n ?_
        refine JC_ifD rfl (fun c54 => ?_) (fun c54 => ?_)
        ·
         refine JC_region ?_
         refine JO_q (QE_mv rfl) rfl ?_
         refine JO_q (QE_ld1 1 rfl rfl rfl rfl rfl) rfl ?_
         refine JO_q (QE_nil rfl) rfl ?_
         refine JO_q (QE_fa0 rfl rfl rfl rfl) rfl ?_
         refine JO_q (QE_fa0 rfl rfl rfl rfl) rfl ?_
         refine JO_q (QE_ld1 2 rfl rfl rfl rfl rfl) rfl ?_
         refine JO_q (QE_mv rfl) rfl ?_
         refine JO_q (QE_iaS rfl rfl rfl rfl rfl rfl hux1 (by assumption)) rfl ?_
         refine JO_q (QE_ld1 3 rfl rfl rfl rfl (nth_wv0 hux1 (by assumption))) rfl ?_
         refine JO_call (first := []) (captured := [_, _]) rfl rfl rfl (set_ac D _ _ _ _ _ _ _ _ _ _ _ _ _ _ _ _ _ _ _ hsm _ a ba oa _ _ (hca.le (Le.trans (Le.trans (Le.trans (Le.trans (Le.trans h1 h2) h3) h4) h5) h52)) ha.to) ?_
         rintro _ _ s55 h55 ⟨rfl, rfl⟩
         refine JO_nil ?_
         refine blockQ_n ?_
         refine blockQ_n ?_
         refine retQ_mk [_, _] _ (.inl rfl) (.nil) rfl (Le.trans (Le.trans (Le.trans (Le.trans (Le.trans (Le.trans h1 h2) h3) h4) h5) h52) h55) (fun sR hS2 => ?_)
         exfalso; omega
        ·
         refine JC_region ?_
         refine JO_q (QE_ld1 1 rfl rfl rfl rfl rfl) rfl ?_
         refine JO_q (QE_nil rfl) rfl ?_
         refine JO_q (QE_fa0 rfl rfl rfl rfl) rfl ?_
         refine JO_q (QE_fa0 rfl rfl rfl rfl) rfl ?_
         refine JO_q (QE_ld1 2 rfl rfl rfl rfl rfl) rfl ?_
         refine JO_q (QE_mv rfl) rfl ?_
         refine JO_q (QE_mv rfl) rfl ?_
         refine JO_q (QE_iaS rfl rfl rfl rfl rfl rfl hux1 (by assumption)) rfl ?_
         refine JO_st 3 _ rfl rfl rfl rfl rfl (ble_wv0 hux1 (by assumption)) rfl (spl_wv0 _ hux1 (by assumption)) rfl ?_
         refine JO_nil ?_
         refine blockQ_n ?_
         refine blockQ_n ?_
         refine retQ_mk [_, _] _ (.inl rfl) (.nil) rfl (Le.trans (Le.trans (Le.trans (Le.trans (Le.trans h1 h2) h3) h4) h5) h52) (fun sR hS2 => ?_)
         exfalso; omega
      ·
       refine JC_seq ?_
       refine JC_region ?_
       refine JO_q (QE_eq rfl rfl) rfl ?_
       refine JO_q (QE_as rfl) rfl ?_
       refine JO_nil ?_
       refine thenQ_n ?_
       refine JC_ifD rfl (fun c57 => ?_) (fun c57 => ?_)
       ·
        refine JC_seq ?_
        refine JC_seq ?_
        refine JC_region ?_
        refine JO_q (QE_ld1 1 rfl rfl rfl rfl rfl) rfl ?_
        refine JO_q (QE_nil rfl) rfl ?_
        refine JO_q (QE_fa0 rfl rfl rfl rfl) rfl ?_
        refine JO_q (QE_faB rfl rfl rfl rfl) rfl ?_
        refine JO_q (QE_ld1 2 rfl rfl rfl rfl rfl) rfl ?_
        refine JO_q (QE_lenS rfl rfl rfl) rfl ?_
        refine JO_q (QE_eq rfl rfl) rfl ?_
        refine JO_nil ?_
        refine thenQ_n ?_
        refine JC_ifD rfl (fun c58 => ?_) (fun c58 => ?_)
        ·
         refine JC_seq ?_
         refine JC_region ?_
         refine JO_q (QE_mv rfl) rfl ?_
         refine JO_call (first := []) (captured := [_, _]) rfl rfl rfl (set_ac D _ _ _ _ _ _ _ _ _ _ _ _ _ _ _ _ _ _ _ hsm _ a ba oa _ _ (hca.le (Le.trans (Le.trans (Le.trans (Le.trans h1 h2) h3) h4) h5)) ha.to) ?_
         rintro _ _ s59 h59 ⟨rfl, rfl⟩
         refine JO_nil ?_
         refine thenQ_n ?_
         refine JC_ret ?_
         refine thenQ_r ?_
         refine blockQ_r ?_
         refine retQ_mk [_, _] _ (.inr rfl) (.nil) rfl (Le.trans (Le.trans (Le.trans (Le.trans (Le.trans h1 h2) h3) h4) h5) h59) (fun sR hS2 => ?_)
         exfalso; omega
        ·
         obtain ⟨bi, oi, xi, rfl, hxi, hci⟩ := Bts.at_ (hI.le (Le.trans (Le.trans (Le.trans (Le.trans h1 h2) h3) h4) h5)) (show 0 < ni by omega)
         refine JC_skip ?_
         refine thenQ_n ?_
         refine JC_seq ?_
         refine JC_region ?_
         refine JO_q (QE_mv rfl) rfl ?_
         refine JO_q (QE_ld1 1 rfl rfl rfl rfl rfl) rfl ?_
         refine JO_q (QE_nil rfl) rfl ?_
         refine JO_q (QE_fa0 rfl rfl rfl rfl) rfl ?_
         refine JO_q (QE_faB rfl rfl rfl rfl) rfl ?_
         refine JO_q (QE_ld1 2 rfl rfl rfl rfl rfl) rfl ?_
         refine JO_q (QE_iaS rfl rfl rfl rfl rfl rfl (by decide) (by omega)) rfl ?_
         refine JO_q (QE_ldsR0 rfl rfl rfl (hci.le (Le.refl (D := D) _)) rfl) rfl ?_
         refine JO_q (QE_conv' rfl rfl rfl rfl rfl (w32_in (by omega) (by have := xi.toNat_lt; omega))) rfl ?_
         refine JO_call (first := []) (captured := [_, _]) rfl rfl rfl (set_ac D _ _ _ _ _ _ _ _ _ _ _ _ _ _ _ _ _ _ _ hsm _ a ba oa _ _ (hca.le (Le.trans (Le.trans (Le.trans (Le.trans h1 h2) h3) h4) h5)) ha.to) ?_
         rintro _ _ s60 h60 ⟨rfl, rfl⟩
         refine JO_nil ?_
         refine thenQ_n ?_
         refine JC_drawE drawsMixed 11 rfl [2] (by intro x hx; exact eraseAll_mem hx) ?_
         intro s61 h61
         refine JA_q 0 rfl (by kernel_rfl) (by kernel_rfl) (by kernel_rfl) trivial (QE_ld1 1 rfl rfl rfl rfl rfl) rfl ?_
         refine JA_q 1 rfl (by kernel_rfl) (by kernel_rfl) (by kernel_rfl) trivial (QE_ld1 1 rfl rfl rfl rfl rfl) rfl ?_
         refine JA_q 2 rfl (by kernel_rfl) (by kernel_rfl) (by kernel_rfl) trivial (QE_nil rfl) rfl ?_
         refine JA_q 3 rfl (by kernel_rfl) (by kernel_rfl) (by kernel_rfl) trivial (QE_fa0 rfl rfl rfl rfl) rfl ?_
         refine JA_q 4 rfl (by kernel_rfl) (by kernel_rfl) (by kernel_rfl) trivial (QE_faB rfl rfl rfl rfl) rfl ?_
         refine JA_1 5 (by kernel_rfl) ?_
         refine JB_q rfl trivial (QE_ld1 2 rfl rfl rfl rfl rfl) rfl ?_
         refine JA_q 6 rfl (by kernel_rfl) (by kernel_rfl) (by kernel_rfl) trivial (QE_slL (j := 1) rfl rfl rfl rfl rfl (by omega)) rfl ?_
         refine JA_q 7 rfl (by kernel_rfl) (by kernel_rfl) (by kernel_rfl) trivial (QE_nil rfl) rfl ?_
         refine JA_q 8 rfl (by kernel_rfl) (by kernel_rfl) (by kernel_rfl) trivial (QE_fa0 rfl rfl rfl rfl) rfl ?_
         refine JA_q 9 rfl (by kernel_rfl) (by kernel_rfl) (by kernel_rfl) trivial (QE_faB rfl rfl rfl rfl) rfl ?_
         refine JA_1 10 (by kernel_rfl) ?_
         refine JB_st rfl trivial 2 (_ :: _ :: _ :: _ :: _ :: _ :: _ :: _ :: _ :: _ :: _ :: _) rfl rfl rfl rfl rfl rfl rfl rfl rfl (fun _ hx => sub_mem (sbY (sbY (sbY (sbY (sbE _))))) hx) ?_
         refine JA_done (by kernel_rfl) ?_
         refine blockQ_n ?_
         refine retQ_mk [_, _] _ (.inl rfl) (.nil) rfl (Le.trans (Le.trans (Le.trans (Le.trans (Le.trans (Le.trans h1 h2) h3) h4) h5) h60) h61) (fun sR hS2 => ?_)
         exfalso; omega
       ·
        refine JC_seq ?_
        refine JC_region ?_
        refine JO_q (QE_eq rfl rfl) rfl ?_
        refine JO_q (QE_as rfl) rfl ?_
        refine JO_nil ?_
        refine thenQ_n ?_
        refine JC_ifD rfl (fun c62 => ?_) (fun c62 => ?_)
        ·
         refine JC_seq ?_
         refine JC_seq ?_
         refine JC_region ?_
         refine JO_q (QE_ld1 1 rfl rfl rfl rfl rfl) rfl ?_
         refine JO_q (QE_nil rfl) rfl ?_
         refine JO_q (QE_fa0 rfl rfl rfl rfl) rfl ?_
         refine JO_q (QE_faB rfl rfl rfl rfl) rfl ?_
         refine JO_q (QE_ld1 2 rfl rfl rfl rfl rfl) rfl ?_
         refine JO_q (QE_lenS rfl rfl rfl) rfl ?_
         refine JO_q (QE_ge rfl rfl) rfl ?_
         refine JO_nil ?_
         refine thenQ_n ?_
         refine JC_ifD rfl (fun c63 => ?_) (fun c63 => ?_)
         ·
          refine JC_seq ?_
          refine JC_region ?_
          refine JO_q (QE_ld1 1 rfl rfl rfl rfl rfl) rfl ?_
          refine JO_q (QE_nil rfl) rfl ?_
          refine JO_q (QE_fa0 rfl rfl rfl rfl) rfl ?_
          refine JO_q (QE_faB rfl rfl rfl rfl) rfl ?_
          refine JO_st 2 (_ :: _ :: _ :: _ :: _ :: _ :: _ :: _ :: _ :: _ :: _ :: _) rfl rfl rfl rfl rfl rfl rfl rfl rfl ?_
          refine JO_nil ?_
          refine thenQ_n ?_
          refine JC_ret ?_
          refine thenQ_r ?_
          refine blockQ_r ?_
          refine retQ_mk [_, _] _ (.inr rfl) (.nil) rfl (Le.trans (Le.trans (Le.trans (Le.trans h1 h2) h3) h4) h5) (fun sR hS2 => ?_)
          exfalso; omega
         ·
          refine JC_skip ?_
          refine thenQ_n ?_
          refine JC_drawT drawsMixed 14 rfl 2 ?_
          intro s64 h64
          refine JA_q 0 rfl (by kernel_rfl) (by kernel_rfl) (by kernel_rfl) trivial (QE_ld1 1 rfl rfl rfl rfl rfl) rfl ?_
          refine JA_q 1 rfl (by kernel_rfl) (by kernel_rfl) (by kernel_rfl) trivial (QE_ld1 1 rfl rfl rfl rfl rfl) rfl ?_
          refine JA_q 2 rfl (by kernel_rfl) (by kernel_rfl) (by kernel_rfl) trivial (QE_nil rfl) rfl ?_
          refine JA_q 3 rfl (by kernel_rfl) (by kernel_rfl) (by kernel_rfl) trivial (QE_fa0 rfl rfl rfl rfl) rfl ?_
          refine JA_q 4 rfl (by kernel_rfl) (by kernel_rfl) (by kernel_rfl) trivial (QE_faB rfl rfl rfl rfl) rfl ?_
          refine JA_q 6 rfl (by kernel_rfl) (by kernel_rfl) (by kernel_rfl) trivial (QE_mv rfl) rfl ?_
          refine JA_q 7 rfl (by kernel_rfl) (by kernel_rfl) (by kernel_rfl) trivial (QE_cast (QE_conv rfl rfl rfl rfl rfl) (congrArg (Value.int .u8) (byteW hux))) rfl ?_
          refine JA_2 5 8 (by kernel_rfl) ?_ ?_
          ·
           refine JB_q rfl trivial (QE_ld1 2 rfl rfl rfl rfl rfl) rfl ?_
           refine JA_1 8 (by kernel_rfl) ?_
           refine JB_bs rfl trivial [(_, _)] [_] rfl rfl rfl rfl rfl rfl rfl rfl rfl ?_
           intro βn s65 h65 hcn
           refine JA_1 9 (by kernel_rfl) ?_
           refine JB_app (sz := 1) rfl trivial [_, _, _, _, _] O _ rfl rfl rfl rfl rfl rfl rfl hO (Row.of_cells (hcn.le (Le.refl (D := D) _)) rfl rfl) ⟨by simp [ti5]; omega, by omega⟩ rfl (fun A2 x hx _ => List.mem_append_left _ (by simp at hx ⊢; grind)) ?_
           intro v1 A1 s66 h66 o1
           obtain ⟨Ao1, co1, rfl, ko1, ko2⟩ := Own.slice o1
           simp only [List.cons_append, List.nil_append]
           refine JA_q 10 rfl (by kernel_rfl) (by kernel_rfl) (by kernel_rfl) trivial (QE_nil rfl) rfl ?_
           refine JA_q 11 rfl (by kernel_rfl) (by kernel_rfl) (by kernel_rfl) trivial (QE_fa0 rfl rfl rfl rfl) rfl ?_
           refine JA_q 12 rfl (by kernel_rfl) (by kernel_rfl) (by kernel_rfl) trivial (QE_faB rfl rfl rfl rfl) rfl ?_
           refine JA_1 13 (by kernel_rfl) ?_
           refine JB_st rfl trivial 2 (_ :: _ :: _ :: _ :: _ :: _ :: _ :: _ :: _ :: _ :: _ :: _) rfl rfl rfl rfl rfl rfl rfl rfl rfl (fun _ hx => sub_mem (sbY (sbY (sb0 _))) hx) ?_
           refine JA_done (by kernel_rfl) ?_
           refine blockQ_n ?_
           refine retQ_mk [_, _] _ (.inl rfl) (.nil) rfl (Le.trans (Le.trans (Le.trans (Le.trans (Le.trans (Le.trans (Le.trans h1 h2) h3) h4) h5) h64) h65) h66) (fun sR hS2 => ?_)
           exfalso; omega
          ·
           refine JB_bs rfl trivial [(_, _)] [_] rfl rfl rfl rfl rfl rfl rfl rfl rfl ?_
           intro βn s67 h67 hcn
           refine JA_1 5 (by kernel_rfl) ?_
           refine JB_q rfl trivial (QE_ld1 2 rfl rfl rfl rfl rfl) rfl ?_
           refine JA_1 9 (by kernel_rfl) ?_
           refine JB_app (sz := 1) rfl trivial [_, _, _, _, _] O _ rfl rfl rfl rfl rfl rfl rfl hO (Row.of_cells (hcn.le (Le.refl (D := D) _)) rfl rfl) ⟨by simp [ti5]; omega, by omega⟩ rfl (fun A2 x hx _ => List.mem_append_left _ (by simp at hx ⊢; grind)) ?_
           intro v1 A1 s68 h68 o1
           obtain ⟨Ao1, co1, rfl, ko1, ko2⟩ := Own.slice o1
           simp only [List.cons_append, List.nil_append]
           refine JA_q 10 rfl (by kernel_rfl) (by kernel_rfl) (by kernel_rfl) trivial (QE_nil rfl) rfl ?_
           refine JA_q 11 rfl (by kernel_rfl) (by kernel_rfl) (by kernel_rfl) trivial (QE_fa0 rfl rfl rfl rfl) rfl ?_
           refine JA_q 12 rfl (by kernel_rfl) (by kernel_rfl) (by kernel_rfl) trivial (QE_faB rfl rfl rfl rfl) rfl ?_
           refine JA_1 13 (by kernel_rfl) ?_
           refine JB_st rfl trivial 2 (_ :: _ :: _ :: _ :: _ :: _ :: _ :: _ :: _ :: _ :: _ :: _) rfl rfl rfl rfl rfl rfl rfl rfl rfl (fun _ hx => sub_mem (sbY (sbY (sb0 _))) hx) ?_
           refine JA_done (by kernel_rfl) ?_
           refine blockQ_n ?_
           refine retQ_mk [_, _] _ (.inl rfl) (.nil) rfl (Le.trans (Le.trans (Le.trans (Le.trans (Le.trans (Le.trans (Le.trans h1 h2) h3) h4) h5) h64) h67) h68) (fun sR hS2 => ?_)
           exfalso; omega
        ·
         refine JC_seq ?_
         refine JC_seq ?_
         refine JC_region ?_
         refine JO_q (QE_eq rfl rfl) rfl ?_
         refine JO_q (QE_as rfl) rfl ?_
         refine JO_nil ?_
         refine thenQ_n ?_
         refine JC_ifD rfl (fun c69 => ?_) (fun c69 => ?_)
         ·
          refine JC_skip ?_
          refine thenQ_n ?_
          refine JC_ifD rfl (fun c70 => ?_) (fun c70 => ?_)
          ·
           refine JC_seq ?_
           refine JC_region ?_
           refine JO_q (QE_ld1 0 rfl rfl rfl rfl rfl) rfl ?_
           refine JO_q (QE_nil rfl) rfl ?_
           refine JO_q (QE_fa0 rfl rfl rfl rfl) rfl ?_
           refine JO_q (QE_ldsR0 rfl rfl rfl (hca.le (Le.trans (Le.trans (Le.trans (Le.trans h1 h2) h3) h4) h5)) rfl) rfl ?_
           refine JO_q (QE_eq rfl rfl) rfl ?_
           refine JO_q (QE_mv rfl) rfl ?_
           refine JO_caseD (t := 172) rfl (fun c71 => ?_) (fun c71 => ?_)
           ·
            refine JO_gF rfl rfl rfl rfl ?_
            refine JO_gF rfl rfl rfl rfl ?_
            refine JO_q (QE_pickT rfl rfl) rfl ?_
            refine JO_nil ?_
            refine thenQ_n ?_
            refine JC_ifT rfl ?_
            refine JC_drawE drawsMixed 11 rfl [2] (by intro x hx; exact eraseAll_mem hx) ?_
            intro s72 h72
            refine JA_q 0 rfl (by kernel_rfl) (by kernel_rfl) (by kernel_rfl) trivial (QE_ld1 1 rfl rfl rfl rfl rfl) rfl ?_
            refine JA_q 1 rfl (by kernel_rfl) (by kernel_rfl) (by kernel_rfl) trivial (QE_ld1 1 rfl rfl rfl rfl rfl) rfl ?_
            refine JA_q 2 rfl (by kernel_rfl) (by kernel_rfl) (by kernel_rfl) trivial (QE_mv rfl) rfl ?_
            refine JA_q 3 rfl (by kernel_rfl) (by kernel_rfl) (by kernel_rfl) trivial (QE_nil rfl) rfl ?_
            refine JA_q 4 rfl (by kernel_rfl) (by kernel_rfl) (by kernel_rfl) trivial (QE_fa0 rfl rfl rfl rfl) rfl ?_
            refine JA_q 5 rfl (by kernel_rfl) (by kernel_rfl) (by kernel_rfl) trivial (QE_faB rfl rfl rfl rfl) rfl ?_
            refine JA_1 6 (by kernel_rfl) ?_
            refine JB_st rfl trivial 2 (_ :: _ :: _ :: _ :: _ :: _ :: _ :: _ :: _ :: _ :: _ :: _) rfl rfl rfl rfl rfl rfl rfl rfl rfl (fun _ hx => sub_mem (sbY (sbY (sbY (sbY (sbE _))))) hx) ?_
            refine JA_q 7 rfl (by kernel_rfl) (by kernel_rfl) (by kernel_rfl) trivial (QE_nil rfl) rfl ?_
            refine JA_q 8 rfl (by kernel_rfl) (by kernel_rfl) (by kernel_rfl) trivial (QE_fa0 rfl rfl rfl rfl) rfl ?_
            refine JA_q 9 rfl (by kernel_rfl) (by kernel_rfl) (by kernel_rfl) trivial (QE_faB rfl rfl rfl rfl) rfl ?_
            refine JA_1 10 (by kernel_rfl) ?_
            refine JB_st rfl trivial 2 (_ :: _ :: _ :: _ :: _ :: _ :: _ :: _ :: _ :: _ :: _ :: _) rfl rfl rfl rfl rfl rfl rfl rfl rfl (fun _ hx => sub_mem (sbY (sbY (sbY (sbY (sbE _))))) hx) ?_
            refine JA_done (by kernel_rfl) ?_
            refine blockQ_n ?_
            refine retQ_mk [_, _] _ (.inl rfl) (.nil) rfl (Le.trans (Le.trans (Le.trans (Le.trans (Le.trans h1 h2) h3) h4) h5) h72) (fun sR hS2 => ?_)
            exfalso; omega
           ·
            refine JO_gT rfl rfl ?_
            refine JO_q (QE_mv rfl) rfl ?_
            refine JO_gT rfl rfl ?_
            refine JO_q (QE_eq rfl rfl) rfl ?_
            refine JO_q (QE_pickF rfl rfl) rfl ?_
            refine JO_nil ?_
            refine thenQ_n ?_
            refine JC_ifD rfl (fun c73 => ?_) (fun c73 => ?_)
            ·
             refine JC_drawE drawsMixed 11 rfl [2] (by intro x hx; exact eraseAll_mem hx) ?_
             intro s74 h74
             refine JA_q 0 rfl (by kernel_rfl) (by kernel_rfl) (by kernel_rfl) trivial (QE_ld1 1 rfl rfl rfl rfl rfl) rfl ?_
             refine JA_q 1 rfl (by kernel_rfl) (by kernel_rfl) (by kernel_rfl) trivial (QE_ld1 1 rfl rfl rfl rfl rfl) rfl ?_
             refine JA_q 2 rfl (by kernel_rfl) (by kernel_rfl) (by kernel_rfl) trivial (QE_mv rfl) rfl ?_
             refine JA_q 3 rfl (by kernel_rfl) (by kernel_rfl) (by kernel_rfl) trivial (QE_nil rfl) rfl ?_
             refine JA_q 4 rfl (by kernel_rfl) (by kernel_rfl) (by kernel_rfl) trivial (QE_fa0 rfl rfl rfl rfl) rfl ?_
             refine JA_q 5 rfl (by kernel_rfl) (by kernel_rfl) (by kernel_rfl) trivial (QE_faB rfl rfl rfl rfl) rfl ?_
             refine JA_1 6 (by kernel_rfl) ?_
             refine JB_st rfl trivial 2 (_ :: _ :: _ :: _ :: _ :: _ :: _ :: _ :: _ :: _ :: _ :: _) rfl rfl rfl rfl rfl rfl rfl rfl rfl (fun _ hx => sub_mem (sbY (sbY (sbY (sbY (sbE _))))) hx) ?_
             refine JA_q 7 rfl (by kernel_rfl) (by kernel_rfl) (by kernel_rfl) trivial (QE_nil rfl) rfl ?_
             refine JA_q 8 rfl (by kernel_rfl) (by kernel_rfl) (by kernel_rfl) trivial (QE_fa0 rfl rfl rfl rfl) rfl ?_
             refine JA_q 9 rfl (by kernel_rfl) (by kernel_rfl) (by kernel_rfl) trivial (QE_faB rfl rfl rfl rfl) rfl ?_
             refine JA_1 10 (by kernel_rfl) ?_
             refine JB_st rfl trivial 2 (_ :: _ :: _ :: _ :: _ :: _ :: _ :: _ :: _ :: _ :: _ :: _) rfl rfl rfl rfl rfl rfl rfl rfl rfl (fun _ hx => sub_mem (sbY (sbY (sbY (sbY (sbE _))))) hx) ?_
             refine JA_done (by kernel_rfl) ?_
             refine blockQ_n ?_
             refine retQ_mk [_, _] _ (.inl rfl) (.nil) rfl (Le.trans (Le.trans (Le.trans (Le.trans (Le.trans h1 h2) h3) h4) h5) h74) (fun sR hS2 => ?_)
             exfalso; omega
            ·
             refine JC_skip ?_
             refine blockQ_n ?_
             refine retQ_mk [_, _] _ (.inl rfl) (.nil) rfl (Le.trans (Le.trans (Le.trans (Le.trans h1 h2) h3) h4) h5) (fun sR hS2 => ?_)
             exfalso; omega
          ·
           refine JC_region ?_
           refine JO_q (QE_mv rfl) rfl ?_
           refine JO_q (QE_ld1 0 rfl rfl rfl rfl rfl) rfl ?_
           refine JO_q (QE_nil rfl) rfl ?_
           refine JO_q (QE_fa0 rfl rfl rfl rfl) rfl ?_
           refine JO_q (QE_ldsR0 rfl rfl rfl (hca.le (Le.trans (Le.trans (Le.trans (Le.trans h1 h2) h3) h4) h5)) rfl) rfl ?_
           refine JO_q (QE_mv rfl) rfl ?_
           refine JO_q (QE_mv rfl) rfl ?_
           refine JO_call (first := []) (captured := []) rfl rfl rfl (compute_ac D _ _ _ _ _ hux huy (by have := ha.kind; omega)) ?_
           rintro _ _ s75 h75 ⟨rfl, rfl⟩
           refine JO_call (first := []) (captured := [_, _]) rfl rfl rfl (set_ac D _ _ _ _ _ _ _ _ _ _ _ _ _ _ _ _ _ _ _ hsm _ a ba oa _ _ (hca.le (Le.trans (Le.trans (Le.trans (Le.trans (Le.trans h1 h2) h3) h4) h5) h75)) ha.to) ?_
           rintro _ _ s76 h76 ⟨rfl, rfl⟩
           refine JO_nil ?_
           refine blockQ_n ?_
           refine retQ_mk [_, _] _ (.inl rfl) (.nil) rfl (Le.trans (Le.trans (Le.trans (Le.trans (Le.trans (Le.trans h1 h2) h3) h4) h5) h75) h76) (fun sR hS2 => ?_)
           exfalso; omega
         ·
          refine JC_region ?_
          refine JO_q (QE_eq rfl rfl) rfl ?_
          refine JO_q (QE_as rfl) rfl ?_
          refine JO_nil ?_
          refine thenQ_n ?_
          refine JC_ifD rfl (fun c77 => ?_) (fun c77 => ?_)
          ·
           refine JC_seq ?_
           refine JC_region ?_
           refine JO_q (QE_ld1 0 rfl rfl rfl rfl rfl) rfl ?_
           refine JO_q (QE_nil rfl) rfl ?_
           refine JO_q (QE_fa0 rfl rfl rfl rfl) rfl ?_
           refine JO_q (QE_ldsR0 rfl rfl rfl (hca.le (Le.trans (Le.trans (Le.trans (Le.trans h1 h2) h3) h4) h5)) rfl) rfl ?_
           refine JO_q (QE_eq rfl rfl) rfl ?_
           refine JO_q (QE_mv rfl) rfl ?_
           refine JO_caseD (t := 172) rfl (fun c78 => ?_) (fun c78 => ?_)
           ·
            refine JO_gF rfl rfl rfl rfl ?_
            refine JO_gF rfl rfl rfl rfl ?_
            refine JO_q (QE_pickT rfl rfl) rfl ?_
            refine JO_nil ?_
            refine thenQ_n ?_
            refine JC_ifT rfl ?_
            refine JC_drawE drawsMixed 11 rfl [2] (by intro x hx; exact eraseAll_mem hx) ?_
            intro s79 h79
            refine JA_q 0 rfl (by kernel_rfl) (by kernel_rfl) (by kernel_rfl) trivial (QE_ld1 1 rfl rfl rfl rfl rfl) rfl ?_
            refine JA_q 1 rfl (by kernel_rfl) (by kernel_rfl) (by kernel_rfl) trivial (QE_ld1 1 rfl rfl rfl rfl rfl) rfl ?_
            refine JA_q 2 rfl (by kernel_rfl) (by kernel_rfl) (by kernel_rfl) trivial (QE_mv rfl) rfl ?_
            refine JA_q 3 rfl (by kernel_rfl) (by kernel_rfl) (by kernel_rfl) trivial (QE_nil rfl) rfl ?_
            refine JA_q 4 rfl (by kernel_rfl) (by kernel_rfl) (by kernel_rfl) trivial (QE_fa0 rfl rfl rfl rfl) rfl ?_
            refine JA_q 5 rfl (by kernel_rfl) (by kernel_rfl) (by kernel_rfl) trivial (QE_faB rfl rfl rfl rfl) rfl ?_
            refine JA_1 6 (by kernel_rfl) ?_
            refine JB_st rfl trivial 2 (_ :: _ :: _ :: _ :: _ :: _ :: _ :: _ :: _ :: _ :: _ :: _) rfl rfl rfl rfl rfl rfl rfl rfl rfl (fun _ hx => sub_mem (sbY (sbY (sbY (sbY (sbE _))))) hx) ?_
            refine JA_q 7 rfl (by kernel_rfl) (by kernel_rfl) (by kernel_rfl) trivial (QE_nil rfl) rfl ?_
            refine JA_q 8 rfl (by kernel_rfl) (by kernel_rfl) (by kernel_rfl) trivial (QE_fa0 rfl rfl rfl rfl) rfl ?_
            refine JA_q 9 rfl (by kernel_rfl) (by kernel_rfl) (by kernel_rfl) trivial (QE_faB rfl rfl rfl rfl) rfl ?_
            refine JA_1 10 (by kernel_rfl) ?_
            refine JB_st rfl trivial 2 (_ :: _ :: _ :: _ :: _ :: _ :: _ :: _ :: _ :: _ :: _ :: _) rfl rfl rfl rfl rfl rfl rfl rfl rfl (fun _ hx => sub_mem (sbY (sbY (sbY (sbY (sbE _))))) hx) ?_
            refine JA_done (by kernel_rfl) ?_
            refine blockQ_n ?_
            refine retQ_mk [_, _] _ (.inl rfl) (.nil) rfl (Le.trans (Le.trans (Le.trans (Le.trans (Le.trans h1 h2) h3) h4) h5) h79) (fun sR hS2 => ?_)
            exfalso; omega
           ·
            refine JO_gT rfl rfl ?_
            refine JO_q (QE_mv rfl) rfl ?_
            refine JO_gT rfl rfl ?_
            refine JO_q (QE_eq rfl rfl) rfl ?_
            refine JO_q (QE_pickF rfl rfl) rfl ?_
            refine JO_nil ?_
            refine thenQ_n ?_
            refine JC_ifD rfl (fun c80 => ?_) (fun c80 => ?_)
            ·
             refine JC_drawE drawsMixed 11 rfl [2] (by intro x hx; exact eraseAll_mem hx) ?_
             intro s81 h81
             refine JA_q 0 rfl (by kernel_rfl) (by kernel_rfl) (by kernel_rfl) trivial (QE_ld1 1 rfl rfl rfl rfl rfl) rfl ?_
             refine JA_q 1 rfl (by kernel_rfl) (by kernel_rfl) (by kernel_rfl) trivial (QE_ld1 1 rfl rfl rfl rfl rfl) rfl ?_
             refine JA_q 2 rfl (by kernel_rfl) (by kernel_rfl) (by kernel_rfl) trivial (QE_mv rfl) rfl ?_
             refine JA_q 3 rfl (by kernel_rfl) (by kernel_rfl) (by kernel_rfl) trivial (QE_nil rfl) rfl ?_
             refine JA_q 4 rfl (by kernel_rfl) (by kernel_rfl) (by kernel_rfl) trivial (QE_fa0 rfl rfl rfl rfl) rfl ?_
             refine JA_q 5 rfl (by kernel_rfl) (by kernel_rfl) (by kernel_rfl) trivial (QE_faB rfl rfl rfl rfl) rfl ?_
             refine JA_1 6 (by kernel_rfl) ?_
             refine JB_st rfl trivial 2 (_ :: _ :: _ :: _ :: _ :: _ :: _ :: _ :: _ :: _ :: _ :: _) rfl rfl rfl rfl rfl rfl rfl rfl rfl (fun _ hx => sub_mem (sbY (sbY (sbY (sbY (sbE _))))) hx) ?_
             refine JA_q 7 rfl (by kernel_rfl) (by kernel_rfl) (by kernel_rfl) trivial (QE_nil rfl) rfl ?_
             refine JA_q 8 rfl (by kernel_rfl) (by kernel_rfl) (by kernel_rfl) trivial (QE_fa0 rfl rfl rfl rfl) rfl ?_
             refine JA_q 9 rfl (by kernel_rfl) (by kernel_rfl) (by kernel_rfl) trivial (QE_faB rfl rfl rfl rfl) rfl ?_
             refine JA_1 10 (by kernel_rfl) ?_
             refine JB_st rfl trivial 2 (_ :: _ :: _ :: _ :: _ :: _ :: _ :: _ :: _ :: _ :: _ :: _) rfl rfl rfl rfl rfl rfl rfl rfl rfl (fun _ hx => sub_mem (sbY (sbY (sbY (sbY (sbE _))))) hx) ?_
             refine JA_done (by kernel_rfl) ?_
             refine blockQ_n ?_
             refine retQ_mk [_, _] _ (.inl rfl) (.nil) rfl (Le.trans (Le.trans (Le.trans (Le.trans (Le.trans h1 h2) h3) h4) h5) h81) (fun sR hS2 => ?_)
             exfalso; omega
            ·
             refine JC_skip ?_
             refine blockQ_n ?_
             refine retQ_mk [_, _] _ (.inl rfl) (.nil) rfl (Le.trans (Le.trans (Le.trans (Le.trans h1 h2) h3) h4) h5) (fun sR hS2 => ?_)
             exfalso; omega
          ·
           refine JC_region ?_
           refine JO_q (QE_mv rfl) rfl ?_
           refine JO_q (QE_ld1 0 rfl rfl rfl rfl rfl) rfl ?_
           refine JO_q (QE_nil rfl) rfl ?_
           refine JO_q (QE_fa0 rfl rfl rfl rfl) rfl ?_
           refine JO_q (QE_ldsR0 rfl rfl rfl (hca.le (Le.trans (Le.trans (Le.trans (Le.trans h1 h2) h3) h4) h5)) rfl) rfl ?_
           refine JO_q (QE_mv rfl) rfl ?_
           refine JO_q (QE_mv rfl) rfl ?_
           refine JO_call (first := []) (captured := []) rfl rfl rfl (compute_ac D _ _ _ _ _ hux huy (by have := ha.kind; omega)) ?_
           rintro _ _ s82 h82 ⟨rfl, rfl⟩
           refine JO_call (first := []) (captured := [_, _]) rfl rfl rfl (set_ac D _ _ _ _ _ _ _ _ _ _ _ _ _ _ _ _ _ _ _ hsm _ a ba oa _ _ (hca.le (Le.trans (Le.trans (Le.trans (Le.trans (Le.trans h1 h2) h3) h4) h5) h82)) ha.to) ?_
           rintro _ _ s83 h83 ⟨rfl, rfl⟩
           refine JO_nil ?_
           refine blockQ_n ?_
           refine retQ_mk [_, _] _ (.inl rfl) (.nil) rfl (Le.trans (Le.trans (Le.trans (Le.trans (Le.trans (Le.trans h1 h2) h3) h4) h5) h82) h83) (fun sR hS2 => ?_)
           exfalso; omega
   ·
    refine JC_region ?_
    refine JO_q (QE_eq rfl rfl) rfl ?_
    refine JO_q (QE_as rfl) rfl ?_
    refine JO_nil ?_
    refine thenQ_n ?_
    refine JC_ifD rfl (fun c84 => ?_) (fun c84 => ?_)
    ·
     refine JC_block ?_
     refine JC_seq ?_
     refine JC_region ?_
     refine JO_q (QE_mv rfl) rfl ?_
     refine JO_q (QE_eq rfl rfl) rfl ?_
     refine JO_q (QE_as rfl) rfl ?_
     refine JO_nil ?_
     refine thenQ_n ?_
     refine JC_ifD rfl (fun c85 => ?_) (fun c85 => ?_)
     ·
      refine JC_region ?_
      refine JO_q (QE_ld1 1 rfl rfl rfl rfl rfl) rfl ?_
      refine JO_q (QE_nil rfl) rfl ?_
      refine JO_q (QE_fa0 rfl rfl rfl rfl) rfl ?_
      refine JO_q (QE_faB rfl rfl rfl rfl) rfl ?_
      refine JO_st 2 (_ :: _ :: _ :: _ :: _ :: _ :: _ :: _ :: _ :: _ :: _ :: _) rfl rfl rfl rfl rfl rfl rfl rfl rfl ?_
      refine JO_nil ?_
      refine blockQ_n ?_
      refine blockQ_n ?_
      refine retQ_mk [_, _] _ (.inl rfl) (.nil) rfl (Le.trans (Le.trans (Le.trans (Le.trans h1 h2) h3) h4) h5) (fun sR hS2 => ?_)
      refine ⟨_ :: _ :: _ :: O, rfl, rfl, ?_⟩
      rw [act_k5z (by assumption) (by assumption)]; exact ⟨bc, cc, yc, O, Ao, co, Ai, ni, ci, rfl, hO, hI.le (Le.trans (Le.trans (Le.trans (Le.trans (Le.trans h1 h2) h3) h4) h5) hS2), hcc, hcc2⟩
     ·
      refine JC_seq ?_
      refine JC_region ?_
      refine JO_q (QE_ld1 0 rfl rfl rfl rfl rfl) rfl ?_
      refine JO_q (QE_nil rfl) rfl ?_
      refine JO_q (QE_fa0 rfl rfl rfl rfl) rfl ?_
      refine JO_q (QE_ldsR0 rfl rfl rfl (hca.le (Le.trans (Le.trans (Le.trans (Le.trans h1 h2) h3) h4) h5)) rfl) rfl ?_
      refine JO_q (QE_eq rfl rfl) rfl ?_
      refine JO_q (QE_as rfl) rfl ?_
      refine JO_nil ?_
      refine thenQ_n ?_
      refine JC_ifD rfl (fun c86 => ?_) (fun c86 => ?_)
      ·
       refine JC_region ?_
       refine JO_q (QE_mv rfl) rfl ?_
       refine JO_q (QE_mv rfl) rfl ?_
       refine JO_q (QE_mv rfl) rfl ?_
       refine JO_q (QE_quo rfl rfl (by assumption)) rfl ?_
       refine JO_call (first := []) (captured := [_, _]) rfl rfl rfl (set_ac D _ _ _ _ _ _ _ _ _ _ _ _ _ _ _ _ _ _ _ hsm _ a ba oa _ _ (hca.le (Le.trans (Le.trans (Le.trans (Le.trans h1 h2) h3) h4) h5)) ha.to) ?_
       rintro _ _ s87 h87 ⟨rfl, rfl⟩
       refine JO_nil ?_
       refine blockQ_n ?_
       refine blockQ_n ?_
       refine retQ_mk [_, _] _ (.inl rfl) (.nil) rfl (Le.trans (Le.trans (Le.trans (Le.trans (Le.trans h1 h2) h3) h4) h5) h87) (fun sR hS2 => ?_)
       exfalso; omega
      ·
       refine JC_region ?_
       refine JO_q (QE_mv rfl) rfl ?_
       refine JO_q (QE_mv rfl) rfl ?_
       refine JO_q (QE_mv rfl) rfl ?_
       refine JO_q (QE_rem rfl rfl (by assumption)) rfl ?_
       refine JO_call (first := []) (captured := [_, _]) rfl rfl rfl (set_ac D _ _ _ _ _ _ _ _ _ _ _ _ _ _ _ _ _ _ _ hsm _ a ba oa _ _ (hca.le (Le.trans (Le.trans (Le.trans (Le.trans h1 h2) h3) h4) h5)) ha.to) ?_
       rintro _ _ s88 h88 ⟨rfl, rfl⟩
       refine JO_nil ?_
       refine blockQ_n ?_
       refine blockQ_n ?_
       refine retQ_mk [_, _] _ (.inl rfl) (.nil) rfl (Le.trans (Le.trans (Le.trans (Le.trans (Le.trans h1 h2) h3) h4) h5) h88) (fun sR hS2 => ?_)
       refine ⟨_ :: _ :: _ :: O, rfl, rfl, ?_⟩
       rw [act_k5 (by assumption) (by assumption), ← modW hux]; exact ⟨bc, cc, yc, O, Ao, co, Ai, ni, ci, rfl, hO, hI.le (Le.trans (Le.trans (Le.trans (Le.trans (Le.trans (Le.trans h1 h2) h3) h4) h5) h88) hS2), hcc, hcc2⟩
    ·
     refine JC_seq ?_
     refine JC_seq ?_
     refine JC_region ?_
     refine JO_q (QE_eq rfl rfl) rfl ?_
     refine JO_q (QE_as rfl) rfl ?_
     refine JO_nil ?_
     refine thenQ_n ?_
     refine JC_ifD rfl (fun c89 => ?_) (fun c89 => ?_)
     ·
      refine JC_skip ?_
      refine thenQ_n ?_
      refine JC_ifD rfl (fun c90 => ?_) (fun c90 => ?_)
      ·
       refine JC_block ?_
       refine JC_seq ?_
       refine JC_region ?_
       refine JO_q (QE_ld1 1 rfl rfl rfl rfl rfl) rfl ?_
       refine JO_q (QE_mv rfl) rfl ?_
       refine JO_call (first := []) (captured := []) rfl rfl rfl (AC.mid [_, _] [_] _ (isCell_ac D _ _ _ _ _ _ _ _ _ _ _ _ _ _ _ _ _ _ _ hsm _ hux hnc)) ?_
       rintro _ _ s91 h91 ⟨_, rfl, rfl, rfl⟩
       simp only [List.cons_append, List.nil_append]
       refine JO_q (QE_not rfl) rfl ?_
       refine JO_q (QE_as rfl) rfl ?_
       refine JO_nil ?_
       refine thenQ_n ?_
       refine JC_ifN rfl (fun c92 => ?_) (fun c92 => ?_)
       ·
        refine JC_region ?_
        refine JO_q (QE_ld1 1 rfl rfl rfl rfl rfl) rfl ?_
        refine JO_q (QE_nil rfl) rfl ?_
        refine JO_q (QE_fa0 rfl rfl rfl rfl) rfl ?_
        refine JO_q (QE_faB rfl rfl rfl rfl) rfl ?_
        refine JO_st 2 (_ :: _ :: _ :: _ :: _ :: _ :: _ :: _ :: _ :: _ :: _ :: _) rfl rfl rfl rfl rfl rfl rfl rfl rfl ?_
        refine JO_nil ?_
        refine blockQ_n ?_
        refine blockQ_n ?_
        refine retQ_mk [_, _] _ (.inl rfl) (.nil) rfl (Le.trans (Le.trans (Le.trans (Le.trans (Le.trans h1 h2) h3) h4) h5) h91) (fun sR hS2 => ?_)
        refine ⟨_ :: _ :: _ :: O, rfl, rfl, ?_⟩
        rw [act_k13f (by assumption) (by assumption)]; exact ⟨bc, cc, yc, O, Ao, co, Ai, ni, ci, rfl, hO, hI.le (Le.trans (Le.trans (Le.trans (Le.trans (Le.trans (Le.trans h1 h2) h3) h4) h5) h91) hS2), hcc, hcc2⟩
       ·
        refine JC_seq ?_
        refine JC_region ?_
        refine JO_q (QE_ld1 0 rfl rfl rfl rfl rfl) rfl ?_
        refine JO_q (QE_nil rfl) rfl ?_
        refine JO_q (QE_fa0 rfl rfl rfl rfl) rfl ?_
        refine JO_q (QE_ldsR0 rfl rfl rfl (hca.le (Le.trans (Le.trans (Le.trans (Le.trans (Le.trans h1 h2) h3) h4) h5) h91)) rfl) rfl ?_
        refine JO_q (QE_eq rfl rfl) rfl ?_
        refine JO_q (QE_as rfl) rfl ?_
        refine JO_nil ?_
        refine thenQ_n ?_
        refine JC_ifD rfl (fun c93 => ?_) (fun c93 => ?_)
        ·
         refine JC_region ?_
         refine JO_q (QE_mv rfl) rfl ?_
         refine JO_q (QE_ld1 1 rfl rfl rfl rfl rfl) rfl ?_
         refine JO_q (QE_nil rfl) rfl ?_
         refine JO_q (QE_fa0 rfl rfl rfl rfl) rfl ?_
         refine JO_q (QE_fa0 rfl rfl rfl rfl) rfl ?_
         refine JO_q (QE_ld1 2 rfl rfl rfl rfl rfl) rfl ?_
         refine JO_q (QE_mv rfl) rfl ?_
         refine JO_q (QE_iaS rfl rfl rfl rfl rfl rfl hux1 (by assumption)) rfl ?_
         refine JO_q (QE_ld1 3 rfl rfl rfl rfl (nth_wv0 hux1 (by assumption))) rfl ?_
         refine JO_call (first := []) (captured := [_, _]) rfl rfl rfl (set_ac D _ _ _ _ _ _ _ _ _ _ _ _ _ _ _ _ _ _ _ hsm _ a ba oa _ _ (hca.le (Le.trans (Le.trans (Le.trans (Le.trans (Le.trans h1 h2) h3) h4) h5) h91)) ha.to) ?_
         rintro _ _ s94 h94 ⟨rfl, rfl⟩
         refine JO_nil ?_
         refine blockQ_n ?_
         refine blockQ_n ?_
         refine retQ_mk [_, _] _ (.inl rfl) (.nil) rfl (Le.trans (Le.trans (Le.trans (Le.trans (Le.trans (Le.trans h1 h2) h3) h4) h5) h91) h94) (fun sR hS2 => ?_)
         refine ⟨_ :: _ :: _ :: O, rfl, rfl, ?_⟩
         rw [act_k13 (by assumption) (by assumption)]; exact ⟨bc, cc, yc, O, Ao, co, Ai, ni, ci, rfl, hO, hI.le (Le.trans (Le.trans (Le.trans (Le.trans (Le.trans (Le.trans (Le.trans h1 h2) h3) h4) h5) h91) h94) hS2), hcc, hcc2⟩
        ·
         refine JC_region ?_
         refine JO_q (QE_ld1 1 rfl rfl rfl rfl rfl) rfl ?_
         refine JO_q (QE_nil rfl) rfl ?_
         refine JO_q (QE_fa0 rfl rfl rfl rfl) rfl ?_
         refine JO_q (QE_fa0 rfl rfl rfl rfl) rfl ?_
         refine JO_q (QE_ld1 2 rfl rfl rfl rfl rfl) rfl ?_
         refine JO_q (QE_mv rfl) rfl ?_
         refine JO_q (QE_mv rfl) rfl ?_
         refine JO_q (QE_iaS rfl rfl rfl rfl rfl rfl hux1 (by assumption)) rfl ?_
         refine JO_st 3 _ rfl rfl rfl rfl rfl (ble_wv0 hux1 (by assumption)) rfl (spl_wv0 _ hux1 (by assumption)) rfl ?_
         refine JO_nil ?_
         refine blockQ_n ?_
         refine blockQ_n ?_
         refine retQ_mk [_, _] _ (.inl rfl) (.nil) rfl (Le.trans (Le.trans (Le.trans (Le.trans (Le.trans h1 h2) h3) h4) h5) h91) (fun sR hS2 => ?_)
         exfalso; omega
      ·
       refine JC_seq ?_
       refine JC_region ?_
       refine JO_q (QE_eq rfl rfl) rfl ?_
       refine JO_q (QE_as rfl) rfl ?_
       refine JO_nil ?_
       refine thenQ_n ?_
       refine JC_ifD rfl (fun c96 => ?_) (fun c96 => ?_)
       ·
        refine JC_seq ?_
        refine JC_seq ?_
        refine JC_region ?_
        refine JO_q (QE_ld1 1 rfl rfl rfl rfl rfl) rfl ?_
        refine JO_q (QE_nil rfl) rfl ?_
        refine JO_q (QE_fa0 rfl rfl rfl rfl) rfl ?_
        refine JO_q (QE_faB rfl rfl rfl rfl) rfl ?_
        refine JO_q (QE_ld1 2 rfl rfl rfl rfl rfl) rfl ?_
        refine JO_q (QE_lenS rfl rfl rfl) rfl ?_
        refine JO_q (QE_eq rfl rfl) rfl ?_
        refine JO_nil ?_
        refine thenQ_n ?_
        refine JC_ifD rfl (fun c97 => ?_) (fun c97 => ?_)
        ·
         refine JC_seq ?_
         refine JC_region ?_
         refine JO_q (QE_mv rfl) rfl ?_
         refine JO_call (first := []) (captured := [_, _]) rfl rfl rfl (set_ac D _ _ _ _ _ _ _ _ _ _ _ _ _ _ _ _ _ _ _ hsm _ a ba oa _ _ (hca.le (Le.trans (Le.trans (Le.trans (Le.trans h1 h2) h3) h4) h5)) ha.to) ?_
         rintro _ _ s98 h98 ⟨rfl, rfl⟩
         refine JO_nil ?_
         refine thenQ_n ?_
         refine JC_ret ?_
         refine thenQ_r ?_
         refine blockQ_r ?_
         refine retQ_mk [_, _] _ (.inr rfl) (.nil) rfl (Le.trans (Le.trans (Le.trans (Le.trans (Le.trans h1 h2) h3) h4) h5) h98) (fun sR hS2 => ?_)
         exfalso; omega
        ·
         obtain ⟨bi, oi, xi, rfl, hxi, hci⟩ := Bts.at_ (hI.le (Le.trans (Le.trans (Le.trans (Le.trans h1 h2) h3) h4) h5)) (show 0 < ni by omega)
         refine JC_skip ?_
         refine thenQ_n ?_
         refine JC_seq ?_
         refine JC_region ?_
         refine JO_q (QE_mv rfl) rfl ?_
         refine JO_q (QE_ld1 1 rfl rfl rfl rfl rfl) rfl ?_
         refine JO_q (QE_nil rfl) rfl ?_
         refine JO_q (QE_fa0 rfl rfl rfl rfl) rfl ?_
         refine JO_q (QE_faB rfl rfl rfl rfl) rfl ?_
         refine JO_q (QE_ld1 2 rfl rfl rfl rfl rfl) rfl ?_
         refine JO_q (QE_iaS rfl rfl rfl rfl rfl rfl (by decide) (by omega)) rfl ?_
         refine JO_q (QE_ldsR0 rfl rfl rfl (hci.le (Le.refl (D := D) _)) rfl) rfl ?_
         refine JO_q (QE_conv' rfl rfl rfl rfl rfl (w32_in (by omega) (by have := xi.toNat_lt; omega))) rfl ?_
         refine JO_call (first := []) (captured := [_, _]) rfl rfl rfl (set_ac D _ _ _ _ _ _ _ _ _ _ _ _ _ _ _ _ _ _ _ hsm _ a ba oa _ _ (hca.le (Le.trans (Le.trans (Le.trans (Le.trans h1 h2) h3) h4) h5)) ha.to) ?_
         rintro _ _ s99 h99 ⟨rfl, rfl⟩
         refine JO_nil ?_
         refine thenQ_n ?_
         refine JC_drawE drawsMixed 11 rfl [2] (by intro x hx; exact eraseAll_mem hx) ?_
         intro s100 h100
         refine JA_q 0 rfl (by kernel_rfl) (by kernel_rfl) (by kernel_rfl) trivial (QE_ld1 1 rfl rfl rfl rfl rfl) rfl ?_
         refine JA_q 1 rfl (by kernel_rfl) (by kernel_rfl) (by kernel_rfl) trivial (QE_ld1 1 rfl rfl rfl rfl rfl) rfl ?_
         refine JA_q 2 rfl (by kernel_rfl) (by kernel_rfl) (by kernel_rfl) trivial (QE_nil rfl) rfl ?_
         refine JA_q 3 rfl (by kernel_rfl) (by kernel_rfl) (by kernel_rfl) trivial (QE_fa0 rfl rfl rfl rfl) rfl ?_
         refine JA_q 4 rfl (by kernel_rfl) (by kernel_rfl) (by kernel_rfl) trivial (QE_faB rfl rfl rfl rfl) rfl ?_
         refine JA_1 5 (by kernel_rfl) ?_
         refine JB_q rfl trivial (QE_ld1 2 rfl rfl rfl rfl rfl) rfl ?_
         refine JA_q 6 rfl (by kernel_rfl) (by kernel_rfl) (by kernel_rfl) trivial (QE_slL (j := 1) rfl rfl rfl rfl rfl (by omega)) rfl ?_
         refine JA_q 7 rfl (by kernel_rfl) (by kernel_rfl) (by kernel_rfl) trivial (QE_nil rfl) rfl ?_
         refine JA_q 8 rfl (by kernel_rfl) (by kernel_rfl) (by kernel_rfl) trivial (QE_fa0 rfl rfl rfl rfl) rfl ?_
         refine JA_q 9 rfl (by kernel_rfl) (by kernel_rfl) (by kernel_rfl) trivial (QE_faB rfl rfl rfl rfl) rfl ?_
         refine JA_1 10 (by kernel_rfl) ?_
         refine JB_st rfl trivial 2 (_ :: _ :: _ :: _ :: _ :: _ :: _ :: _ :: _ :: _ :: _ :: _) rfl rfl rfl rfl rfl rfl rfl rfl rfl (fun _ hx => sub_mem (sbY (sbY (sbY (sbY (sbE _))))) hx) ?_
         refine JA_done (by kernel_rfl) ?_
         refine blockQ_n ?_
         refine retQ_mk [_, _] _ (.inl rfl) (.nil) rfl (Le.trans (Le.trans (Le.trans (Le.trans (Le.trans (Le.trans h1 h2) h3) h4) h5) h99) h100) (fun sR hS2 => ?_)
         exfalso; omega
       ·
        refine JC_seq ?_
        refine JC_region ?_
        refine JO_q (QE_eq rfl rfl) rfl ?_
        refine JO_q (QE_as rfl) rfl ?_
        refine JO_nil ?_
        refine thenQ_n ?_
        refine JC_ifD rfl (fun c101 => ?_) (fun c101 => ?_)
        ·
         refine JC_seq ?_
         refine JC_seq ?_
         refine JC_region ?_
         refine JO_q (QE_ld1 1 rfl rfl rfl rfl rfl) rfl ?_
         refine JO_q (QE_nil rfl) rfl ?_
         refine JO_q (QE_fa0 rfl rfl rfl rfl) rfl ?_
         refine JO_q (QE_faB rfl rfl rfl rfl) rfl ?_
         refine JO_q (QE_ld1 2 rfl rfl rfl rfl rfl) rfl ?_
         refine JO_q (QE_lenS rfl rfl rfl) rfl ?_
         refine JO_q (QE_ge rfl rfl) rfl ?_
         refine JO_nil ?_
         refine thenQ_n ?_
         refine JC_ifD rfl (fun c102 => ?_) (fun c102 => ?_)
         ·
          refine JC_seq ?_
          refine JC_region ?_
          refine JO_q (QE_ld1 1 rfl rfl rfl rfl rfl) rfl ?_
          refine JO_q (QE_nil rfl) rfl ?_
          refine JO_q (QE_fa0 rfl rfl rfl rfl) rfl ?_
          refine JO_q (QE_faB rfl rfl rfl rfl) rfl ?_
          refine JO_st 2 (_ :: _ :: _ :: _ :: _ :: _ :: _ :: _ :: _ :: _ :: _ :: _) rfl rfl rfl rfl rfl rfl rfl rfl rfl ?_
          refine JO_nil ?_
          refine thenQ_n ?_
          refine JC_ret ?_
          refine thenQ_r ?_
          refine blockQ_r ?_
          refine retQ_mk [_, _] _ (.inr rfl) (.nil) rfl (Le.trans (Le.trans (Le.trans (Le.trans h1 h2) h3) h4) h5) (fun sR hS2 => ?_)
          exfalso; omega
         ·
          refine JC_skip ?_
          refine thenQ_n ?_
          refine JC_drawT drawsMixed 14 rfl 2 ?_
          intro s103 h103
          refine JA_q 0 rfl (by kernel_rfl) (by kernel_rfl) (by kernel_rfl) trivial (QE_ld1 1 rfl rfl rfl rfl rfl) rfl ?_
          refine JA_q 1 rfl (by kernel_rfl) (by kernel_rfl) (by kernel_rfl) trivial (QE_ld1 1 rfl rfl rfl rfl rfl) rfl ?_
          refine JA_q 2 rfl (by kernel_rfl) (by kernel_rfl) (by kernel_rfl) trivial (QE_nil rfl) rfl ?_
          refine JA_q 3 rfl (by kernel_rfl) (by kernel_rfl) (by kernel_rfl) trivial (QE_fa0 rfl rfl rfl rfl) rfl ?_
          refine JA_q 4 rfl (by kernel_rfl) (by kernel_rfl) (by kernel_rfl) trivial (QE_faB rfl rfl rfl rfl) rfl ?_
          refine JA_q 6 rfl (by kernel_rfl) (by kernel_rfl) (by kernel_rfl) trivial (QE_mv rfl) rfl ?_
          refine JA_q 7 rfl (by kernel_rfl) (by kernel_rfl) (by kernel_rfl) trivial (QE_cast (QE_conv rfl rfl rfl rfl rfl) (congrArg (Value.int .u8) (byteW hux))) rfl ?_
          refine JA_2 5 8 (by kernel_rfl) ?_ ?_
          ·
           refine JB_q rfl trivial (QE_ld1 2 rfl rfl rfl rfl rfl) rfl ?_
           refine JA_1 8 (by kernel_rfl) ?_
           refine JB_bs rfl trivial [(_, _)] [_] rfl rfl rfl rfl rfl rfl rfl rfl rfl ?_
           intro βn s104 h104 hcn
           refine JA_1 9 (by kernel_rfl) ?_
           refine JB_app (sz := 1) rfl trivial [_, _, _, _, _] O _ rfl rfl rfl rfl rfl rfl rfl hO (Row.of_cells (hcn.le (Le.refl (D := D) _)) rfl rfl) ⟨by simp [ti5]; omega, by omega⟩ rfl (fun A2 x hx _ => List.mem_append_left _ (by simp at hx ⊢; grind)) ?_
           intro v1 A1 s105 h105 o1
           obtain ⟨Ao1, co1, rfl, ko1, ko2⟩ := Own.slice o1
           simp only [List.cons_append, List.nil_append]
           refine JA_q 10 rfl (by kernel_rfl) (by kernel_rfl) (by kernel_rfl) trivial (QE_nil rfl) rfl ?_
           refine JA_q 11 rfl (by kernel_rfl) (by kernel_rfl) (by kernel_rfl) trivial (QE_fa0 rfl rfl rfl rfl) rfl ?_
           refine JA_q 12 rfl (by kernel_rfl) (by kernel_rfl) (by kernel_rfl) trivial (QE_faB rfl rfl rfl rfl) rfl ?_
           refine JA_1 13 (by kernel_rfl) ?_
           refine JB_st rfl trivial 2 (_ :: _ :: _ :: _ :: _ :: _ :: _ :: _ :: _ :: _ :: _ :: _) rfl rfl rfl rfl rfl rfl rfl rfl rfl (fun _ hx => sub_mem (sbY (sbY (sb0 _))) hx) ?_
           refine JA_done (by kernel_rfl) ?_
           refine blockQ_n ?_
           refine retQ_mk [_, _] _ (.inl rfl) (.nil) rfl (Le.trans (Le.trans (Le.trans (Le.trans (Le.trans (Le.trans (Le.trans h1 h2) h3) h4) h5) h103) h104) h105) (fun sR hS2 => ?_)
           exfalso; omega
          ·
           refine JB_bs rfl trivial [(_, _)] [_] rfl rfl rfl rfl rfl rfl rfl rfl rfl ?_
           intro βn s106 h106 hcn
           refine JA_1 5 (by kernel_rfl) ?_
           refine JB_q rfl trivial (QE_ld1 2 rfl rfl rfl rfl rfl) rfl ?_
           refine JA_1 9 (by kernel_rfl) ?_
           refine JB_app (sz := 1) rfl trivial [_, _, _, _, _] O _ rfl rfl rfl rfl rfl rfl rfl hO (Row.of_cells (hcn.le (Le.refl (D := D) _)) rfl rfl) ⟨by simp [ti5]; omega, by omega⟩ rfl (fun A2 x hx _ => List.mem_append_left _ (by simp at hx ⊢; grind)) ?_
           intro v1 A1 s107 h107 o1
           obtain ⟨Ao1, co1, rfl, ko1, ko2⟩ := Own.slice o1
           simp only [List.cons_append, List.nil_append]
           refine JA_q 10 rfl (by kernel_rfl) (by kernel_rfl) (by kernel_rfl) trivial (QE_nil rfl) rfl ?_
           refine JA_q 11 rfl (by kernel_rfl) (by kernel_rfl) (by kernel_rfl) trivial (QE_fa0 rfl rfl rfl rfl) rfl ?_
           refine JA_q 12 rfl (by kernel_rfl) (by kernel_rfl) (by kernel_rfl) trivial (QE_faB rfl rfl rfl rfl) rfl ?_
           refine JA_1 13 (by kernel_rfl) ?_
           refine JB_st rfl trivial 2 (_ :: _ :: _ :: _ :: _ :: _ :: _ :: _ :: _ :: _ :: _ :: _) rfl rfl rfl rfl rfl rfl rfl rfl rfl (fun _ hx => sub_mem (sbY (sbY (sb0 _))) hx) ?_
           refine JA_done (by kernel_rfl) ?_
           refine blockQ_n ?_
           refine retQ_mk [_, _] _ (.inl rfl) (.nil) rfl (Le.trans (Le.trans (Le.trans (Le.trans (Le.trans (Le.trans (Le.trans h1 h2) h3) h4) h5) h103) h106) h107) (fun sR hS2 => ?_)
           exfalso; omega
        ·
         refine JC_seq ?_
         refine JC_seq ?_
         refine JC_region ?_
         refine JO_q (QE_eq rfl rfl) rfl ?_
         refine JO_q (QE_as rfl) rfl ?_
         refine JO_nil ?_
         refine thenQ_n ?_
         refine JC_ifD rfl (fun c108 => ?_) (fun c108 => ?_)
         ·
          refine JC_skip ?_
          refine thenQ_n ?_
          refine JC_ifD rfl (fun c109 => ?_) (fun c109 => ?_)
          ·
           refine JC_seq ?_
           refine JC_region ?_
           refine JO_q (QE_ld1 0 rfl rfl rfl rfl rfl) rfl ?_
           refine JO_q (QE_nil rfl) rfl ?_
           refine JO_q (QE_fa0 rfl rfl rfl rfl) rfl ?_
           refine JO_q (QE_ldsR0 rfl rfl rfl (hca.le (Le.trans (Le.trans (Le.trans (Le.trans h1 h2) h3) h4) h5)) rfl) rfl ?_
           refine JO_q (QE_eq rfl rfl) rfl ?_
           refine JO_q (QE_mv rfl) rfl ?_
           refine JO_caseD (t := 172) rfl (fun c110 => ?_) (fun c110 => ?_)
           ·
            refine JO_gF rfl rfl rfl rfl ?_
            refine JO_gF rfl rfl rfl rfl ?_
            refine JO_q (QE_pickT rfl rfl) rfl ?_
            refine JO_nil ?_
            refine thenQ_n ?_
            refine JC_ifT rfl ?_
            refine JC_drawE drawsMixed 11 rfl [2] (by intro x hx; exact eraseAll_mem hx) ?_
            intro s111 h111
            refine JA_q 0 rfl (by kernel_rfl) (by kernel_rfl) (by kernel_rfl) trivial (QE_ld1 1 rfl rfl rfl rfl rfl) rfl ?_
            refine JA_q 1 rfl (by kernel_rfl) (by kernel_rfl) (by kernel_rfl) trivial (QE_ld1 1 rfl rfl rfl rfl rfl) rfl ?_
            refine JA_q 2 rfl (by kernel_rfl) (by kernel_rfl) (by kernel_rfl) trivial (QE_mv rfl) rfl ?_
            refine JA_q 3 rfl (by kernel_rfl) (by kernel_rfl) (by kernel_rfl) trivial (QE_nil rfl) rfl ?_
            refine JA_q 4 rfl (by kernel_rfl) (by kernel_rfl) (by kernel_rfl) trivial (QE_fa0 rfl rfl rfl rfl) rfl ?_
            refine JA_q 5 rfl (by kernel_rfl) (by kernel_rfl) (by kernel_rfl) trivial (QE_faB rfl rfl rfl rfl) rfl ?_
            refine JA_1 6 (by kernel_rfl) ?_
            refine JB_st rfl trivial 2 (_ :: _ :: _ :: _ :: _ :: _ :: _ :: _ :: _ :: _ :: _ :: _) rfl rfl rfl rfl rfl rfl rfl rfl rfl (fun _ hx => sub_mem (sbY (sbY (sbY (sbY (sbE _))))) hx) ?_
            refine JA_q 7 rfl (by kernel_rfl) (by kernel_rfl) (by kernel_rfl) trivial (QE_nil rfl) rfl ?_
            refine JA_q 8 rfl (by kernel_rfl) (by kernel_rfl) (by kernel_rfl) trivial (QE_fa0 rfl rfl rfl rfl) rfl ?_
            refine JA_q 9 rfl (by kernel_rfl) (by kernel_rfl) (by kernel_rfl) trivial (QE_faB rfl rfl rfl rfl) rfl ?_
            refine JA_1 10 (by kernel_rfl) ?_
            refine JB_st rfl trivial 2 (_ :: _ :: _ :: _ :: _ :: _ :: _ :: _ :: _ :: _ :: _ :: _) rfl rfl rfl rfl rfl rfl rfl rfl rfl (fun _ hx => sub_mem (sbY (sbY (sbY (sbY (sbE _))))) hx) ?_
            refine JA_done (by kernel_rfl) ?_
            refine blockQ_n ?_
            refine retQ_mk [_, _] _ (.inl rfl) (.nil) rfl (Le.trans (Le.trans (Le.trans (Le.trans (Le.trans h1 h2) h3) h4) h5) h111) (fun sR hS2 => ?_)
            exfalso; omega
           ·
            refine JO_gT rfl rfl ?_
            refine JO_q (QE_mv rfl) rfl ?_
            refine JO_gT rfl rfl ?_
            refine JO_q (QE_eq rfl rfl) rfl ?_
            refine JO_q (QE_pickF rfl rfl) rfl ?_
            refine JO_nil ?_
            refine thenQ_n ?_
            refine JC_ifD rfl (fun c112 => ?_) (fun c112 => ?_)
            ·
             refine JC_drawE drawsMixed 11 rfl [2] (by intro x hx; exact eraseAll_mem hx) ?_
             intro s113 h113
             refine JA_q 0 rfl (by kernel_rfl) (by kernel_rfl) (by kernel_rfl) trivial (QE_ld1 1 rfl rfl rfl rfl rfl) rfl ?_
             refine JA_q 1 rfl (by kernel_rfl) (by kernel_rfl) (by kernel_rfl) trivial (QE_ld1 1 rfl rfl rfl rfl rfl) rfl ?_
             refine JA_q 2 rfl (by kernel_rfl) (by kernel_rfl) (by kernel_rfl) trivial (QE_mv rfl) rfl ?_
             refine JA_q 3 rfl (by kernel_rfl) (by kernel_rfl) (by kernel_rfl) trivial (QE_nil rfl) rfl ?_
             refine JA_q 4 rfl (by kernel_rfl) (by kernel_rfl) (by kernel_rfl) trivial (QE_fa0 rfl rfl rfl rfl) rfl ?_
             refine JA_q 5 rfl (by kernel_rfl) (by kernel_rfl) (by kernel_rfl) trivial (QE_faB rfl rfl rfl rfl) rfl ?_
             refine JA_1 6 (by kernel_rfl) ?_
             refine JB_st rfl trivial 2 (_ :: _ :: _ :: _ :: _ :: _ :: _ :: _ :: _ :: _ :: _ :: _) rfl rfl rfl rfl rfl rfl rfl rfl rfl (fun _ hx => sub_mem (sbY (sbY (sbY (sbY (sbE _))))) hx) ?_
             refine JA_q 7 rfl (by kernel_rfl) (by kernel_rfl) (by kernel_rfl) trivial (QE_nil rfl) rfl ?_
             refine JA_q 8 rfl (by kernel_rfl) (by kernel_rfl) (by kernel_rfl) trivial (QE_fa0 rfl rfl rfl rfl) rfl ?_
             refine JA_q 9 rfl (by kernel_rfl) (by kernel_rfl) (by kernel_rfl) trivial (QE_faB rfl rfl rfl rfl) rfl ?_
             refine JA_1 10 (by kernel_rfl) ?_
             refine JB_st rfl trivial 2 (_ :: _ :: _ :: _ :: _ :: _ :: _ :: _ :: _ :: _ :: _ :: _) rfl rfl rfl rfl rfl rfl rfl rfl rfl (fun _ hx => sub_mem (sbY (sbY (sbY (sbY (sbE _))))) hx) ?_
             refine JA_done (by kernel_rfl) ?_
             refine blockQ_n ?_
             refine retQ_mk [_, _] _ (.inl rfl) (.nil) rfl (Le.trans (Le.trans (Le.trans (Le.trans (Le.trans h1 h2) h3) h4) h5) h113) (fun sR hS2 => ?_)
             exfalso; omega
            ·
             refine JC_skip ?_
             refine blockQ_n ?_
             refine retQ_mk [_, _] _ (.inl rfl) (.nil) rfl (Le.trans (Le.trans (Le.trans (Le.trans h1 h2) h3) h4) h5) (fun sR hS2 => ?_)
             exfalso; omega
          ·
           refine JC_region ?_
           refine JO_q (QE_mv rfl) rfl ?_
           refine JO_q (QE_ld1 0 rfl rfl rfl rfl rfl) rfl ?_
           refine JO_q (QE_nil rfl) rfl ?_
           refine JO_q (QE_fa0 rfl rfl rfl rfl) rfl ?_
           refine JO_q (QE_ldsR0 rfl rfl rfl (hca.le (Le.trans (Le.trans (Le.trans (Le.trans h1 h2) h3) h4) h5)) rfl) rfl ?_
           refine JO_q (QE_mv rfl) rfl ?_
           refine JO_q (QE_mv rfl) rfl ?_
           refine JO_call (first := []) (captured := []) rfl rfl rfl (compute_ac D _ _ _ _ _ hux huy (by have := ha.kind; omega)) ?_
           rintro _ _ s114 h114 ⟨rfl, rfl⟩
           refine JO_call (first := []) (captured := [_, _]) rfl rfl rfl (set_ac D _ _ _ _ _ _ _ _ _ _ _ _ _ _ _ _ _ _ _ hsm _ a ba oa _ _ (hca.le (Le.trans (Le.trans (Le.trans (Le.trans (Le.trans h1 h2) h3) h4) h5) h114)) ha.to) ?_
           rintro _ _ s115 h115 ⟨rfl, rfl⟩
           refine JO_nil ?_
           refine blockQ_n ?_
           refine retQ_mk [_, _] _ (.inl rfl) (.nil) rfl (Le.trans (Le.trans (Le.trans (Le.trans (Le.trans (Le.trans h1 h2) h3) h4) h5) h114) h115) (fun sR hS2 => ?_)
           exfalso; omega
         ·
          refine JC_region ?_
          refine JO_q (QE_eq rfl rfl) rfl ?_
          refine JO_q (QE_as rfl) rfl ?_
          refine JO_nil ?_
          refine thenQ_n ?_
          refine JC_ifD rfl (fun c116 => ?_) (fun c116 => ?_)
          ·
           refine JC_seq ?_
           refine JC_region ?_
           refine JO_q (QE_ld1 0 rfl rfl rfl rfl rfl) rfl ?_
           refine JO_q (QE_nil rfl) rfl ?_
           refine JO_q (QE_fa0 rfl rfl rfl rfl) rfl ?_
           refine JO_q (QE_ldsR0 rfl rfl rfl (hca.le (Le.trans (Le.trans (Le.trans (Le.trans h1 h2) h3) h4) h5)) rfl) rfl ?_
           refine JO_q (QE_eq rfl rfl) rfl ?_
           refine JO_q (QE_mv rfl) rfl ?_
           refine JO_caseD (t := 172) rfl (fun c117 => ?_) (fun c117 => ?_)
           ·
            refine JO_gF rfl rfl rfl rfl ?_
            refine JO_gF rfl rfl rfl rfl ?_
            refine JO_q (QE_pickT rfl rfl) rfl ?_
            refine JO_nil ?_
            refine thenQ_n ?_
            refine JC_ifT rfl ?_
            refine JC_drawE drawsMixed 11 rfl [2] (by intro x hx; exact eraseAll_mem hx) ?_
            intro s118 h118
            refine JA_q 0 rfl (by kernel_rfl) (by kernel_rfl) (by kernel_rfl) trivial (QE_ld1 1 rfl rfl rfl rfl rfl) rfl ?_
            refine JA_q 1 rfl (by kernel_rfl) (by kernel_rfl) (by kernel_rfl) trivial (QE_ld1 1 rfl rfl rfl rfl rfl) rfl ?_
            refine JA_q 2 rfl (by kernel_rfl) (by kernel_rfl) (by kernel_rfl) trivial (QE_mv rfl) rfl ?_
            refine JA_q 3 rfl (by kernel_rfl) (by kernel_rfl) (by kernel_rfl) trivial (QE_nil rfl) rfl ?_
            refine JA_q 4 rfl (by kernel_rfl) (by kernel_rfl) (by kernel_rfl) trivial (QE_fa0 rfl rfl rfl rfl) rfl ?_
            refine JA_q 5 rfl (by kernel_rfl) (by kernel_rfl) (by kernel_rfl) trivial (QE_faB rfl rfl rfl rfl) rfl ?_
            refine JA_1 6 (by kernel_rfl) ?_
            refine JB_st rfl trivial 2 (_ :: _ :: _ :: _ :: _ :: _ :: _ :: _ :: _ :: _ :: _ :: _) rfl rfl rfl rfl rfl rfl rfl rfl rfl (fun _ hx => sub_mem (sbY (sbY (sbY (sbY (sbE _))))) hx) ?_
            refine JA_q 7 rfl (by kernel_rfl) (by kernel_rfl) (by kernel_rfl) trivial (QE_nil rfl) rfl ?_
            refine JA_q 8 rfl (by kernel_rfl) (by kernel_rfl) (by kernel_rfl) trivial (QE_fa0 rfl rfl rfl rfl) rfl ?_
            refine JA_q 9 rfl (by kernel_rfl) (by kernel_rfl) (by kernel_rfl) trivial (QE_faB rfl rfl rfl rfl) rfl ?_
            refine JA_1 10 (by kernel_rfl) ?_
            refine JB_st rfl trivial 2 (_ :: _ :: _ :: _ :: _ :: _ :: _ :: _ :: _ :: _ :: _ :: _) rfl rfl rfl rfl rfl rfl rfl rfl rfl (fun _ hx => sub_mem (sbY (sbY (sbY (sbY (sbE _))))) hx) ?_
            refine JA_done (by kernel_rfl) ?_
            refine blockQ_n ?_
            refine retQ_mk [_, _] _ (.inl rfl) (.nil) rfl (Le.trans (Le.trans (Le.trans (Le.trans (Le.trans h1 h2) h3) h4) h5) h118) (fun sR hS2 => ?_)
            exfalso; omega
           ·
            refine JO_gT rfl rfl ?_
            refine JO_q (QE_mv rfl) rfl ?_
            refine JO_gT rfl rfl ?_
            refine JO_q (QE_eq rfl rfl) rfl ?_
            refine JO_q (QE_pickF rfl rfl) rfl ?_
            refine JO_nil ?_
            refine thenQ_n ?_
            refine JC_ifD rfl (fun c119 => ?_) (fun c119 => ?_)
            ·
             refine JC_drawE drawsMixed 11 rfl [2] (by intro x hx; exact eraseAll_mem hx) ?_
             intro s120 h120
             refine JA_q 0 rfl (by kernel_rfl) (by kernel_rfl) (by kernel_rfl) trivial (QE_ld1 1 rfl rfl rfl rfl rfl) rfl ?_
             refine JA_q 1 rfl (by kernel_rfl) (by kernel_rfl) (by kernel_rfl) trivial (QE_ld1 1 rfl rfl rfl rfl rfl) rfl ?_
             refine JA_q 2 rfl (by kernel_rfl) (by kernel_rfl) (by kernel_rfl) trivial (QE_mv rfl) rfl ?_
             refine JA_q 3 rfl (by kernel_rfl) (by kernel_rfl) (by kernel_rfl) trivial (QE_nil rfl) rfl ?_
             refine JA_q 4 rfl (by kernel_rfl) (by kernel_rfl) (by kernel_rfl) trivial (QE_fa0 rfl rfl rfl rfl) rfl ?_
             refine JA_q 5 rfl (by kernel_rfl) (by kernel_rfl) (by kernel_rfl) trivial (QE_faB rfl rfl rfl rfl) rfl ?_
             refine JA_1 6 (by kernel_rfl) ?_
             refine JB_st rfl trivial 2 (_ :: _ :: _ :: _ :: _ :: _ :: _ :: _ :: _ :: _ :: _ :: _) rfl rfl rfl rfl rfl rfl rfl rfl rfl (fun _ hx => sub_mem (sbY (sbY (sbY (sbY (sbE _))))) hx) ?_
             refine JA_q 7 rfl (by kernel_rfl) (by kernel_rfl) (by kernel_rfl) trivial (QE_nil rfl) rfl ?_
             refine JA_q 8 rfl (by kernel_rfl) (by kernel_rfl) (by kernel_rfl) trivial (QE_fa0 rfl rfl rfl rfl) rfl ?_
             refine JA_q 9 rfl (by kernel_rfl) (by kernel_rfl) (by kernel_rfl) trivial (QE_faB rfl rfl rfl rfl) rfl ?_
             refine JA_1 10 (by kernel_rfl) ?_
             refine JB_st rfl trivial 2 (_ :: _ :: _ :: _ :: _ :: _ :: _ :: _ :: _ :: _ :: _ :: _) rfl rfl rfl rfl rfl rfl rfl rfl rfl (fun _ hx => sub_mem (sbY (sbY (sbY (sbY (sbE _))))) hx) ?_
             refine JA_done (by kernel_rfl) ?_
             refine blockQ_n ?_
             refine retQ_mk [_, _] _ (.inl rfl) (.nil) rfl (Le.trans (Le.trans (Le.trans (Le.trans (Le.trans h1 h2) h3) h4) h5) h120) (fun sR hS2 => ?_)
             exfalso; omega
            ·
             refine JC_skip ?_
             refine blockQ_n ?_
             refine retQ_mk [_, _] _ (.inl rfl) (.nil) rfl (Le.trans (Le.trans (Le.trans (Le.trans h1 h2) h3) h4) h5) (fun sR hS2 => ?_)
             exfalso; omega
          ·
           refine JC_region ?_
           refine JO_q (QE_mv rfl) rfl ?_
           refine JO_q (QE_ld1 0 rfl rfl rfl rfl rfl) rfl ?_
           refine JO_q (QE_nil rfl) rfl ?_
           refine JO_q (QE_fa0 rfl rfl rfl rfl) rfl ?_
           refine JO_q (QE_ldsR0 rfl rfl rfl (hca.le (Le.trans (Le.trans (Le.trans (Le.trans h1 h2) h3) h4) h5)) rfl) rfl ?_
           refine JO_q (QE_mv rfl) rfl ?_
           refine JO_q (QE_mv rfl) rfl ?_
           refine JO_call (first := []) (captured := []) rfl rfl rfl (compute_ac D _ _ _ _ _ hux huy (by have := ha.kind; omega)) ?_
           rintro _ _ s121 h121 ⟨rfl, rfl⟩
           refine JO_call (first := []) (captured := [_, _]) rfl rfl rfl (set_ac D _ _ _ _ _ _ _ _ _ _ _ _ _ _ _ _ _ _ _ hsm _ a ba oa _ _ (hca.le (Le.trans (Le.trans (Le.trans (Le.trans (Le.trans h1 h2) h3) h4) h5) h121)) ha.to) ?_
           rintro _ _ s122 h122 ⟨rfl, rfl⟩
           refine JO_nil ?_
           refine blockQ_n ?_
           refine retQ_mk [_, _] _ (.inl rfl) (.nil) rfl (Le.trans (Le.trans (Le.trans (Le.trans (Le.trans (Le.trans h1 h2) h3) h4) h5) h121) h122) (fun sR hS2 => ?_)
           exfalso; omega
     ·
      refine JC_region ?_
      refine JO_q (QE_eq rfl rfl) rfl ?_
      refine JO_q (QE_as rfl) rfl ?_
      refine JO_nil ?_
      refine thenQ_n ?_
      refine JC_ifD rfl (fun c123 => ?_) (fun c123 => ?_)
      ·
       refine JC_block ?_
       refine JC_seq ?_
       refine JC_region ?_
       refine JO_q (QE_ld1 1 rfl rfl rfl rfl rfl) rfl ?_
       refine JO_q (QE_mv rfl) rfl ?_
       refine JO_call (first := []) (captured := []) rfl rfl rfl (AC.mid [_, _] [_] _ (isCell_ac D _ _ _ _ _ _ _ _ _ _ _ _ _ _ _ _ _ _ _ hsm _ hux hnc)) ?_
       rintro _ _ s124 h124 ⟨_, rfl, rfl, rfl⟩
       simp only [List.cons_append, List.nil_append]
       refine JO_q (QE_not rfl) rfl ?_
       refine JO_q (QE_as rfl) rfl ?_
       refine JO_nil ?_
       refine thenQ_n ?_
       refine JC_ifN rfl (fun c125 => ?_) (fun c125 => ?_)
       ·
        refine JC_region ?_
        refine JO_q (QE_ld1 1 rfl rfl rfl rfl rfl) rfl ?_
        refine JO_q (QE_nil rfl) rfl ?_
        refine JO_q (QE_fa0 rfl rfl rfl rfl) rfl ?_
        refine JO_q (QE_faB rfl rfl rfl rfl) rfl ?_
        refine JO_st 2 (_ :: _ :: _ :: _ :: _ :: _ :: _ :: _ :: _ :: _ :: _ :: _) rfl rfl rfl rfl rfl rfl rfl rfl rfl ?_
        refine JO_nil ?_
        refine blockQ_n ?_
        refine blockQ_n ?_
        refine retQ_mk [_, _] _ (.inl rfl) (.nil) rfl (Le.trans (Le.trans (Le.trans (Le.trans (Le.trans h1 h2) h3) h4) h5) h124) (fun sR hS2 => ?_)
        refine ⟨_ :: _ :: _ :: O, rfl, rfl, ?_⟩
        rw [act_k14f (by assumption) (by assumption)]; exact ⟨bc, cc, yc, O, Ao, co, Ai, ni, ci, rfl, hO, hI.le (Le.trans (Le.trans (Le.trans (Le.trans (Le.trans (Le.trans h1 h2) h3) h4) h5) h124) hS2), hcc, hcc2⟩
       ·
        refine JC_seq ?_
        refine JC_region ?_
        refine JO_q (QE_ld1 0 rfl rfl rfl rfl rfl) rfl ?_
        refine JO_q (QE_nil rfl) rfl ?_
        refine JO_q (QE_fa0 rfl rfl rfl rfl) rfl ?_
        refine JO_q (QE_ldsR0 rfl rfl rfl (hca.le (Le.trans (Le.trans (Le.trans (Le.trans (Le.trans h1 h2) h3) h4) h5) h124)) rfl) rfl ?_
        refine JO_q (QE_eq rfl rfl) rfl ?_
        refine JO_q (QE_as rfl) rfl ?_
        refine JO_nil ?_
        refine thenQ_n ?_
        refine JC_ifD rfl (fun c126 => ?_) (fun c126 => ?_)
        ·
         refine JC_region ?_
         refine JO_q (QE_mv rfl) rfl ?_
         refine JO_q (QE_ld1 1 rfl rfl rfl rfl rfl) rfl ?_
         refine JO_q (QE_nil rfl) rfl ?_
         refine JO_q (QE_fa0 rfl rfl rfl rfl) rfl ?_
         refine JO_q (QE_fa0 rfl rfl rfl rfl) rfl ?_
         refine JO_q (QE_ld1 2 rfl rfl rfl rfl rfl) rfl ?_
         refine JO_q (QE_mv rfl) rfl ?_
         refine JO_q (QE_iaS rfl rfl rfl rfl rfl rfl hux1 (by assumption)) rfl ?_
         refine JO_q (QE_ld1 3 rfl rfl rfl rfl (nth_wv0 hux1 (by assumption))) rfl ?_
         refine JO_call (first := []) (captured := [_, _]) rfl rfl rfl (set_ac D _ _ _ _ _ _ _ _ _ _ _ _ _ _ _ _ _ _ _ hsm _ a ba oa _ _ (hca.le (Le.trans (Le.trans (Le.trans (Le.trans (Le.trans h1 h2) h3) h4) h5) h124)) ha.to) ?_
         rintro _ _ s127 h127 ⟨rfl, rfl⟩
         refine JO_nil ?_
         refine blockQ_n ?_
         refine blockQ_n ?_
         refine retQ_mk [_, _] _ (.inl rfl) (.nil) rfl (Le.trans (Le.trans (Le.trans (Le.trans (Le.trans (Le.trans h1 h2) h3) h4) h5) h124) h127) (fun sR hS2 => ?_)
         exfalso; omega
        ·
         refine JC_region ?_
         refine JO_q (QE_ld1 1 rfl rfl rfl rfl rfl) rfl ?_
         refine JO_q (QE_nil rfl) rfl ?_
         refine JO_q (QE_fa0 rfl rfl rfl rfl) rfl ?_
         refine JO_q (QE_fa0 rfl rfl rfl rfl) rfl ?_
         refine JO_q (QE_ld1 2 rfl rfl rfl rfl rfl) rfl ?_
         refine JO_q (QE_mv rfl) rfl ?_
         refine JO_q (QE_mv rfl) rfl ?_
         refine JO_q (QE_iaS rfl rfl rfl rfl rfl rfl hux1 (by assumption)) rfl ?_
         refine JO_st 3 _ rfl rfl rfl rfl rfl (ble_wv0 hux1 (by assumption)) rfl (spl_wv0 _ hux1 (by assumption)) rfl ?_
         refine JO_nil ?_
         refine blockQ_n ?_
         refine blockQ_n ?_
         refine retQ_mk [_, _] _ (.inl rfl) (.nil) rfl (Le.trans (Le.trans (Le.trans (Le.trans (Le.trans h1 h2) h3) h4) h5) h124) (fun sR hS2 => ?_)
         refine ⟨_ :: _ :: _ :: O, rfl, rfl, ?_⟩
         rw [act_k14 (by assumption) (by assumption)]; exact ⟨bc, cc, yc, O, Ao, co, Ai, ni, ci, by simp, hO, hI.le (Le.trans (Le.trans (Le.trans (Le.trans (Le.trans (Le.trans h1 h2) h3) h4) h5) h124) hS2), by simp; exact hcc, hcc2⟩
      ·
       refine JC_seq ?_
       refine JC_region ?_
       refine JO_q (QE_eq rfl rfl) rfl ?_
       refine JO_q (QE_as rfl) rfl ?_
       refine JO_nil ?_
       refine thenQ_n ?_
       refine JC_ifD rfl (fun c129 => ?_) (fun c129 => ?_)
       ·
        refine JC_seq ?_
        refine JC_seq ?_
        refine JC_region ?_
        refine JO_q (QE_ld1 1 rfl rfl rfl rfl rfl) rfl ?_
        refine JO_q (QE_nil rfl) rfl ?_
        refine JO_q (QE_fa0 rfl rfl rfl rfl) rfl ?_
        refine JO_q (QE_faB rfl rfl rfl rfl) rfl ?_
        refine JO_q (QE_ld1 2 rfl rfl rfl rfl rfl) rfl ?_
        refine JO_q (QE_lenS rfl rfl rfl) rfl ?_
        refine JO_q (QE_eq rfl rfl) rfl ?_
        refine JO_nil ?_
        refine thenQ_n ?_
        refine JC_ifD rfl (fun c130 => ?_) (fun c130 => ?_)
        ·
         refine JC_seq ?_
         refine JC_region ?_
         refine JO_q (QE_mv rfl) rfl ?_
         refine JO_call (first := []) (captured := [_, _]) rfl rfl rfl (set_ac D _ _ _ _ _ _ _ _ _ _ _ _ _ _ _ _ _ _ _ hsm _ a ba oa _ _ (hca.le (Le.trans (Le.trans (Le.trans (Le.trans h1 h2) h3) h4) h5)) ha.to) ?_
         rintro _ _ s131 h131 ⟨rfl, rfl⟩
         refine JO_nil ?_
         refine thenQ_n ?_
         refine JC_ret ?_
         refine thenQ_r ?_
         refine blockQ_r ?_
         refine retQ_mk [_, _] _ (.inr rfl) (.nil) rfl (Le.trans (Le.trans (Le.trans (Le.trans (Le.trans h1 h2) h3) h4) h5) h131) (fun sR hS2 => ?_)
         refine ⟨_ :: _ :: _ :: O, rfl, rfl, ?_⟩
         have hi0 : m.input = [] := List.eq_nil_of_length_eq_zero (by omega)
         rw [act_k15e (by assumption) hi0]; exact ⟨bc, cc, yc, O, Ao, co, Ai, ni, ci, rfl, hO, hI.le (Le.trans (Le.trans (Le.trans (Le.trans (Le.trans (Le.trans h1 h2) h3) h4) h5) h131) hS2), hcc, hcc2⟩
        ·
         obtain ⟨bi, oi, xi, rfl, hxi, hci⟩ := Bts.at_ (hI.le (Le.trans (Le.trans (Le.trans (Le.trans h1 h2) h3) h4) h5)) (show 0 < ni by omega)
         refine JC_skip ?_
         refine thenQ_n ?_
         refine JC_seq ?_
         refine JC_region ?_
         refine JO_q (QE_mv rfl) rfl ?_
         refine JO_q (QE_ld1 1 rfl rfl rfl rfl rfl) rfl ?_
         refine JO_q (QE_nil rfl) rfl ?_
         refine JO_q (QE_fa0 rfl rfl rfl rfl) rfl ?_
         refine JO_q (QE_faB rfl rfl rfl rfl) rfl ?_
         refine JO_q (QE_ld1 2 rfl rfl rfl rfl rfl) rfl ?_
         refine JO_q (QE_iaS rfl rfl rfl rfl rfl rfl (by decide) (by omega)) rfl ?_
         refine JO_q (QE_ldsR0 rfl rfl rfl (hci.le (Le.refl (D := D) _)) rfl) rfl ?_
         refine JO_q (QE_conv' rfl rfl rfl rfl rfl (w32_in (by omega) (by have := xi.toNat_lt; omega))) rfl ?_
         refine JO_call (first := []) (captured := [_, _]) rfl rfl rfl (set_ac D _ _ _ _ _ _ _ _ _ _ _ _ _ _ _ _ _ _ _ hsm _ a ba oa _ _ (hca.le (Le.trans (Le.trans (Le.trans (Le.trans h1 h2) h3) h4) h5)) ha.to) ?_
         rintro _ _ s132 h132 ⟨rfl, rfl⟩
         refine JO_nil ?_
         refine thenQ_n ?_
         refine JC_drawE drawsMixed 11 rfl [2] (by intro x hx; exact eraseAll_mem hx) ?_
         intro s133 h133
         refine JA_q 0 rfl (by kernel_rfl) (by kernel_rfl) (by kernel_rfl) trivial (QE_ld1 1 rfl rfl rfl rfl rfl) rfl ?_
         refine JA_q 1 rfl (by kernel_rfl) (by kernel_rfl) (by kernel_rfl) trivial (QE_ld1 1 rfl rfl rfl rfl rfl) rfl ?_
         refine JA_q 2 rfl (by kernel_rfl) (by kernel_rfl) (by kernel_rfl) trivial (QE_nil rfl) rfl ?_
         refine JA_q 3 rfl (by kernel_rfl) (by kernel_rfl) (by kernel_rfl) trivial (QE_fa0 rfl rfl rfl rfl) rfl ?_
         refine JA_q 4 rfl (by kernel_rfl) (by kernel_rfl) (by kernel_rfl) trivial (QE_faB rfl rfl rfl rfl) rfl ?_
         refine JA_1 5 (by kernel_rfl) ?_
         refine JB_q rfl trivial (QE_ld1 2 rfl rfl rfl rfl rfl) rfl ?_
         refine JA_q 6 rfl (by kernel_rfl) (by kernel_rfl) (by kernel_rfl) trivial (QE_slL (j := 1) rfl rfl rfl rfl rfl (by omega)) rfl ?_
         refine JA_q 7 rfl (by kernel_rfl) (by kernel_rfl) (by kernel_rfl) trivial (QE_nil rfl) rfl ?_
         refine JA_q 8 rfl (by kernel_rfl) (by kernel_rfl) (by kernel_rfl) trivial (QE_fa0 rfl rfl rfl rfl) rfl ?_
         refine JA_q 9 rfl (by kernel_rfl) (by kernel_rfl) (by kernel_rfl) trivial (QE_faB rfl rfl rfl rfl) rfl ?_
         refine JA_1 10 (by kernel_rfl) ?_
         refine JB_st rfl trivial 2 (_ :: _ :: _ :: _ :: _ :: _ :: _ :: _ :: _ :: _ :: _ :: _) rfl rfl rfl rfl rfl rfl rfl rfl rfl (fun _ hx => sub_mem (sbY (sbY (sbY (sbY (sbE _))))) hx) ?_
         refine JA_done (by kernel_rfl) ?_
         refine blockQ_n ?_
         refine retQ_mk [_, _] _ (.inl rfl) (.nil) rfl (Le.trans (Le.trans (Le.trans (Le.trans (Le.trans (Le.trans h1 h2) h3) h4) h5) h132) h133) (fun sR hS2 => ?_)
         refine ⟨_ :: _ :: _ :: O, rfl, rfl, ?_⟩
         obtain ⟨r, hr⟩ := head_tail hxi
         rw [act_k15 (by assumption) hr]
         rw [hr] at hI
         exact ⟨bc, cc, yc, O, Ao, co, _, _, _, rfl, hO, (Bts.tail hI).le (Le.trans (Le.trans (Le.trans (Le.trans (Le.trans (Le.trans (Le.trans h1 h2) h3) h4) h5) h132) h133) hS2), hcc, hcc2⟩
       ·
        refine JC_seq ?_
        refine JC_region ?_
        refine JO_q (QE_eq rfl rfl) rfl ?_
        refine JO_q (QE_as rfl) rfl ?_
        refine JO_nil ?_
        refine thenQ_n ?_
        refine JC_ifD rfl (fun c134 => ?_) (fun c134 => ?_)
        ·
         refine JC_seq ?_
         refine JC_seq ?_
         refine JC_region ?_
         refine JO_q (QE_ld1 1 rfl rfl rfl rfl rfl) rfl ?_
         refine JO_q (QE_nil rfl) rfl ?_
         refine JO_q (QE_fa0 rfl rfl rfl rfl) rfl ?_
         refine JO_q (QE_faB rfl rfl rfl rfl) rfl ?_
         refine JO_q (QE_ld1 2 rfl rfl rfl rfl rfl) rfl ?_
         refine JO_q (QE_lenS rfl rfl rfl) rfl ?_
         refine JO_q (QE_ge rfl rfl) rfl ?_
         refine JO_nil ?_
         refine thenQ_n ?_
         refine JC_ifD rfl (fun c135 => ?_) (fun c135 => ?_)
         ·
          refine JC_seq ?_
          refine JC_region ?_
          refine JO_q (QE_ld1 1 rfl rfl rfl rfl rfl) rfl ?_
          refine JO_q (QE_nil rfl) rfl ?_
          refine JO_q (QE_fa0 rfl rfl rfl rfl) rfl ?_
          refine JO_q (QE_faB rfl rfl rfl rfl) rfl ?_
          refine JO_st 2 (_ :: _ :: _ :: _ :: _ :: _ :: _ :: _ :: _ :: _ :: _ :: _) rfl rfl rfl rfl rfl rfl rfl rfl rfl ?_
          refine JO_nil ?_
          refine thenQ_n ?_
          refine JC_ret ?_
          refine thenQ_r ?_
          refine blockQ_r ?_
          refine retQ_mk [_, _] _ (.inr rfl) (.nil) rfl (Le.trans (Le.trans (Le.trans (Le.trans h1 h2) h3) h4) h5) (fun sR hS2 => ?_)
          refine ⟨_ :: _ :: _ :: O, rfl, rfl, ?_⟩
          rw [act_k16f (by assumption) hok (by omega)]; exact ⟨bc, cc, yc, O, Ao, co, Ai, ni, ci, rfl, hO, hI.le (Le.trans (Le.trans (Le.trans (Le.trans (Le.trans h1 h2) h3) h4) h5) hS2), hcc, hcc2⟩
         ·
          refine JC_skip ?_
          refine thenQ_n ?_
          refine JC_drawT drawsMixed 14 rfl 2 ?_
          intro s136 h136
          refine JA_q 0 rfl (by kernel_rfl) (by kernel_rfl) (by kernel_rfl) trivial (QE_ld1 1 rfl rfl rfl rfl rfl) rfl ?_
          refine JA_q 1 rfl (by kernel_rfl) (by kernel_rfl) (by kernel_rfl) trivial (QE_ld1 1 rfl rfl rfl rfl rfl) rfl ?_
          refine JA_q 2 rfl (by kernel_rfl) (by kernel_rfl) (by kernel_rfl) trivial (QE_nil rfl) rfl ?_
          refine JA_q 3 rfl (by kernel_rfl) (by kernel_rfl) (by kernel_rfl) trivial (QE_fa0 rfl rfl rfl rfl) rfl ?_
          refine JA_q 4 rfl (by kernel_rfl) (by kernel_rfl) (by kernel_rfl) trivial (QE_faB rfl rfl rfl rfl) rfl ?_
          refine JA_q 6 rfl (by kernel_rfl) (by kernel_rfl) (by kernel_rfl) trivial (QE_mv rfl) rfl ?_
          refine JA_q 7 rfl (by kernel_rfl) (by kernel_rfl) (by kernel_rfl) trivial (QE_cast (QE_conv rfl rfl rfl rfl rfl) (congrArg (Value.int .u8) (byteW hux))) rfl ?_
          refine JA_2 5 8 (by kernel_rfl) ?_ ?_
          ·
           refine JB_q rfl trivial (QE_ld1 2 rfl rfl rfl rfl rfl) rfl ?_
           refine JA_1 8 (by kernel_rfl) ?_
           refine JB_bs rfl trivial [(_, _)] [_] rfl rfl rfl rfl rfl rfl rfl rfl rfl ?_
           intro βn s137 h137 hcn
           refine JA_1 9 (by kernel_rfl) ?_
           refine JB_app (sz := 1) rfl trivial [_, _, _, _, _] O _ rfl rfl rfl rfl rfl rfl rfl hO (Row.of_cells (hcn.le (Le.refl (D := D) _)) rfl rfl) ⟨by simp [ti5]; omega, by omega⟩ rfl (fun A2 x hx _ => List.mem_append_left _ (by simp at hx ⊢; grind)) ?_
           intro v1 A1 s138 h138 o1
           obtain ⟨Ao1, co1, rfl, ko1, ko2⟩ := Own.slice o1
           simp only [List.cons_append, List.nil_append]
           refine JA_q 10 rfl (by kernel_rfl) (by kernel_rfl) (by kernel_rfl) trivial (QE_nil rfl) rfl ?_
           refine JA_q 11 rfl (by kernel_rfl) (by kernel_rfl) (by kernel_rfl) trivial (QE_fa0 rfl rfl rfl rfl) rfl ?_
           refine JA_q 12 rfl (by kernel_rfl) (by kernel_rfl) (by kernel_rfl) trivial (QE_faB rfl rfl rfl rfl) rfl ?_
           refine JA_1 13 (by kernel_rfl) ?_
           refine JB_st rfl trivial 2 (_ :: _ :: _ :: _ :: _ :: _ :: _ :: _ :: _ :: _ :: _ :: _) rfl rfl rfl rfl rfl rfl rfl rfl rfl (fun _ hx => sub_mem (sbY (sbY (sb0 _))) hx) ?_
           refine JA_done (by kernel_rfl) ?_
           refine blockQ_n ?_
           refine retQ_mk [_, _] _ (.inl rfl) (.nil) rfl (Le.trans (Le.trans (Le.trans (Le.trans (Le.trans (Le.trans (Le.trans h1 h2) h3) h4) h5) h136) h137) h138) (fun sR hS2 => ?_)
           refine ⟨_ :: _ :: _ :: A1, rfl, rfl, ?_⟩
           rw [act_k16 (by assumption) (by omega)]
           have hb : bv (m.output ++ [UInt8.ofNat ((valT m op a.x).toNat % 256)]) = bv m.output ++ [Value.int .u8 ((UInt8.ofNat ((valT m op a.x).toNat % 256)).toNat : Int)] := by simp [bv]
           exact ⟨bc, cc, yc, A1, Ao1, co1, Ai, ni, ci, by simp, by simpa [hb] using o1, hI.le (Le.trans (Le.trans (Le.trans (Le.trans (Le.trans (Le.trans (Le.trans (Le.trans h1 h2) h3) h4) h5) h136) h137) h138) hS2), hcc, hcc2⟩
          ·
           refine JB_bs rfl trivial [(_, _)] [_] rfl rfl rfl rfl rfl rfl rfl rfl rfl ?_
           intro βn s139 h139 hcn
           refine JA_1 5 (by kernel_rfl) ?_
           refine JB_q rfl trivial (QE_ld1 2 rfl rfl rfl rfl rfl) rfl ?_
           refine JA_1 9 (by kernel_rfl) ?_
           refine JB_app (sz := 1) rfl trivial [_, _, _, _, _] O _ rfl rfl rfl rfl rfl rfl rfl hO (Row.of_cells (hcn.le (Le.refl (D := D) _)) rfl rfl) ⟨by simp [ti5]; omega, by omega⟩ rfl (fun A2 x hx _ => List.mem_append_left _ (by simp at hx ⊢; grind)) ?_
           intro v1 A1 s140 h140 o1
           obtain ⟨Ao1, co1, rfl, ko1, ko2⟩ := Own.slice o1
           simp only [List.cons_append, List.nil_append]
           refine JA_q 10 rfl (by kernel_rfl) (by kernel_rfl) (by kernel_rfl) trivial (QE_nil rfl) rfl ?_
           refine JA_q 11 rfl (by kernel_rfl) (by kernel_rfl) (by kernel_rfl) trivial (QE_fa0 rfl rfl rfl rfl) rfl ?_
           refine JA_q 12 rfl (by kernel_rfl) (by kernel_rfl) (by kernel_rfl) trivial (QE_faB rfl rfl rfl rfl) rfl ?_
           refine JA_1 13 (by kernel_rfl) ?_
           refine JB_st rfl trivial 2 (_ :: _ :: _ :: _ :: _ :: _ :: _ :: _ :: _ :: _ :: _ :: _) rfl rfl rfl rfl rfl rfl rfl rfl rfl (fun _ hx => sub_mem (sbY (sbY (sb0 _))) hx) ?_
           refine JA_done (by kernel_rfl) ?_
           refine blockQ_n ?_
           refine retQ_mk [_, _] _ (.inl rfl) (.nil) rfl (Le.trans (Le.trans (Le.trans (Le.trans (Le.trans (Le.trans (Le.trans h1 h2) h3) h4) h5) h136) h139) h140) (fun sR hS2 => ?_)
           refine ⟨_ :: _ :: _ :: A1, rfl, rfl, ?_⟩
           rw [act_k16 (by assumption) (by omega)]
           have hb : bv (m.output ++ [UInt8.ofNat ((valT m op a.x).toNat % 256)]) = bv m.output ++ [Value.int .u8 ((UInt8.ofNat ((valT m op a.x).toNat % 256)).toNat : Int)] := by simp [bv]
           exact ⟨bc, cc, yc, A1, Ao1, co1, Ai, ni, ci, by simp, by simpa [hb] using o1, hI.le (Le.trans (Le.trans (Le.trans (Le.trans (Le.trans (Le.trans (Le.trans (Le.trans h1 h2) h3) h4) h5) h136) h139) h140) hS2), hcc, hcc2⟩
        ·
         refine JC_seq ?_
         refine JC_seq ?_
         refine JC_region ?_
         refine JO_q (QE_eq rfl rfl) rfl ?_
         refine JO_q (QE_as rfl) rfl ?_
         refine JO_nil ?_
         refine thenQ_n ?_
         refine JC_ifD rfl (fun c141 => ?_) (fun c141 => ?_)
         ·
          refine JC_skip ?_
          refine thenQ_n ?_
          refine JC_ifD rfl (fun c142 => ?_) (fun c142 => ?_)
          ·
           refine JC_seq ?_
           refine JC_region ?_
           refine JO_q (QE_ld1 0 rfl rfl rfl rfl rfl) rfl ?_
           refine JO_q (QE_nil rfl) rfl ?_
           refine JO_q (QE_fa0 rfl rfl rfl rfl) rfl ?_
           refine JO_q (QE_ldsR0 rfl rfl rfl (hca.le (Le.trans (Le.trans (Le.trans (Le.trans h1 h2) h3) h4) h5)) rfl) rfl ?_
           refine JO_q (QE_eq rfl rfl) rfl ?_
           refine JO_q (QE_mv rfl) rfl ?_
           refine JO_caseD (t := 172) rfl (fun c143 => ?_) (fun c143 => ?_)
           ·
            refine JO_gF rfl rfl rfl rfl ?_
            refine JO_gF rfl rfl rfl rfl ?_
            refine JO_q (QE_pickT rfl rfl) rfl ?_
            refine JO_nil ?_
            refine thenQ_n ?_
            refine JC_ifT rfl ?_
            refine JC_drawE drawsMixed 11 rfl [2] (by intro x hx; exact eraseAll_mem hx) ?_
            intro s144 h144
            refine JA_q 0 rfl (by kernel_rfl) (by kernel_rfl) (by kernel_rfl) trivial (QE_ld1 1 rfl rfl rfl rfl rfl) rfl ?_
            refine JA_q 1 rfl (by kernel_rfl) (by kernel_rfl) (by kernel_rfl) trivial (QE_ld1 1 rfl rfl rfl rfl rfl) rfl ?_
            refine JA_q 2 rfl (by kernel_rfl) (by kernel_rfl) (by kernel_rfl) trivial (QE_mv rfl) rfl ?_
            refine JA_q 3 rfl (by kernel_rfl) (by kernel_rfl) (by kernel_rfl) trivial (QE_nil rfl) rfl ?_
            refine JA_q 4 rfl (by kernel_rfl) (by kernel_rfl) (by kernel_rfl) trivial (QE_fa0 rfl rfl rfl rfl) rfl ?_
            refine JA_q 5 rfl (by kernel_rfl) (by kernel_rfl) (by kernel_rfl) trivial (QE_faB rfl rfl rfl rfl) rfl ?_
            refine JA_1 6 (by kernel_rfl) ?_
            refine JB_st rfl trivial 2 (_ :: _ :: _ :: _ :: _ :: _ :: _ :: _ :: _ :: _ :: _ :: _) rfl rfl rfl rfl rfl rfl rfl rfl rfl (fun _ hx => sub_mem (sbY (sbY (sbY (sbY (sbE _))))) hx) ?_
            refine JA_q 7 rfl (by kernel_rfl) (by kernel_rfl) (by kernel_rfl) trivial (QE_nil rfl) rfl ?_
            refine JA_q 8 rfl (by kernel_rfl) (by kernel_rfl) (by kernel_rfl) trivial (QE_fa0 rfl rfl rfl rfl) rfl ?_
            refine JA_q 9 rfl (by kernel_rfl) (by kernel_rfl) (by kernel_rfl) trivial (QE_faB rfl rfl rfl rfl) rfl ?_
            refine JA_1 10 (by kernel_rfl) ?_
            refine JB_st rfl trivial 2 (_ :: _ :: _ :: _ :: _ :: _ :: _ :: _ :: _ :: _ :: _ :: _) rfl rfl rfl rfl rfl rfl rfl rfl rfl (fun _ hx => sub_mem (sbY (sbY (sbY (sbY (sbE _))))) hx) ?_
            refine JA_done (by kernel_rfl) ?_
            refine blockQ_n ?_
            refine retQ_mk [_, _] _ (.inl rfl) (.nil) rfl (Le.trans (Le.trans (Le.trans (Le.trans (Le.trans h1 h2) h3) h4) h5) h144) (fun sR hS2 => ?_)
            refine ⟨_ :: _ :: _ :: O, rfl, rfl, ?_⟩
            rw [act_k17 (by assumption)]; exact ⟨bc, cc, yc, O, Ao, co, Ai, ni, ci, rfl, hO, hI.le (Le.trans (Le.trans (Le.trans (Le.trans (Le.trans (Le.trans h1 h2) h3) h4) h5) h144) hS2), hcc, hcc2⟩
           ·
            refine JO_gT rfl rfl ?_
            refine JO_q (QE_mv rfl) rfl ?_
            refine JO_gT rfl rfl ?_
            refine JO_q (QE_eq rfl rfl) rfl ?_
            refine JO_q (QE_pickF rfl rfl) rfl ?_
            refine JO_nil ?_
            refine thenQ_n ?_
            refine JC_ifD rfl (fun c145 => ?_) (fun c145 => ?_)
            ·
             refine JC_drawE drawsMixed 11 rfl [2] (by intro x hx; exact eraseAll_mem hx) ?_
             intro s146 h146
             refine JA_q 0 rfl (by kernel_rfl) (by kernel_rfl) (by kernel_rfl) trivial (QE_ld1 1 rfl rfl rfl rfl rfl) rfl ?_
             refine JA_q 1 rfl (by kernel_rfl) (by kernel_rfl) (by kernel_rfl) trivial (QE_ld1 1 rfl rfl rfl rfl rfl) rfl ?_
             refine JA_q 2 rfl (by kernel_rfl) (by kernel_rfl) (by kernel_rfl) trivial (QE_mv rfl) rfl ?_
             refine JA_q 3 rfl (by kernel_rfl) (by kernel_rfl) (by kernel_rfl) trivial (QE_nil rfl) rfl ?_
             refine JA_q 4 rfl (by kernel_rfl) (by kernel_rfl) (by kernel_rfl) trivial (QE_fa0 rfl rfl rfl rfl) rfl ?_
             refine JA_q 5 rfl (by kernel_rfl) (by kernel_rfl) (by kernel_rfl) trivial (QE_faB rfl rfl rfl rfl) rfl ?_
             refine JA_1 6 (by kernel_rfl) ?_
             refine JB_st rfl trivial 2 (_ :: _ :: _ :: _ :: _ :: _ :: _ :: _ :: _ :: _ :: _ :: _) rfl rfl rfl rfl rfl rfl rfl rfl rfl (fun _ hx => sub_mem (sbY (sbY (sbY (sbY (sbE _))))) hx) ?_
             refine JA_q 7 rfl (by kernel_rfl) (by kernel_rfl) (by kernel_rfl) trivial (QE_nil rfl) rfl ?_
             refine JA_q 8 rfl (by kernel_rfl) (by kernel_rfl) (by kernel_rfl) trivial (QE_fa0 rfl rfl rfl rfl) rfl ?_
             refine JA_q 9 rfl (by kernel_rfl) (by kernel_rfl) (by kernel_rfl) trivial (QE_faB rfl rfl rfl rfl) rfl ?_
             refine JA_1 10 (by kernel_rfl) ?_
             refine JB_st rfl trivial 2 (_ :: _ :: _ :: _ :: _ :: _ :: _ :: _ :: _ :: _ :: _ :: _) rfl rfl rfl rfl rfl rfl rfl rfl rfl (fun _ hx => sub_mem (sbY (sbY (sbY (sbY (sbE _))))) hx) ?_
             refine JA_done (by kernel_rfl) ?_
             refine blockQ_n ?_
             refine retQ_mk [_, _] _ (.inl rfl) (.nil) rfl (Le.trans (Le.trans (Le.trans (Le.trans (Le.trans h1 h2) h3) h4) h5) h146) (fun sR hS2 => ?_)
             exfalso; omega
            ·
             refine JC_skip ?_
             refine blockQ_n ?_
             refine retQ_mk [_, _] _ (.inl rfl) (.nil) rfl (Le.trans (Le.trans (Le.trans (Le.trans h1 h2) h3) h4) h5) (fun sR hS2 => ?_)
             exfalso; omega
          ·
           refine JC_region ?_
           refine JO_q (QE_mv rfl) rfl ?_
           refine JO_q (QE_ld1 0 rfl rfl rfl rfl rfl) rfl ?_
           refine JO_q (QE_nil rfl) rfl ?_
           refine JO_q (QE_fa0 rfl rfl rfl rfl) rfl ?_
           refine JO_q (QE_ldsR0 rfl rfl rfl (hca.le (Le.trans (Le.trans (Le.trans (Le.trans h1 h2) h3) h4) h5)) rfl) rfl ?_
           refine JO_q (QE_mv rfl) rfl ?_
           refine JO_q (QE_mv rfl) rfl ?_
           refine JO_call (first := []) (captured := []) rfl rfl rfl (compute_ac D _ _ _ _ _ hux huy (by have := ha.kind; omega)) ?_
           rintro _ _ s147 h147 ⟨rfl, rfl⟩
           refine JO_call (first := []) (captured := [_, _]) rfl rfl rfl (set_ac D _ _ _ _ _ _ _ _ _ _ _ _ _ _ _ _ _ _ _ hsm _ a ba oa _ _ (hca.le (Le.trans (Le.trans (Le.trans (Le.trans (Le.trans h1 h2) h3) h4) h5) h147)) ha.to) ?_
           rintro _ _ s148 h148 ⟨rfl, rfl⟩
           refine JO_nil ?_
           refine blockQ_n ?_
           refine retQ_mk [_, _] _ (.inl rfl) (.nil) rfl (Le.trans (Le.trans (Le.trans (Le.trans (Le.trans (Le.trans h1 h2) h3) h4) h5) h147) h148) (fun sR hS2 => ?_)
           exfalso; omega
         ·
          refine JC_region ?_
          refine JO_q (QE_eq rfl rfl) rfl ?_
          refine JO_q (QE_as rfl) rfl ?_
          refine JO_nil ?_
          refine thenQ_n ?_
          refine JC_ifD rfl (fun c149 => ?_) (fun c149 => ?_)
          ·
           refine JC_seq ?_
           refine JC_region ?_
           refine JO_q (QE_ld1 0 rfl rfl rfl rfl rfl) rfl ?_
           refine JO_q (QE_nil rfl) rfl ?_
           refine JO_q (QE_fa0 rfl rfl rfl rfl) rfl ?_
           refine JO_q (QE_ldsR0 rfl rfl rfl (hca.le (Le.trans (Le.trans (Le.trans (Le.trans h1 h2) h3) h4) h5)) rfl) rfl ?_
           refine JO_q (QE_eq rfl rfl) rfl ?_
           refine JO_q (QE_mv rfl) rfl ?_
           refine JO_caseD (t := 172) rfl (fun c150 => ?_) (fun c150 => ?_)
           ·
            refine JO_gF rfl rfl rfl rfl ?_
            refine JO_gF rfl rfl rfl rfl ?_
            refine JO_q (QE_pickT rfl rfl) rfl ?_
            refine JO_nil ?_
            refine thenQ_n ?_
            refine JC_ifT rfl ?_
            refine JC_drawE drawsMixed 11 rfl [2] (by intro x hx; exact eraseAll_mem hx) ?_
            intro s151 h151
            refine JA_q 0 rfl (by kernel_rfl) (by kernel_rfl) (by kernel_rfl) trivial (QE_ld1 1 rfl rfl rfl rfl rfl) rfl ?_
            refine JA_q 1 rfl (by kernel_rfl) (by kernel_rfl) (by kernel_rfl) trivial (QE_ld1 1 rfl rfl rfl rfl rfl) rfl ?_
            refine JA_q 2 rfl (by kernel_rfl) (by kernel_rfl) (by kernel_rfl) trivial (QE_mv rfl) rfl ?_
            refine JA_q 3 rfl (by kernel_rfl) (by kernel_rfl) (by kernel_rfl) trivial (QE_nil rfl) rfl ?_
            refine JA_q 4 rfl (by kernel_rfl) (by kernel_rfl) (by kernel_rfl) trivial (QE_fa0 rfl rfl rfl rfl) rfl ?_
            refine JA_q 5 rfl (by kernel_rfl) (by kernel_rfl) (by kernel_rfl) trivial (QE_faB rfl rfl rfl rfl) rfl ?_
            refine JA_1 6 (by kernel_rfl) ?_
            refine JB_st rfl trivial 2 (_ :: _ :: _ :: _ :: _ :: _ :: _ :: _ :: _ :: _ :: _ :: _) rfl rfl rfl rfl rfl rfl rfl rfl rfl (fun _ hx => sub_mem (sbY (sbY (sbY (sbY (sbE _))))) hx) ?_
            refine JA_q 7 rfl (by kernel_rfl) (by kernel_rfl) (by kernel_rfl) trivial (QE_nil rfl) rfl ?_
            refine JA_q 8 rfl (by kernel_rfl) (by kernel_rfl) (by kernel_rfl) trivial (QE_fa0 rfl rfl rfl rfl) rfl ?_
            refine JA_q 9 rfl (by kernel_rfl) (by kernel_rfl) (by kernel_rfl) trivial (QE_faB rfl rfl rfl rfl) rfl ?_
            refine JA_1 10 (by kernel_rfl) ?_
            refine JB_st rfl trivial 2 (_ :: _ :: _ :: _ :: _ :: _ :: _ :: _ :: _ :: _ :: _ :: _) rfl rfl rfl rfl rfl rfl rfl rfl rfl (fun _ hx => sub_mem (sbY (sbY (sbY (sbY (sbE _))))) hx) ?_
            refine JA_done (by kernel_rfl) ?_
            refine blockQ_n ?_
            refine retQ_mk [_, _] _ (.inl rfl) (.nil) rfl (Le.trans (Le.trans (Le.trans (Le.trans (Le.trans h1 h2) h3) h4) h5) h151) (fun sR hS2 => ?_)
            exfalso; omega
           ·
            refine JO_gT rfl rfl ?_
            refine JO_q (QE_mv rfl) rfl ?_
            refine JO_gT rfl rfl ?_
            refine JO_q (QE_eq rfl rfl) rfl ?_
            refine JO_q (QE_pickF rfl rfl) rfl ?_
            refine JO_nil ?_
            refine thenQ_n ?_
            refine JC_ifD rfl (fun c152 => ?_) (fun c152 => ?_)
            ·
             refine JC_drawE drawsMixed 11 rfl [2] (by intro x hx; exact eraseAll_mem hx) ?_
             intro s153 h153
             refine JA_q 0 rfl (by kernel_rfl) (by kernel_rfl) (by kernel_rfl) trivial (QE_ld1 1 rfl rfl rfl rfl rfl) rfl ?_
             refine JA_q 1 rfl (by kernel_rfl) (by kernel_rfl) (by kernel_rfl) trivial (QE_ld1 1 rfl rfl rfl rfl rfl) rfl ?_
             refine JA_q 2 rfl (by kernel_rfl) (by kernel_rfl) (by kernel_rfl) trivial (QE_mv rfl) rfl ?_
             refine JA_q 3 rfl (by kernel_rfl) (by kernel_rfl) (by kernel_rfl) trivial (QE_nil rfl) rfl ?_
             refine JA_q 4 rfl (by kernel_rfl) (by kernel_rfl) (by kernel_rfl) trivial (QE_fa0 rfl rfl rfl rfl) rfl ?_
             refine JA_q 5 rfl (by kernel_rfl) (by kernel_rfl) (by kernel_rfl) trivial (QE_faB rfl rfl rfl rfl) rfl ?_
             refine JA_1 6 (by kernel_rfl) ?_
             refine JB_st rfl trivial 2 (_ :: _ :: _ :: _ :: _ :: _ :: _ :: _ :: _ :: _ :: _ :: _) rfl rfl rfl rfl rfl rfl rfl rfl rfl (fun _ hx => sub_mem (sbY (sbY (sbY (sbY (sbE _))))) hx) ?_
             refine JA_q 7 rfl (by kernel_rfl) (by kernel_rfl) (by kernel_rfl) trivial (QE_nil rfl) rfl ?_
             refine JA_q 8 rfl (by kernel_rfl) (by kernel_rfl) (by kernel_rfl) trivial (QE_fa0 rfl rfl rfl rfl) rfl ?_
             refine JA_q 9 rfl (by kernel_rfl) (by kernel_rfl) (by kernel_rfl) trivial (QE_faB rfl rfl rfl rfl) rfl ?_
             refine JA_1 10 (by kernel_rfl) ?_
             refine JB_st rfl trivial 2 (_ :: _ :: _ :: _ :: _ :: _ :: _ :: _ :: _ :: _ :: _ :: _) rfl rfl rfl rfl rfl rfl rfl rfl rfl (fun _ hx => sub_mem (sbY (sbY (sbY (sbY (sbE _))))) hx) ?_
             refine JA_done (by kernel_rfl) ?_
             refine blockQ_n ?_
             refine retQ_mk [_, _] _ (.inl rfl) (.nil) rfl (Le.trans (Le.trans (Le.trans (Le.trans (Le.trans h1 h2) h3) h4) h5) h153) (fun sR hS2 => ?_)
             refine ⟨_ :: _ :: _ :: O, rfl, rfl, ?_⟩
             rw [act_k18 (by assumption) (by assumption)]; exact ⟨bc, cc, yc, O, Ao, co, Ai, ni, ci, rfl, hO, hI.le (Le.trans (Le.trans (Le.trans (Le.trans (Le.trans (Le.trans h1 h2) h3) h4) h5) h153) hS2), hcc, hcc2⟩
            ·
             refine JC_skip ?_
             refine blockQ_n ?_
             refine retQ_mk [_, _] _ (.inl rfl) (.nil) rfl (Le.trans (Le.trans (Le.trans (Le.trans h1 h2) h3) h4) h5) (fun sR hS2 => ?_)
             refine ⟨_ :: _ :: _ :: O, rfl, rfl, ?_⟩
             rw [act_k18n (by assumption) (by assumption)]; exact ⟨bc, cc, yc, O, Ao, co, Ai, ni, ci, rfl, hO, hI.le (Le.trans (Le.trans (Le.trans (Le.trans (Le.trans h1 h2) h3) h4) h5) hS2), hcc, hcc2⟩
          ·
           refine JC_region ?_
           refine JO_q (QE_mv rfl) rfl ?_
           refine JO_q (QE_ld1 0 rfl rfl rfl rfl rfl) rfl ?_
           refine JO_q (QE_nil rfl) rfl ?_
           refine JO_q (QE_fa0 rfl rfl rfl rfl) rfl ?_
           refine JO_q (QE_ldsR0 rfl rfl rfl (hca.le (Le.trans (Le.trans (Le.trans (Le.trans h1 h2) h3) h4) h5)) rfl) rfl ?_
           refine JO_q (QE_mv rfl) rfl ?_
           refine JO_q (QE_mv rfl) rfl ?_
           refine JO_call (first := []) (captured := []) rfl rfl rfl (compute_ac D _ _ _ _ _ hux huy (by have := ha.kind; omega)) ?_
           rintro _ _ s154 h154 ⟨rfl, rfl⟩
           refine JO_call (first := []) (captured := [_, _]) rfl rfl rfl (set_ac D _ _ _ _ _ _ _ _ _ _ _ _ _ _ _ _ _ _ _ hsm _ a ba oa _ _ (hca.le (Le.trans (Le.trans (Le.trans (Le.trans (Le.trans h1 h2) h3) h4) h5) h154)) ha.to) ?_
           rintro _ _ s155 h155 ⟨rfl, rfl⟩
           refine JO_nil ?_
           refine blockQ_n ?_
           refine retQ_mk [_, _] _ (.inl rfl) (.nil) rfl (Le.trans (Le.trans (Le.trans (Le.trans (Le.trans (Le.trans h1 h2) h3) h4) h5) h154) h155) (fun sR hS2 => ?_)
           refine ⟨_ :: _ :: _ :: O, rfl, rfl, ?_⟩
           rw [act_comp (by have := ha.kind; omega)]; exact ⟨bc, cc, yc, O, Ao, co, Ai, ni, ci, rfl, hO, hI.le (Le.trans (Le.trans (Le.trans (Le.trans (Le.trans (Le.trans (Le.trans h1 h2) h3) h4) h5) h154) h155) hS2), hcc, hcc2⟩
end Go.Proofs.Ytpjnphonanbopaa
