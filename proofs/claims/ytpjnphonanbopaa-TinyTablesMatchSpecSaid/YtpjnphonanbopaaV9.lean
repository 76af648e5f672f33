/- The machine: runs. -/
import Derived.Test.YtpjnphonanbopaaV8
import Derived.Test.YtpjnphonanbopaaDr
namespace Go.Proofs.Ytpjnphonanbopaa
open Go.FL
attribute [local irreducible] JC JO JA JB thenQ blockQ retQ AC fill CellsAt QE Ev Mid

theorem wds_pub {s : World} {bc cc : Nat} {l : List Int} {yc : List Value} (hp : CellsAt s bc 0 (wv l ++ yc)) (hu : ∀ x ∈ l, U32 x) (h1 : l.length + yc.length = cc) (h2 : cc ≤ 9223372036854775807) : Wds s (some ⟨bc, 0, none⟩) l.length cc l :=
  Own.wds (e := 0) (A := [(bc, cb (wv l ++ yc) 0)]) (.blk bc cc l.length (wv l) yc (by simp [wv]) (by rw [wv_len]; omega) (by omega) h2) hu (fun b zs t hm => by
    simp only [List.mem_singleton, Prod.mk.injEq, cb, Obj.cells.injEq] at hm
    obtain ⟨rfl, h, rfl, _⟩ := hm
    have e : zs = wv l ++ yc := by simpa using h
    rw [e]; exact hp)
theorem U32_zero : U32 0 := ⟨by decide, by decide⟩
theorem nocode {m : Mst} (h : SOK m) (h0 : m.stop = 0) : m.code = 0 := by
  by_cases hc : m.code = 0
  · exact hc
  · have := h.code hc; omega

set_option maxHeartbeats 4000000 in
set_option maxRecDepth 100000 in
theorem runO_ac (D : Nat) (L : Hl) (s : World) (t : Tab) (A : Option Addr) (n c : Nat) (hA : Inss s A n c t.ins) (m : Mst) (Ax Bx Ox : Option Addr) (nAx cAx nBx cBx nOx cOx : Nat) (hAx : Wds s Ax nAx cAx m.cells) (hBx : Bts s Bx nBx cBx m.input) (hOx : Bts s Ox nOx cOx m.output) (hU : MU m) (k : Int) : AC Try.prog D 16 [.agg #[.int .i64 t.cells, .slice A n c], .agg #[.slice Ax nAx cAx, .int .u32 m.r0, .int .u32 m.r1, .int .u32 m.r2, .int .u32 m.r3, .int .u32 m.r4, .slice Bx nBx cBx, .slice Ox nOx cOx, .int .i64 m.stop, .int .u32 m.code], .int .i64 k] L s fun v L' s' => ∃ M', L' = M' ++ L ∧ ∀ s2, Le D s' s2 → Pub M' s2 → ∃ vs, StW s2 (runR t m k).1 vs ∧ v = .tuple #[vs, .int .i64 (runR t m k).2.1, .agg #[.int .i64 (runR t m k).2.2.1, .int .i64 (runR t m k).2.2.2]] := by
 have hF := st_zero t m
 refine AC_enter (TT := TT) (fn := Try.f16) TT_ok Try.func16 (by kernel_rfl) rfl Try.ntmps16 rfl (rs := [.cell 6 30, .tmp 7, .cell 8 32]) rfl [(0, _), (1, _), (2, _)] rfl ?_
 refine JC_seq ?_
 refine JC_region ?_
 refine JO_boxA rfl rfl ?_
 intro β1 s1 h1
 refine JO_boxA rfl rfl ?_
 intro β2 s2 h2
 refine JO_allocZ rfl [_, _, _, _, _, _, _, _, _, _] rfl rfl ?_
 intro β3 s3 h3
 refine JO_q (QE_as rfl) rfl ?_
 refine JO_allocZ rfl [_, _] rfl rfl ?_
 intro β4 s4 h4
 refine JO_nil ?_
 refine thenQ_n ?_
 refine JC_seq ?_
 refine JC_seq ?_
 refine JC_region ?_
 refine JO_q (QE_ldA 3 [_, _] rfl rfl rfl rfl rfl) rfl ?_
 refine JO_q (QE_ldA 2 [_, _, _, _, _, _, _, _, _, _] rfl rfl rfl rfl rfl) rfl ?_
 refine JO_call (first := []) (captured := []) rfl rfl rfl (valid_ac D _ _ _ _ _ _ (hA.le (Le.trans (Le.trans (Le.trans h1 h2) h3) h4)) _ _ _ _ _ _ _ _ _ _ (hAx.le (Le.trans (Le.trans (Le.trans h1 h2) h3) h4)) (hBx.le (Le.trans (Le.trans (Le.trans h1 h2) h3) h4)) (hOx.le (Le.trans (Le.trans (Le.trans h1 h2) h3) h4))) ?_
 rintro _ _ s5 h5 ⟨rfl, rfl⟩
 refine JO_allocZ rfl [_, _] rfl rfl ?_
 intro β6 s6 h6
 refine JO_st 0 [_, _] rfl rfl rfl rfl rfl rfl rfl rfl rfl ?_
 refine JO_nil ?_
 refine thenQ_n ?_
 refine JC_seq ?_
 refine JC_region ?_
 refine JO_q (QE_ldA 0 [_, _] rfl rfl rfl rfl rfl) rfl ?_
 refine JO_q (QE_build [] [_, _] rfl rfl rfl rfl rfl rfl) rfl ?_
 refine JO_q (QE_ane rfl rfl (eqFault _ _ _ _)) rfl ?_
 refine JO_nil ?_
 refine thenQ_n ?_
 refine JC_ifN rfl (fun c7 => ?_) (fun c7 => ?_)
 ·
  have hbad : (stFault t m).1 ≠ 0 := fun h => c7 ⟨h, hF h⟩
  refine JC_seq ?_
  refine JC_drawE drawsMixed 5 rfl [2, 1] (by intro x hx; exact eraseAll_mem hx) ?_
  intro s8 h8
  refine JA_q 0 rfl (by kernel_rfl) (by kernel_rfl) (by kernel_rfl) trivial (QE_build [] [_, _, _, _, _, _, _, _, _, _] rfl rfl rfl rfl rfl rfl) rfl ?_
  refine JA_q 1 rfl (by kernel_rfl) (by kernel_rfl) (by kernel_rfl) trivial (QE_ldA 0 [_, _] rfl rfl rfl rfl rfl) rfl ?_
  refine JA_1 2 (by kernel_rfl) ?_
  refine JB_st rfl trivial 2 [_, _, _, _, _, _, _, _, _, _] rfl rfl rfl rfl rfl rfl rfl rfl rfl (fun _ hx => sub_mem (sbY (sbN (sbY (sbY (sbE _))))) hx) ?_
  refine JA_q 3 rfl (by kernel_rfl) (by kernel_rfl) (by kernel_rfl) trivial (QE_as rfl) rfl ?_
  refine JA_1 4 (by kernel_rfl) ?_
  refine JB_st rfl trivial 1 [_, _] rfl rfl rfl rfl rfl rfl rfl rfl rfl (fun _ hx => sub_mem (sbY (sbN (sbY (sbY (sbE _))))) hx) ?_
  refine JA_done (by kernel_rfl) ?_
  refine thenQ_n ?_
  refine JC_ret ?_
  refine thenQ_r ?_
  refine retQ_mk [_, _] _ (.inr rfl) (.agg (us := [_, _, _, _, _, _, _, _, _, _]) 2 rfl rfl rfl rfl rfl (.tmp rfl (.agg (us := [_, _]) 1 rfl rfl rfl rfl rfl (.nil)))) rfl (Le.trans (Le.trans (Le.trans (Le.trans (Le.trans (Le.trans h1 h2) h3) h4) h5) h6) h8) (fun sR hS2 => ?_)
  refine ⟨[_, _, _], rfl, fun s2 h2 hp => ?_⟩
  rw [runR_bad hbad]; exact ⟨_, StW.zero _, rfl⟩
 ·
  have hst0 : (stFault t m).1 = 0 := c7.1
  obtain ⟨hG, hok, hsok, hlen⟩ := st_mok hA hAx hU hst0
  refine JC_skip ?_
  refine thenQ_n ?_
  refine JC_seq ?_
  refine JC_seq ?_
  refine JC_region ?_
  refine JO_q (QE_mv rfl) rfl ?_
  refine JO_q (QE_lt rfl rfl) rfl ?_
  refine JO_q (QE_mv rfl) rfl ?_
  refine JO_caseD (t := 22) rfl (fun c9 => ?_) (fun c9 => ?_)
  ·
   refine JO_gF rfl rfl rfl rfl ?_
   refine JO_gF rfl rfl rfl rfl ?_
   refine JO_q (QE_pickT rfl rfl) rfl ?_
   refine JO_nil ?_
   refine thenQ_n ?_
   refine JC_ifT rfl ?_
   have hfar : k < 0 ∨ 50000000 < k := by omega
   refine JC_seq ?_
   refine JC_region ?_
   refine JO_q (QE_build [] [_, _, _, _, _, _, _, _, _, _] rfl rfl rfl rfl rfl rfl) rfl ?_
   refine JO_call (first := []) (captured := []) rfl rfl rfl (fault_ac D _ _ _ _) ?_
   rintro _ _ s10 h10 ⟨rfl, rfl⟩
   refine JO_st 2 [_, _, _, _, _, _, _, _, _, _] rfl rfl rfl rfl rfl rfl rfl rfl rfl ?_
   refine JO_q (QE_as rfl) rfl ?_
   refine JO_st 1 [_, _] rfl rfl rfl rfl rfl rfl rfl rfl rfl ?_
   refine JO_nil ?_
   refine thenQ_n ?_
   refine JC_ret ?_
   refine thenQ_r ?_
   refine retQ_mk [_, _] _ (.inr rfl) (.agg (us := [_, _, _, _, _, _, _, _, _, _]) 2 rfl rfl rfl rfl rfl (.tmp rfl (.agg (us := [_, _]) 1 rfl rfl rfl rfl rfl (.nil)))) rfl (Le.trans (Le.trans (Le.trans (Le.trans (Le.trans (Le.trans h1 h2) h3) h4) h5) h6) h10) (fun sR hS2 => ?_)
   refine ⟨[_, _, _], rfl, fun s2 h2 hp => ?_⟩
   rw [runR_far hst0 hfar]; exact ⟨_, StW.zero _, rfl⟩
  ·
   refine JO_gT rfl rfl ?_
   refine JO_q (QE_mv rfl) rfl ?_
   refine JO_gT rfl rfl ?_
   refine JO_q (QE_gt rfl rfl) rfl ?_
   refine JO_q (QE_pickF rfl rfl) rfl ?_
   refine JO_nil ?_
   refine thenQ_n ?_
   refine JC_ifD rfl (fun c11 => ?_) (fun c11 => ?_)
   ·
    have hfar : k < 0 ∨ 50000000 < k := by omega
    refine JC_seq ?_
    refine JC_region ?_
    refine JO_q (QE_build [] [_, _, _, _, _, _, _, _, _, _] rfl rfl rfl rfl rfl rfl) rfl ?_
    refine JO_call (first := []) (captured := []) rfl rfl rfl (fault_ac D _ _ _ _) ?_
    rintro _ _ s12 h12 ⟨rfl, rfl⟩
    refine JO_st 2 [_, _, _, _, _, _, _, _, _, _] rfl rfl rfl rfl rfl rfl rfl rfl rfl ?_
    refine JO_q (QE_as rfl) rfl ?_
    refine JO_st 1 [_, _] rfl rfl rfl rfl rfl rfl rfl rfl rfl ?_
    refine JO_nil ?_
    refine thenQ_n ?_
    refine JC_ret ?_
    refine thenQ_r ?_
    refine retQ_mk [_, _] _ (.inr rfl) (.agg (us := [_, _, _, _, _, _, _, _, _, _]) 2 rfl rfl rfl rfl rfl (.tmp rfl (.agg (us := [_, _]) 1 rfl rfl rfl rfl rfl (.nil)))) rfl (Le.trans (Le.trans (Le.trans (Le.trans (Le.trans (Le.trans h1 h2) h3) h4) h5) h6) h12) (fun sR hS2 => ?_)
    refine ⟨[_, _, _], rfl, fun s2 h2 hp => ?_⟩
    rw [runR_far hst0 hfar]; exact ⟨_, StW.zero _, rfl⟩
   ·
    have hin : ¬ (k < 0 ∨ 50000000 < k) := by omega
    refine JC_skip ?_
    refine thenQ_n ?_
    refine JC_seq ?_
    refine JC_region ?_
    refine JO_q (QE_ldA 4 [_, _] rfl rfl rfl rfl rfl) rfl ?_
    refine JO_q (QE_ldA 3 [_, _, _, _, _, _, _, _, _, _] rfl rfl rfl rfl rfl) rfl ?_
    refine JO_call (first := []) (captured := []) rfl rfl rfl (AC.mid [_, _, _, _, _] [] _ (open_ac D _ _ _ _ _ _ (hA.le (Le.trans (Le.trans (Le.trans (Le.trans (Le.trans h1 h2) h3) h4) h5) h6)) _ _ _ _ _ _ _ _ _ _ (hAx.le (Le.trans (Le.trans (Le.trans (Le.trans (Le.trans h1 h2) h3) h4) h5) h6)) (hBx.le (Le.trans (Le.trans (Le.trans (Le.trans (Le.trans h1 h2) h3) h4) h5) h6)) (hOx.le (Le.trans (Le.trans (Le.trans (Le.trans (Le.trans h1 h2) h3) h4) h5) h6)) hok (by have := hG.cells; omega))) ?_
    rintro _ _ s13 h13 ⟨M1, rfl, bm, sm, bq, es, ck, rfl, hsm, hS, hB, bc, cc, yc, O, Ao, co, Ai, ni, ci, rfl, hO, hI, hcc, hcc2⟩
    simp only [List.cons_append, List.nil_append]
    refine JO_q (QE_as rfl) rfl ?_
    refine JO_nil ?_
    refine thenQ_n ?_
    refine JC_seq ?_
    refine JC_region ?_
    refine JO_q (QE_as rfl) rfl ?_
    refine JO_nil ?_
    refine thenQ_n ?_
    refine JC_seq ?_
    refine JC_block ?_
    refine JC_loopX [_, _, _, _, _] (γ := Nat × Mst × Int × Hl) (fun g => [(2, _), (6, _), (7, _), (8, _), (10, _), (11, .int .i64 (g.1 : Int))]) (fun g => g.2.2.2 ++ L) (fun g tw => Le D s13 tw ∧ (g.1 ≤ k.toNat ∧ MaMem bm (.slice A n c) sm bq es ck g.2.2.1 g.2.1 g.2.2.2 tw ∧ MOK g.2.1 ∧ SOK g.2.1 ∧ U32 g.2.2.1 ∧ runM t m k.toNat = ((runM t g.2.1 (k.toNat - g.1)).1, g.1 + (runM t g.2.1 (k.toNat - g.1)).2))) (fun g => k.toNat - g.1) (fun _ _ _ h hl => ⟨h.1.trans hl, by obtain ⟨_, k1, ⟨bc, cc, yc, O, Ao, co, Ai, ni, ci, k2, k3, k4, k5⟩, k6⟩ := h; exact ⟨k1, ⟨bc, cc, yc, O, Ao, co, Ai, ni, ci, k2, k3, k4.le hl, k5⟩, k6⟩⟩) (0, m, 0, _ :: _ :: _ :: O) (Keeps.cons rfl (Keeps.cons rfl (Keeps.cons rfl (Keeps.cons rfl (Keeps.cons rfl (Keeps.cons rfl (Keeps.nil _))))))) rfl ⟨Le.refl _, ⟨Nat.zero_le _, ⟨bc, cc, yc, O, Ao, co, Ai, ni, ci, rfl, hO, hI.le (Le.refl (D := D) _), hcc, hcc2⟩, hok, hsok, U32_zero, by simp⟩⟩ ?_
    intro g s14 I14
    simp only [List.cons_append, List.nil_append]
    obtain ⟨j, mk, opk, Mk⟩ := g
    obtain ⟨hj0, ⟨bc1, cc1, yc1, O1, Ao1, co1, Ai1, ni1, ci1, hMk, hO1, hI1, hcc1, hcc21⟩, hok1, hsok1, hop1, hrun⟩ := I14.2
    simp only at hj0 hMk hO1 hI1 hcc1 hok1 hop1 hrun hsok1
    subst hMk
    simp only [List.cons_append]
    refine JC_seq ?_
    refine JC_seq ?_
    refine JC_region ?_
    refine JO_q (QE_mv rfl) rfl ?_
    refine JO_q (QE_mv rfl) rfl ?_
    refine JO_q (QE_lt rfl rfl) rfl ?_
    refine JO_q (QE_mv rfl) rfl ?_
    refine JO_caseD (t := 34) rfl (fun c15 => ?_) (fun c15 => ?_)
    ·
     refine JO_gT rfl rfl ?_
     refine JO_q (QE_mv rfl) rfl ?_
     refine JO_gT rfl rfl ?_
     refine JO_q (QE_nil rfl) rfl ?_
     refine JO_gT rfl rfl ?_
     refine JO_q (QE_fa0 rfl rfl rfl rfl) rfl ?_
     refine JO_gT rfl rfl ?_
     refine JO_q (QE_faB rfl rfl rfl rfl) rfl ?_
     refine JO_gT rfl rfl ?_
     refine JO_q (QE_ld1 5 rfl rfl rfl rfl rfl) rfl ?_
     refine JO_gT rfl rfl ?_
     refine JO_q (QE_eq rfl rfl) rfl ?_
     refine JO_q (QE_pickT rfl rfl) rfl ?_
     refine JO_nil ?_
     refine thenQ_n ?_
     refine JC_ifD rfl (fun c16 => ?_) (fun c16 => ?_)
     ·
      have hs1 : mk.stop = 0 := c16
      have hj1 : j < k.toNat := by omega
      refine JC_skip ?_
      refine thenQ_n ?_
      refine JC_block ?_
      refine JC_seq ?_
      refine JC_region ?_
      refine JO_q (QE_mv rfl) rfl ?_
      refine JO_call (first := []) (captured := []) rfl rfl rfl (AC.mid [_, _, _, _, _] (_ :: _ :: _ :: O1) L (step_ac D _ _ bm _ _ _ sm hsm bq es ck opk mk _ ⟨bc1, cc1, yc1, O1, Ao1, co1, Ai1, ni1, ci1, rfl, hO1, hI1.le (Le.refl (D := D) _), hcc1, hcc21⟩ t (hA.le (Le.trans (Le.trans (Le.trans (Le.trans (Le.trans (Le.trans (Le.trans h1 h2) h3) h4) h5) h6) h13) I14.1)) hG hok1 hop1 hs1 hS hB)) ?_
      rintro _ _ s17 h17 ⟨M2, rfl, rfl, op2, hop2, bc2, cc2, yc2, O2, Ao2, co2, Ai2, ni2, ci2, rfl, hO2, hI2, hcc22, hcc23⟩
      simp only [List.cons_append, List.nil_append]
      refine JO_nil ?_
      refine thenQ_n ?_
      refine JC_region ?_
      refine JO_q (QE_mv rfl) rfl ?_
      refine JO_q (QE_add' rfl rfl (w64 (by omega) (by omega))) rfl ?_
      refine JO_q (QE_as rfl) rfl ?_
      refine JO_nil ?_
      refine blockQ_n ?_
      refine thenQ_n ⟨(j + 1, stepM t mk, op2, _ :: _ :: _ :: O2), [], (Keeps.cons rfl (Keeps.cons rfl (Keeps.cons rfl (Keeps.cons rfl (Keeps.cons rfl (Keeps.cons rfl (Keeps.nil _))))))), rfl, ⟨(Le.trans I14.1 h17), ⟨hj1, ⟨bc2, cc2, yc2, O2, Ao2, co2, Ai2, ni2, ci2, rfl, hO2, hI2.le (Le.refl (D := D) _), hcc22, hcc23⟩, (step_good hG hok1 hs1 (nocode hsok1 hs1)).1, (step_good hG hok1 hs1 (nocode hsok1 hs1)).2.1, hop2, run_mid hrun hj1 hs1⟩⟩, (by simp only; omega)⟩
     ·
      have hend : ¬ j < k.toNat ∨ ¬ mk.stop = 0 := by first | exact .inr c16 | exact .inl (by omega)
      refine JC_exit ?_
      refine thenQ_x ?_
      refine thenQ_x ?_
      refine blockQ_x ?_
      refine thenQ_n ?_
      refine JC_seq ?_
      refine JC_region ?_
      refine JO_q (QE_mv rfl) rfl ?_
      refine JO_call (first := []) (captured := []) rfl rfl rfl (AC.mid [_, _, _, _, _] [_] _ (result_ac D _ _ _ _ _ _ _ _ _ _ _ _ _ _ _ _ _ _ _ hsm (hI1.le (Le.refl (D := D) _)) (by have := hI1.1; have := hok1.input; omega))) ?_
      rintro _ _ s18 h18 ⟨_, rfl, rfl, Ad, c9, rfl, hB9⟩
      simp only [List.cons_append, List.nil_append]
      refine JO_q (QE_mv rfl) rfl ?_
      refine JO_q (QE_build [] [_, _] rfl rfl rfl rfl rfl rfl) rfl ?_
      refine JO_st 2 [_, _, _, _, _, _, _, _, _, _] rfl rfl rfl rfl rfl rfl rfl rfl rfl ?_
      refine JO_q (QE_as rfl) rfl ?_
      refine JO_st 1 [_, _] rfl rfl rfl rfl rfl rfl rfl rfl rfl ?_
      refine JO_nil ?_
      refine thenQ_n ?_
      refine JC_ret ?_
      refine retQ_mk [_, _, _, _, _] _ (.inr rfl) (.agg (us := [_, _, _, _, _, _, _, _, _, _]) 2 rfl rfl rfl rfl rfl (.tmp rfl (.agg (us := [_, _]) 1 rfl rfl rfl rfl rfl (.nil)))) rfl (Le.trans (Le.trans (Le.trans (Le.trans (Le.trans (Le.trans (Le.trans (Le.trans h1 h2) h3) h4) h5) h6) h13) I14.1) h18) (fun sR hS2 => ?_)
      refine ⟨_ :: _ :: _ :: O1, rfl, fun s2 h2 hp => ?_⟩
      rw [runR_ok hst0 hin, run_end hrun hend]
      exact ⟨_, ⟨_, _, _, _, _, _, _, _, _, rfl, wds_pub (hp _ _ _ (List.mem_cons_of_mem _ (List.mem_cons_self ..))) hok1.wide hcc1 hcc21, hB9.le (Le.trans (Le.refl (D := D) _) (Le.trans hS2 h2)), Own.bts hO1 hp.tail.tail.tail⟩, rfl⟩
    ·
     refine JO_gF rfl rfl rfl rfl ?_
     refine JO_gF rfl rfl rfl rfl ?_
     refine JO_gF rfl rfl rfl rfl ?_
     refine JO_gF rfl rfl rfl rfl ?_
     refine JO_gF rfl rfl rfl rfl ?_
     refine JO_gF rfl rfl rfl rfl ?_
     refine JO_q (QE_pickF rfl rfl) rfl ?_
     refine JO_nil ?_
     refine thenQ_n ?_
     refine JC_ifF rfl ?_
     have hend : ¬ j < k.toNat ∨ ¬ mk.stop = 0 := by first | exact .inr trivial | exact .inl (by omega)
     refine JC_exit ?_
     refine thenQ_x ?_
     refine thenQ_x ?_
     refine blockQ_x ?_
     refine thenQ_n ?_
     refine JC_seq ?_
     refine JC_region ?_
     refine JO_q (QE_mv rfl) rfl ?_
     refine JO_call (first := []) (captured := []) rfl rfl rfl (AC.mid [_, _, _, _, _] [_] _ (result_ac D _ _ _ _ _ _ _ _ _ _ _ _ _ _ _ _ _ _ _ hsm (hI1.le (Le.refl (D := D) _)) (by have := hI1.1; have := hok1.input; omega))) ?_
     rintro _ _ s19 h19 ⟨_, rfl, rfl, Ad, c9, rfl, hB9⟩
     simp only [List.cons_append, List.nil_append]
     refine JO_q (QE_mv rfl) rfl ?_
     refine JO_q (QE_build [] [_, _] rfl rfl rfl rfl rfl rfl) rfl ?_
     refine JO_st 2 [_, _, _, _, _, _, _, _, _, _] rfl rfl rfl rfl rfl rfl rfl rfl rfl ?_
     refine JO_q (QE_as rfl) rfl ?_
     refine JO_st 1 [_, _] rfl rfl rfl rfl rfl rfl rfl rfl rfl ?_
     refine JO_nil ?_
     refine thenQ_n ?_
     refine JC_ret ?_
     refine retQ_mk [_, _, _, _, _] _ (.inr rfl) (.agg (us := [_, _, _, _, _, _, _, _, _, _]) 2 rfl rfl rfl rfl rfl (.tmp rfl (.agg (us := [_, _]) 1 rfl rfl rfl rfl rfl (.nil)))) rfl (Le.trans (Le.trans (Le.trans (Le.trans (Le.trans (Le.trans (Le.trans (Le.trans h1 h2) h3) h4) h5) h6) h13) I14.1) h19) (fun sR hS2 => ?_)
     refine ⟨_ :: _ :: _ :: O1, rfl, fun s2 h2 hp => ?_⟩
     rw [runR_ok hst0 hin, run_end hrun hend]
     exact ⟨_, ⟨_, _, _, _, _, _, _, _, _, rfl, wds_pub (hp _ _ _ (List.mem_cons_of_mem _ (List.mem_cons_self ..))) hok1.wide hcc1 hcc21, hB9.le (Le.trans (Le.refl (D := D) _) (Le.trans hS2 h2)), Own.bts hO1 hp.tail.tail.tail⟩, rfl⟩
end Go.Proofs.Ytpjnphonanbopaa
