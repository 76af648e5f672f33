/- The laws of the machine: walks. -/
import Derived.Test.YtpjnphonanbopaaV15
namespace Go.Proofs.Ytpjnphonanbopaa
open Go.FL
attribute [local irreducible] JC JO JA JB thenQ blockQ retQ AC fill CellsAt QE Ev Mid

theorem runF1 (t : Tab) (m : Mst) : (runR t m 1).2.2 = stFault t m := by
  by_cases h : (stFault t m).1 = 0
  · rw [runR_ok h (by omega)]
    have := st_zero t m h
    exact Prod.ext h.symm this.symm
  · rw [runR_bad h]
theorem bT {p : Prop} [Decidable p] (h : p) : Value.bool (decide p) = .bool true := by rw [decide_eq_true h]
theorem bF {p : Prop} [Decidable p] (h : p) : Value.bool (!decide p) = .bool false := by rw [decide_eq_true h]; rfl
theorem bN {p : Prop} [Decidable p] (h : ¬ p) : Value.bool (!decide p) = .bool true := by rw [decide_eq_false h]; rfl
theorem bZ {p : Prop} [Decidable p] (h : ¬ p) : Value.bool (decide p) = .bool false := by rw [decide_eq_false h]

set_option maxHeartbeats 4000000 in
set_option maxRecDepth 100000 in
theorem lawStep_ac (D : Nat) (L : Hl) (s : World) (t : Tab) (A : Option Addr) (n c : Nat) (hA : Inss s A n c t.ins) (m : Mst) (Ax Bx Ox : Option Addr) (nAx cAx nBx cBx nOx cOx : Nat) (hAx : Wds s Ax nAx cAx m.cells) (hBx : Bts s Bx nBx cBx m.input) (hOx : Bts s Ox nOx cOx m.output) (hU : MU m) : AC Try.prog D 3 [.agg #[.int .i64 t.cells, .slice A n c], .agg #[.slice Ax nAx cAx, .int .u32 m.r0, .int .u32 m.r1, .int .u32 m.r2, .int .u32 m.r3, .int .u32 m.r4, .slice Bx nBx cBx, .slice Ox nOx cOx, .int .i64 m.stop, .int .u32 m.code]] L s fun v L' _ => v = .bool true ∧ L = L' := by
 refine AC_enter (TT := TT) (fn := Try.f3) TT_ok Try.func3 (by kernel_rfl) rfl Try.ntmps3 rfl (rs := [.tmp 4]) rfl [(0, _), (1, _)] rfl ?_
 refine JC_seq ?_
 refine JC_region ?_
 refine JO_boxA rfl rfl ?_
 intro β1 s1 h1
 refine JO_boxA rfl rfl ?_
 intro β2 s2 h2
 refine JO_q (QE_as rfl) rfl ?_
 refine JO_nil ?_
 refine thenQ_n ?_
 refine JC_seq ?_
 refine JC_region ?_
 refine JO_q (QE_ldA 1 [_, _] rfl rfl rfl rfl rfl) rfl ?_
 refine JO_q (QE_ldA 0 [_, _, _, _, _, _, _, _, _, _] rfl rfl rfl rfl rfl) rfl ?_
 refine JO_call (first := []) (captured := []) rfl rfl rfl (step1_ac D _ _ _ _ _ _ (hA.le (Le.trans h1 h2)) _ _ _ _ _ _ _ _ _ _ (hAx.le (Le.trans h1 h2)) (hBx.le (Le.trans h1 h2)) (hOx.le (Le.trans h1 h2)) hU) ?_
 rintro _ _ s3 h3 ⟨rfl, _, ⟨Au, nu, cu, Bu, nBu, cBu, Ou, nOu, cOu, rfl, hAu, hBu, hOu⟩, rfl⟩
 refine JO_q (QE_mv rfl) rfl ?_
 refine JO_q (QE_ext rfl rfl) rfl ?_
 refine JO_q (QE_ext rfl rfl) rfl ?_
 refine JO_allocZ rfl [_, _, _, _, _, _, _, _, _, _] rfl rfl ?_
 intro β4 s4 h4
 refine JO_allocZ rfl [_, _] rfl rfl ?_
 intro β5 s5 h5
 refine JO_st 1 [_, _, _, _, _, _, _, _, _, _] rfl rfl rfl rfl rfl rfl rfl rfl rfl ?_
 refine JO_st 0 [_, _] rfl rfl rfl rfl rfl rfl rfl rfl rfl ?_
 refine JO_nil ?_
 refine thenQ_n ?_
 refine JC_seq ?_
 refine JC_region ?_
 refine JO_q (QE_ldA 3 [_, _] rfl rfl rfl rfl rfl) rfl ?_
 refine JO_q (QE_ldA 2 [_, _, _, _, _, _, _, _, _, _] rfl rfl rfl rfl rfl) rfl ?_
 refine JO_call (first := []) (captured := []) rfl rfl rfl (stateFault_ac D _ _ _ _ _ _ (hA.le (Le.trans (Le.trans (Le.trans (Le.trans h1 h2) h3) h4) h5)) _ _ _ _ _ _ _ _ _ _ (hAx.le (Le.trans (Le.trans (Le.trans (Le.trans h1 h2) h3) h4) h5)) (hBx.le (Le.trans (Le.trans (Le.trans (Le.trans h1 h2) h3) h4) h5)) (hOx.le (Le.trans (Le.trans (Le.trans (Le.trans h1 h2) h3) h4) h5))) ?_
 rintro _ _ s6 h6 ⟨rfl, rfl⟩
 refine JO_allocZ rfl [_, _] rfl rfl ?_
 intro β7 s7 h7
 refine JO_st 0 [_, _] rfl rfl rfl rfl rfl rfl rfl rfl rfl ?_
 refine JO_nil ?_
 refine thenQ_n ?_
 refine JC_seq ?_
 refine JC_seq ?_
 refine JC_draw drawsMixed 14 rfl _ (fun _ h => h) ?_
 intro s8 h8
 refine JA_1 0 (by kernel_rfl) ?_
 refine JB_call rfl trivial (first := []) (captured := []) rfl rfl rfl (runs_ac D _ _) ?_
 rintro _ _ s9 h9 ⟨rfl, rfl⟩
 refine ⟨fun _ _ h => h, ?_⟩
 refine JA_q 1 rfl (by kernel_rfl) (by kernel_rfl) (by kernel_rfl) trivial (QE_notT rfl) rfl ?_
 refine JA_q 2 rfl (by kernel_rfl) (by kernel_rfl) (by kernel_rfl) trivial (QE_mv rfl) rfl ?_
 refine JA_q 3 rfl (by kernel_rfl) (by kernel_rfl) (by kernel_rfl) ⟨_, rfl, rfl⟩ (QE_ldA 4 [_, _] rfl rfl rfl rfl rfl) rfl ?_
 refine JA_q 4 rfl (by kernel_rfl) (by kernel_rfl) (by kernel_rfl) ⟨_, rfl, rfl⟩ (QE_ldA 3 [_, _, _, _, _, _, _, _, _, _] rfl rfl rfl rfl rfl) rfl ?_
 refine JA_q 6 rfl (by kernel_rfl) (by kernel_rfl) (by kernel_rfl) ⟨_, rfl, rfl⟩ (QE_ldA 0 [_, _] rfl rfl rfl rfl rfl) rfl ?_
 refine JA_1 5 (by kernel_rfl) ?_
 refine JB_call rfl ⟨_, rfl, rfl⟩ (first := []) (captured := []) rfl rfl rfl (valid_ac D _ _ _ _ _ _ (hA.le (Le.trans (Le.trans (Le.trans (Le.trans (Le.trans (Le.trans (Le.trans (Le.trans h1 h2) h3) h4) h5) h6) h7) h8) h9)) _ _ _ _ _ _ _ _ _ _ (hAx.le (Le.trans (Le.trans (Le.trans (Le.trans (Le.trans (Le.trans (Le.trans (Le.trans h1 h2) h3) h4) h5) h6) h7) h8) h9)) (hBx.le (Le.trans (Le.trans (Le.trans (Le.trans (Le.trans (Le.trans (Le.trans (Le.trans h1 h2) h3) h4) h5) h6) h7) h8) h9)) (hOx.le (Le.trans (Le.trans (Le.trans (Le.trans (Le.trans (Le.trans (Le.trans (Le.trans h1 h2) h3) h4) h5) h6) h7) h8) h9))) ?_
 rintro _ _ s10 h10 ⟨rfl, rfl⟩
 refine ⟨fun _ _ h => h, ?_⟩
 refine JA_q 7 rfl (by kernel_rfl) (by kernel_rfl) (by kernel_rfl) ⟨_, rfl, rfl⟩ (QE_cast (v' := .bool false) (QE_ane rfl rfl (eqFault _ _ _ _)) (bF ⟨rfl, rfl⟩)) rfl ?_
 refine JA_q 8 rfl (by kernel_rfl) (by kernel_rfl) (by kernel_rfl) trivial (QE_pickF rfl rfl) rfl ?_
 refine JA_q 9 rfl (by kernel_rfl) (by kernel_rfl) (by kernel_rfl) trivial (QE_mv rfl) rfl ?_
 refine JA_q 10 rfl (by kernel_rfl) (by kernel_rfl) (by kernel_rfl) ⟨_, rfl, rfl⟩ (QE_ldA 1 [_, _] rfl rfl rfl rfl rfl) rfl ?_
 refine JA_q 11 rfl (by kernel_rfl) (by kernel_rfl) (by kernel_rfl) ⟨_, rfl, rfl⟩ (QE_ldA 0 [_, _] rfl rfl rfl rfl rfl) rfl ?_
 refine JA_q 12 rfl (by kernel_rfl) (by kernel_rfl) (by kernel_rfl) ⟨_, rfl, rfl⟩ (QE_cast (v' := .bool false) (QE_ane rfl rfl (eqFault _ _ _ _)) (bF ⟨by rw [runF1], by rw [runF1]⟩)) rfl ?_
 refine JA_q 13 rfl (by kernel_rfl) (by kernel_rfl) (by kernel_rfl) trivial (QE_pickF rfl rfl) rfl ?_
 refine JA_done (by kernel_rfl) ?_
 refine thenQ_n ?_
 refine JC_ifF rfl ?_
 refine JC_skip ?_
 refine thenQ_n ?_
 refine JC_seq ?_
 refine JC_region ?_
 refine JO_q (QE_build [] [_, _, _, _, _, _, _, _, _, _] rfl rfl rfl rfl rfl rfl) rfl ?_
 refine JO_allocZ rfl [_, _, _, _, _, _, _, _, _, _] rfl rfl ?_
 intro β11 s11 h11
 refine JO_st 0 [_, _, _, _, _, _, _, _, _, _] rfl rfl rfl rfl rfl rfl rfl rfl rfl ?_
 refine JO_nil ?_
 refine thenQ_n ?_
 refine JC_seq ?_
 refine JC_seq ?_
 refine JC_region ?_
 refine JO_q (QE_fa0 rfl rfl rfl rfl) rfl ?_
 refine JO_q (QE_ld1 1 rfl rfl rfl rfl rfl) rfl ?_
 refine JO_q (QE_eq rfl rfl) rfl ?_
 refine JO_nil ?_
 refine thenQ_n ?_
 refine JC_ifD rfl (fun c12 => ?_) (fun c12 => ?_)
 ·
  have hz0 := c12
  obtain ⟨hG, hok, hsok, hlen⟩ := st_mok hA hAx hU hz0
  have hcl := hG.cells
  refine JC_region ?_
  refine JO_q (QE_ldA 5 [_, _] rfl rfl rfl rfl rfl) rfl ?_
  refine JO_q (QE_ldA 4 [_, _, _, _, _, _, _, _, _, _] rfl rfl rfl rfl rfl) rfl ?_
  refine JO_call (first := []) (captured := []) rfl rfl rfl (ran_ac D _ _ _ _ _ _ (hA.le (Le.trans (Le.trans (Le.trans (Le.trans (Le.trans (Le.trans (Le.trans (Le.trans (Le.trans (Le.trans h1 h2) h3) h4) h5) h6) h7) h8) h9) h10) h11)) m _ _ _ _ _ _ _ _ _ (hAx.le (Le.trans (Le.trans (Le.trans (Le.trans (Le.trans (Le.trans (Le.trans (Le.trans (Le.trans (Le.trans h1 h2) h3) h4) h5) h6) h7) h8) h9) h10) h11)) (hBx.le (Le.trans (Le.trans (Le.trans (Le.trans (Le.trans (Le.trans (Le.trans (Le.trans (Le.trans (Le.trans h1 h2) h3) h4) h5) h6) h7) h8) h9) h10) h11)) (hOx.le (Le.trans (Le.trans (Le.trans (Le.trans (Le.trans (Le.trans (Le.trans (Le.trans (Le.trans (Le.trans h1 h2) h3) h4) h5) h6) h7) h8) h9) h10) h11)) hG hok hsok (by omega) 1 (by omega)) ?_
  rintro _ _ s13 h13 ⟨rfl, _, ⟨Aw, nw, cw, Bw, nBw, cBw, Ow, nOw, cOw, rfl, hAw, hBw, hOw⟩, rfl⟩
  refine JO_q (QE_mv rfl) rfl ?_
  refine JO_q (QE_ext rfl rfl) rfl ?_
  refine JO_q (QE_ext rfl rfl) rfl ?_
  refine JO_st 0 [_, _, _, _, _, _, _, _, _, _] rfl rfl rfl rfl rfl rfl rfl rfl rfl ?_
  refine JO_nil ?_
  refine thenQ_n ?_
  refine JC_seq ?_
  refine JC_region ?_
  refine JO_q (QE_ldA 3 [_, _, _, _, _, _, _, _, _, _] rfl rfl rfl rfl rfl) rfl ?_
  refine JO_q (QE_ldA 0 [_, _, _, _, _, _, _, _, _, _] rfl rfl rfl rfl rfl) rfl ?_
  refine JO_call (first := []) (captured := []) rfl rfl rfl (sameState_ac D _ _ (runR t m 1).1 _ _ _ _ _ _ _ _ _ (hAu.le (Le.trans (Le.trans (Le.trans (Le.trans (Le.trans (Le.trans (Le.trans (Le.trans h4 h5) h6) h7) h8) h9) h10) h11) h13)) (hBu.le (Le.trans (Le.trans (Le.trans (Le.trans (Le.trans (Le.trans (Le.trans (Le.trans h4 h5) h6) h7) h8) h9) h10) h11) h13)) (hOu.le (Le.trans (Le.trans (Le.trans (Le.trans (Le.trans (Le.trans (Le.trans (Le.trans h4 h5) h6) h7) h8) h9) h10) h11) h13)) (runM t m (1 : Int).toNat).1 _ _ _ _ _ _ _ _ _ (hAw.le (Le.refl (D := D) _)) (hBw.le (Le.refl (D := D) _)) (hOw.le (Le.refl (D := D) _))) ?_
  rintro _ _ s14 h14 ⟨rfl, rfl⟩
  refine JO_q (QE_as rfl) rfl ?_
  refine JO_nil ?_
  refine thenQ_n ?_
  refine JC_ret ?_
  refine retQ_mk [_, _, _, _, _, _] L (.inr rfl) (.tmp rfl (.nil)) rfl (Le.trans (Le.trans (Le.trans (Le.trans (Le.trans (Le.trans (Le.trans (Le.trans (Le.trans (Le.trans (Le.trans (Le.trans h1 h2) h3) h4) h5) h6) h7) h8) h9) h10) h11) h13) h14) (fun sR hS2 => ?_)
  exact ⟨bT (by rw [runR_ok hz0 (by omega)]), rfl⟩
 ·
  have hz0 := c12
  refine JC_skip ?_
  refine thenQ_n ?_
  refine JC_seq ?_
  refine JC_region ?_
  refine JO_q (QE_ldA 3 [_, _, _, _, _, _, _, _, _, _] rfl rfl rfl rfl rfl) rfl ?_
  refine JO_q (QE_ldA 0 [_, _, _, _, _, _, _, _, _, _] rfl rfl rfl rfl rfl) rfl ?_
  refine JO_call (first := []) (captured := []) rfl rfl rfl (sameState_ac D _ _ (runR t m 1).1 _ _ _ _ _ _ _ _ _ (hAu.le (Le.trans (Le.trans (Le.trans (Le.trans (Le.trans (Le.trans (Le.trans h4 h5) h6) h7) h8) h9) h10) h11)) (hBu.le (Le.trans (Le.trans (Le.trans (Le.trans (Le.trans (Le.trans (Le.trans h4 h5) h6) h7) h8) h9) h10) h11)) (hOu.le (Le.trans (Le.trans (Le.trans (Le.trans (Le.trans (Le.trans (Le.trans h4 h5) h6) h7) h8) h9) h10) h11)) zeroM _ _ _ _ _ _ _ _ _ (Wds.nil _ _ _ (by omega)) (Bts.nil _ _ _ (by omega)) (Bts.nil _ _ _ (by omega))) ?_
  rintro _ _ s15 h15 ⟨rfl, rfl⟩
  refine JO_q (QE_as rfl) rfl ?_
  refine JO_nil ?_
  refine thenQ_n ?_
  refine JC_ret ?_
  refine retQ_mk [_, _, _, _, _, _] L (.inr rfl) (.tmp rfl (.nil)) rfl (Le.trans (Le.trans (Le.trans (Le.trans (Le.trans (Le.trans (Le.trans (Le.trans (Le.trans (Le.trans (Le.trans h1 h2) h3) h4) h5) h6) h7) h8) h9) h10) h11) h15) (fun sR hS2 => ?_)
  exact ⟨bT (by rw [runR_bad hz0]), rfl⟩

set_option maxHeartbeats 4000000 in
set_option maxRecDepth 100000 in
theorem lawRun_ac (D : Nat) (L : Hl) (s : World) (t : Tab) (A : Option Addr) (n c : Nat) (hA : Inss s A n c t.ins) (m : Mst) (Ax Bx Ox : Option Addr) (nAx cAx nBx cBx nOx cOx : Nat) (hAx : Wds s Ax nAx cAx m.cells) (hBx : Bts s Bx nBx cBx m.input) (hOx : Bts s Ox nOx cOx m.output) (hU : MU m) (k : Int) : AC Try.prog D 4 [.agg #[.int .i64 t.cells, .slice A n c], .agg #[.slice Ax nAx cAx, .int .u32 m.r0, .int .u32 m.r1, .int .u32 m.r2, .int .u32 m.r3, .int .u32 m.r4, .slice Bx nBx cBx, .slice Ox nOx cOx, .int .i64 m.stop, .int .u32 m.code], .int .i64 k] L s fun v L' _ => v = .bool true ∧ L = L' := by
 refine AC_enter (TT := TT) (fn := Try.f4) TT_ok Try.func4 (by kernel_rfl) rfl Try.ntmps4 rfl (rs := [.tmp 6]) rfl [(0, _), (1, _), (2, _)] rfl ?_
 refine JC_seq ?_
 refine JC_region ?_
 refine JO_boxA rfl rfl ?_
 intro β1 s1 h1
 refine JO_boxA rfl rfl ?_
 intro β2 s2 h2
 refine JO_q (QE_as rfl) rfl ?_
 refine JO_nil ?_
 refine thenQ_n ?_
 refine JC_seq ?_
 refine JC_seq ?_
 refine JC_region ?_
 refine JO_call (first := []) (captured := []) rfl rfl rfl (runs_ac D _ _) ?_
 rintro _ _ s3 h3 ⟨rfl, rfl⟩
 refine JO_q (QE_notT rfl) rfl ?_
 refine JO_nil ?_
 refine thenQ_n ?_
 refine JC_ifF rfl ?_
 refine JC_skip ?_
 refine thenQ_n ?_
 refine JC_seq ?_
 refine JC_seq ?_
 refine JC_region ?_
 refine JO_q (QE_mv rfl) rfl ?_
 refine JO_call (first := []) (captured := []) rfl rfl rfl (in_ac D _ _ _ _ _) ?_
 rintro _ _ s4 h4 ⟨rfl, rfl⟩
 refine JO_nil ?_
 refine thenQ_n ?_
 refine JC_ifD rfl (fun c5 => ?_) (fun c5 => ?_)
 ·
  refine JC_seq ?_
  refine JC_region ?_
  refine JO_q (QE_as rfl) rfl ?_
  refine JO_nil ?_
  refine thenQ_n ?_
  refine JC_ret ?_
  refine thenQ_r ?_
  refine retQ_mk [_, _] L (.inr rfl) (.tmp rfl (.nil)) rfl (Le.trans (Le.trans (Le.trans h1 h2) h3) h4) (fun sR hS2 => ?_)
  exact ⟨rfl, rfl⟩
 ·
  refine JC_skip ?_
  refine thenQ_n ?_
  refine JC_seq ?_
  refine JC_region ?_
  refine JO_q (QE_ldA 1 [_, _] rfl rfl rfl rfl rfl) rfl ?_
  refine JO_q (QE_ldA 0 [_, _, _, _, _, _, _, _, _, _] rfl rfl rfl rfl rfl) rfl ?_
  refine JO_q (QE_mv rfl) rfl ?_
  refine JO_call (first := []) (captured := []) rfl rfl rfl (run_ac D _ _ _ _ _ _ (hA.le (Le.trans (Le.trans (Le.trans h1 h2) h3) h4)) _ _ _ _ _ _ _ _ _ _ (hAx.le (Le.trans (Le.trans (Le.trans h1 h2) h3) h4)) (hBx.le (Le.trans (Le.trans (Le.trans h1 h2) h3) h4)) (hOx.le (Le.trans (Le.trans (Le.trans h1 h2) h3) h4)) hU k) ?_
  rintro _ _ s6 h6 ⟨rfl, _, ⟨Au, nu, cu, Bu, nBu, cBu, Ou, nOu, cOu, rfl, hAu, hBu, hOu⟩, rfl⟩
  refine JO_q (QE_mv rfl) rfl ?_
  refine JO_q (QE_ext rfl rfl) rfl ?_
  refine JO_q (QE_ext rfl rfl) rfl ?_
  refine JO_q (QE_ext rfl rfl) rfl ?_
  refine JO_allocZ rfl [_, _, _, _, _, _, _, _, _, _] rfl rfl ?_
  intro β7 s7 h7
  refine JO_allocZ rfl [_, _] rfl rfl ?_
  intro β8 s8 h8
  refine JO_st 1 [_, _, _, _, _, _, _, _, _, _] rfl rfl rfl rfl rfl rfl rfl rfl rfl ?_
  refine JO_q (QE_as rfl) rfl ?_
  refine JO_st 0 [_, _] rfl rfl rfl rfl rfl rfl rfl rfl rfl ?_
  refine JO_nil ?_
  refine thenQ_n ?_
  refine JC_seq ?_
  refine JC_region ?_
  refine JO_q (QE_ldA 3 [_, _] rfl rfl rfl rfl rfl) rfl ?_
  refine JO_q (QE_ldA 2 [_, _, _, _, _, _, _, _, _, _] rfl rfl rfl rfl rfl) rfl ?_
  refine JO_call (first := []) (captured := []) rfl rfl rfl (stateFault_ac D _ _ _ _ _ _ (hA.le (Le.trans (Le.trans (Le.trans (Le.trans (Le.trans (Le.trans h1 h2) h3) h4) h6) h7) h8)) _ _ _ _ _ _ _ _ _ _ (hAx.le (Le.trans (Le.trans (Le.trans (Le.trans (Le.trans (Le.trans h1 h2) h3) h4) h6) h7) h8)) (hBx.le (Le.trans (Le.trans (Le.trans (Le.trans (Le.trans (Le.trans h1 h2) h3) h4) h6) h7) h8)) (hOx.le (Le.trans (Le.trans (Le.trans (Le.trans (Le.trans (Le.trans h1 h2) h3) h4) h6) h7) h8))) ?_
  rintro _ _ s9 h9 ⟨rfl, rfl⟩
  refine JO_allocZ rfl [_, _] rfl rfl ?_
  intro β10 s10 h10
  refine JO_st 0 [_, _] rfl rfl rfl rfl rfl rfl rfl rfl rfl ?_
  refine JO_nil ?_
  refine thenQ_n ?_
  refine JC_seq ?_
  refine JC_seq ?_
  refine JC_region ?_
  refine JO_q (QE_fa0 rfl rfl rfl rfl) rfl ?_
  refine JO_q (QE_ld1 0 rfl rfl rfl rfl rfl) rfl ?_
  refine JO_q (QE_eq rfl rfl) rfl ?_
  refine JO_q (QE_mv rfl) rfl ?_
  refine JO_caseD (t := 31) rfl (fun c11 => ?_) (fun c11 => ?_)
  ·
   refine JO_gT rfl rfl ?_
   refine JO_q (QE_mv rfl) rfl ?_
   refine JO_gT rfl rfl ?_
   refine JO_call (first := []) (captured := []) rfl rfl rfl (in_ac D _ _ _ _ _) ?_
   rintro _ _ s12 h12 ⟨rfl, rfl⟩
   refine JO_gT rfl rfl ?_
   refine JO_q (QE_not rfl) rfl ?_
   refine JO_q (QE_pickT rfl rfl) rfl ?_
   refine JO_nil ?_
   refine thenQ_n ?_
   refine JC_ifN rfl (fun c13 => ?_) (fun c13 => ?_)
   ·
    refine JC_region ?_
    refine JO_call (first := []) (captured := []) rfl rfl rfl (at_ac D _ _ _ _) ?_
    rintro _ _ s14 h14 ⟨rfl, rfl⟩
    refine JO_st 0 [_, _] rfl rfl rfl rfl rfl rfl rfl rfl rfl ?_
    refine JO_nil ?_
    refine thenQ_n ?_
    refine JC_seq ?_
    refine JC_seq ?_
    refine JC_region ?_
    refine JO_q (QE_ldA 1 [_, _] rfl rfl rfl rfl rfl) rfl ?_
    refine JO_q (QE_ldA 0 [_, _] rfl rfl rfl rfl rfl) rfl ?_
    refine JO_q (QE_cast (v' := .bool false) (QE_ane rfl rfl (eqFault _ _ _ _)) (bF ⟨by rw [runR_far (by assumption) (by omega)], by rw [runR_far (by assumption) (by omega)]⟩)) rfl ?_
    refine JO_nil ?_
    refine thenQ_n ?_
    refine JC_ifF rfl ?_
    refine JC_skip ?_
    refine thenQ_n ?_
    refine JC_seq ?_
    refine JC_seq ?_
    refine JC_region ?_
    refine JO_q (QE_fa0 rfl rfl rfl rfl) rfl ?_
    refine JO_q (QE_ld1 0 rfl rfl rfl rfl rfl) rfl ?_
    refine JO_q (QE_cast (v' := .bool true) (QE_ne rfl rfl) (bN (by decide))) rfl ?_
    refine JO_nil ?_
    refine thenQ_n ?_
    refine JC_ifT rfl ?_
    refine JC_seq ?_
    refine JC_region ?_
    refine JO_q (QE_mv rfl) rfl ?_
    refine JO_q (QE_cast (v' := .bool true) (QE_eq rfl rfl) (bT (by rw [runR_far (by assumption) (by omega)]))) rfl ?_
    refine JO_q (QE_mv rfl) rfl ?_
    refine JO_gT rfl rfl ?_
    refine JO_q (QE_ldA 2 [_, _, _, _, _, _, _, _, _, _] rfl rfl rfl rfl rfl) rfl ?_
    refine JO_gT rfl rfl ?_
    refine JO_q (QE_build [] [_, _, _, _, _, _, _, _, _, _] rfl rfl rfl rfl rfl rfl) rfl ?_
    refine JO_gT rfl rfl ?_
    refine JO_call (first := []) (captured := []) rfl rfl rfl (sameState_ac D _ _ (runR t m k).1 _ _ _ _ _ _ _ _ _ (hAu.le (Le.trans (Le.trans (Le.trans (Le.trans (Le.trans h7 h8) h9) h10) h12) h14)) (hBu.le (Le.trans (Le.trans (Le.trans (Le.trans (Le.trans h7 h8) h9) h10) h12) h14)) (hOu.le (Le.trans (Le.trans (Le.trans (Le.trans (Le.trans h7 h8) h9) h10) h12) h14)) zeroM _ _ _ _ _ _ _ _ _ (Wds.nil _ _ _ (by omega)) (Bts.nil _ _ _ (by omega)) (Bts.nil _ _ _ (by omega))) ?_
    rintro _ _ s15 h15 ⟨rfl, rfl⟩
    refine JO_q (QE_pickT rfl rfl) rfl ?_
    refine JO_q (QE_as rfl) rfl ?_
    refine JO_nil ?_
    refine thenQ_n ?_
    refine JC_ret ?_
    refine thenQ_r ?_
    refine retQ_mk [_, _, _, _, _] L (.inr rfl) (.tmp rfl (.nil)) rfl (Le.trans (Le.trans (Le.trans (Le.trans (Le.trans (Le.trans (Le.trans (Le.trans (Le.trans (Le.trans (Le.trans h1 h2) h3) h4) h6) h7) h8) h9) h10) h12) h14) h15) (fun sR hS2 => ?_)
    exact ⟨bT (by rw [runR_far (by assumption) (by omega)]), rfl⟩
   ·
    refine JC_skip ?_
    refine thenQ_n ?_
    refine JC_seq ?_
    refine JC_seq ?_
    refine JC_region ?_
    refine JO_q (QE_ldA 1 [_, _] rfl rfl rfl rfl rfl) rfl ?_
    refine JO_q (QE_ldA 0 [_, _] rfl rfl rfl rfl rfl) rfl ?_
    refine JO_q (QE_cast (v' := .bool false) (QE_ane rfl rfl (eqFault _ _ _ _)) (bF ⟨by rw [runR_ok (by assumption) (by omega)]; exact Eq.symm (by assumption), by rw [runR_ok (by assumption) (by omega)]; exact (st_zero t m (by assumption)).symm⟩)) rfl ?_
    refine JO_nil ?_
    refine thenQ_n ?_
    refine JC_ifF rfl ?_
    refine JC_skip ?_
    refine thenQ_n ?_
    refine JC_seq ?_
    refine JC_seq ?_
    refine JC_region ?_
    refine JO_q (QE_fa0 rfl rfl rfl rfl) rfl ?_
    refine JO_q (QE_ld1 0 rfl rfl rfl rfl rfl) rfl ?_
    refine JO_q (QE_cast (v' := .bool false) (QE_ne rfl rfl) (bF (by assumption))) rfl ?_
    refine JO_nil ?_
    refine thenQ_n ?_
    refine JC_ifF rfl ?_
    refine JC_skip ?_
    refine thenQ_n ?_
    refine JC_seq ?_
    refine JC_region ?_
    refine JO_q (QE_ldA 4 [_, _] rfl rfl rfl rfl rfl) rfl ?_
    refine JO_q (QE_ldA 3 [_, _, _, _, _, _, _, _, _, _] rfl rfl rfl rfl rfl) rfl ?_
    refine JO_q (QE_mv rfl) rfl ?_
    obtain ⟨hG, hok, hsok, hlen⟩ := st_mok hA hAx hU (by assumption)
    have hcl := hG.cells
    refine JO_call (first := []) (captured := []) rfl rfl rfl (ran_ac D _ _ _ _ _ _ (hA.le (Le.trans (Le.trans (Le.trans (Le.trans (Le.trans (Le.trans (Le.trans (Le.trans (Le.trans h1 h2) h3) h4) h6) h7) h8) h9) h10) h12)) m _ _ _ _ _ _ _ _ _ (hAx.le (Le.trans (Le.trans (Le.trans (Le.trans (Le.trans (Le.trans (Le.trans (Le.trans (Le.trans h1 h2) h3) h4) h6) h7) h8) h9) h10) h12)) (hBx.le (Le.trans (Le.trans (Le.trans (Le.trans (Le.trans (Le.trans (Le.trans (Le.trans (Le.trans h1 h2) h3) h4) h6) h7) h8) h9) h10) h12)) (hOx.le (Le.trans (Le.trans (Le.trans (Le.trans (Le.trans (Le.trans (Le.trans (Le.trans (Le.trans h1 h2) h3) h4) h6) h7) h8) h9) h10) h12)) hG hok hsok (by omega) k (by omega)) ?_
    rintro _ _ s16 h16 ⟨rfl, _, ⟨Aw, nw, cw, Bw, nBw, cBw, Ow, nOw, cOw, rfl, hAw, hBw, hOw⟩, rfl⟩
    refine JO_q (QE_mv rfl) rfl ?_
    refine JO_q (QE_ext rfl rfl) rfl ?_
    refine JO_q (QE_ext rfl rfl) rfl ?_
    refine JO_allocZ rfl [_, _, _, _, _, _, _, _, _, _] rfl rfl ?_
    intro β17 s17 h17
    refine JO_st 0 [_, _, _, _, _, _, _, _, _, _] rfl rfl rfl rfl rfl rfl rfl rfl rfl ?_
    refine JO_q (QE_as rfl) rfl ?_
    refine JO_nil ?_
    refine thenQ_n ?_
    refine JC_seq ?_
    refine JC_region ?_
    refine JO_q (QE_mv rfl) rfl ?_
    refine JO_q (QE_mv rfl) rfl ?_
    refine JO_q (QE_cast (v' := .bool true) (QE_eq rfl rfl) (bT (by rw [runR_ok (by assumption) (by omega)]))) rfl ?_
    refine JO_q (QE_mv rfl) rfl ?_
    refine JO_gT rfl rfl ?_
    refine JO_q (QE_ldA 3 [_, _, _, _, _, _, _, _, _, _] rfl rfl rfl rfl rfl) rfl ?_
    refine JO_gT rfl rfl ?_
    refine JO_q (QE_ldA 0 [_, _, _, _, _, _, _, _, _, _] rfl rfl rfl rfl rfl) rfl ?_
    refine JO_gT rfl rfl ?_
    refine JO_call (first := []) (captured := []) rfl rfl rfl (sameState_ac D _ _ (runR t m k).1 _ _ _ _ _ _ _ _ _ (hAu.le (Le.trans (Le.trans (Le.trans (Le.trans (Le.trans (Le.trans h7 h8) h9) h10) h12) h16) h17)) (hBu.le (Le.trans (Le.trans (Le.trans (Le.trans (Le.trans (Le.trans h7 h8) h9) h10) h12) h16) h17)) (hOu.le (Le.trans (Le.trans (Le.trans (Le.trans (Le.trans (Le.trans h7 h8) h9) h10) h12) h16) h17)) (runM t m k.toNat).1 _ _ _ _ _ _ _ _ _ (hAw.le h17) (hBw.le h17) (hOw.le h17)) ?_
    rintro _ _ s18 h18 ⟨rfl, rfl⟩
    refine JO_q (QE_pickT rfl rfl) rfl ?_
    refine JO_q (QE_as rfl) rfl ?_
    refine JO_nil ?_
    refine thenQ_n ?_
    refine JC_ret ?_
    refine retQ_mk [_, _, _, _, _, _] L (.inr rfl) (.tmp rfl (.nil)) rfl (Le.trans (Le.trans (Le.trans (Le.trans (Le.trans (Le.trans (Le.trans (Le.trans (Le.trans (Le.trans (Le.trans (Le.trans h1 h2) h3) h4) h6) h7) h8) h9) h10) h12) h16) h17) h18) (fun sR hS2 => ?_)
    exact ⟨bT (by rw [runR_ok (by assumption) (by omega)]), rfl⟩
  ·
   refine JO_gF rfl rfl rfl rfl ?_
   refine JO_gF rfl rfl rfl rfl ?_
   refine JO_gF rfl rfl rfl rfl ?_
   refine JO_q (QE_pickF rfl rfl) rfl ?_
   refine JO_nil ?_
   refine thenQ_n ?_
   refine JC_ifF rfl ?_
   refine JC_skip ?_
   refine thenQ_n ?_
   refine JC_seq ?_
   refine JC_seq ?_
   refine JC_region ?_
   refine JO_q (QE_ldA 1 [_, _] rfl rfl rfl rfl rfl) rfl ?_
   refine JO_q (QE_ldA 0 [_, _] rfl rfl rfl rfl rfl) rfl ?_
   refine JO_q (QE_cast (v' := .bool false) (QE_ane rfl rfl (eqFault _ _ _ _)) (bF ⟨by rw [runR_bad (by assumption)], by rw [runR_bad (by assumption)]⟩)) rfl ?_
   refine JO_nil ?_
   refine thenQ_n ?_
   refine JC_ifF rfl ?_
   refine JC_skip ?_
   refine thenQ_n ?_
   refine JC_seq ?_
   refine JC_seq ?_
   refine JC_region ?_
   refine JO_q (QE_fa0 rfl rfl rfl rfl) rfl ?_
   refine JO_q (QE_ld1 0 rfl rfl rfl rfl rfl) rfl ?_
   refine JO_q (QE_cast (v' := .bool true) (QE_ne rfl rfl) (bN (by assumption))) rfl ?_
   refine JO_nil ?_
   refine thenQ_n ?_
   refine JC_ifT rfl ?_
   refine JC_seq ?_
   refine JC_region ?_
   refine JO_q (QE_mv rfl) rfl ?_
   refine JO_q (QE_cast (v' := .bool true) (QE_eq rfl rfl) (bT (by rw [runR_bad (by assumption)]))) rfl ?_
   refine JO_q (QE_mv rfl) rfl ?_
   refine JO_gT rfl rfl ?_
   refine JO_q (QE_ldA 2 [_, _, _, _, _, _, _, _, _, _] rfl rfl rfl rfl rfl) rfl ?_
   refine JO_gT rfl rfl ?_
   refine JO_q (QE_build [] [_, _, _, _, _, _, _, _, _, _] rfl rfl rfl rfl rfl rfl) rfl ?_
   refine JO_gT rfl rfl ?_
   refine JO_call (first := []) (captured := []) rfl rfl rfl (sameState_ac D _ _ (runR t m k).1 _ _ _ _ _ _ _ _ _ (hAu.le (Le.trans (Le.trans (Le.trans h7 h8) h9) h10)) (hBu.le (Le.trans (Le.trans (Le.trans h7 h8) h9) h10)) (hOu.le (Le.trans (Le.trans (Le.trans h7 h8) h9) h10)) zeroM _ _ _ _ _ _ _ _ _ (Wds.nil _ _ _ (by omega)) (Bts.nil _ _ _ (by omega)) (Bts.nil _ _ _ (by omega))) ?_
   rintro _ _ s19 h19 ⟨rfl, rfl⟩
   refine JO_q (QE_pickT rfl rfl) rfl ?_
   refine JO_q (QE_as rfl) rfl ?_
   refine JO_nil ?_
   refine thenQ_n ?_
   refine JC_ret ?_
   refine thenQ_r ?_
   refine retQ_mk [_, _, _, _, _] L (.inr rfl) (.tmp rfl (.nil)) rfl (Le.trans (Le.trans (Le.trans (Le.trans (Le.trans (Le.trans (Le.trans (Le.trans (Le.trans h1 h2) h3) h4) h6) h7) h8) h9) h10) h19) (fun sR hS2 => ?_)
   exact ⟨bT (by rw [runR_bad (by assumption)]), rfl⟩

theorem AC.isT {P : Program} {D : Nat} {f : FuncId} {args : List Value} {L : Hl} {s : World} {p : Prop} [Decidable p] (h : AC P D f args L s fun v L' _ => v = .bool (decide p) ∧ L = L') (hp : p) : AC P D f args L s fun v L' _ => v = .bool true ∧ L = L' :=
  h.mono fun v L' s' _ hv => ⟨hv.1.trans (bT hp), hv.2⟩
theorem startF (t : Tab) (l : List Int) (i : List UInt8) : (startR t l i).2.1 = (startFault t l i).1 ∧ (startR t l i).2.2 = (startFault t l i).2 := by
  by_cases h : (startFault t l i).1 = 0
  · rw [sf_ok h]; exact ⟨h.symm, (sf_zero t l i h).symm⟩
  · rw [sf_bad h]; exact ⟨rfl, rfl⟩
section
variable {t : Tab} {l : List Int} {i : List UInt8} {k : Int}
theorem ex_bad (h : ¬ (startFault t l i).1 = 0) : execR t l i k = (([], 0, 0, 0), startFault t l i) := by simp only [execR]; rw [if_pos h]
theorem ex_far (h : (startFault t l i).1 = 0) (hk : k < 0 ∨ 50000000 < k) : execR t l i k = (([], 0, 0, 0), 4, -4) := by simp only [execR]; rw [if_neg (by simpa using h), if_pos hk]
theorem ex_ok (h : (startFault t l i).1 = 0) (hk : ¬ (k < 0 ∨ 50000000 < k)) : execR t l i k = (execM t l i k, 0, 0) := by simp only [execR]; rw [if_neg (by simpa using h), if_neg hk]
end
/-- running a and then b steps -/
theorem addUp {t : Tab} {m : Mst} (hG : TabG t) (hok : MOK m) (hsok : SOK m) (hlen : (m.cells.length : Int) = t.cells) (h0 : (stFault t m).1 = 0) {a b : Int} (ha : 0 ≤ a ∧ a ≤ 20000) (hb : 0 ≤ b ∧ b ≤ 20000) :
    runR t m a = ((runM t m a.toNat).1, ((runM t m a.toNat).2 : Int), 0, 0) ∧ runR t (runR t m a).1 b = ((runM t (runM t m a.toNat).1 b.toNat).1, ((runM t (runM t m a.toNat).1 b.toNat).2 : Int), 0, 0) ∧
    runR t m (a + b) = ((runM t (runM t m a.toNat).1 b.toNat).1, ((runM t m a.toNat).2 : Int) + ((runM t (runM t m a.toNat).1 b.toNat).2 : Int), 0, 0) ∧ MU (runR t m a).1 ∧ ((runM t m a.toNat).2 : Int) ≤ 20000 ∧ ((runM t (runM t m a.toNat).1 b.toNat).2 : Int) ≤ 20000 := by
  obtain ⟨g1, g2, g3, g4⟩ := run_good hG hok hsok a.toNat
  have r1 := runR_ok h0 (show ¬ (a < 0 ∨ 50000000 < a) by omega)
  have ht : (tabFault t).1 = 0 := by
    by_cases h : (tabFault t).1 = 0
    · exact h
    · unfold stFault at h0; rw [if_pos h] at h0; exact absurd h0 h
  have hz := st_none ht g1 g2 (by omega)
  obtain ⟨_, _, _, g5⟩ := run_good hG g1 g2 b.toNat
  refine ⟨r1, ?_, ?_, ?_, by omega, by omega⟩
  · rw [r1, runR_ok (by rw [hz]) (by omega)]
  · rw [runR_ok h0 (by omega), show (a + b).toNat = a.toNat + b.toNat by omega, run_add]; simp
  · rw [r1]; exact g1.mu

set_option maxHeartbeats 4000000 in
set_option maxRecDepth 100000 in
theorem lawExecute_ac (D : Nat) (L : Hl) (s : World) (t : Tab) (A : Option Addr) (n c : Nat) (hA : Inss s A n c t.ins) (A1 : Option Addr) (n1 c1 : Nat) (l : List Int) (hIm : Wds s A1 n1 c1 l) (A2 : Option Addr) (n2 c2 : Nat) (i : List UInt8) (hIn : Bts s A2 n2 c2 i) (k : Int) : AC Try.prog D 5 [.agg #[.int .i64 t.cells, .slice A n c], .slice A1 n1 c1, .slice A2 n2 c2, .int .i64 k] L s fun v L' _ => v = .bool true ∧ L = L' := by
 refine AC_enter (TT := TT) (fn := Try.f5) TT_ok Try.func5 (by kernel_rfl) rfl Try.ntmps5 rfl (rs := [.tmp 8]) rfl [(0, _), (1, _), (2, _), (3, _)] rfl ?_
 refine JC_seq ?_
 refine JC_region ?_
 refine JO_boxA rfl rfl ?_
 intro β1 s1 h1
 refine JO_q (QE_as rfl) rfl ?_
 refine JO_nil ?_
 refine thenQ_n ?_
 refine JC_seq ?_
 refine JC_seq ?_
 refine JC_region ?_
 refine JO_call (first := []) (captured := []) rfl rfl rfl (runs_ac D _ _) ?_
 rintro _ _ s2 h2 ⟨rfl, rfl⟩
 refine JO_q (QE_notT rfl) rfl ?_
 refine JO_nil ?_
 refine thenQ_n ?_
 refine JC_ifF rfl ?_
 refine JC_skip ?_
 refine thenQ_n ?_
 refine JC_seq ?_
 refine JC_seq ?_
 refine JC_region ?_
 refine JO_q (QE_mv rfl) rfl ?_
 refine JO_call (first := []) (captured := []) rfl rfl rfl (in_ac D _ _ _ _ _) ?_
 rintro _ _ s3 h3 ⟨rfl, rfl⟩
 refine JO_nil ?_
 refine thenQ_n ?_
 refine JC_ifD rfl (fun c4 => ?_) (fun c4 => ?_)
 ·
  refine JC_seq ?_
  refine JC_region ?_
  refine JO_q (QE_as rfl) rfl ?_
  refine JO_nil ?_
  refine thenQ_n ?_
  refine JC_ret ?_
  refine thenQ_r ?_
  refine retQ_mk [_] L (.inr rfl) (.tmp rfl (.nil)) rfl (Le.trans (Le.trans h1 h2) h3) (fun sR hS2 => ?_)
  exact ⟨rfl, rfl⟩
 ·
  refine JC_skip ?_
  refine thenQ_n ?_
  refine JC_seq ?_
  refine JC_region ?_
  refine JO_q (QE_ldA 0 [_, _] rfl rfl rfl rfl rfl) rfl ?_
  refine JO_q (QE_mv rfl) rfl ?_
  refine JO_q (QE_mv rfl) rfl ?_
  refine JO_call (first := []) (captured := []) rfl rfl rfl (start_ac D _ _ _ _ _ _ (hA.le (Le.trans (Le.trans h1 h2) h3)) _ _ _ _ (hIm.le (Le.trans (Le.trans h1 h2) h3)) _ _ _ _ (hIn.le (Le.trans (Le.trans h1 h2) h3))) ?_
  rintro _ _ s5 h5 ⟨rfl, _, ⟨Aa, na, ca, Ba, nBa, cBa, Oa, nOa, cOa, rfl, hAa, hBa, hOa⟩, rfl⟩
  refine JO_q (QE_mv rfl) rfl ?_
  refine JO_q (QE_ext rfl rfl) rfl ?_
  refine JO_q (QE_ext rfl rfl) rfl ?_
  refine JO_allocZ rfl [_, _, _, _, _, _, _, _, _, _] rfl rfl ?_
  intro β6 s6 h6
  refine JO_allocZ rfl [_, _] rfl rfl ?_
  intro β7 s7 h7
  refine JO_st 1 [_, _, _, _, _, _, _, _, _, _] rfl rfl rfl rfl rfl rfl rfl rfl rfl ?_
  refine JO_st 0 [_, _] rfl rfl rfl rfl rfl rfl rfl rfl rfl ?_
  refine JO_nil ?_
  refine thenQ_n ?_
  refine JC_seq ?_
  refine JC_region ?_
  refine JO_q (QE_ldA 2 [_, _] rfl rfl rfl rfl rfl) rfl ?_
  refine JO_q (QE_mv rfl) rfl ?_
  refine JO_q (QE_mv rfl) rfl ?_
  refine JO_q (QE_mv rfl) rfl ?_
  refine JO_call (first := []) (captured := []) rfl rfl rfl (execute_ac D _ _ _ _ _ _ (hA.le (Le.trans (Le.trans (Le.trans (Le.trans (Le.trans h1 h2) h3) h5) h6) h7)) _ _ _ _ (hIm.le (Le.trans (Le.trans (Le.trans (Le.trans (Le.trans h1 h2) h3) h5) h6) h7)) _ _ _ _ (hIn.le (Le.trans (Le.trans (Le.trans (Le.trans (Le.trans h1 h2) h3) h5) h6) h7)) k) ?_
  rintro _ _ s8 h8 ⟨rfl, _, ⟨Ae, ne, ce, rfl, hOe⟩, rfl⟩
  refine JO_q (QE_mv rfl) rfl ?_
  refine JO_q (QE_ext rfl rfl) rfl ?_
  refine JO_q (QE_ext rfl rfl) rfl ?_
  refine JO_allocZ rfl [_, _, _, _] rfl rfl ?_
  intro β9 s9 h9
  refine JO_allocZ rfl [_, _] rfl rfl ?_
  intro β10 s10 h10
  refine JO_st 1 [_, _, _, _] rfl rfl rfl rfl rfl rfl rfl rfl rfl ?_
  refine JO_st 0 [_, _] rfl rfl rfl rfl rfl rfl rfl rfl rfl ?_
  refine JO_nil ?_
  refine thenQ_n ?_
  refine JC_seq ?_
  refine JC_region ?_
  refine JO_q (QE_ldA 4 [_, _] rfl rfl rfl rfl rfl) rfl ?_
  refine JO_q (QE_mv rfl) rfl ?_
  refine JO_q (QE_mv rfl) rfl ?_
  refine JO_call (first := []) (captured := []) rfl rfl rfl (startFault_ac D _ _ _ _ _ _ (hA.le (Le.trans (Le.trans (Le.trans (Le.trans (Le.trans (Le.trans (Le.trans (Le.trans h1 h2) h3) h5) h6) h7) h8) h9) h10)) _ _ _ _ (hIm.le (Le.trans (Le.trans (Le.trans (Le.trans (Le.trans (Le.trans (Le.trans (Le.trans h1 h2) h3) h5) h6) h7) h8) h9) h10)) _ _ _ _ (hIn.le (Le.trans (Le.trans (Le.trans (Le.trans (Le.trans (Le.trans (Le.trans (Le.trans h1 h2) h3) h5) h6) h7) h8) h9) h10))) ?_
  rintro _ _ s11 h11 ⟨rfl, rfl⟩
  refine JO_allocZ rfl [_, _] rfl rfl ?_
  intro β12 s12 h12
  refine JO_st 0 [_, _] rfl rfl rfl rfl rfl rfl rfl rfl rfl ?_
  refine JO_nil ?_
  refine thenQ_n ?_
  refine JC_seq ?_
  refine JC_region ?_
  refine JO_q (QE_build [] [_, _, _, _, _, _, _, _, _, _] rfl rfl rfl rfl rfl rfl) rfl ?_
  refine JO_allocZ rfl [_, _, _, _, _, _, _, _, _, _] rfl rfl ?_
  intro β13 s13 h13
  refine JO_st 0 [_, _, _, _, _, _, _, _, _, _] rfl rfl rfl rfl rfl rfl rfl rfl rfl ?_
  refine JO_nil ?_
  refine thenQ_n ?_
  refine JC_seq ?_
  refine JC_seq ?_
  refine JC_region ?_
  refine JO_q (QE_fa0 rfl rfl rfl rfl) rfl ?_
  refine JO_q (QE_ld1 1 rfl rfl rfl rfl rfl) rfl ?_
  refine JO_q (QE_eq rfl rfl) rfl ?_
  refine JO_nil ?_
  refine thenQ_n ?_
  refine JC_ifD rfl (fun c14 => ?_) (fun c14 => ?_)
  ·
   have hz0 := c14
   obtain ⟨hs0, hs1, hs2⟩ := sf_spec hz0
   refine JC_region ?_
   refine JO_q (QE_ldA 6 [_, _] rfl rfl rfl rfl rfl) rfl ?_
   refine JO_q (QE_mv rfl) rfl ?_
   refine JO_q (QE_mv rfl) rfl ?_
   refine JO_call (first := []) (captured := []) rfl rfl rfl (started_ac D _ _ _ _ _ _ (hA.le (Le.trans (Le.trans (Le.trans (Le.trans (Le.trans (Le.trans (Le.trans (Le.trans (Le.trans (Le.trans (Le.trans h1 h2) h3) h5) h6) h7) h8) h9) h10) h11) h12) h13)) _ _ _ _ (hIm.le (Le.trans (Le.trans (Le.trans (Le.trans (Le.trans (Le.trans (Le.trans (Le.trans (Le.trans (Le.trans (Le.trans h1 h2) h3) h5) h6) h7) h8) h9) h10) h11) h12) h13)) _ _ _ _ (hIn.le (Le.trans (Le.trans (Le.trans (Le.trans (Le.trans (Le.trans (Le.trans (Le.trans (Le.trans (Le.trans (Le.trans h1 h2) h3) h5) h6) h7) h8) h9) h10) h11) h12) h13)) (tabG hA hs0) hs1 hs2) ?_
   rintro _ _ s15 h15 ⟨rfl, ⟨Aw, nw, cw, Bw, nBw, cBw, Ow, nOw, cOw, rfl, hAw, hBw, hOw⟩⟩
   refine JO_st 0 [_, _, _, _, _, _, _, _, _, _] rfl rfl rfl rfl rfl rfl rfl rfl rfl ?_
   refine JO_nil ?_
   refine thenQ_n ?_
   refine JC_seq ?_
   refine JC_seq ?_
   refine JC_region ?_
   refine JO_q (QE_ldA 4 [_, _] rfl rfl rfl rfl rfl) rfl ?_
   refine JO_q (QE_ldA 1 [_, _] rfl rfl rfl rfl rfl) rfl ?_
   refine JO_q (QE_cast (v' := .bool false) (QE_ane rfl rfl (eqFault _ _ _ _)) (bF (startF t l i))) rfl ?_
   refine JO_q (QE_mv rfl) rfl ?_
   refine JO_gT rfl rfl ?_
   refine JO_q (QE_ldA 5 [_, _, _, _, _, _, _, _, _, _] rfl rfl rfl rfl rfl) rfl ?_
   refine JO_gT rfl rfl ?_
   refine JO_q (QE_ldA 0 [_, _, _, _, _, _, _, _, _, _] rfl rfl rfl rfl rfl) rfl ?_
   refine JO_gT rfl rfl ?_
   refine JO_call (first := []) (captured := []) rfl rfl rfl (AC.isT (sameState_ac D _ _ (startR t l i).1 _ _ _ _ _ _ _ _ _ (hAa.le (Le.trans (Le.trans (Le.trans (Le.trans (Le.trans (Le.trans (Le.trans (Le.trans h6 h7) h8) h9) h10) h11) h12) h13) h15)) (hBa.le (Le.trans (Le.trans (Le.trans (Le.trans (Le.trans (Le.trans (Le.trans (Le.trans h6 h7) h8) h9) h10) h11) h12) h13) h15)) (hOa.le (Le.trans (Le.trans (Le.trans (Le.trans (Le.trans (Le.trans (Le.trans (Le.trans h6 h7) h8) h9) h10) h11) h12) h13) h15)) (startM t l i) _ _ _ _ _ _ _ _ _ (hAw.le (Le.refl (D := D) _)) (hBw.le (Le.refl (D := D) _)) (hOw.le (Le.refl (D := D) _))) (by rw [sf_ok hz0])) ?_
   rintro _ _ s16 h16 ⟨rfl, rfl⟩
   refine JO_gT rfl rfl ?_
   refine JO_q (QE_notT rfl) rfl ?_
   refine JO_q (QE_pickF rfl rfl) rfl ?_
   refine JO_nil ?_
   refine thenQ_n ?_
   refine JC_ifF rfl ?_
   refine JC_skip ?_
   refine thenQ_n ?_
   refine JC_seq ?_
   refine JC_seq ?_
   refine JC_region ?_
   refine JO_q (QE_fa0 rfl rfl rfl rfl) rfl ?_
   refine JO_q (QE_ld1 1 rfl rfl rfl rfl rfl) rfl ?_
   refine JO_q (QE_cast (v' := .bool true) (QE_eq rfl rfl) (bT hz0)) rfl ?_
   refine JO_q (QE_mv rfl) rfl ?_
   refine JO_gT rfl rfl ?_
   refine JO_q (QE_mv rfl) rfl ?_
   refine JO_gT rfl rfl ?_
   refine JO_call (first := []) (captured := []) rfl rfl rfl (in_ac D _ _ _ _ _) ?_
   rintro _ _ s17 h17 ⟨rfl, rfl⟩
   refine JO_gT rfl rfl ?_
   refine JO_q (QE_not rfl) rfl ?_
   refine JO_q (QE_pickT rfl rfl) rfl ?_
   refine JO_nil ?_
   refine thenQ_n ?_
   refine JC_ifN rfl (fun c18 => ?_) (fun c18 => ?_)
   ·
    refine JC_region ?_
    refine JO_call (first := []) (captured := []) rfl rfl rfl (at_ac D _ _ _ _) ?_
    rintro _ _ s19 h19 ⟨rfl, rfl⟩
    refine JO_st 1 [_, _] rfl rfl rfl rfl rfl rfl rfl rfl rfl ?_
    refine JO_nil ?_
    refine thenQ_n ?_
    refine JC_seq ?_
    refine JC_region ?_
    refine JO_q (QE_build [] [_, _, _, _] rfl rfl rfl rfl rfl rfl) rfl ?_
    refine JO_allocZ rfl [_, _, _, _] rfl rfl ?_
    intro β20 s20 h20
    refine JO_st 0 [_, _, _, _] rfl rfl rfl rfl rfl rfl rfl rfl rfl ?_
    refine JO_nil ?_
    refine thenQ_n ?_
    refine JC_seq ?_
    refine JC_seq ?_
    refine JC_region ?_
    refine JO_q (QE_fa0 rfl rfl rfl rfl) rfl ?_
    refine JO_q (QE_ld1 2 rfl rfl rfl rfl rfl) rfl ?_
    refine JO_q (QE_cast (v' := .bool false) (QE_eq rfl rfl) (bZ (by decide))) rfl ?_
    refine JO_nil ?_
    refine thenQ_n ?_
    refine JC_ifF rfl ?_
    refine JC_skip ?_
    refine thenQ_n ?_
    refine JC_seq ?_
    refine JC_region ?_
    refine JO_q (QE_ldA 3 [_, _] rfl rfl rfl rfl rfl) rfl ?_
    refine JO_q (QE_ldA 2 [_, _] rfl rfl rfl rfl rfl) rfl ?_
    refine JO_q (QE_cast (v' := .bool true) (QE_aeq rfl rfl (eqFault _ _ _ _)) (bT (by rw [ex_far hz0 (by omega)]; exact ⟨rfl, rfl⟩))) rfl ?_
    refine JO_q (QE_mv rfl) rfl ?_
    refine JO_gT rfl rfl ?_
    refine JO_q (QE_ldA 4 [_, _, _, _] rfl rfl rfl rfl rfl) rfl ?_
    refine JO_gT rfl rfl ?_
    refine JO_q (QE_ldA 0 [_, _, _, _] rfl rfl rfl rfl rfl) rfl ?_
    refine JO_gT rfl rfl ?_
    refine JO_call (first := []) (captured := []) rfl rfl rfl (AC.isT (sameOutcome_ac D _ _ _ _ _ _ (hOe.le (Le.trans (Le.trans (Le.trans (Le.trans (Le.trans (Le.trans (Le.trans (Le.trans (Le.trans h9 h10) h11) h12) h13) h15) h16) h17) h19) h20)) _ _ _ [] (Bts.nil _ _ _ (by omega)) _ _ _ _ _ _) (by rw [ex_far hz0 (by omega)]; exact ⟨rfl, rfl, rfl, rfl⟩)) ?_
    rintro _ _ s21 h21 ⟨rfl, rfl⟩
    refine JO_q (QE_pickT rfl rfl) rfl ?_
    refine JO_q (QE_as rfl) rfl ?_
    refine JO_nil ?_
    refine thenQ_n ?_
    refine JC_ret ?_
    refine retQ_mk [_, _, _, _, _, _, _, _] L (.inr rfl) (.tmp rfl (.nil)) rfl (Le.trans (Le.trans (Le.trans (Le.trans (Le.trans (Le.trans (Le.trans (Le.trans (Le.trans (Le.trans (Le.trans (Le.trans (Le.trans (Le.trans (Le.trans (Le.trans (Le.trans h1 h2) h3) h5) h6) h7) h8) h9) h10) h11) h12) h13) h15) h16) h17) h19) h20) h21) (fun sR hS2 => ?_)
    exact ⟨rfl, rfl⟩
   ·
    refine JC_skip ?_
    refine thenQ_n ?_
    refine JC_seq ?_
    refine JC_region ?_
    refine JO_q (QE_build [] [_, _, _, _] rfl rfl rfl rfl rfl rfl) rfl ?_
    refine JO_allocZ rfl [_, _, _, _] rfl rfl ?_
    intro β22 s22 h22
    refine JO_st 0 [_, _, _, _] rfl rfl rfl rfl rfl rfl rfl rfl rfl ?_
    refine JO_nil ?_
    refine thenQ_n ?_
    refine JC_seq ?_
    refine JC_seq ?_
    refine JC_region ?_
    refine JO_q (QE_fa0 rfl rfl rfl rfl) rfl ?_
    refine JO_q (QE_ld1 2 rfl rfl rfl rfl rfl) rfl ?_
    refine JO_q (QE_cast (v' := .bool true) (QE_eq rfl rfl) (bT hz0)) rfl ?_
    refine JO_nil ?_
    refine thenQ_n ?_
    refine JC_ifT rfl ?_
    refine JC_region ?_
    refine JO_q (QE_ldA 7 [_, _] rfl rfl rfl rfl rfl) rfl ?_
    refine JO_q (QE_mv rfl) rfl ?_
    refine JO_q (QE_mv rfl) rfl ?_
    refine JO_q (QE_mv rfl) rfl ?_
    refine JO_call (first := []) (captured := []) rfl rfl rfl (executed_ac D _ _ _ _ _ _ (hA.le (Le.trans (Le.trans (Le.trans (Le.trans (Le.trans (Le.trans (Le.trans (Le.trans (Le.trans (Le.trans (Le.trans (Le.trans (Le.trans (Le.trans (Le.trans h1 h2) h3) h5) h6) h7) h8) h9) h10) h11) h12) h13) h15) h16) h17) h22)) _ _ _ _ (hIm.le (Le.trans (Le.trans (Le.trans (Le.trans (Le.trans (Le.trans (Le.trans (Le.trans (Le.trans (Le.trans (Le.trans (Le.trans (Le.trans (Le.trans (Le.trans h1 h2) h3) h5) h6) h7) h8) h9) h10) h11) h12) h13) h15) h16) h17) h22)) _ _ _ _ (hIn.le (Le.trans (Le.trans (Le.trans (Le.trans (Le.trans (Le.trans (Le.trans (Le.trans (Le.trans (Le.trans (Le.trans (Le.trans (Le.trans (Le.trans (Le.trans h1 h2) h3) h5) h6) h7) h8) h9) h10) h11) h12) h13) h15) h16) h17) h22)) hz0 k (by omega)) ?_
    rintro _ _ s23 h23 ⟨rfl, Aw2, nw2, cw2, rfl, hOw2⟩
    refine JO_st 0 [_, _, _, _] rfl rfl rfl rfl rfl rfl rfl rfl rfl ?_
    refine JO_nil ?_
    refine thenQ_n ?_
    refine JC_seq ?_
    refine JC_region ?_
    refine JO_q (QE_ldA 3 [_, _] rfl rfl rfl rfl rfl) rfl ?_
    refine JO_q (QE_ldA 2 [_, _] rfl rfl rfl rfl rfl) rfl ?_
    refine JO_q (QE_cast (v' := .bool true) (QE_aeq rfl rfl (eqFault _ _ _ _)) (bT (by rw [ex_ok hz0 (by omega)]; exact ⟨hz0.symm, (sf_zero t l i hz0).symm⟩))) rfl ?_
    refine JO_q (QE_mv rfl) rfl ?_
    refine JO_gT rfl rfl ?_
    refine JO_q (QE_ldA 4 [_, _, _, _] rfl rfl rfl rfl rfl) rfl ?_
    refine JO_gT rfl rfl ?_
    refine JO_q (QE_ldA 0 [_, _, _, _] rfl rfl rfl rfl rfl) rfl ?_
    refine JO_gT rfl rfl ?_
    refine JO_call (first := []) (captured := []) rfl rfl rfl (AC.isT (sameOutcome_ac D _ _ _ _ _ _ (hOe.le (Le.trans (Le.trans (Le.trans (Le.trans (Le.trans (Le.trans (Le.trans (Le.trans (Le.trans h9 h10) h11) h12) h13) h15) h16) h17) h22) h23)) _ _ _ _ (hOw2.le (Le.refl (D := D) _)) _ _ _ _ _ _) (by rw [ex_ok hz0 (by omega)]; exact ⟨rfl, rfl, rfl, rfl⟩)) ?_
    rintro _ _ s24 h24 ⟨rfl, rfl⟩
    refine JO_q (QE_pickT rfl rfl) rfl ?_
    refine JO_q (QE_as rfl) rfl ?_
    refine JO_nil ?_
    refine thenQ_n ?_
    refine JC_ret ?_
    refine retQ_mk [_, _, _, _, _, _, _, _] L (.inr rfl) (.tmp rfl (.nil)) rfl (Le.trans (Le.trans (Le.trans (Le.trans (Le.trans (Le.trans (Le.trans (Le.trans (Le.trans (Le.trans (Le.trans (Le.trans (Le.trans (Le.trans (Le.trans (Le.trans (Le.trans h1 h2) h3) h5) h6) h7) h8) h9) h10) h11) h12) h13) h15) h16) h17) h22) h23) h24) (fun sR hS2 => ?_)
    exact ⟨rfl, rfl⟩
  ·
   have hz0 := c14
   refine JC_skip ?_
   refine thenQ_n ?_
   refine JC_seq ?_
   refine JC_seq ?_
   refine JC_region ?_
   refine JO_q (QE_ldA 4 [_, _] rfl rfl rfl rfl rfl) rfl ?_
   refine JO_q (QE_ldA 1 [_, _] rfl rfl rfl rfl rfl) rfl ?_
   refine JO_q (QE_cast (v' := .bool false) (QE_ane rfl rfl (eqFault _ _ _ _)) (bF (startF t l i))) rfl ?_
   refine JO_q (QE_mv rfl) rfl ?_
   refine JO_gT rfl rfl ?_
   refine JO_q (QE_ldA 5 [_, _, _, _, _, _, _, _, _, _] rfl rfl rfl rfl rfl) rfl ?_
   refine JO_gT rfl rfl ?_
   refine JO_q (QE_ldA 0 [_, _, _, _, _, _, _, _, _, _] rfl rfl rfl rfl rfl) rfl ?_
   refine JO_gT rfl rfl ?_
   refine JO_call (first := []) (captured := []) rfl rfl rfl (AC.isT (sameState_ac D _ _ (startR t l i).1 _ _ _ _ _ _ _ _ _ (hAa.le (Le.trans (Le.trans (Le.trans (Le.trans (Le.trans (Le.trans (Le.trans h6 h7) h8) h9) h10) h11) h12) h13)) (hBa.le (Le.trans (Le.trans (Le.trans (Le.trans (Le.trans (Le.trans (Le.trans h6 h7) h8) h9) h10) h11) h12) h13)) (hOa.le (Le.trans (Le.trans (Le.trans (Le.trans (Le.trans (Le.trans (Le.trans h6 h7) h8) h9) h10) h11) h12) h13)) zeroM _ _ _ _ _ _ _ _ _ (Wds.nil _ _ _ (by omega)) (Bts.nil _ _ _ (by omega)) (Bts.nil _ _ _ (by omega))) (by rw [sf_bad hz0])) ?_
   rintro _ _ s25 h25 ⟨rfl, rfl⟩
   refine JO_gT rfl rfl ?_
   refine JO_q (QE_notT rfl) rfl ?_
   refine JO_q (QE_pickF rfl rfl) rfl ?_
   refine JO_nil ?_
   refine thenQ_n ?_
   refine JC_ifF rfl ?_
   refine JC_skip ?_
   refine thenQ_n ?_
   refine JC_seq ?_
   refine JC_seq ?_
   refine JC_region ?_
   refine JO_q (QE_fa0 rfl rfl rfl rfl) rfl ?_
   refine JO_q (QE_ld1 1 rfl rfl rfl rfl rfl) rfl ?_
   refine JO_q (QE_cast (v' := .bool false) (QE_eq rfl rfl) (bZ hz0)) rfl ?_
   refine JO_q (QE_mv rfl) rfl ?_
   refine JO_gF rfl rfl rfl rfl ?_
   refine JO_gF rfl rfl rfl rfl ?_
   refine JO_gF rfl rfl rfl rfl ?_
   refine JO_q (QE_pickF rfl rfl) rfl ?_
   refine JO_nil ?_
   refine thenQ_n ?_
   refine JC_ifF rfl ?_
   refine JC_skip ?_
   refine thenQ_n ?_
   refine JC_seq ?_
   refine JC_region ?_
   refine JO_q (QE_build [] [_, _, _, _] rfl rfl rfl rfl rfl rfl) rfl ?_
   refine JO_allocZ rfl [_, _, _, _] rfl rfl ?_
   intro β26 s26 h26
   refine JO_st 0 [_, _, _, _] rfl rfl rfl rfl rfl rfl rfl rfl rfl ?_
   refine JO_nil ?_
   refine thenQ_n ?_
   refine JC_seq ?_
   refine JC_seq ?_
   refine JC_region ?_
   refine JO_q (QE_fa0 rfl rfl rfl rfl) rfl ?_
   refine JO_q (QE_ld1 2 rfl rfl rfl rfl rfl) rfl ?_
   refine JO_q (QE_cast (v' := .bool false) (QE_eq rfl rfl) (bZ hz0)) rfl ?_
   refine JO_nil ?_
   refine thenQ_n ?_
   refine JC_ifF rfl ?_
   refine JC_skip ?_
   refine thenQ_n ?_
   refine JC_seq ?_
   refine JC_region ?_
   refine JO_q (QE_ldA 3 [_, _] rfl rfl rfl rfl rfl) rfl ?_
   refine JO_q (QE_ldA 2 [_, _] rfl rfl rfl rfl rfl) rfl ?_
   refine JO_q (QE_cast (v' := .bool true) (QE_aeq rfl rfl (eqFault _ _ _ _)) (bT (by rw [ex_bad hz0]; exact ⟨rfl, rfl⟩))) rfl ?_
   refine JO_q (QE_mv rfl) rfl ?_
   refine JO_gT rfl rfl ?_
   refine JO_q (QE_ldA 4 [_, _, _, _] rfl rfl rfl rfl rfl) rfl ?_
   refine JO_gT rfl rfl ?_
   refine JO_q (QE_ldA 0 [_, _, _, _] rfl rfl rfl rfl rfl) rfl ?_
   refine JO_gT rfl rfl ?_
   refine JO_call (first := []) (captured := []) rfl rfl rfl (AC.isT (sameOutcome_ac D _ _ _ _ _ _ (hOe.le (Le.trans (Le.trans (Le.trans (Le.trans (Le.trans (Le.trans h9 h10) h11) h12) h13) h25) h26)) _ _ _ [] (Bts.nil _ _ _ (by omega)) _ _ _ _ _ _) (by rw [ex_bad hz0]; exact ⟨rfl, rfl, rfl, rfl⟩)) ?_
   rintro _ _ s27 h27 ⟨rfl, rfl⟩
   refine JO_q (QE_pickT rfl rfl) rfl ?_
   refine JO_q (QE_as rfl) rfl ?_
   refine JO_nil ?_
   refine thenQ_n ?_
   refine JC_ret ?_
   refine retQ_mk [_, _, _, _, _, _, _, _] L (.inr rfl) (.tmp rfl (.nil)) rfl (Le.trans (Le.trans (Le.trans (Le.trans (Le.trans (Le.trans (Le.trans (Le.trans (Le.trans (Le.trans (Le.trans (Le.trans (Le.trans (Le.trans h1 h2) h3) h5) h6) h7) h8) h9) h10) h11) h12) h13) h25) h26) h27) (fun sR hS2 => ?_)
   exact ⟨rfl, rfl⟩

set_option maxHeartbeats 4000000 in
set_option maxRecDepth 100000 in
theorem lawAdd_ac (D : Nat) (L : Hl) (s : World) (t : Tab) (A : Option Addr) (n c : Nat) (hA : Inss s A n c t.ins) (m : Mst) (Ax Bx Ox : Option Addr) (nAx cAx nBx cBx nOx cOx : Nat) (hAx : Wds s Ax nAx cAx m.cells) (hBx : Bts s Bx nBx cBx m.input) (hOx : Bts s Ox nOx cOx m.output) (hU : MU m) (k1 k2 : Int) : AC Try.prog D 6 [.agg #[.int .i64 t.cells, .slice A n c], .agg #[.slice Ax nAx cAx, .int .u32 m.r0, .int .u32 m.r1, .int .u32 m.r2, .int .u32 m.r3, .int .u32 m.r4, .slice Bx nBx cBx, .slice Ox nOx cOx, .int .i64 m.stop, .int .u32 m.code], .int .i64 k1, .int .i64 k2] L s fun v L' _ => v = .bool true ∧ L = L' := by
 refine AC_enter (TT := TT) (fn := Try.f6) TT_ok Try.func6 (by kernel_rfl) rfl Try.ntmps6 rfl (rs := [.tmp 8]) rfl [(0, _), (1, _), (2, _), (3, _)] rfl ?_
 refine JC_seq ?_
 refine JC_region ?_
 refine JO_boxA rfl rfl ?_
 intro β1 s1 h1
 refine JO_boxA rfl rfl ?_
 intro β2 s2 h2
 refine JO_q (QE_as rfl) rfl ?_
 refine JO_nil ?_
 refine thenQ_n ?_
 refine JC_seq ?_
 refine JC_seq ?_
 refine JC_region ?_
 refine JO_call (first := []) (captured := []) rfl rfl rfl (runs_ac D _ _) ?_
 rintro _ _ s3 h3 ⟨rfl, rfl⟩
 refine JO_q (QE_notT rfl) rfl ?_
 refine JO_nil ?_
 refine thenQ_n ?_
 refine JC_ifF rfl ?_
 refine JC_skip ?_
 refine thenQ_n ?_
 refine JC_seq ?_
 refine JC_seq ?_
 refine JC_region ?_
 refine JO_q (QE_mv rfl) rfl ?_
 refine JO_call (first := []) (captured := []) rfl rfl rfl (in_ac D _ _ _ _ _) ?_
 rintro _ _ s4 h4 ⟨rfl, rfl⟩
 refine JO_q (QE_not rfl) rfl ?_
 refine JO_q (QE_mv rfl) rfl ?_
 refine JO_caseN (t := 23) rfl (fun c5 => ?_) (fun c5 => ?_)
 ·
  refine JO_gF rfl rfl rfl rfl ?_
  refine JO_gF rfl rfl rfl rfl ?_
  refine JO_gF rfl rfl rfl rfl ?_
  refine JO_q (QE_pickT rfl rfl) rfl ?_
  refine JO_nil ?_
  refine thenQ_n ?_
  refine JC_ifT rfl ?_
  refine JC_seq ?_
  refine JC_region ?_
  refine JO_q (QE_as rfl) rfl ?_
  refine JO_nil ?_
  refine thenQ_n ?_
  refine JC_ret ?_
  refine thenQ_r ?_
  refine retQ_mk [_, _] L (.inr rfl) (.tmp rfl (.nil)) rfl (Le.trans (Le.trans (Le.trans h1 h2) h3) h4) (fun sR hS2 => ?_)
  exact ⟨rfl, rfl⟩
 ·
  refine JO_gT rfl rfl ?_
  refine JO_q (QE_mv rfl) rfl ?_
  refine JO_gT rfl rfl ?_
  refine JO_call (first := []) (captured := []) rfl rfl rfl (in_ac D _ _ _ _ _) ?_
  rintro _ _ s6 h6 ⟨rfl, rfl⟩
  refine JO_gT rfl rfl ?_
  refine JO_q (QE_not rfl) rfl ?_
  refine JO_q (QE_pickF rfl rfl) rfl ?_
  refine JO_nil ?_
  refine thenQ_n ?_
  refine JC_ifN rfl (fun c7 => ?_) (fun c7 => ?_)
  ·
   refine JC_seq ?_
   refine JC_region ?_
   refine JO_q (QE_as rfl) rfl ?_
   refine JO_nil ?_
   refine thenQ_n ?_
   refine JC_ret ?_
   refine thenQ_r ?_
   refine retQ_mk [_, _] L (.inr rfl) (.tmp rfl (.nil)) rfl (Le.trans (Le.trans (Le.trans (Le.trans h1 h2) h3) h4) h6) (fun sR hS2 => ?_)
   exact ⟨rfl, rfl⟩
  ·
   refine JC_skip ?_
   refine thenQ_n ?_
   refine JC_seq ?_
   refine JC_region ?_
   refine JO_q (QE_ldA 1 [_, _] rfl rfl rfl rfl rfl) rfl ?_
   refine JO_q (QE_ldA 0 [_, _, _, _, _, _, _, _, _, _] rfl rfl rfl rfl rfl) rfl ?_
   refine JO_q (QE_mv rfl) rfl ?_
   refine JO_call (first := []) (captured := []) rfl rfl rfl (run_ac D _ _ _ _ _ _ (hA.le (Le.trans (Le.trans (Le.trans (Le.trans h1 h2) h3) h4) h6)) _ _ _ _ _ _ _ _ _ _ (hAx.le (Le.trans (Le.trans (Le.trans (Le.trans h1 h2) h3) h4) h6)) (hBx.le (Le.trans (Le.trans (Le.trans (Le.trans h1 h2) h3) h4) h6)) (hOx.le (Le.trans (Le.trans (Le.trans (Le.trans h1 h2) h3) h4) h6)) hU k1) ?_
   rintro _ _ s8 h8 ⟨rfl, _, ⟨Aa, na, ca, Ba, nBa, cBa, Oa, nOa, cOa, rfl, hAa, hBa, hOa⟩, rfl⟩
   refine JO_q (QE_mv rfl) rfl ?_
   refine JO_q (QE_ext rfl rfl) rfl ?_
   refine JO_q (QE_ext rfl rfl) rfl ?_
   refine JO_q (QE_ext rfl rfl) rfl ?_
   refine JO_allocZ rfl [_, _, _, _, _, _, _, _, _, _] rfl rfl ?_
   intro β9 s9 h9
   refine JO_allocZ rfl [_, _] rfl rfl ?_
   intro β10 s10 h10
   refine JO_st 1 [_, _, _, _, _, _, _, _, _, _] rfl rfl rfl rfl rfl rfl rfl rfl rfl ?_
   refine JO_q (QE_as rfl) rfl ?_
   refine JO_st 0 [_, _] rfl rfl rfl rfl rfl rfl rfl rfl rfl ?_
   refine JO_nil ?_
   refine thenQ_n ?_
   refine JC_seq ?_
   refine JC_seq ?_
   refine JC_region ?_
   refine JO_q (QE_fa0 rfl rfl rfl rfl) rfl ?_
   refine JO_q (QE_ld1 0 rfl rfl rfl rfl rfl) rfl ?_
   refine JO_q (QE_ne rfl rfl) rfl ?_
   refine JO_nil ?_
   refine thenQ_n ?_
   refine JC_ifN rfl (fun c11 => ?_) (fun c11 => ?_)
   ·
    have hbad : (stFault t m).1 ≠ 0 := fun h => c11 (by rw [runR_ok h (by omega)])
    refine JC_seq ?_
    refine JC_draw drawsMixed 10 rfl _ (fun _ h => h) ?_
    intro s12 h12
    refine JA_q 0 rfl (by kernel_rfl) (by kernel_rfl) (by kernel_rfl) trivial (QE_mv rfl) rfl ?_
    refine JA_q 1 rfl (by kernel_rfl) (by kernel_rfl) (by kernel_rfl) trivial (QE_cast (v' := .bool true) (QE_eq rfl rfl) (bT (by rw [runR_bad hbad]))) rfl ?_
    refine JA_q 2 rfl (by kernel_rfl) (by kernel_rfl) (by kernel_rfl) trivial (QE_mv rfl) rfl ?_
    refine JA_q 3 rfl (by kernel_rfl) (by kernel_rfl) (by kernel_rfl) ⟨_, rfl, rfl⟩ (QE_ldA 0 [_, _] rfl rfl rfl rfl rfl) rfl ?_
    refine JA_q 4 rfl (by kernel_rfl) (by kernel_rfl) (by kernel_rfl) ⟨_, rfl, rfl⟩ (QE_ldA 3 [_, _] rfl rfl rfl rfl rfl) rfl ?_
    refine JA_q 5 rfl (by kernel_rfl) (by kernel_rfl) (by kernel_rfl) ⟨_, rfl, rfl⟩ (QE_ldA 2 [_, _, _, _, _, _, _, _, _, _] rfl rfl rfl rfl rfl) rfl ?_
    refine JA_1 6 (by kernel_rfl) ?_
    refine JB_call rfl ⟨_, rfl, rfl⟩ (first := []) (captured := []) rfl rfl rfl (stateFault_ac D _ _ _ _ _ _ (hA.le (Le.trans (Le.trans (Le.trans (Le.trans (Le.trans (Le.trans (Le.trans (Le.trans h1 h2) h3) h4) h6) h8) h9) h10) h12)) _ _ _ _ _ _ _ _ _ _ (hAx.le (Le.trans (Le.trans (Le.trans (Le.trans (Le.trans (Le.trans (Le.trans (Le.trans h1 h2) h3) h4) h6) h8) h9) h10) h12)) (hBx.le (Le.trans (Le.trans (Le.trans (Le.trans (Le.trans (Le.trans (Le.trans (Le.trans h1 h2) h3) h4) h6) h8) h9) h10) h12)) (hOx.le (Le.trans (Le.trans (Le.trans (Le.trans (Le.trans (Le.trans (Le.trans (Le.trans h1 h2) h3) h4) h6) h8) h9) h10) h12))) ?_
    rintro _ _ s13 h13 ⟨rfl, rfl⟩
    refine ⟨fun _ _ h => h, ?_⟩
    refine JA_q 7 rfl (by kernel_rfl) (by kernel_rfl) (by kernel_rfl) ⟨_, rfl, rfl⟩ (QE_cast (v' := .bool true) (QE_aeq rfl rfl (eqFault _ _ _ _)) (bT (by rw [runR_bad hbad]; exact ⟨rfl, rfl⟩))) rfl ?_
    refine JA_q 8 rfl (by kernel_rfl) (by kernel_rfl) (by kernel_rfl) trivial (QE_pickT rfl rfl) rfl ?_
    refine JA_q 9 rfl (by kernel_rfl) (by kernel_rfl) (by kernel_rfl) trivial (QE_as rfl) rfl ?_
    refine JA_done (by kernel_rfl) ?_
    refine thenQ_n ?_
    refine JC_ret ?_
    refine thenQ_r ?_
    refine retQ_mk [_, _, _, _] L (.inr rfl) (.tmp rfl (.nil)) rfl (Le.trans (Le.trans (Le.trans (Le.trans (Le.trans (Le.trans (Le.trans (Le.trans (Le.trans h1 h2) h3) h4) h6) h8) h9) h10) h12) h13) (fun sR hS2 => ?_)
    exact ⟨rfl, rfl⟩
   ·
    have hst0 : (stFault t m).1 = 0 := by
      by_cases h : (stFault t m).1 = 0
      · exact h
      · have hc := c11; rw [runR_bad h] at hc; exact absurd hc h
    obtain ⟨hG, hok, hsok, hlen⟩ := st_mok hA hAx hU hst0
    obtain ⟨hr1, hr2, hr3, hU1, hb1, hb2⟩ := addUp hG hok hsok hlen hst0 (show 0 ≤ k1 ∧ k1 ≤ 20000 by omega) (show 0 ≤ k2 ∧ k2 ≤ 20000 by omega)
    refine JC_skip ?_
    refine thenQ_n ?_
    refine JC_seq ?_
    refine JC_region ?_
    refine JO_q (QE_ldA 3 [_, _] rfl rfl rfl rfl rfl) rfl ?_
    refine JO_q (QE_ldA 1 [_, _, _, _, _, _, _, _, _, _] rfl rfl rfl rfl rfl) rfl ?_
    refine JO_q (QE_mv rfl) rfl ?_
    refine JO_call (first := []) (captured := []) rfl rfl rfl (run_ac D _ _ _ _ _ _ (hA.le (Le.trans (Le.trans (Le.trans (Le.trans (Le.trans (Le.trans (Le.trans h1 h2) h3) h4) h6) h8) h9) h10)) (runR t m k1).1 _ _ _ _ _ _ _ _ _ (hAa.le (Le.trans h9 h10)) (hBa.le (Le.trans h9 h10)) (hOa.le (Le.trans h9 h10)) hU1 k2) ?_
    rintro _ _ s14 h14 ⟨rfl, _, ⟨Ab, nb, cb, Bb, nBb, cBb, Ob, nOb, cOb, rfl, hAb, hBb, hOb⟩, rfl⟩
    refine JO_q (QE_mv rfl) rfl ?_
    refine JO_q (QE_ext rfl rfl) rfl ?_
    refine JO_q (QE_ext rfl rfl) rfl ?_
    refine JO_q (QE_ext rfl rfl) rfl ?_
    refine JO_allocZ rfl [_, _, _, _, _, _, _, _, _, _] rfl rfl ?_
    intro β15 s15 h15
    refine JO_allocZ rfl [_, _] rfl rfl ?_
    intro β16 s16 h16
    refine JO_st 1 [_, _, _, _, _, _, _, _, _, _] rfl rfl rfl rfl rfl rfl rfl rfl rfl ?_
    refine JO_q (QE_as rfl) rfl ?_
    refine JO_st 0 [_, _] rfl rfl rfl rfl rfl rfl rfl rfl rfl ?_
    refine JO_nil ?_
    refine thenQ_n ?_
    refine JC_seq ?_
    refine JC_region ?_
    refine JO_q (QE_ldA 5 [_, _] rfl rfl rfl rfl rfl) rfl ?_
    refine JO_q (QE_ldA 4 [_, _, _, _, _, _, _, _, _, _] rfl rfl rfl rfl rfl) rfl ?_
    refine JO_q (QE_mv rfl) rfl ?_
    refine JO_q (QE_mv rfl) rfl ?_
    refine JO_q (QE_add' rfl rfl (w64 (by omega) (by omega))) rfl ?_
    refine JO_call (first := []) (captured := []) rfl rfl rfl (run_ac D _ _ _ _ _ _ (hA.le (Le.trans (Le.trans (Le.trans (Le.trans (Le.trans (Le.trans (Le.trans (Le.trans (Le.trans (Le.trans h1 h2) h3) h4) h6) h8) h9) h10) h14) h15) h16)) _ _ _ _ _ _ _ _ _ _ (hAx.le (Le.trans (Le.trans (Le.trans (Le.trans (Le.trans (Le.trans (Le.trans (Le.trans (Le.trans (Le.trans h1 h2) h3) h4) h6) h8) h9) h10) h14) h15) h16)) (hBx.le (Le.trans (Le.trans (Le.trans (Le.trans (Le.trans (Le.trans (Le.trans (Le.trans (Le.trans (Le.trans h1 h2) h3) h4) h6) h8) h9) h10) h14) h15) h16)) (hOx.le (Le.trans (Le.trans (Le.trans (Le.trans (Le.trans (Le.trans (Le.trans (Le.trans (Le.trans (Le.trans h1 h2) h3) h4) h6) h8) h9) h10) h14) h15) h16)) hU (k1 + k2)) ?_
    rintro _ _ s17 h17 ⟨rfl, _, ⟨Ac, nc, cc, Bc, nBc, cBc, Oc, nOc, cOc, rfl, hAc, hBc, hOc⟩, rfl⟩
    refine JO_q (QE_mv rfl) rfl ?_
    refine JO_q (QE_ext rfl rfl) rfl ?_
    refine JO_q (QE_ext rfl rfl) rfl ?_
    refine JO_q (QE_ext rfl rfl) rfl ?_
    refine JO_allocZ rfl [_, _, _, _, _, _, _, _, _, _] rfl rfl ?_
    intro β18 s18 h18
    refine JO_allocZ rfl [_, _] rfl rfl ?_
    intro β19 s19 h19
    refine JO_st 1 [_, _, _, _, _, _, _, _, _, _] rfl rfl rfl rfl rfl rfl rfl rfl rfl ?_
    refine JO_q (QE_as rfl) rfl ?_
    refine JO_st 0 [_, _] rfl rfl rfl rfl rfl rfl rfl rfl rfl ?_
    refine JO_nil ?_
    refine thenQ_n ?_
    refine JC_seq ?_
    refine JC_region ?_
    refine JO_q (QE_fa0 rfl rfl rfl rfl) rfl ?_
    refine JO_q (QE_ld1 2 rfl rfl rfl rfl rfl) rfl ?_
    refine JO_q (QE_cast (v' := .bool true) (QE_eq rfl rfl) (bT (by rw [hr2]))) rfl ?_
    refine JO_q (QE_mv rfl) rfl ?_
    refine JO_gT rfl rfl ?_
    refine JO_q (QE_fa0 rfl rfl rfl rfl) rfl ?_
    refine JO_gT rfl rfl ?_
    refine JO_q (QE_ld1 0 rfl rfl rfl rfl rfl) rfl ?_
    refine JO_gT rfl rfl ?_
    refine JO_q (QE_cast (v' := .bool true) (QE_eq rfl rfl) (bT (by rw [hr3]))) rfl ?_
    refine JO_q (QE_pickT rfl rfl) rfl ?_
    refine JO_q (QE_mv rfl) rfl ?_
    refine JO_gT rfl rfl ?_
    refine JO_q (QE_ldA 3 [_, _, _, _, _, _, _, _, _, _] rfl rfl rfl rfl rfl) rfl ?_
    refine JO_gT rfl rfl ?_
    refine JO_q (QE_ldA 1 [_, _, _, _, _, _, _, _, _, _] rfl rfl rfl rfl rfl) rfl ?_
    refine JO_gT rfl rfl ?_
    refine JO_call (first := []) (captured := []) rfl rfl rfl (AC.isT (sameState_ac D _ _ (runR t (runR t m k1).1 k2).1 _ _ _ _ _ _ _ _ _ (hAb.le (Le.trans (Le.trans (Le.trans (Le.trans h15 h16) h17) h18) h19)) (hBb.le (Le.trans (Le.trans (Le.trans (Le.trans h15 h16) h17) h18) h19)) (hOb.le (Le.trans (Le.trans (Le.trans (Le.trans h15 h16) h17) h18) h19)) (runR t m (k1 + k2)).1 _ _ _ _ _ _ _ _ _ (hAc.le (Le.trans h18 h19)) (hBc.le (Le.trans h18 h19)) (hOc.le (Le.trans h18 h19))) (by rw [hr2, hr3])) ?_
    rintro _ _ s20 h20 ⟨rfl, rfl⟩
    refine JO_q (QE_pickT rfl rfl) rfl ?_
    refine JO_q (QE_mv rfl) rfl ?_
    refine JO_gT rfl rfl ?_
    refine JO_q (QE_mv rfl) rfl ?_
    refine JO_gT rfl rfl ?_
    refine JO_q (QE_mv rfl) rfl ?_
    refine JO_gT rfl rfl ?_
    refine JO_q (QE_add' rfl rfl (w64 (by rw [hr2, hr1]; simp only; omega) (by rw [hr2, hr1]; simp only; omega))) rfl ?_
    refine JO_gT rfl rfl ?_
    refine JO_q (QE_mv rfl) rfl ?_
    refine JO_gT rfl rfl ?_
    refine JO_q (QE_cast (v' := .bool true) (QE_eq rfl rfl) (bT (by rw [hr2, hr1, hr3]))) rfl ?_
    refine JO_q (QE_pickT rfl rfl) rfl ?_
    refine JO_q (QE_as rfl) rfl ?_
    refine JO_nil ?_
    refine thenQ_n ?_
    refine JC_ret ?_
    refine retQ_mk [_, _, _, _, _, _, _, _] L (.inr rfl) (.tmp rfl (.nil)) rfl (Le.trans (Le.trans (Le.trans (Le.trans (Le.trans (Le.trans (Le.trans (Le.trans (Le.trans (Le.trans (Le.trans (Le.trans (Le.trans (Le.trans h1 h2) h3) h4) h6) h8) h9) h10) h14) h15) h16) h17) h18) h19) h20) (fun sR hS2 => ?_)
    exact ⟨rfl, rfl⟩
end Go.Proofs.Ytpjnphonanbopaa
