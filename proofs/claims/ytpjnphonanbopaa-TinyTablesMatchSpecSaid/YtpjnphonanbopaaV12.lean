/- The reference: runs; starts. -/
import Derived.Test.YtpjnphonanbopaaV11
namespace Go.Proofs.Ytpjnphonanbopaa
open Go.FL
attribute [local irreducible] JC JO JA JB thenQ blockQ retQ AC fill CellsAt QE Ev Mid

set_option maxHeartbeats 4000000 in
set_option maxRecDepth 100000 in
theorem ranO_ac (D : Nat) (L : Hl) (s : World) (t : Tab) (A : Option Addr) (n c : Nat) (hA : Inss s A n c t.ins) (m : Mst) (Ax Bx Ox : Option Addr) (nAx cAx nBx cBx nOx cOx : Nat) (hAx : Wds s Ax nAx cAx m.cells) (hBx : Bts s Bx nBx cBx m.input) (hOx : Bts s Ox nOx cOx m.output) (hG : TabG t) (hok : MOK m) (hsok : SOK m) (hc0 : 0 < m.cells.length) (k : Int) (hk : 0 ≤ k ∧ k ≤ 50000000) : AC Try.prog D 13 [.agg #[.int .i64 t.cells, .slice A n c], .agg #[.slice Ax nAx cAx, .int .u32 m.r0, .int .u32 m.r1, .int .u32 m.r2, .int .u32 m.r3, .int .u32 m.r4, .slice Bx nBx cBx, .slice Ox nOx cOx, .int .i64 m.stop, .int .u32 m.code], .int .i64 k] L s fun v L' s' => ∃ M', L' = M' ++ L ∧ ∀ s2, Le D s' s2 → Pub M' s2 → ∃ vs, StW s2 (runM t m k.toNat).1 vs ∧ v = .tuple #[vs, .int .i64 ((runM t m k.toNat).2 : Int)] := by
 obtain rfl := hAx.1
 obtain rfl := hOx.1
 have hb1 := hok.cells
 have hb2 := hok.input
 have hb3 := hok.output
 refine AC_enter (TT := TT) (fn := Try.f13) TT_ok Try.func13 (by kernel_rfl) rfl Try.ntmps13 rfl (rs := [.cell 6 30, .tmp 7]) rfl [(0, _), (1, _), (2, _)] rfl ?_
 refine JC_seq ?_
 refine JC_region ?_
 refine JO_boxA rfl rfl ?_
 intro β1 s1 h1
 refine JO_boxA rfl rfl ?_
 intro β2 s2 h2
 refine JO_allocZ rfl [_, _, _, _, _, _, _, _, _, _] rfl rfl ?_
 intro β3 s3 h3
 refine JO_q (QE_as rfl) rfl ?_
 refine JO_nil ?_
 refine thenQ_n ?_
 refine JC_seq ?_
 refine JC_region ?_
 refine JO_q (QE_as rfl) rfl ?_
 refine JO_nil ?_
 refine thenQ_n ?_
 refine JC_seq ?_
 refine JC_region ?_
 refine JO_q (QE_mv rfl) rfl ?_
 refine JO_q (QE_fa0 rfl rfl rfl rfl) rfl ?_
 refine JO_q (QE_ld1 1 rfl rfl rfl rfl rfl) rfl ?_
 refine JO_app (sz := 1) [_, _, _] [] _ rfl rfl rfl rfl rfl rfl rfl Own.nil (hAx.row.le (Le.trans (Le.trans h1 h2) h3)) ⟨by simp [ti26]; omega, by omega⟩ rfl ?_
 intro v4 A4 s4 h4 o4
 simp only [Nat.zero_add, List.nil_append] at o4
 obtain ⟨Ac1, cc, rfl, kc1, kc2⟩ := Own.slice o4
 obtain ⟨bc, yc, rfl, rfl, hcy, hcy2⟩ := Own.blk_of o4 hc0
 simp only [List.cons_append, List.nil_append]
 refine JO_q (QE_fa0 rfl rfl rfl rfl) rfl ?_
 refine JO_st 1 [_, _, _, _, _, _, _, _, _, _] rfl rfl rfl rfl rfl rfl rfl rfl rfl ?_
 refine JO_nil ?_
 refine thenQ_n ?_
 refine JC_seq ?_
 refine JC_region ?_
 refine JO_q (QE_as rfl) rfl ?_
 refine JO_nil ?_
 refine thenQ_n ?_
 refine JC_seq ?_
 refine JC_region ?_
 refine JO_q (QE_mv rfl) rfl ?_
 refine JO_q (QE_faB rfl rfl rfl rfl) rfl ?_
 refine JO_q (QE_ld1 1 rfl rfl rfl rfl rfl) rfl ?_
 refine JO_app (sz := 1) [_, _, _, _] [] _ rfl rfl rfl rfl rfl rfl rfl Own.nil (hOx.row.le (Le.trans (Le.trans (Le.trans h1 h2) h3) h4)) ⟨by simp [ti5]; omega, by omega⟩ rfl ?_
 intro v5 A5 s5 h5 o5
 simp only [Nat.zero_add, List.nil_append] at o5
 obtain ⟨Ao, co, rfl, ko1, ko2⟩ := Own.slice o5
 have hO := o5
 simp only [List.cons_append, List.nil_append]
 refine JO_q (QE_faB rfl rfl rfl rfl) rfl ?_
 refine JO_st 1 [_, _, _, _, _, _, _, _, _, _] rfl rfl rfl rfl rfl rfl rfl rfl rfl ?_
 refine JO_nil ?_
 refine thenQ_n ?_
 refine JC_seq ?_
 refine JC_region ?_
 refine JO_q (QE_as rfl) rfl ?_
 refine JO_nil ?_
 refine thenQ_n ?_
 refine JC_seq ?_
 refine JC_block ?_
 refine JC_loopX [_] (γ := Nat × Mst × List Value × Hl) (fun g => [(2, _), (3, _), (4, _), (6, _), (7, _), (10, .int .i64 (g.1 : Int))]) (fun g => (β2, cb g.2.2.1 30) :: (β1, cb [.int .i64 t.cells, .slice A n c] 24) :: (g.2.2.2 ++ L)) (fun g tw => Le D s5 tw ∧ (g.1 ≤ k.toNat ∧ StO g.2.1 (.agg g.2.2.1.toArray) g.2.2.2 tw ∧ MOK g.2.1 ∧ SOK g.2.1 ∧ runM t m k.toNat = ((runM t g.2.1 (k.toNat - g.1)).1, g.1 + (runM t g.2.1 (k.toNat - g.1)).2))) (fun g => k.toNat - g.1) (fun _ _ _ h hl => ⟨h.1.trans hl, by obtain ⟨_, k1, k2, k3⟩ := h; exact ⟨k1, k2.le hl, k3⟩⟩) (0, m, [_, _, _, _, _, _, _, _, _, _], [_] ++ _) (Keeps.cons rfl (Keeps.cons rfl (Keeps.cons rfl (Keeps.cons rfl (Keeps.cons rfl (Keeps.cons rfl (Keeps.nil _))))))) rfl ⟨Le.refl _, ⟨Nat.zero_le _, ⟨bc, cc, yc, _, Ao, co, _, _, _, rfl, rfl, hO, hBx.le (Le.trans (Le.trans (Le.trans (Le.trans h1 h2) h3) h4) h5), by rw [wv_len] at hcy; exact hcy, hcy2⟩, hok, hsok, by simp⟩⟩ ?_
 intro g s6 I6
 simp only [List.cons_append, List.nil_append]
 obtain ⟨j, mk, zk, Mk⟩ := g
 obtain ⟨hj0, hSt1, hok1, hsok1, hrun⟩ := I6.2
 simp only at hj0 hSt1 hok1 hsok1 hrun
 obtain ⟨bc1, cc1, yc1, O1, Ao1, co1, Ai1, ni1, ci1, hz1, hM1, hO1, hI1, hcc1, hcc21⟩ := StO.list hSt1
 subst hz1
 subst hM1
 simp only [List.cons_append]
 refine JC_seq ?_
 refine JC_seq ?_
 refine JC_region ?_
 refine JO_q (QE_mv rfl) rfl ?_
 refine JO_q (QE_mv rfl) rfl ?_
 refine JO_q (QE_lt rfl rfl) rfl ?_
 refine JO_q (QE_mv rfl) rfl ?_
 refine JO_caseD (t := 24) rfl (fun c7 => ?_) (fun c7 => ?_)
 ·
  refine JO_gT rfl rfl ?_
  refine JO_q (QE_faB rfl rfl rfl rfl) rfl ?_
  refine JO_gT rfl rfl ?_
  refine JO_q (QE_ld1 1 rfl rfl rfl rfl rfl) rfl ?_
  refine JO_gT rfl rfl ?_
  refine JO_q (QE_eq rfl rfl) rfl ?_
  refine JO_q (QE_pickT rfl rfl) rfl ?_
  refine JO_nil ?_
  refine thenQ_n ?_
  refine JC_ifD rfl (fun c8 => ?_) (fun c8 => ?_)
  ·
   have hs1 : mk.stop = 0 := c8
   have hj1 : j < k.toNat := by omega
   refine JC_skip ?_
   refine thenQ_n ?_
   refine JC_block ?_
   refine JC_seq ?_
   refine JC_region ?_
   refine JO_q (QE_ldA 2 [_, _] rfl rfl rfl rfl rfl) rfl ?_
   refine JO_q (QE_ldA 1 [_, _, _, _, _, _, _, _, _, _] rfl rfl rfl rfl rfl) rfl ?_
   refine JO_call (first := []) (captured := []) rfl rfl rfl (AC.mid [_, _, _] (_ :: O1) L (stepped_ac D _ _ _ _ _ _ (hA.le (Le.trans (Le.trans (Le.trans (Le.trans (Le.trans h1 h2) h3) h4) h5) I6.1)) mk _ _ ⟨bc1, cc1, yc1, O1, Ao1, co1, Ai1, ni1, ci1, rfl, rfl, hO1, hI1.le (Le.refl (D := D) _), hcc1, hcc21⟩ hG hok1 hs1)) ?_
   rintro _ _ s9 h9 ⟨M2, rfl, bc2, cc2, yc2, O2, Ao2, co2, Ai2, ni2, ci2, rfl, hM2, hO2, hI2, hcc22, hcc23⟩
   have hSt2 : StO (stepM t mk) _ M2 s9 := ⟨bc2, cc2, yc2, O2, Ao2, co2, Ai2, ni2, ci2, rfl, hM2, hO2, hI2, hcc22, hcc23⟩
   simp only [List.cons_append, List.nil_append]
   refine JO_st 1 [_, _, _, _, _, _, _, _, _, _] rfl rfl rfl rfl rfl rfl rfl rfl rfl ?_
   refine JO_nil ?_
   refine thenQ_n ?_
   refine JC_region ?_
   refine JO_q (QE_mv rfl) rfl ?_
   refine JO_q (QE_add' rfl rfl (w64 (by omega) (by omega))) rfl ?_
   refine JO_q (QE_as rfl) rfl ?_
   refine JO_nil ?_
   refine blockQ_n ?_
   refine thenQ_n ⟨(j + 1, stepM t mk, _, M2), [], (Keeps.cons rfl (Keeps.cons rfl (Keeps.cons rfl (Keeps.cons rfl (Keeps.cons rfl (Keeps.cons rfl (Keeps.nil _))))))), rfl, ⟨(Le.trans I6.1 h9), ⟨hj1, hSt2.le (Le.refl (D := D) _), (step_good hG hok1 hs1 (nocode hsok1 hs1)).1, (step_good hG hok1 hs1 (nocode hsok1 hs1)).2.1, run_mid hrun hj1 hs1⟩⟩, (by simp only; omega)⟩
  ·
   have hend : ¬ j < k.toNat ∨ ¬ mk.stop = 0 := by first | exact .inr c8 | exact .inl (by omega)
   refine JC_exit ?_
   refine thenQ_x ?_
   refine thenQ_x ?_
   refine blockQ_x ?_
   refine thenQ_n ?_
   refine JC_seq ?_
   refine JC_region ?_
   refine JO_q (QE_ldA 1 [_, _, _, _, _, _, _, _, _, _] rfl rfl rfl rfl rfl) rfl ?_
   refine JO_q (QE_mv rfl) rfl ?_
   refine JO_st 0 [_, _, _, _, _, _, _, _, _, _] rfl rfl rfl rfl rfl rfl rfl rfl rfl ?_
   refine JO_q (QE_as rfl) rfl ?_
   refine JO_nil ?_
   refine thenQ_n ?_
   refine JC_ret ?_
   refine retQ_mk [_, _, _] _ (.inr rfl) (.agg (us := [_, _, _, _, _, _, _, _, _, _]) 0 rfl rfl rfl rfl rfl (.tmp rfl (.nil))) rfl (Le.trans (Le.trans (Le.trans (Le.trans (Le.trans h1 h2) h3) h4) h5) I6.1) (fun sR hS2 => ?_)
   refine ⟨_ :: O1, rfl, fun s2 h2 hp => ?_⟩
   rw [run_end hrun hend]
   exact ⟨_, ⟨_, _, _, _, _, _, _, _, _, rfl, wds_pub (hp _ _ _ (List.mem_cons_self ..)) hok1.wide hcc1 hcc21, hI1.le (Le.trans (Le.refl (D := D) _) (Le.trans hS2 h2)), Own.bts hO1 hp.tail⟩, rfl⟩
 ·
  refine JO_gF rfl rfl rfl rfl ?_
  refine JO_gF rfl rfl rfl rfl ?_
  refine JO_gF rfl rfl rfl rfl ?_
  refine JO_q (QE_pickF rfl rfl) rfl ?_
  refine JO_nil ?_
  refine thenQ_n ?_
  refine JC_ifF rfl ?_
  have hend : ¬ j < k.toNat ∨ ¬ mk.stop = 0 := by first | exact .inr trivial | exact .inl (by omega)
  refine JC_exit ?_
  refine thenQ_x ?_
  refine thenQ_x ?_
  refine blockQ_x ?_
  refine thenQ_n ?_
  refine JC_seq ?_
  refine JC_region ?_
  refine JO_q (QE_ldA 1 [_, _, _, _, _, _, _, _, _, _] rfl rfl rfl rfl rfl) rfl ?_
  refine JO_q (QE_mv rfl) rfl ?_
  refine JO_st 0 [_, _, _, _, _, _, _, _, _, _] rfl rfl rfl rfl rfl rfl rfl rfl rfl ?_
  refine JO_q (QE_as rfl) rfl ?_
  refine JO_nil ?_
  refine thenQ_n ?_
  refine JC_ret ?_
  refine retQ_mk [_, _, _] _ (.inr rfl) (.agg (us := [_, _, _, _, _, _, _, _, _, _]) 0 rfl rfl rfl rfl rfl (.tmp rfl (.nil))) rfl (Le.trans (Le.trans (Le.trans (Le.trans (Le.trans h1 h2) h3) h4) h5) I6.1) (fun sR hS2 => ?_)
  refine ⟨_ :: O1, rfl, fun s2 h2 hp => ?_⟩
  rw [run_end hrun hend]
  exact ⟨_, ⟨_, _, _, _, _, _, _, _, _, rfl, wds_pub (hp _ _ _ (List.mem_cons_self ..)) hok1.wide hcc1 hcc21, hI1.le (Le.trans (Le.refl (D := D) _) (Le.trans hS2 h2)), Own.bts hO1 hp.tail⟩, rfl⟩
end Go.Proofs.Ytpjnphonanbopaa
