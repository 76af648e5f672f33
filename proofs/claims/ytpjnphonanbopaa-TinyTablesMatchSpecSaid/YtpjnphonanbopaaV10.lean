/- The reference: an action. -/
import Derived.Test.YtpjnphonanbopaaV9
namespace Go.Proofs.Ytpjnphonanbopaa
open Go.FL
attribute [local irreducible] JC JO JA JB thenQ blockQ retQ AC fill CellsAt QE Ev Mid

/-- a state whose cells and output are owned -/
def StO (m : Mst) (v : Value) (M : Hl) (s : World) : Prop := ∃ bc cc yc O Ao co Ai ni ci, v = .agg #[.slice (some ⟨bc, 0, none⟩) m.cells.length cc, .int .u32 m.r0, .int .u32 m.r1, .int .u32 m.r2, .int .u32 m.r3, .int .u32 m.r4, .slice Ai ni ci, .slice Ao m.output.length co, .int .i64 m.stop, .int .u32 m.code]
  ∧ M = (bc, cb (wv m.cells ++ yc) 26) :: O ∧ Own 5 1 O (.slice Ao m.output.length co) m.output.length (bv m.output) ∧ Bts s Ai ni ci m.input ∧ m.cells.length + yc.length = cc ∧ cc ≤ 9223372036854775807
section
variable {m : Mst} {a : Ac} {op : Int}
theorem act_a4 (h : (a.kind = 4 ∨ a.kind = 5) ∧ valT m op a.y = 0) : actM m a op = { m with stop := 4 } := by simp only [actM]; rw [if_pos h]
theorem act_a13 (h1 : ¬ ((a.kind = 4 ∨ a.kind = 5) ∧ valT m op a.y = 0)) (h : (a.kind = 13 ∨ a.kind = 14) ∧ (m.cells.length : Int) ≤ valT m op a.x) : actM m a op = { m with stop := 3 } := by simp only [actM]; rw [if_neg h1, if_pos h]
theorem act_a16 (h1 : ¬ ((a.kind = 4 ∨ a.kind = 5) ∧ valT m op a.y = 0)) (h2 : ¬ ((a.kind = 13 ∨ a.kind = 14) ∧ (m.cells.length : Int) ≤ valT m op a.x)) (h : a.kind = 16 ∧ m.output.length = 20000) : actM m a op = { m with stop := 5 } := by simp only [actM]; rw [if_neg h1, if_neg h2, if_pos h]
theorem act_a17 (h : a.kind = 17 ∨ a.kind = 18 ∧ valT m op a.y = 0) : actM m a op = { m with stop := 1, code := valT m op a.x } := by
  rcases h with h | ⟨h, h2⟩
  · exact act_k17 h
  · exact act_k18 h h2
theorem act_a12 (h0 : ¬ ((a.kind = 4 ∨ a.kind = 5) ∧ valT m op a.y = 0)) (h : a.kind ≤ 12 ∨ a.kind = 19 ∧ valT m op a.y = 0) : actM m a op = setR m a.to (comp a.kind (valT m op a.x) (valT m op a.y)) := by
  simp only [actM]
  rw [if_neg h0, if_neg (by omega), if_neg (by omega), if_neg (by omega), if_neg (by omega), if_neg (by omega), if_neg (by omega), if_neg (by omega), if_pos h]
theorem act_an (h0 : ¬ ((a.kind = 4 ∨ a.kind = 5) ∧ valT m op a.y = 0)) (h1 : ¬ a.kind = 13) (h2 : ¬ a.kind = 14) (h3 : ¬ a.kind = 15) (h4 : ¬ a.kind = 16) (h5 : ¬ (a.kind = 17 ∨ a.kind = 18 ∧ valT m op a.y = 0)) (h : ¬ (a.kind ≤ 12 ∨ a.kind = 19 ∧ valT m op a.y = 0)) : actM m a op = m := by
  simp only [actM]
  rw [if_neg h0, if_neg (by omega), if_neg (by omega), if_neg h1, if_neg h2, if_neg h3, if_neg h4, if_neg h5, if_neg h]
end
theorem byteR {x : Int} (h : U32 x) : IntKind.u8.wrap (x.tmod 256) = ((UInt8.ofNat (x.toNat % 256)).toNat : Int) := by
  obtain ⟨h1, h2⟩ := h
  rw [IntKind.wrap_u8, Int.tmod_eq_emod_of_nonneg h1]
  simp [UInt8.toNat_ofNat']
  omega
theorem setR_setR (m : Mst) (i u v : Int) : setR (setR m i u) i v = setR m i v := by unfold setR; simp only [Mst.mk.injEq, true_and, and_true]; refine ⟨?_, ?_, ?_, ?_, ?_⟩ <;> split <;> rfl

set_option maxHeartbeats 1000000 in
set_option maxRecDepth 100000 in
theorem valueOf_ac (D : Nat) (L : Hl) (s : World) (m : Mst) (op : Int) (x : Tm) (hv : x.kind = 1 → 0 ≤ x.val ∧ x.val ≤ 4) : AC Try.prog D 71 [.agg #[.int .i64 x.kind, .int .u32 x.val], .agg #[.int .u32 m.r0, .int .u32 m.r1, .int .u32 m.r2, .int .u32 m.r3, .int .u32 m.r4], .int .u32 op] L s fun v L' _ => v = .int .u32 (valT m op x) ∧ L = L' := by
 refine AC_enter (TT := TT) (fn := Try.f71) TT_ok Try.func71 (by kernel_rfl) rfl Try.ntmps71 rfl (rs := [.tmp 6]) rfl [(0, _), (1, _), (2, _)] rfl ?_
 refine JC_seq ?_
 refine JC_region ?_
 refine JO_boxA rfl rfl ?_
 intro β1 s1 h1
 refine JO_boxA rfl rfl ?_
 intro β2 s2 h2
 refine JO_q (QE_as rfl) rfl ?_
 refine JO_nil ?_
 refine thenQ_n ?_
 refine JC_seq ?_
 refine JC_seq ?_
 refine JC_region ?_
 refine JO_q (QE_fa0 rfl rfl rfl rfl) rfl ?_
 refine JO_q (QE_ld1 1 rfl rfl rfl rfl rfl) rfl ?_
 refine JO_q (QE_eq rfl rfl) rfl ?_
 refine JO_nil ?_
 refine thenQ_n ?_
 refine JC_ifD rfl (fun c3 => ?_) (fun c3 => ?_)
 ·
  have hk := c3
  refine JC_seq ?_
  refine JC_region ?_
  refine JO_q (QE_faB rfl rfl rfl rfl) rfl ?_
  refine JO_q (QE_ld1 1 rfl rfl rfl rfl rfl) rfl ?_
  refine JO_q (QE_iaI rfl rfl rfl rfl rfl rfl (hv hk).1 (by have := (hv hk).2; omega)) rfl ?_
  refine JO_q (QE_ld1 0 rfl rfl rfl rfl (nth_reg0 m (hv hk) _)) rfl ?_
  refine JO_q (QE_as rfl) rfl ?_
  refine JO_nil ?_
  refine thenQ_n ?_
  refine JC_ret ?_
  refine thenQ_r ?_
  refine retQ_mk [_, _] L (.inr rfl) (.tmp rfl (.nil)) rfl (Le.trans h1 h2) (fun sR hS2 => ?_)
  exact ⟨by simp [resV, valT, *], rfl⟩
 ·
  refine JC_skip ?_
  refine thenQ_n ?_
  refine JC_seq ?_
  refine JC_seq ?_
  refine JC_region ?_
  refine JO_q (QE_fa0 rfl rfl rfl rfl) rfl ?_
  refine JO_q (QE_ld1 1 rfl rfl rfl rfl rfl) rfl ?_
  refine JO_q (QE_eq rfl rfl) rfl ?_
  refine JO_nil ?_
  refine thenQ_n ?_
  refine JC_ifD rfl (fun c4 => ?_) (fun c4 => ?_)
  ·
   refine JC_seq ?_
   refine JC_region ?_
   refine JO_q (QE_mv rfl) rfl ?_
   refine JO_q (QE_as rfl) rfl ?_
   refine JO_nil ?_
   refine thenQ_n ?_
   refine JC_ret ?_
   refine thenQ_r ?_
   refine retQ_mk [_, _] L (.inr rfl) (.tmp rfl (.nil)) rfl (Le.trans h1 h2) (fun sR hS2 => ?_)
   exact ⟨by simp [resV, valT, *], rfl⟩
  ·
   refine JC_skip ?_
   refine thenQ_n ?_
   refine JC_seq ?_
   refine JC_region ?_
   refine JO_q (QE_faB rfl rfl rfl rfl) rfl ?_
   refine JO_q (QE_ld1 1 rfl rfl rfl rfl rfl) rfl ?_
   refine JO_q (QE_as rfl) rfl ?_
   refine JO_nil ?_
   refine thenQ_n ?_
   refine JC_ret ?_
   refine retQ_mk [_, _] L (.inr rfl) (.tmp rfl (.nil)) rfl (Le.trans h1 h2) (fun sR hS2 => ?_)
   exact ⟨by simp [resV, valT, *], rfl⟩

set_option maxHeartbeats 4000000 in
set_option maxRecDepth 100000 in
theorem acted_ac (D : Nat) (L : Hl) (s : World) (m : Mst) (v : Value) (M : Hl) (hM : StO m v M s) (op : Int) (a : Ac) (hok : MOK m) (hop : U32 op) (ha : AcOK a) : AC Try.prog D 56 [v, .agg #[.int .i64 a.kind, .int .i64 a.to, .int .i64 a.x.kind, .int .u32 a.x.val, .int .i64 a.y.kind, .int .u32 a.y.val], .int .u32 op] (M ++ L) s fun v L' s' => ∃ M', L' = M' ++ L ∧ StO (actM m a op) v M' s' := by
 obtain ⟨bc, cc, yc, O, Ao, co, Ai, ni, ci, rfl, rfl, hO, hI, hcc, hcc2⟩ := hM
 have hux := U32_val hok hop ha.ux
 have huy := U32_val hok hop ha.uy
 have hux1 := hux.1
 have hux2 := hux.2
 have hnc := hok.cells
 have hni := hI.1
 have hno := hok.output
 simp only [List.cons_append]
 refine AC_enter (TT := TT) (fn := Try.f56) TT_ok Try.func56 (by kernel_rfl) rfl Try.ntmps56 rfl (rs := [.cell 6 30]) rfl [(0, _), (1, _), (2, _)] rfl ?_
 refine JC_seq ?_
 refine JC_region ?_
 refine JO_boxA rfl rfl ?_
 intro β1 s1 h1
 refine JO_boxA rfl rfl ?_
 intro β2 s2 h2
 refine JO_allocZ rfl [_, _, _, _, _, _, _, _, _, _] rfl rfl ?_
 intro β3 s3 h3
 refine JO_nil ?_
 refine thenQ_n ?_
 refine JC_seq ?_
 refine JC_region ?_
 refine JO_q (QE_faB rfl rfl rfl rfl) rfl ?_
 refine JO_q (QE_ldA 1 [_, _] rfl rfl rfl rfl rfl) rfl ?_
 refine JO_q (QE_faB rfl rfl rfl rfl) rfl ?_
 refine JO_q (QE_ldA 2 [_, _, _, _, _] rfl rfl rfl rfl rfl) rfl ?_
 refine JO_q (QE_mv rfl) rfl ?_
 refine JO_call (first := []) (captured := []) rfl rfl rfl (valueOf_ac D _ _ m op a.x ha.x) ?_
 rintro _ _ s4 h4 ⟨rfl, rfl⟩
 refine JO_q (QE_as rfl) rfl ?_
 refine JO_nil ?_
 refine thenQ_n ?_
 refine JC_seq ?_
 refine JC_region ?_
 refine JO_q (QE_faB rfl rfl rfl rfl) rfl ?_
 refine JO_q (QE_ldA 1 [_, _] rfl rfl rfl rfl rfl) rfl ?_
 refine JO_q (QE_faB rfl rfl rfl rfl) rfl ?_
 refine JO_q (QE_ldA 2 [_, _, _, _, _] rfl rfl rfl rfl rfl) rfl ?_
 refine JO_q (QE_mv rfl) rfl ?_
 refine JO_call (first := []) (captured := []) rfl rfl rfl (valueOf_ac D _ _ m op a.y ha.y) ?_
 rintro _ _ s5 h5 ⟨rfl, rfl⟩
 refine JO_q (QE_as rfl) rfl ?_
 refine JO_nil ?_
 refine thenQ_n ?_
 refine JC_seq ?_
 refine JC_region ?_
 refine JO_q (QE_fa0 rfl rfl rfl rfl) rfl ?_
 refine JO_q (QE_ld1 2 rfl rfl rfl rfl rfl) rfl ?_
 refine JO_q (QE_lenS rfl rfl rfl) rfl ?_
 refine JO_q (QE_conv' rfl rfl rfl rfl rfl (w64u (by omega) (by omega))) rfl ?_
 refine JO_q (QE_as rfl) rfl ?_
 refine JO_nil ?_
 refine thenQ_n ?_
 refine JC_seq ?_
 refine JC_cutB 37 ((a.kind = 4 ∨ a.kind = 5) ∧ valT m op a.y = 0) ?_ ?_
 ·
  refine JC_region ?_
  refine JO_q (QE_fa0 rfl rfl rfl rfl) rfl ?_
  refine JO_q (QE_ld1 1 rfl rfl rfl rfl rfl) rfl ?_
  refine JO_q (QE_eq rfl rfl) rfl ?_
  refine JO_q (QE_mv rfl) rfl ?_
  refine JO_caseD (t := 29) rfl (fun c7 => ?_) (fun c7 => ?_)
  ·
   refine JO_gF rfl rfl rfl rfl ?_
   refine JO_gF rfl rfl rfl rfl ?_
   refine JO_gF rfl rfl rfl rfl ?_
   refine JO_q (QE_pickT rfl rfl) rfl ?_
   refine JO_q (QE_mv rfl) rfl ?_
   refine JO_gT rfl rfl ?_
   refine JO_q (QE_mv rfl) rfl ?_
   refine JO_gT rfl rfl ?_
   refine JO_q (QE_eq rfl rfl) rfl ?_
   refine JO_q (QE_pickT rfl rfl) rfl ?_
   refine JO_nil ?_
   refine thenQ_n (MidB.mk (Le.refl (D := D) _) (by repeat (first | exact Suf.refl | refine Suf.push rfl ?_)) rfl (decide_eq_decide.2 (by omega)))
  ·
   refine JO_gT rfl rfl ?_
   refine JO_q (QE_fa0 rfl rfl rfl rfl) rfl ?_
   refine JO_gT rfl rfl ?_
   refine JO_q (QE_ld1 1 rfl rfl rfl rfl rfl) rfl ?_
   refine JO_gT rfl rfl ?_
   refine JO_q (QE_eq rfl rfl) rfl ?_
   refine JO_q (QE_pickF rfl rfl) rfl ?_
   refine JO_q (QE_mv rfl) rfl ?_
   refine JO_caseD (t := 34) rfl (fun c8 => ?_) (fun c8 => ?_)
   ·
    refine JO_gT rfl rfl ?_
    refine JO_q (QE_mv rfl) rfl ?_
    refine JO_gT rfl rfl ?_
    refine JO_q (QE_eq rfl rfl) rfl ?_
    refine JO_q (QE_pickT rfl rfl) rfl ?_
    refine JO_nil ?_
    refine thenQ_n (MidB.mk (Le.refl (D := D) _) (by repeat (first | exact Suf.refl | refine Suf.push rfl ?_)) rfl (decide_eq_decide.2 (by omega)))
   ·
    refine JO_gF rfl rfl rfl rfl ?_
    refine JO_gF rfl rfl rfl rfl ?_
    refine JO_q (QE_pickF rfl rfl) rfl ?_
    refine JO_nil ?_
    refine thenQ_n (MidB.mk (Le.refl (D := D) _) (by repeat (first | exact Suf.refl | refine Suf.push rfl ?_)) rfl ((decide_eq_false (by omega)).symm))
 ·
  intro s6 h6
  refine JC_ifD rfl (fun c9 => ?_) (fun c9 => ?_)
  ·
   have hk4 := c9
   refine JC_seq ?_
   refine JC_region ?_
   refine JO_q (QE_faB rfl rfl rfl rfl) rfl ?_
   refine JO_st 2 [_, _, _, _, _, _, _, _, _, _] rfl rfl rfl rfl rfl rfl rfl rfl rfl ?_
   refine JO_nil ?_
   refine thenQ_n ?_
   refine JC_seq ?_
   refine JC_region ?_
   refine JO_q (QE_ldA 2 [_, _, _, _, _, _, _, _, _, _] rfl rfl rfl rfl rfl) rfl ?_
   refine JO_st 0 [_, _, _, _, _, _, _, _, _, _] rfl rfl rfl rfl rfl rfl rfl rfl rfl ?_
   refine JO_nil ?_
   refine thenQ_n ?_
   refine JC_ret ?_
   refine thenQ_r ?_
   refine retQ_mk [_, _, _] _ (.inr rfl) (.agg (us := [_, _, _, _, _, _, _, _, _, _]) 0 rfl rfl rfl rfl rfl (.nil)) rfl (Le.trans (Le.trans (Le.trans (Le.trans (Le.trans h1 h2) h3) h4) h5) h6) (fun sR hS2 => ?_)
   refine ⟨_ :: O, rfl, ?_⟩
   rw [act_a4 hk4]; exact ⟨bc, cc, yc, O, Ao, co, Ai, ni, ci, rfl, rfl, hO, hI.le (Le.trans (Le.trans (Le.trans (Le.trans (Le.trans (Le.trans h1 h2) h3) h4) h5) h6) hS2), hcc, hcc2⟩
  ·
   have hk4 := c9
   refine JC_skip ?_
   refine thenQ_n ?_
   refine JC_seq ?_
   refine JC_cutB 53 ((a.kind = 13 ∨ a.kind = 14) ∧ (m.cells.length : Int) ≤ valT m op a.x) ?_ ?_
   ·
    refine JC_region ?_
    refine JO_q (QE_fa0 rfl rfl rfl rfl) rfl ?_
    refine JO_q (QE_ld1 1 rfl rfl rfl rfl rfl) rfl ?_
    refine JO_q (QE_eq rfl rfl) rfl ?_
    refine JO_q (QE_mv rfl) rfl ?_
    refine JO_caseD (t := 43) rfl (fun c11 => ?_) (fun c11 => ?_)
    ·
     refine JO_gF rfl rfl rfl rfl ?_
     refine JO_gF rfl rfl rfl rfl ?_
     refine JO_gF rfl rfl rfl rfl ?_
     refine JO_q (QE_pickT rfl rfl) rfl ?_
     refine JO_q (QE_mv rfl) rfl ?_
     refine JO_gT rfl rfl ?_
     refine JO_q (QE_mv rfl) rfl ?_
     refine JO_gT rfl rfl ?_
     refine JO_q (QE_conv' rfl rfl rfl rfl rfl (w64u (by omega) (by omega))) rfl ?_
     refine JO_gT rfl rfl ?_
     refine JO_q (QE_mv rfl) rfl ?_
     refine JO_gT rfl rfl ?_
     refine JO_q (QE_ge rfl rfl) rfl ?_
     refine JO_q (QE_pickT rfl rfl) rfl ?_
     refine JO_nil ?_
     refine thenQ_n (MidB.mk (Le.refl (D := D) _) (by repeat (first | exact Suf.refl | refine Suf.push rfl ?_)) rfl (decide_eq_decide.2 (by omega)))
    ·
     refine JO_gT rfl rfl ?_
     refine JO_q (QE_fa0 rfl rfl rfl rfl) rfl ?_
     refine JO_gT rfl rfl ?_
     refine JO_q (QE_ld1 1 rfl rfl rfl rfl rfl) rfl ?_
     refine JO_gT rfl rfl ?_
     refine JO_q (QE_eq rfl rfl) rfl ?_
     refine JO_q (QE_pickF rfl rfl) rfl ?_
     refine JO_q (QE_mv rfl) rfl ?_
     refine JO_caseD (t := 48) rfl (fun c12 => ?_) (fun c12 => ?_)
     ·
      refine JO_gT rfl rfl ?_
      refine JO_q (QE_mv rfl) rfl ?_
      refine JO_gT rfl rfl ?_
      refine JO_q (QE_conv' rfl rfl rfl rfl rfl (w64u (by omega) (by omega))) rfl ?_
      refine JO_gT rfl rfl ?_
      refine JO_q (QE_mv rfl) rfl ?_
      refine JO_gT rfl rfl ?_
      refine JO_q (QE_ge rfl rfl) rfl ?_
      refine JO_q (QE_pickT rfl rfl) rfl ?_
      refine JO_nil ?_
      refine thenQ_n (MidB.mk (Le.refl (D := D) _) (by repeat (first | exact Suf.refl | refine Suf.push rfl ?_)) rfl (decide_eq_decide.2 (by omega)))
     ·
      refine JO_gF rfl rfl rfl rfl ?_
      refine JO_gF rfl rfl rfl rfl ?_
      refine JO_gF rfl rfl rfl rfl ?_
      refine JO_gF rfl rfl rfl rfl ?_
      refine JO_q (QE_pickF rfl rfl) rfl ?_
      refine JO_nil ?_
      refine thenQ_n (MidB.mk (Le.refl (D := D) _) (by repeat (first | exact Suf.refl | refine Suf.push rfl ?_)) rfl ((decide_eq_false (by omega)).symm))
   ·
    intro s10 h10
    refine JC_ifD rfl (fun c13 => ?_) (fun c13 => ?_)
    ·
     have hk13 := c13
     refine JC_seq ?_
     refine JC_region ?_
     refine JO_q (QE_faB rfl rfl rfl rfl) rfl ?_
     refine JO_st 2 [_, _, _, _, _, _, _, _, _, _] rfl rfl rfl rfl rfl rfl rfl rfl rfl ?_
     refine JO_nil ?_
     refine thenQ_n ?_
     refine JC_seq ?_
     refine JC_region ?_
     refine JO_q (QE_ldA 2 [_, _, _, _, _, _, _, _, _, _] rfl rfl rfl rfl rfl) rfl ?_
     refine JO_st 0 [_, _, _, _, _, _, _, _, _, _] rfl rfl rfl rfl rfl rfl rfl rfl rfl ?_
     refine JO_nil ?_
     refine thenQ_n ?_
     refine JC_ret ?_
     refine thenQ_r ?_
     refine retQ_mk [_, _, _] _ (.inr rfl) (.agg (us := [_, _, _, _, _, _, _, _, _, _]) 0 rfl rfl rfl rfl rfl (.nil)) rfl (Le.trans (Le.trans (Le.trans (Le.trans (Le.trans (Le.trans h1 h2) h3) h4) h5) h6) h10) (fun sR hS2 => ?_)
     refine ⟨_ :: O, rfl, ?_⟩
     rw [act_a13 hk4 hk13]; exact ⟨bc, cc, yc, O, Ao, co, Ai, ni, ci, rfl, rfl, hO, hI.le (Le.trans (Le.trans (Le.trans (Le.trans (Le.trans (Le.trans (Le.trans h1 h2) h3) h4) h5) h6) h10) hS2), hcc, hcc2⟩
    ·
     have hk13 := c13
     refine JC_skip ?_
     refine thenQ_n ?_
     refine JC_seq ?_
     refine JC_cutB 64 (a.kind = 16 ∧ m.output.length = 20000) ?_ ?_
     ·
      refine JC_region ?_
      refine JO_q (QE_fa0 rfl rfl rfl rfl) rfl ?_
      refine JO_q (QE_ld1 1 rfl rfl rfl rfl rfl) rfl ?_
      refine JO_q (QE_eq rfl rfl) rfl ?_
      refine JO_q (QE_mv rfl) rfl ?_
      refine JO_caseD (t := 59) rfl (fun c15 => ?_) (fun c15 => ?_)
      ·
       refine JO_gT rfl rfl ?_
       refine JO_q (QE_faB rfl rfl rfl rfl) rfl ?_
       refine JO_gT rfl rfl ?_
       refine JO_q (QE_ld1 2 rfl rfl rfl rfl rfl) rfl ?_
       refine JO_gT rfl rfl ?_
       refine JO_q (QE_lenS rfl rfl rfl) rfl ?_
       refine JO_gT rfl rfl ?_
       refine JO_q (QE_eq rfl rfl) rfl ?_
       refine JO_q (QE_pickT rfl rfl) rfl ?_
       refine JO_nil ?_
       refine thenQ_n (MidB.mk (Le.refl (D := D) _) (by repeat (first | exact Suf.refl | refine Suf.push rfl ?_)) rfl (decide_eq_decide.2 (by omega)))
      ·
       refine JO_gF rfl rfl rfl rfl ?_
       refine JO_gF rfl rfl rfl rfl ?_
       refine JO_gF rfl rfl rfl rfl ?_
       refine JO_gF rfl rfl rfl rfl ?_
       refine JO_q (QE_pickF rfl rfl) rfl ?_
       refine JO_nil ?_
       refine thenQ_n (MidB.mk (Le.refl (D := D) _) (by repeat (first | exact Suf.refl | refine Suf.push rfl ?_)) rfl ((decide_eq_false (by omega)).symm))
     ·
      intro s14 h14
      refine JC_ifD rfl (fun c16 => ?_) (fun c16 => ?_)
      ·
       have hk16 := c16
       refine JC_seq ?_
       refine JC_region ?_
       refine JO_q (QE_faB rfl rfl rfl rfl) rfl ?_
       refine JO_st 2 [_, _, _, _, _, _, _, _, _, _] rfl rfl rfl rfl rfl rfl rfl rfl rfl ?_
       refine JO_nil ?_
       refine thenQ_n ?_
       refine JC_seq ?_
       refine JC_region ?_
       refine JO_q (QE_ldA 2 [_, _, _, _, _, _, _, _, _, _] rfl rfl rfl rfl rfl) rfl ?_
       refine JO_st 0 [_, _, _, _, _, _, _, _, _, _] rfl rfl rfl rfl rfl rfl rfl rfl rfl ?_
       refine JO_nil ?_
       refine thenQ_n ?_
       refine JC_ret ?_
       refine thenQ_r ?_
       refine retQ_mk [_, _, _] _ (.inr rfl) (.agg (us := [_, _, _, _, _, _, _, _, _, _]) 0 rfl rfl rfl rfl rfl (.nil)) rfl (Le.trans (Le.trans (Le.trans (Le.trans (Le.trans (Le.trans (Le.trans h1 h2) h3) h4) h5) h6) h10) h14) (fun sR hS2 => ?_)
       refine ⟨_ :: O, rfl, ?_⟩
       rw [act_a16 hk4 hk13 hk16]; exact ⟨bc, cc, yc, O, Ao, co, Ai, ni, ci, rfl, rfl, hO, hI.le (Le.trans (Le.trans (Le.trans (Le.trans (Le.trans (Le.trans (Le.trans (Le.trans h1 h2) h3) h4) h5) h6) h10) h14) hS2), hcc, hcc2⟩
      ·
       have hk16 := c16
       refine JC_skip ?_
       refine thenQ_n ?_
       refine JC_seq ?_
       refine JC_seq ?_
       refine JC_region ?_
       refine JO_q (QE_fa0 rfl rfl rfl rfl) rfl ?_
       refine JO_q (QE_ld1 1 rfl rfl rfl rfl rfl) rfl ?_
       refine JO_q (QE_eq rfl rfl) rfl ?_
       refine JO_nil ?_
       refine thenQ_n ?_
       refine JC_ifD rfl (fun c17 => ?_) (fun c17 => ?_)
       ·
        have hr13 := c17
        have hlt : valT m op a.x < (m.cells.length : Int) := by omega
        refine JC_drawE drawsMixed 10 rfl [2] (by intro x hx; exact eraseAll_mem hx) ?_
        intro s18 h18
        refine JA_q 0 rfl (by kernel_rfl) (by kernel_rfl) (by kernel_rfl) trivial (QE_faB rfl rfl rfl rfl) rfl ?_
        refine JA_q 1 rfl (by kernel_rfl) (by kernel_rfl) (by kernel_rfl) trivial (QE_ld1 1 rfl rfl rfl rfl rfl) rfl ?_
        refine JA_q 2 rfl (by kernel_rfl) (by kernel_rfl) (by kernel_rfl) trivial (QE_fa0 rfl rfl rfl rfl) rfl ?_
        refine JA_q 4 rfl (by kernel_rfl) (by kernel_rfl) (by kernel_rfl) trivial (QE_mv rfl) rfl ?_
        refine JA_q 7 rfl (by kernel_rfl) (by kernel_rfl) (by kernel_rfl) trivial (QE_faB rfl rfl rfl rfl) rfl ?_
        refine JA_1 3 (by kernel_rfl) ?_
        refine JB_q rfl trivial (QE_ld1 2 rfl rfl rfl rfl rfl) rfl ?_
        refine JA_q 5 rfl (by kernel_rfl) (by kernel_rfl) (by kernel_rfl) trivial (QE_iaS rfl rfl rfl rfl rfl rfl hux1 hlt) rfl ?_
        refine JA_q 6 rfl (by kernel_rfl) (by kernel_rfl) (by kernel_rfl) trivial (QE_ld1 2 rfl rfl rfl rfl (nth_wv0 hux1 hlt)) rfl ?_
        refine JA_q 8 rfl (by kernel_rfl) (by kernel_rfl) (by kernel_rfl) trivial (QE_iaI rfl rfl rfl rfl rfl rfl ha.to.1 (by have := ha.to.2; omega)) rfl ?_
        refine JA_1 9 (by kernel_rfl) ?_
        refine JB_st rfl trivial 2 _ rfl rfl rfl rfl rfl (ble_reg ha.to _ _ _ _ _ _ _) rfl (spl_reg _ ha.to _ _ _) rfl (fun x hx => hx) ?_
        refine JA_done (by kernel_rfl) ?_
        refine thenQ_n ?_
        refine JC_seq ?_
        refine JC_region ?_
        refine JO_q (QE_ldA 2 [_, _, _, _, _, _, _, _, _, _] rfl rfl rfl rfl rfl) rfl ?_
        refine JO_st 0 [_, _, _, _, _, _, _, _, _, _] rfl rfl rfl rfl rfl rfl rfl rfl rfl ?_
        refine JO_nil ?_
        refine thenQ_n ?_
        refine JC_ret ?_
        refine retQ_mk [_, _, _] _ (.inr rfl) (.agg (us := [_, _, _, _, _, _, _, _, _, _]) 0 rfl rfl rfl rfl rfl (.nil)) rfl (Le.trans (Le.trans (Le.trans (Le.trans (Le.trans (Le.trans (Le.trans (Le.trans h1 h2) h3) h4) h5) h6) h10) h14) h18) (fun sR hS2 => ?_)
        refine ⟨_ :: O, rfl, ?_⟩
        rw [act_k13 hr13 hlt]; exact ⟨bc, cc, yc, O, Ao, co, Ai, ni, ci, rfl, rfl, hO, hI.le (Le.trans (Le.trans (Le.trans (Le.trans (Le.trans (Le.trans (Le.trans (Le.trans (Le.trans h1 h2) h3) h4) h5) h6) h10) h14) h18) hS2), hcc, hcc2⟩
       ·
        have hr13 := c17
        refine JC_seq ?_
        refine JC_region ?_
        refine JO_q (QE_fa0 rfl rfl rfl rfl) rfl ?_
        refine JO_q (QE_ld1 1 rfl rfl rfl rfl rfl) rfl ?_
        refine JO_q (QE_eq rfl rfl) rfl ?_
        refine JO_nil ?_
        refine thenQ_n ?_
        refine JC_ifD rfl (fun c20 => ?_) (fun c20 => ?_)
        ·
         have hr14 := c20
         have hlt : valT m op a.x < (m.cells.length : Int) := by omega
         refine JC_region ?_
         refine JO_q (QE_fa0 rfl rfl rfl rfl) rfl ?_
         refine JO_q (QE_ld1 2 rfl rfl rfl rfl rfl) rfl ?_
         refine JO_q (QE_mv rfl) rfl ?_
         refine JO_q (QE_mv rfl) rfl ?_
         refine JO_q (QE_iaS rfl rfl rfl rfl rfl rfl hux1 hlt) rfl ?_
         refine JO_st 3 _ rfl rfl rfl rfl rfl (ble_wv0 hux1 hlt) rfl (spl_wv0 _ hux1 hlt) rfl ?_
         refine JO_nil ?_
         refine thenQ_n ?_
         refine JC_seq ?_
         refine JC_region ?_
         refine JO_q (QE_ldA 2 [_, _, _, _, _, _, _, _, _, _] rfl rfl rfl rfl rfl) rfl ?_
         refine JO_st 0 [_, _, _, _, _, _, _, _, _, _] rfl rfl rfl rfl rfl rfl rfl rfl rfl ?_
         refine JO_nil ?_
         refine thenQ_n ?_
         refine JC_ret ?_
         refine retQ_mk [_, _, _] _ (.inr rfl) (.agg (us := [_, _, _, _, _, _, _, _, _, _]) 0 rfl rfl rfl rfl rfl (.nil)) rfl (Le.trans (Le.trans (Le.trans (Le.trans (Le.trans (Le.trans (Le.trans h1 h2) h3) h4) h5) h6) h10) h14) (fun sR hS2 => ?_)
         refine ⟨_ :: O, rfl, ?_⟩
         rw [act_k14 hr14 hlt]; exact ⟨bc, cc, yc, O, Ao, co, Ai, ni, ci, by simp [resV], rfl, hO, hI.le (Le.trans (Le.trans (Le.trans (Le.trans (Le.trans (Le.trans (Le.trans (Le.trans h1 h2) h3) h4) h5) h6) h10) h14) hS2), by simp; exact hcc, hcc2⟩
        ·
         have hr14 := c20
         refine JC_seq ?_
         refine JC_region ?_
         refine JO_q (QE_fa0 rfl rfl rfl rfl) rfl ?_
         refine JO_q (QE_ld1 1 rfl rfl rfl rfl rfl) rfl ?_
         refine JO_q (QE_eq rfl rfl) rfl ?_
         refine JO_nil ?_
         refine thenQ_n ?_
         refine JC_ifD rfl (fun c22 => ?_) (fun c22 => ?_)
         ·
          have hr15 := c22
          refine JC_seq ?_
          refine JC_region ?_
          refine JO_q (QE_faB rfl rfl rfl rfl) rfl ?_
          refine JO_q (QE_ld1 1 rfl rfl rfl rfl rfl) rfl ?_
          refine JO_q (QE_faB rfl rfl rfl rfl) rfl ?_
          refine JO_q (QE_iaI rfl rfl rfl rfl rfl rfl ha.to.1 (by have := ha.to.2; omega)) rfl ?_
          refine JO_st 2 _ rfl rfl rfl rfl rfl (ble_reg ha.to _ _ _ _ _ _ _) rfl (spl_reg _ ha.to _ _ _) rfl ?_
          refine JO_nil ?_
          refine thenQ_n ?_
          refine JC_seq ?_
          refine JC_region ?_
          refine JO_q (QE_faB rfl rfl rfl rfl) rfl ?_
          refine JO_q (QE_ld1 2 rfl rfl rfl rfl rfl) rfl ?_
          refine JO_q (QE_lenS rfl rfl rfl) rfl ?_
          refine JO_q (QE_gt rfl rfl) rfl ?_
          refine JO_nil ?_
          refine thenQ_n ?_
          refine JC_ifD rfl (fun c24 => ?_) (fun c24 => ?_)
          ·
           have hne := c24
           obtain ⟨bi, oi, xi, rfl, hxi, hci⟩ := Bts.at_ (hI.le (Le.trans (Le.trans (Le.trans (Le.trans (Le.trans (Le.trans (Le.trans h1 h2) h3) h4) h5) h6) h10) h14)) (show 0 < ni by omega)
           refine JC_seq ?_
           refine JC_drawE drawsMixed 10 rfl [2] (by intro x hx; exact eraseAll_mem hx) ?_
           intro s25 h25
           refine JA_q 0 rfl (by kernel_rfl) (by kernel_rfl) (by kernel_rfl) trivial (QE_faB rfl rfl rfl rfl) rfl ?_
           refine JA_q 1 rfl (by kernel_rfl) (by kernel_rfl) (by kernel_rfl) trivial (QE_ld1 1 rfl rfl rfl rfl rfl) rfl ?_
           refine JA_q 2 rfl (by kernel_rfl) (by kernel_rfl) (by kernel_rfl) trivial (QE_faB rfl rfl rfl rfl) rfl ?_
           refine JA_q 7 rfl (by kernel_rfl) (by kernel_rfl) (by kernel_rfl) trivial (QE_faB rfl rfl rfl rfl) rfl ?_
           refine JA_1 3 (by kernel_rfl) ?_
           refine JB_q rfl trivial (QE_ld1 2 rfl rfl rfl rfl rfl) rfl ?_
           refine JA_q 4 rfl (by kernel_rfl) (by kernel_rfl) (by kernel_rfl) trivial (QE_iaS rfl rfl rfl rfl rfl rfl (by decide) (by omega)) rfl ?_
           refine JA_q 5 rfl (by kernel_rfl) (by kernel_rfl) (by kernel_rfl) trivial (QE_ldsR0 rfl rfl rfl (hci.le h25) rfl) rfl ?_
           refine JA_q 6 rfl (by kernel_rfl) (by kernel_rfl) (by kernel_rfl) trivial (QE_conv' rfl rfl rfl rfl rfl (w32_in (by omega) (by have := xi.toNat_lt; omega))) rfl ?_
           refine JA_q 8 rfl (by kernel_rfl) (by kernel_rfl) (by kernel_rfl) trivial (QE_iaI rfl rfl rfl rfl rfl rfl ha.to.1 (by have := ha.to.2; omega)) rfl ?_
           refine JA_1 9 (by kernel_rfl) ?_
           refine JB_st rfl trivial 2 _ rfl rfl rfl rfl rfl (ble_reg ha.to _ _ _ _ _ _ _) rfl (spl_reg _ ha.to _ _ _) rfl (fun x hx => hx) ?_
           refine JA_done (by kernel_rfl) ?_
           refine thenQ_n ?_
           refine JC_region ?_
           refine JO_q (QE_faB rfl rfl rfl rfl) rfl ?_
           refine JO_q (QE_ld1 2 rfl rfl rfl rfl rfl) rfl ?_
           refine JO_q (QE_slL (j := 1) rfl rfl rfl rfl rfl (by omega)) rfl ?_
           refine JO_q (QE_faB rfl rfl rfl rfl) rfl ?_
           refine JO_st 2 [_, _, _, _, _, _, _, _, _, _] rfl rfl rfl rfl rfl rfl rfl rfl rfl ?_
           refine JO_nil ?_
           refine thenQ_n ?_
           refine JC_seq ?_
           refine JC_region ?_
           refine JO_q (QE_ldA 2 [_, _, _, _, _, _, _, _, _, _] rfl rfl rfl rfl rfl) rfl ?_
           refine JO_st 0 [_, _, _, _, _, _, _, _, _, _] rfl rfl rfl rfl rfl rfl rfl rfl rfl ?_
           refine JO_nil ?_
           refine thenQ_n ?_
           refine JC_ret ?_
           refine retQ_mk [_, _, _] _ (.inr rfl) (.agg (us := [_, _, _, _, _, _, _, _, _, _]) 0 rfl rfl rfl rfl rfl (.nil)) rfl (Le.trans (Le.trans (Le.trans (Le.trans (Le.trans (Le.trans (Le.trans (Le.trans h1 h2) h3) h4) h5) h6) h10) h14) h25) (fun sR hS2 => ?_)
           refine ⟨_ :: O, rfl, ?_⟩
           obtain ⟨r, hr⟩ := head_tail hxi
           rw [act_k15 hr15 hr, ← setR_setR m a.to 4294967295]
           rw [hr] at hI
           exact ⟨bc, cc, yc, O, Ao, co, _, _, _, rfl, rfl, hO, (Bts.tail hI).le (Le.trans (Le.trans (Le.trans (Le.trans (Le.trans (Le.trans (Le.trans (Le.trans (Le.trans h1 h2) h3) h4) h5) h6) h10) h14) h25) hS2), hcc, hcc2⟩
          ·
           have hne := c24
           refine JC_skip ?_
           refine thenQ_n ?_
           refine JC_seq ?_
           refine JC_region ?_
           refine JO_q (QE_ldA 2 [_, _, _, _, _, _, _, _, _, _] rfl rfl rfl rfl rfl) rfl ?_
           refine JO_st 0 [_, _, _, _, _, _, _, _, _, _] rfl rfl rfl rfl rfl rfl rfl rfl rfl ?_
           refine JO_nil ?_
           refine thenQ_n ?_
           refine JC_ret ?_
           refine retQ_mk [_, _, _] _ (.inr rfl) (.agg (us := [_, _, _, _, _, _, _, _, _, _]) 0 rfl rfl rfl rfl rfl (.nil)) rfl (Le.trans (Le.trans (Le.trans (Le.trans (Le.trans (Le.trans (Le.trans h1 h2) h3) h4) h5) h6) h10) h14) (fun sR hS2 => ?_)
           refine ⟨_ :: O, rfl, ?_⟩
           have hi0 : m.input = [] := List.eq_nil_of_length_eq_zero (by omega)
           rw [act_k15e hr15 hi0]; exact ⟨bc, cc, yc, O, Ao, co, Ai, ni, ci, rfl, rfl, hO, hI.le (Le.trans (Le.trans (Le.trans (Le.trans (Le.trans (Le.trans (Le.trans (Le.trans h1 h2) h3) h4) h5) h6) h10) h14) hS2), hcc, hcc2⟩
         ·
          have hr15 := c22
          refine JC_seq ?_
          refine JC_region ?_
          refine JO_q (QE_fa0 rfl rfl rfl rfl) rfl ?_
          refine JO_q (QE_ld1 1 rfl rfl rfl rfl rfl) rfl ?_
          refine JO_q (QE_eq rfl rfl) rfl ?_
          refine JO_nil ?_
          refine thenQ_n ?_
          refine JC_ifD rfl (fun c27 => ?_) (fun c27 => ?_)
          ·
           have hr16 := c27
           refine JC_region ?_
           refine JO_q (QE_faB rfl rfl rfl rfl) rfl ?_
           refine JO_q (QE_ld1 2 rfl rfl rfl rfl rfl) rfl ?_
           refine JO_q (QE_mv rfl) rfl ?_
           refine JO_q (QE_rem rfl rfl (by omega)) rfl ?_
           refine JO_q (QE_cast (QE_conv rfl rfl rfl rfl rfl) (congrArg (Value.int .u8) (byteR hux))) rfl ?_
           refine JO_bs [(_, _)] [_] rfl rfl rfl rfl rfl rfl rfl rfl rfl ?_
           intro βn s28 h28 hcn
           refine JO_app (sz := 1) [_, _, _, _] O _ rfl rfl rfl rfl rfl rfl rfl hO (Row.of_cells (hcn.le (Le.refl (D := D) _)) rfl rfl) ⟨by simp [ti5]; omega, by omega⟩ rfl ?_
           intro v1 A1 s29 h29 o1
           obtain ⟨Ao1, co1, rfl, ko1, ko2⟩ := Own.slice o1
           simp only [List.cons_append, List.nil_append]
           refine JO_q (QE_faB rfl rfl rfl rfl) rfl ?_
           refine JO_st 2 [_, _, _, _, _, _, _, _, _, _] rfl rfl rfl rfl rfl rfl rfl rfl rfl ?_
           refine JO_nil ?_
           refine thenQ_n ?_
           refine JC_seq ?_
           refine JC_region ?_
           refine JO_q (QE_ldA 2 [_, _, _, _, _, _, _, _, _, _] rfl rfl rfl rfl rfl) rfl ?_
           refine JO_st 0 [_, _, _, _, _, _, _, _, _, _] rfl rfl rfl rfl rfl rfl rfl rfl rfl ?_
           refine JO_nil ?_
           refine thenQ_n ?_
           refine JC_ret ?_
           refine retQ_mk [_, _, _] _ (.inr rfl) (.agg (us := [_, _, _, _, _, _, _, _, _, _]) 0 rfl rfl rfl rfl rfl (.nil)) rfl (Le.trans (Le.trans (Le.trans (Le.trans (Le.trans (Le.trans (Le.trans (Le.trans (Le.trans h1 h2) h3) h4) h5) h6) h10) h14) h28) h29) (fun sR hS2 => ?_)
           refine ⟨_ :: A1, rfl, ?_⟩
           rw [act_k16 hr16 (by omega)]
           have hb : bv (m.output ++ [UInt8.ofNat ((valT m op a.x).toNat % 256)]) = bv m.output ++ [Value.int .u8 ((UInt8.ofNat ((valT m op a.x).toNat % 256)).toNat : Int)] := by simp [bv]
           exact ⟨bc, cc, yc, A1, Ao1, co1, Ai, ni, ci, by simp [resV], rfl, by simpa [hb] using o1, hI.le (Le.trans (Le.trans (Le.trans (Le.trans (Le.trans (Le.trans (Le.trans (Le.trans (Le.trans (Le.trans h1 h2) h3) h4) h5) h6) h10) h14) h28) h29) hS2), hcc, hcc2⟩
          ·
           have hr16 := c27
           refine JC_cutB 133 (a.kind = 17 ∨ a.kind = 18 ∧ valT m op a.y = 0) ?_ ?_
           ·
            refine JC_region ?_
            refine JO_q (QE_fa0 rfl rfl rfl rfl) rfl ?_
            refine JO_q (QE_ld1 1 rfl rfl rfl rfl rfl) rfl ?_
            refine JO_q (QE_eq rfl rfl) rfl ?_
            refine JO_q (QE_mv rfl) rfl ?_
            refine JO_caseD (t := 125) rfl (fun c31 => ?_) (fun c31 => ?_)
            ·
             refine JO_gF rfl rfl rfl rfl ?_
             refine JO_gF rfl rfl rfl rfl ?_
             refine JO_gF rfl rfl rfl rfl ?_
             refine JO_gF rfl rfl rfl rfl ?_
             refine JO_gU rfl rfl rfl ?_
             refine JO_gU rfl rfl rfl ?_
             refine JO_gF rfl rfl rfl rfl ?_
             refine JO_q (QE_pickT rfl rfl) rfl ?_
             refine JO_nil ?_
             refine thenQ_n (MidB.mk (Le.refl (D := D) _) (by repeat (first | exact Suf.refl | refine Suf.push rfl ?_)) rfl ((decide_eq_true (by omega)).symm))
            ·
             refine JO_gT rfl rfl ?_
             refine JO_q (QE_fa0 rfl rfl rfl rfl) rfl ?_
             refine JO_gT rfl rfl ?_
             refine JO_q (QE_ld1 1 rfl rfl rfl rfl rfl) rfl ?_
             refine JO_gT rfl rfl ?_
             refine JO_q (QE_eq rfl rfl) rfl ?_
             refine JO_gT rfl rfl ?_
             refine JO_q (QE_mv rfl) rfl ?_
             refine JO_caseD (t := 129) rfl (fun c32 => ?_) (fun c32 => ?_)
             ·
              refine JO_gT rfl rfl ?_
              refine JO_q (QE_mv rfl) rfl ?_
              refine JO_gT rfl rfl ?_
              refine JO_q (QE_eq rfl rfl) rfl ?_
              refine JO_gT rfl rfl ?_
              refine JO_q (QE_pickT rfl rfl) rfl ?_
              refine JO_q (QE_pickF rfl rfl) rfl ?_
              refine JO_nil ?_
              refine thenQ_n (MidB.mk (Le.refl (D := D) _) (by repeat (first | exact Suf.refl | refine Suf.push rfl ?_)) rfl (decide_eq_decide.2 (by omega)))
             ·
              refine JO_gF rfl rfl rfl rfl ?_
              refine JO_gF rfl rfl rfl rfl ?_
              refine JO_gT rfl rfl ?_
              refine JO_q (QE_pickF rfl rfl) rfl ?_
              refine JO_q (QE_pickF rfl rfl) rfl ?_
              refine JO_nil ?_
              refine thenQ_n (MidB.mk (Le.refl (D := D) _) (by repeat (first | exact Suf.refl | refine Suf.push rfl ?_)) rfl ((decide_eq_false (by omega)).symm))
           ·
            intro s30 h30
            refine JC_ifD rfl (fun c33 => ?_) (fun c33 => ?_)
            ·
             have hr17 := c33
             refine JC_seq ?_
             refine JC_region ?_
             refine JO_q (QE_faB rfl rfl rfl rfl) rfl ?_
             refine JO_st 2 [_, _, _, _, _, _, _, _, _, _] rfl rfl rfl rfl rfl rfl rfl rfl rfl ?_
             refine JO_nil ?_
             refine thenQ_n ?_
             refine JC_region ?_
             refine JO_q (QE_mv rfl) rfl ?_
             refine JO_q (QE_faB rfl rfl rfl rfl) rfl ?_
             refine JO_st 2 [_, _, _, _, _, _, _, _, _, _] rfl rfl rfl rfl rfl rfl rfl rfl rfl ?_
             refine JO_nil ?_
             refine thenQ_n ?_
             refine JC_seq ?_
             refine JC_region ?_
             refine JO_q (QE_ldA 2 [_, _, _, _, _, _, _, _, _, _] rfl rfl rfl rfl rfl) rfl ?_
             refine JO_st 0 [_, _, _, _, _, _, _, _, _, _] rfl rfl rfl rfl rfl rfl rfl rfl rfl ?_
             refine JO_nil ?_
             refine thenQ_n ?_
             refine JC_ret ?_
             refine retQ_mk [_, _, _] _ (.inr rfl) (.agg (us := [_, _, _, _, _, _, _, _, _, _]) 0 rfl rfl rfl rfl rfl (.nil)) rfl (Le.trans (Le.trans (Le.trans (Le.trans (Le.trans (Le.trans (Le.trans (Le.trans h1 h2) h3) h4) h5) h6) h10) h14) h30) (fun sR hS2 => ?_)
             refine ⟨_ :: O, rfl, ?_⟩
             rw [act_a17 hr17]; exact ⟨bc, cc, yc, O, Ao, co, Ai, ni, ci, rfl, rfl, hO, hI.le (Le.trans (Le.trans (Le.trans (Le.trans (Le.trans (Le.trans (Le.trans (Le.trans (Le.trans h1 h2) h3) h4) h5) h6) h10) h14) h30) hS2), hcc, hcc2⟩
            ·
             have hr17 := c33
             refine JC_cutB 148 (a.kind ≤ 12 ∨ a.kind = 19 ∧ valT m op a.y = 0) ?_ ?_
             ·
              refine JC_region ?_
              refine JO_q (QE_fa0 rfl rfl rfl rfl) rfl ?_
              refine JO_q (QE_ld1 1 rfl rfl rfl rfl rfl) rfl ?_
              refine JO_q (QE_le rfl rfl) rfl ?_
              refine JO_q (QE_mv rfl) rfl ?_
              refine JO_caseD (t := 140) rfl (fun c35 => ?_) (fun c35 => ?_)
              ·
               refine JO_gF rfl rfl rfl rfl ?_
               refine JO_gF rfl rfl rfl rfl ?_
               refine JO_gF rfl rfl rfl rfl ?_
               refine JO_gF rfl rfl rfl rfl ?_
               refine JO_gU rfl rfl rfl ?_
               refine JO_gU rfl rfl rfl ?_
               refine JO_gF rfl rfl rfl rfl ?_
               refine JO_q (QE_pickT rfl rfl) rfl ?_
               refine JO_nil ?_
               refine thenQ_n (MidB.mk (Le.refl (D := D) _) (by repeat (first | exact Suf.refl | refine Suf.push rfl ?_)) rfl ((decide_eq_true (by omega)).symm))
              ·
               refine JO_gT rfl rfl ?_
               refine JO_q (QE_fa0 rfl rfl rfl rfl) rfl ?_
               refine JO_gT rfl rfl ?_
               refine JO_q (QE_ld1 1 rfl rfl rfl rfl rfl) rfl ?_
               refine JO_gT rfl rfl ?_
               refine JO_q (QE_eq rfl rfl) rfl ?_
               refine JO_gT rfl rfl ?_
               refine JO_q (QE_mv rfl) rfl ?_
               refine JO_caseD (t := 144) rfl (fun c36 => ?_) (fun c36 => ?_)
               ·
                refine JO_gT rfl rfl ?_
                refine JO_q (QE_mv rfl) rfl ?_
                refine JO_gT rfl rfl ?_
                refine JO_q (QE_eq rfl rfl) rfl ?_
                refine JO_gT rfl rfl ?_
                refine JO_q (QE_pickT rfl rfl) rfl ?_
                refine JO_q (QE_pickF rfl rfl) rfl ?_
                refine JO_nil ?_
                refine thenQ_n (MidB.mk (Le.refl (D := D) _) (by repeat (first | exact Suf.refl | refine Suf.push rfl ?_)) rfl (decide_eq_decide.2 (by omega)))
               ·
                refine JO_gF rfl rfl rfl rfl ?_
                refine JO_gF rfl rfl rfl rfl ?_
                refine JO_gT rfl rfl ?_
                refine JO_q (QE_pickF rfl rfl) rfl ?_
                refine JO_q (QE_pickF rfl rfl) rfl ?_
                refine JO_nil ?_
                refine thenQ_n (MidB.mk (Le.refl (D := D) _) (by repeat (first | exact Suf.refl | refine Suf.push rfl ?_)) rfl ((decide_eq_false (by omega)).symm))
             ·
              intro s34 h34
              refine JC_ifD rfl (fun c37 => ?_) (fun c37 => ?_)
              ·
               have hr12 := c37
               refine JC_drawE drawsMixed 10 rfl [2] (by intro x hx; exact eraseAll_mem hx) ?_
               intro s38 h38
               refine JA_q 0 rfl (by kernel_rfl) (by kernel_rfl) (by kernel_rfl) trivial (QE_faB rfl rfl rfl rfl) rfl ?_
               refine JA_q 1 rfl (by kernel_rfl) (by kernel_rfl) (by kernel_rfl) trivial (QE_ld1 1 rfl rfl rfl rfl rfl) rfl ?_
               refine JA_q 2 rfl (by kernel_rfl) (by kernel_rfl) (by kernel_rfl) trivial (QE_fa0 rfl rfl rfl rfl) rfl ?_
               refine JA_q 3 rfl (by kernel_rfl) (by kernel_rfl) (by kernel_rfl) trivial (QE_ld1 1 rfl rfl rfl rfl rfl) rfl ?_
               refine JA_q 4 rfl (by kernel_rfl) (by kernel_rfl) (by kernel_rfl) trivial (QE_mv rfl) rfl ?_
               refine JA_q 5 rfl (by kernel_rfl) (by kernel_rfl) (by kernel_rfl) trivial (QE_mv rfl) rfl ?_
               refine JA_q 7 rfl (by kernel_rfl) (by kernel_rfl) (by kernel_rfl) trivial (QE_faB rfl rfl rfl rfl) rfl ?_
               refine JA_1 6 (by kernel_rfl) ?_
               refine JB_call rfl trivial (first := []) (captured := []) rfl rfl rfl (computed_ac D _ _ _ _ _ hux huy (fun h h0 => hk4 ⟨h, h0⟩)) ?_
               rintro _ _ s39 h39 ⟨rfl, rfl⟩
               refine ⟨fun _ _ h => h, ?_⟩
               refine JA_q 8 rfl (by kernel_rfl) (by kernel_rfl) (by kernel_rfl) trivial (QE_iaI rfl rfl rfl rfl rfl rfl ha.to.1 (by have := ha.to.2; omega)) rfl ?_
               refine JA_1 9 (by kernel_rfl) ?_
               refine JB_st rfl trivial 2 _ rfl rfl rfl rfl rfl (ble_reg ha.to _ _ _ _ _ _ _) rfl (spl_reg _ ha.to _ _ _) rfl (fun x hx => hx) ?_
               refine JA_done (by kernel_rfl) ?_
               refine thenQ_n ?_
               refine JC_seq ?_
               refine JC_region ?_
               refine JO_q (QE_ldA 2 [_, _, _, _, _, _, _, _, _, _] rfl rfl rfl rfl rfl) rfl ?_
               refine JO_st 0 [_, _, _, _, _, _, _, _, _, _] rfl rfl rfl rfl rfl rfl rfl rfl rfl ?_
               refine JO_nil ?_
               refine thenQ_n ?_
               refine JC_ret ?_
               refine retQ_mk [_, _, _] _ (.inr rfl) (.agg (us := [_, _, _, _, _, _, _, _, _, _]) 0 rfl rfl rfl rfl rfl (.nil)) rfl (Le.trans (Le.trans (Le.trans (Le.trans (Le.trans (Le.trans (Le.trans (Le.trans (Le.trans (Le.trans (Le.trans h1 h2) h3) h4) h5) h6) h10) h14) h30) h34) h38) h39) (fun sR hS2 => ?_)
               refine ⟨_ :: O, rfl, ?_⟩
               rw [act_a12 hk4 hr12]; exact ⟨bc, cc, yc, O, Ao, co, Ai, ni, ci, rfl, rfl, hO, hI.le (Le.trans (Le.trans (Le.trans (Le.trans (Le.trans (Le.trans (Le.trans (Le.trans (Le.trans (Le.trans (Le.trans (Le.trans h1 h2) h3) h4) h5) h6) h10) h14) h30) h34) h38) h39) hS2), hcc, hcc2⟩
              ·
               have hr12 := c37
               refine JC_skip ?_
               refine thenQ_n ?_
               refine JC_seq ?_
               refine JC_region ?_
               refine JO_q (QE_ldA 2 [_, _, _, _, _, _, _, _, _, _] rfl rfl rfl rfl rfl) rfl ?_
               refine JO_st 0 [_, _, _, _, _, _, _, _, _, _] rfl rfl rfl rfl rfl rfl rfl rfl rfl ?_
               refine JO_nil ?_
               refine thenQ_n ?_
               refine JC_ret ?_
               refine retQ_mk [_, _, _] _ (.inr rfl) (.agg (us := [_, _, _, _, _, _, _, _, _, _]) 0 rfl rfl rfl rfl rfl (.nil)) rfl (Le.trans (Le.trans (Le.trans (Le.trans (Le.trans (Le.trans (Le.trans (Le.trans (Le.trans h1 h2) h3) h4) h5) h6) h10) h14) h30) h34) (fun sR hS2 => ?_)
               refine ⟨_ :: O, rfl, ?_⟩
               rw [act_an hk4 hr13 hr14 hr15 hr16 hr17 hr12]; exact ⟨bc, cc, yc, O, Ao, co, Ai, ni, ci, rfl, rfl, hO, hI.le (Le.trans (Le.trans (Le.trans (Le.trans (Le.trans (Le.trans (Le.trans (Le.trans (Le.trans (Le.trans h1 h2) h3) h4) h5) h6) h10) h14) h30) h34) hS2), hcc, hcc2⟩
end Go.Proofs.Ytpjnphonanbopaa
