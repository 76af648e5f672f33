/- The law on tables: its walk. -/
import Derived.Test.YtpjnphonanbopaaV22
import Derived.Test.YtpjnphonanbopaaV21
namespace Go.Proofs.Ytpjnphonanbopaa
open Go.FL
attribute [local irreducible] JC JO JA JB thenQ blockQ retQ AC fill CellsAt QE Ev Mid

theorem ndec_eq {p q : Prop} [Decidable p] [Decidable q] (h : p ↔ ¬ q) : (!decide q) = decide p := by
  by_cases hq : q
  · have hp : ¬ p := fun x => (h.1 x) hq
    simp [hq, hp]
  · simp [hq, h.2 hq]
def FSt (t : Tab) (codes : List Int) (f1 f2 : Int) (Q : Prop) : Prop := (f1 ≠ 0 ∧ renumF t codes = (f1, f2)) ∨ (f1 = 0 ∧ f2 = 0 ∧ (tabFault t).1 = 0 ∧ codes.length = t.ins.length ∧ Q)
section
variable {t : Tab} {codes : List Int} {f1 f2 : Int}
theorem fs_init (h : ¬ ((tabFault t).1 = 0 ∧ ¬ codes.length = t.ins.length)) : FSt t codes (tabFault t).1 (tabFault t).2 (∀ i, i < 0 → rep codes i = false) := by
  by_cases h1 : (tabFault t).1 = 0
  · exact .inr ⟨h1, tab_zero t h1, h1, by simpa [h1] using h, fun i hi => by omega⟩
  · exact .inl ⟨h1, rn_bad h1⟩
theorem fs_in {i : Nat} {cd : Int} (h : FSt t codes f1 f2 (∀ j, j < i → rep codes j = false)) : FSt t codes f1 f2 ((∀ j, j < i → rep codes j = false) ∧ ∀ j x, j < 0 → codes[j]? = some x → ¬ x = cd) := by
  rcases h with h | ⟨h1, h2, h3, h4, h5⟩
  · exact .inl h
  · exact .inr ⟨h1, h2, h3, h4, h5, fun j x hj => by omega⟩
theorem fs_hit {i k : Nat} {cd : Int} {Q : Prop} (hi : i < codes.length) (h : FSt t codes f1 f2 ((∀ j, j < i → rep codes j = false) ∧ Q)) (h0 : f1 = 0) (hc : codes[i]? = some cd) (hk : codes[k]? = some cd) (hlt : k < i) {Q' : Prop} : FSt t codes 8 (i : Int) Q' := by
  rcases h with h | ⟨h1, h2, h3, h4, h5, _⟩
  · exact absurd h0 h.1
  · exact .inl ⟨by decide, rn_rep h3 h4 hi h5 (rep_yes hc hk hlt)⟩
theorem fs_miss {i k : Nat} {cd x : Int} (h : FSt t codes f1 f2 ((∀ j, j < i → rep codes j = false) ∧ ∀ j x, j < k → codes[j]? = some x → ¬ x = cd)) (hk : codes[k]? = some x) (hx : ¬ x = cd) : FSt t codes f1 f2 ((∀ j, j < i → rep codes j = false) ∧ ∀ j x, j < k + 1 → codes[j]? = some x → ¬ x = cd) := by
  rcases h with h | ⟨h1, h2, h3, h4, h5, h6⟩
  · exact .inl h
  · exact .inr ⟨h1, h2, h3, h4, h5, below_succ h6 hk hx⟩
theorem fs_next {i k : Nat} {cd : Int} (h : FSt t codes f1 f2 ((∀ j, j < i → rep codes j = false) ∧ ∀ j x, j < k → codes[j]? = some x → ¬ x = cd)) (hc : codes[i]? = some cd) (he : ¬ k < i ∨ ¬ f1 = 0) : FSt t codes f1 f2 (∀ j, j < i + 1 → rep codes j = false) := by
  rcases h with h | ⟨h1, h2, h3, h4, h5, h6⟩
  · exact .inl h
  · refine .inr ⟨h1, h2, h3, h4, fun j hj => ?_⟩
    rcases Nat.lt_succ_iff_lt_or_eq.1 hj with h | rfl
    · exact h5 j h
    · exact rep_no hc fun q x hq hx => h6 q x (by have := he.resolve_right (fun h => h h1); omega) hx
theorem fs_end {i : Nat} (h : FSt t codes f1 f2 (∀ j, j < i → rep codes j = false)) (he : ¬ i < codes.length ∨ ¬ f1 = 0) : renumF t codes = (f1, f2) := by
  rcases h with h | ⟨h1, h2, h3, h4, h5⟩
  · exact h.2
  · rw [rn_ok h3 h4 (fun j hj => h5 j (by have := he.resolve_right (fun h => h h1); omega)), h1, h2]
end

set_option maxHeartbeats 4000000 in
set_option maxRecDepth 100000 in
theorem renumberFault_ac (D : Nat) (L : Hl) (s : World) (t : Tab) (A : Option Addr) (n c : Nat) (hA : Inss s A n c t.ins) (A1 : Option Addr) (n1 c1 : Nat) (codes : List Int) (hCo : Wds s A1 n1 c1 codes) : AC Try.prog D 26 [.agg #[.int .i64 t.cells, .slice A n c], .slice A1 n1 c1] L s fun v L' _ => v = .agg #[.int .i64 (renumF t codes).1, .int .i64 (renumF t codes).2] ∧ L = L' := by
 have hn := hA.1
 have hn1 := hCo.1
 have hcc1 := hCo.2.1
 have hcc2 := hCo.2.2.1
 refine AC_enter (TT := TT) (fn := Try.f26) TT_ok Try.func26 (by kernel_rfl) rfl Try.ntmps26 rfl (rs := [.cell 4 32]) rfl [(0, _), (1, _)] rfl ?_
 refine JC_seq ?_
 refine JC_region ?_
 refine JO_boxA rfl rfl ?_
 intro β1 s1 h1
 refine JO_allocZ rfl [_, _] rfl rfl ?_
 intro β2 s2 h2
 refine JO_nil ?_
 refine thenQ_n ?_
 refine JC_seq ?_
 refine JC_region ?_
 refine JO_q (QE_ldA 1 [_, _] rfl rfl rfl rfl rfl) rfl ?_
 refine JO_call (first := []) (captured := []) rfl rfl rfl (tableFault_ac D _ _ _ _ _ _ (hA.le (Le.trans h1 h2))) ?_
 rintro _ _ s3 h3 ⟨rfl, rfl⟩
 refine JO_allocZ rfl [_, _] rfl rfl ?_
 intro β4 s4 h4
 refine JO_st 0 [_, _] rfl rfl rfl rfl rfl rfl rfl rfl rfl ?_
 refine JO_nil ?_
 refine thenQ_n ?_
 refine JC_seq ?_
 refine JC_cutB 20 ((tabFault t).1 = 0 ∧ ¬ codes.length = t.ins.length) ?_ ?_
 ·
  refine JC_region ?_
  refine JO_q (QE_fa0 rfl rfl rfl rfl) rfl ?_
  refine JO_q (QE_ld1 0 rfl rfl rfl rfl rfl) rfl ?_
  refine JO_q (QE_eq rfl rfl) rfl ?_
  refine JO_q (QE_mv rfl) rfl ?_
  refine JO_caseD (t := 13) rfl (fun c6 => ?_) (fun c6 => ?_)
  ·
   refine JO_gT rfl rfl ?_
   refine JO_q (QE_mv rfl) rfl ?_
   refine JO_gT rfl rfl ?_
   refine JO_q (QE_lenS rfl rfl rfl) rfl ?_
   refine JO_gT rfl rfl ?_
   refine JO_q (QE_faB rfl rfl rfl rfl) rfl ?_
   refine JO_gT rfl rfl ?_
   refine JO_q (QE_ld1 2 rfl rfl rfl rfl rfl) rfl ?_
   refine JO_gT rfl rfl ?_
   refine JO_q (QE_lenS rfl rfl rfl) rfl ?_
   refine JO_gT rfl rfl ?_
   refine JO_q (QE_ne rfl rfl) rfl ?_
   refine JO_q (QE_pickT rfl rfl) rfl ?_
   refine JO_nil ?_
   refine thenQ_n (MidB.mk (Le.refl (D := D) _) (by repeat (first | exact Suf.refl | refine Suf.push rfl ?_)) rfl (ndec_eq (by omega)))
  ·
   refine JO_gF rfl rfl rfl rfl ?_
   refine JO_gF rfl rfl rfl rfl ?_
   refine JO_gF rfl rfl rfl rfl ?_
   refine JO_gF rfl rfl rfl rfl ?_
   refine JO_gF rfl rfl rfl rfl ?_
   refine JO_gF rfl rfl rfl rfl ?_
   refine JO_q (QE_pickF rfl rfl) rfl ?_
   refine JO_nil ?_
   refine thenQ_n (MidB.mk (Le.refl (D := D) _) (by repeat (first | exact Suf.refl | refine Suf.push rfl ?_)) rfl ((decide_eq_false (by omega)).symm))
 ·
  intro s5 h5
  refine JC_ifD rfl (fun c7 => ?_) (fun c7 => ?_)
  ·
   have h20 := c7
   refine JC_region ?_
   refine JO_call (first := []) (captured := []) rfl rfl rfl (at_ac D _ _ _ _) ?_
   rintro _ _ s8 h8 ⟨rfl, rfl⟩
   refine JO_st 0 [_, _] rfl rfl rfl rfl rfl rfl rfl rfl rfl ?_
   refine JO_nil ?_
   refine thenQ_n ?_
   refine JC_seq ?_
   refine JC_seq ?_
   refine JC_region ?_
   refine JO_q (QE_as rfl) rfl ?_
   refine JO_nil ?_
   refine thenQ_n ?_
   refine JC_block ?_
   refine JC_loop (γ := Nat × Int × Int) (fun g => [(1, _), (4, _), (5, _), (6, .int .i64 (g.1 : Int))]) (fun g => (β4, cb [.int .i64 g.2.1, .int .i64 g.2.2] 32) :: (β2, cb [.int .i64 0, .int .i64 0] 32) :: (β1, cb [.int .i64 t.cells, .slice A n c] 24) :: L) (fun g tw => Le D s8 tw ∧ (g.1 ≤ n1 ∧ FSt t codes g.2.1 g.2.2 (∀ j, j < g.1 → rep codes j = false))) (fun g => n1 - g.1) (fun _ _ _ h hl => ⟨h.1.trans hl, h.2⟩) (0, _, _) (Keeps.cons rfl (Keeps.cons rfl (Keeps.cons rfl (Keeps.cons rfl (Keeps.nil _))))) rfl ⟨Le.refl _, by first | exact ⟨Nat.zero_le _, fs_init h20⟩ | exact ⟨Nat.zero_le _, .inl ⟨by decide, rn_len h20.1 h20.2⟩⟩⟩ ?_
   intro g s9 I9
   obtain ⟨i, f1, f2⟩ := g
   obtain ⟨hi0, hFS⟩ := I9.2
   simp only at hi0 hFS
   dsimp only
   refine JC_seq ?_
   refine JC_seq ?_
   refine JC_region ?_
   refine JO_q (QE_mv rfl) rfl ?_
   refine JO_q (QE_mv rfl) rfl ?_
   refine JO_q (QE_lenS rfl rfl rfl) rfl ?_
   refine JO_q (QE_lt rfl rfl) rfl ?_
   refine JO_q (QE_mv rfl) rfl ?_
   refine JO_caseD (t := 26) rfl (fun c10 => ?_) (fun c10 => ?_)
   ·
    refine JO_gT rfl rfl ?_
    refine JO_q (QE_fa0 rfl rfl rfl rfl) rfl ?_
    refine JO_gT rfl rfl ?_
    refine JO_q (QE_ld1 0 rfl rfl rfl rfl rfl) rfl ?_
    refine JO_gT rfl rfl ?_
    refine JO_q (QE_eq rfl rfl) rfl ?_
    refine JO_q (QE_pickT rfl rfl) rfl ?_
    refine JO_nil ?_
    refine thenQ_n ?_
    refine JC_ifD rfl (fun c11 => ?_) (fun c11 => ?_)
    ·
     have hi1 : i < n1 := by omega
     have hf0 : f1 = 0 := c11
     obtain ⟨b, off, cd, rfl, hcdx, hccd, hcu⟩ := Wds.at_ (hCo.le (Le.trans (Le.trans (Le.trans (Le.trans (Le.trans (Le.trans h1 h2) h3) h4) h5) h8) I9.1)) hi1
     refine JC_skip ?_
     refine thenQ_n ?_
     refine JC_seq ?_
     refine JC_block ?_
     refine JC_seq ?_
     refine JC_region ?_
     refine JO_q (QE_as rfl) rfl ?_
     refine JO_nil ?_
     refine thenQ_n ?_
     refine JC_block ?_
     refine JC_loop (γ := Nat × Int × Int) (fun g => [(1, _), (4, _), (5, _), (6, _), (7, .int .i64 (g.1 : Int))]) (fun g => (β4, cb [.int .i64 g.2.1, .int .i64 g.2.2] 32) :: (β2, cb [.int .i64 0, .int .i64 0] 32) :: (β1, cb [.int .i64 t.cells, .slice A n c] 24) :: L) (fun g tw => Le D s9 tw ∧ (g.1 ≤ i ∧ FSt t codes g.2.1 g.2.2 ((∀ j, j < i → rep codes j = false) ∧ ∀ j x, j < g.1 → codes[j]? = some x → ¬ x = cd))) (fun g => i - g.1) (fun _ _ _ h hl => ⟨h.1.trans hl, h.2⟩) (0, f1, f2) (Keeps.cons rfl (Keeps.cons rfl (Keeps.cons rfl (Keeps.cons rfl (Keeps.cons rfl (Keeps.nil _)))))) rfl ⟨Le.refl _, ⟨Nat.zero_le _, fs_in hFS⟩⟩ ?_
     intro g s12 I12
     obtain ⟨k, e1, e2⟩ := g
     obtain ⟨hk0, hFI⟩ := I12.2
     simp only at hk0 hFI
     dsimp only
     refine JC_seq ?_
     refine JC_seq ?_
     refine JC_region ?_
     refine JO_q (QE_mv rfl) rfl ?_
     refine JO_q (QE_mv rfl) rfl ?_
     refine JO_q (QE_lt rfl rfl) rfl ?_
     refine JO_q (QE_mv rfl) rfl ?_
     refine JO_caseD (t := 36) rfl (fun c13 => ?_) (fun c13 => ?_)
     ·
      refine JO_gT rfl rfl ?_
      refine JO_q (QE_fa0 rfl rfl rfl rfl) rfl ?_
      refine JO_gT rfl rfl ?_
      refine JO_q (QE_ld1 0 rfl rfl rfl rfl rfl) rfl ?_
      refine JO_gT rfl rfl ?_
      refine JO_q (QE_eq rfl rfl) rfl ?_
      refine JO_q (QE_pickT rfl rfl) rfl ?_
      refine JO_nil ?_
      refine thenQ_n ?_
      refine JC_ifD rfl (fun c14 => ?_) (fun c14 => ?_)
      ·
       have hk1 : k < i := by omega
       have hg0 : e1 = 0 := c14
       obtain ⟨b2, off2, ck, hE2, hckx, hcck, hcu2⟩ := Wds.at_ (hCo.le (Le.trans (Le.trans (Le.trans (Le.trans (Le.trans (Le.trans (Le.trans h1 h2) h3) h4) h5) h8) I9.1) I12.1)) (show k < n1 by omega)
       injection hE2 with hE2
       injection hE2 with q1 q2
       subst q1
       subst q2
       refine JC_skip ?_
       refine thenQ_n ?_
       refine JC_seq ?_
       refine JC_block ?_
       refine JC_seq ?_
       refine JC_draw drawsMixed 9 rfl _ (fun _ h => h) ?_
       intro s15 h15
       refine JA_q 0 rfl (by kernel_rfl) (by kernel_rfl) (by kernel_rfl) trivial (QE_mv rfl) rfl ?_
       refine JA_q 1 rfl (by kernel_rfl) (by kernel_rfl) (by kernel_rfl) trivial (QE_mv rfl) rfl ?_
       refine JA_q 2 rfl (by kernel_rfl) (by kernel_rfl) (by kernel_rfl) trivial (QE_ia1 rfl rfl rfl rfl rfl rfl (show k < n1 by omega)) rfl ?_
       refine JA_q 3 rfl (by kernel_rfl) (by kernel_rfl) (by kernel_rfl) trivial (QE_ldsR0 rfl rfl rfl (hcck.le h15) rfl) rfl ?_
       refine JA_q 4 rfl (by kernel_rfl) (by kernel_rfl) (by kernel_rfl) trivial (QE_mv rfl) rfl ?_
       refine JA_q 5 rfl (by kernel_rfl) (by kernel_rfl) (by kernel_rfl) trivial (QE_mv rfl) rfl ?_
       refine JA_q 6 rfl (by kernel_rfl) (by kernel_rfl) (by kernel_rfl) trivial (QE_ia1 rfl rfl rfl rfl rfl rfl (show i < n1 by omega)) rfl ?_
       refine JA_q 7 rfl (by kernel_rfl) (by kernel_rfl) (by kernel_rfl) trivial (QE_ldsR0 rfl rfl rfl (hccd.le (Le.trans I12.1 h15)) rfl) rfl ?_
       refine JA_q 8 rfl (by kernel_rfl) (by kernel_rfl) (by kernel_rfl) trivial (QE_eq rfl rfl) rfl ?_
       refine JA_done (by kernel_rfl) ?_
       refine thenQ_n ?_
       refine JC_ifD rfl (fun c16 => ?_) (fun c16 => ?_)
       ·
        have hcc : ck = cd := c16
        refine JC_region ?_
        refine JO_q (QE_mv rfl) rfl ?_
        refine JO_call (first := []) (captured := []) rfl rfl rfl (at_ac D _ _ _ _) ?_
        rintro _ _ s17 h17 ⟨rfl, rfl⟩
        refine JO_st 0 [_, _] rfl rfl rfl rfl rfl rfl rfl rfl rfl ?_
        refine JO_nil ?_
        refine blockQ_n ?_
        refine thenQ_n ?_
        refine JC_region ?_
        refine JO_q (QE_mv rfl) rfl ?_
        refine JO_q (QE_add' rfl rfl (w64 (by omega) (by omega))) rfl ?_
        refine JO_q (QE_as rfl) rfl ?_
        refine JO_nil ?_
        refine thenQ_n ⟨(k + 1, 8, (i : Int)), [], (Keeps.cons rfl (Keeps.cons rfl (Keeps.cons rfl (Keeps.cons rfl (Keeps.cons rfl (Keeps.nil _)))))), rfl, ⟨(Le.trans (Le.trans I12.1 h15) h17), by first | exact ⟨by simp only; omega, fs_hit (by omega) hFI hg0 hcdx (hcc ▸ hckx) hk1⟩ | exact ⟨by simp only; omega, fs_miss hFI hckx hcc⟩⟩, (by simp only; omega)⟩
       ·
        have hcc : ¬ ck = cd := c16
        refine JC_skip ?_
        refine blockQ_n ?_
        refine thenQ_n ?_
        refine JC_region ?_
        refine JO_q (QE_mv rfl) rfl ?_
        refine JO_q (QE_add' rfl rfl (w64 (by omega) (by omega))) rfl ?_
        refine JO_q (QE_as rfl) rfl ?_
        refine JO_nil ?_
        refine thenQ_n ⟨(k + 1, e1, e2), [], (Keeps.cons rfl (Keeps.cons rfl (Keeps.cons rfl (Keeps.cons rfl (Keeps.cons rfl (Keeps.nil _)))))), rfl, ⟨(Le.trans I12.1 h15), by first | exact ⟨by simp only; omega, fs_hit (by omega) hFI hg0 hcdx (hcc ▸ hckx) hk1⟩ | exact ⟨by simp only; omega, fs_miss hFI hckx hcc⟩⟩, (by simp only; omega)⟩
      ·
       have hinn : ¬ k < i ∨ ¬ e1 = 0 := by first | exact .inr c14 | exact .inl (by omega)
       refine JC_exit ?_
       refine thenQ_x ?_
       refine thenQ_x ?_
       refine blockQ_x ?_
       refine blockQ_n ?_
       refine thenQ_n ?_
       refine JC_region ?_
       refine JO_q (QE_mv rfl) rfl ?_
       refine JO_q (QE_add' rfl rfl (w64 (by omega) (by omega))) rfl ?_
       refine JO_q (QE_as rfl) rfl ?_
       refine JO_nil ?_
       refine thenQ_n ⟨(i + 1, e1, e2), [], (Keeps.cons rfl (Keeps.cons rfl (Keeps.cons rfl (Keeps.cons rfl (Keeps.nil _))))), rfl, ⟨(Le.trans I9.1 I12.1), ⟨by simp only; omega, fs_next hFI hcdx hinn⟩⟩, (by simp only; omega)⟩
     ·
      refine JO_gF rfl rfl rfl rfl ?_
      refine JO_gF rfl rfl rfl rfl ?_
      refine JO_gF rfl rfl rfl rfl ?_
      refine JO_q (QE_pickF rfl rfl) rfl ?_
      refine JO_nil ?_
      refine thenQ_n ?_
      refine JC_ifF rfl ?_
      have hinn : ¬ k < i ∨ ¬ e1 = 0 := by first | exact .inr trivial | exact .inl (by omega)
      refine JC_exit ?_
      refine thenQ_x ?_
      refine thenQ_x ?_
      refine blockQ_x ?_
      refine blockQ_n ?_
      refine thenQ_n ?_
      refine JC_region ?_
      refine JO_q (QE_mv rfl) rfl ?_
      refine JO_q (QE_add' rfl rfl (w64 (by omega) (by omega))) rfl ?_
      refine JO_q (QE_as rfl) rfl ?_
      refine JO_nil ?_
      refine thenQ_n ⟨(i + 1, e1, e2), [], (Keeps.cons rfl (Keeps.cons rfl (Keeps.cons rfl (Keeps.cons rfl (Keeps.nil _))))), rfl, ⟨(Le.trans I9.1 I12.1), ⟨by simp only; omega, fs_next hFI hcdx hinn⟩⟩, (by simp only; omega)⟩
    ·
     have hend : ¬ i < codes.length ∨ ¬ f1 = 0 := by first | exact .inr c11 | exact .inl (by omega)
     refine JC_exit ?_
     refine thenQ_x ?_
     refine thenQ_x ?_
     refine blockQ_x ?_
     refine thenQ_n ?_
     refine JC_seq ?_
     refine JC_region ?_
     refine JO_q (QE_ldA 0 [_, _] rfl rfl rfl rfl rfl) rfl ?_
     refine JO_st 1 [_, _] rfl rfl rfl rfl rfl rfl rfl rfl rfl ?_
     refine JO_nil ?_
     refine thenQ_n ?_
     refine JC_ret ?_
     refine retQ_mk [_, _, _] L (.inr rfl) (.agg (us := [_, _]) 1 rfl rfl rfl rfl rfl (.nil)) rfl (Le.trans (Le.trans (Le.trans (Le.trans (Le.trans (Le.trans h1 h2) h3) h4) h5) h8) I9.1) (fun sR hS2 => ?_)
     exact ⟨by rw [fs_end hFS hend]; rfl, rfl⟩
   ·
    refine JO_gF rfl rfl rfl rfl ?_
    refine JO_gF rfl rfl rfl rfl ?_
    refine JO_gF rfl rfl rfl rfl ?_
    refine JO_q (QE_pickF rfl rfl) rfl ?_
    refine JO_nil ?_
    refine thenQ_n ?_
    refine JC_ifF rfl ?_
    have hend : ¬ i < codes.length ∨ ¬ f1 = 0 := by first | exact .inr trivial | exact .inl (by omega)
    refine JC_exit ?_
    refine thenQ_x ?_
    refine thenQ_x ?_
    refine blockQ_x ?_
    refine thenQ_n ?_
    refine JC_seq ?_
    refine JC_region ?_
    refine JO_q (QE_ldA 0 [_, _] rfl rfl rfl rfl rfl) rfl ?_
    refine JO_st 1 [_, _] rfl rfl rfl rfl rfl rfl rfl rfl rfl ?_
    refine JO_nil ?_
    refine thenQ_n ?_
    refine JC_ret ?_
    refine retQ_mk [_, _, _] L (.inr rfl) (.agg (us := [_, _]) 1 rfl rfl rfl rfl rfl (.nil)) rfl (Le.trans (Le.trans (Le.trans (Le.trans (Le.trans (Le.trans h1 h2) h3) h4) h5) h8) I9.1) (fun sR hS2 => ?_)
    exact ⟨by rw [fs_end hFS hend]; rfl, rfl⟩
  ·
   have h20 := c7
   refine JC_skip ?_
   refine thenQ_n ?_
   refine JC_seq ?_
   refine JC_seq ?_
   refine JC_region ?_
   refine JO_q (QE_as rfl) rfl ?_
   refine JO_nil ?_
   refine thenQ_n ?_
   refine JC_block ?_
   refine JC_loop (γ := Nat × Int × Int) (fun g => [(1, _), (4, _), (5, _), (6, .int .i64 (g.1 : Int))]) (fun g => (β4, cb [.int .i64 g.2.1, .int .i64 g.2.2] 32) :: (β2, cb [.int .i64 0, .int .i64 0] 32) :: (β1, cb [.int .i64 t.cells, .slice A n c] 24) :: L) (fun g tw => Le D s5 tw ∧ (g.1 ≤ n1 ∧ FSt t codes g.2.1 g.2.2 (∀ j, j < g.1 → rep codes j = false))) (fun g => n1 - g.1) (fun _ _ _ h hl => ⟨h.1.trans hl, h.2⟩) (0, _, _) (Keeps.cons rfl (Keeps.cons rfl (Keeps.cons rfl (Keeps.cons rfl (Keeps.nil _))))) rfl ⟨Le.refl _, by first | exact ⟨Nat.zero_le _, fs_init h20⟩ | exact ⟨Nat.zero_le _, .inl ⟨by decide, rn_len h20.1 h20.2⟩⟩⟩ ?_
   intro g s18 I18
   obtain ⟨i, f1, f2⟩ := g
   obtain ⟨hi0, hFS⟩ := I18.2
   simp only at hi0 hFS
   dsimp only
   refine JC_seq ?_
   refine JC_seq ?_
   refine JC_region ?_
   refine JO_q (QE_mv rfl) rfl ?_
   refine JO_q (QE_mv rfl) rfl ?_
   refine JO_q (QE_lenS rfl rfl rfl) rfl ?_
   refine JO_q (QE_lt rfl rfl) rfl ?_
   refine JO_q (QE_mv rfl) rfl ?_
   refine JO_caseD (t := 26) rfl (fun c19 => ?_) (fun c19 => ?_)
   ·
    refine JO_gT rfl rfl ?_
    refine JO_q (QE_fa0 rfl rfl rfl rfl) rfl ?_
    refine JO_gT rfl rfl ?_
    refine JO_q (QE_ld1 0 rfl rfl rfl rfl rfl) rfl ?_
    refine JO_gT rfl rfl ?_
    refine JO_q (QE_eq rfl rfl) rfl ?_
    refine JO_q (QE_pickT rfl rfl) rfl ?_
    refine JO_nil ?_
    refine thenQ_n ?_
    refine JC_ifD rfl (fun c20 => ?_) (fun c20 => ?_)
    ·
     have hi1 : i < n1 := by omega
     have hf0 : f1 = 0 := c20
     obtain ⟨b, off, cd, rfl, hcdx, hccd, hcu⟩ := Wds.at_ (hCo.le (Le.trans (Le.trans (Le.trans (Le.trans (Le.trans h1 h2) h3) h4) h5) I18.1)) hi1
     refine JC_skip ?_
     refine thenQ_n ?_
     refine JC_seq ?_
     refine JC_block ?_
     refine JC_seq ?_
     refine JC_region ?_
     refine JO_q (QE_as rfl) rfl ?_
     refine JO_nil ?_
     refine thenQ_n ?_
     refine JC_block ?_
     refine JC_loop (γ := Nat × Int × Int) (fun g => [(1, _), (4, _), (5, _), (6, _), (7, .int .i64 (g.1 : Int))]) (fun g => (β4, cb [.int .i64 g.2.1, .int .i64 g.2.2] 32) :: (β2, cb [.int .i64 0, .int .i64 0] 32) :: (β1, cb [.int .i64 t.cells, .slice A n c] 24) :: L) (fun g tw => Le D s18 tw ∧ (g.1 ≤ i ∧ FSt t codes g.2.1 g.2.2 ((∀ j, j < i → rep codes j = false) ∧ ∀ j x, j < g.1 → codes[j]? = some x → ¬ x = cd))) (fun g => i - g.1) (fun _ _ _ h hl => ⟨h.1.trans hl, h.2⟩) (0, f1, f2) (Keeps.cons rfl (Keeps.cons rfl (Keeps.cons rfl (Keeps.cons rfl (Keeps.cons rfl (Keeps.nil _)))))) rfl ⟨Le.refl _, ⟨Nat.zero_le _, fs_in hFS⟩⟩ ?_
     intro g s21 I21
     obtain ⟨k, e1, e2⟩ := g
     obtain ⟨hk0, hFI⟩ := I21.2
     simp only at hk0 hFI
     dsimp only
     refine JC_seq ?_
     refine JC_seq ?_
     refine JC_region ?_
     refine JO_q (QE_mv rfl) rfl ?_
     refine JO_q (QE_mv rfl) rfl ?_
     refine JO_q (QE_lt rfl rfl) rfl ?_
     refine JO_q (QE_mv rfl) rfl ?_
     refine JO_caseD (t := 36) rfl (fun c22 => ?_) (fun c22 => ?_)
     ·
      refine JO_gT rfl rfl ?_
      refine JO_q (QE_fa0 rfl rfl rfl rfl) rfl ?_
      refine JO_gT rfl rfl ?_
      refine JO_q (QE_ld1 0 rfl rfl rfl rfl rfl) rfl ?_
      refine JO_gT rfl rfl ?_
      refine JO_q (QE_eq rfl rfl) rfl ?_
      refine JO_q (QE_pickT rfl rfl) rfl ?_
      refine JO_nil ?_
      refine thenQ_n ?_
      refine JC_ifD rfl (fun c23 => ?_) (fun c23 => ?_)
      ·
       have hk1 : k < i := by omega
       have hg0 : e1 = 0 := c23
       obtain ⟨b2, off2, ck, hE2, hckx, hcck, hcu2⟩ := Wds.at_ (hCo.le (Le.trans (Le.trans (Le.trans (Le.trans (Le.trans (Le.trans h1 h2) h3) h4) h5) I18.1) I21.1)) (show k < n1 by omega)
       injection hE2 with hE2
       injection hE2 with q1 q2
       subst q1
       subst q2
       refine JC_skip ?_
       refine thenQ_n ?_
       refine JC_seq ?_
       refine JC_block ?_
       refine JC_seq ?_
       refine JC_draw drawsMixed 9 rfl _ (fun _ h => h) ?_
       intro s24 h24
       refine JA_q 0 rfl (by kernel_rfl) (by kernel_rfl) (by kernel_rfl) trivial (QE_mv rfl) rfl ?_
       refine JA_q 1 rfl (by kernel_rfl) (by kernel_rfl) (by kernel_rfl) trivial (QE_mv rfl) rfl ?_
       refine JA_q 2 rfl (by kernel_rfl) (by kernel_rfl) (by kernel_rfl) trivial (QE_ia1 rfl rfl rfl rfl rfl rfl (show k < n1 by omega)) rfl ?_
       refine JA_q 3 rfl (by kernel_rfl) (by kernel_rfl) (by kernel_rfl) trivial (QE_ldsR0 rfl rfl rfl (hcck.le h24) rfl) rfl ?_
       refine JA_q 4 rfl (by kernel_rfl) (by kernel_rfl) (by kernel_rfl) trivial (QE_mv rfl) rfl ?_
       refine JA_q 5 rfl (by kernel_rfl) (by kernel_rfl) (by kernel_rfl) trivial (QE_mv rfl) rfl ?_
       refine JA_q 6 rfl (by kernel_rfl) (by kernel_rfl) (by kernel_rfl) trivial (QE_ia1 rfl rfl rfl rfl rfl rfl (show i < n1 by omega)) rfl ?_
       refine JA_q 7 rfl (by kernel_rfl) (by kernel_rfl) (by kernel_rfl) trivial (QE_ldsR0 rfl rfl rfl (hccd.le (Le.trans I21.1 h24)) rfl) rfl ?_
       refine JA_q 8 rfl (by kernel_rfl) (by kernel_rfl) (by kernel_rfl) trivial (QE_eq rfl rfl) rfl ?_
       refine JA_done (by kernel_rfl) ?_
       refine thenQ_n ?_
       refine JC_ifD rfl (fun c25 => ?_) (fun c25 => ?_)
       ·
        have hcc : ck = cd := c25
        refine JC_region ?_
        refine JO_q (QE_mv rfl) rfl ?_
        refine JO_call (first := []) (captured := []) rfl rfl rfl (at_ac D _ _ _ _) ?_
        rintro _ _ s26 h26 ⟨rfl, rfl⟩
        refine JO_st 0 [_, _] rfl rfl rfl rfl rfl rfl rfl rfl rfl ?_
        refine JO_nil ?_
        refine blockQ_n ?_
        refine thenQ_n ?_
        refine JC_region ?_
        refine JO_q (QE_mv rfl) rfl ?_
        refine JO_q (QE_add' rfl rfl (w64 (by omega) (by omega))) rfl ?_
        refine JO_q (QE_as rfl) rfl ?_
        refine JO_nil ?_
        refine thenQ_n ⟨(k + 1, 8, (i : Int)), [], (Keeps.cons rfl (Keeps.cons rfl (Keeps.cons rfl (Keeps.cons rfl (Keeps.cons rfl (Keeps.nil _)))))), rfl, ⟨(Le.trans (Le.trans I21.1 h24) h26), by first | exact ⟨by simp only; omega, fs_hit (by omega) hFI hg0 hcdx (hcc ▸ hckx) hk1⟩ | exact ⟨by simp only; omega, fs_miss hFI hckx hcc⟩⟩, (by simp only; omega)⟩
       ·
        have hcc : ¬ ck = cd := c25
        refine JC_skip ?_
        refine blockQ_n ?_
        refine thenQ_n ?_
        refine JC_region ?_
        refine JO_q (QE_mv rfl) rfl ?_
        refine JO_q (QE_add' rfl rfl (w64 (by omega) (by omega))) rfl ?_
        refine JO_q (QE_as rfl) rfl ?_
        refine JO_nil ?_
        refine thenQ_n ⟨(k + 1, e1, e2), [], (Keeps.cons rfl (Keeps.cons rfl (Keeps.cons rfl (Keeps.cons rfl (Keeps.cons rfl (Keeps.nil _)))))), rfl, ⟨(Le.trans I21.1 h24), by first | exact ⟨by simp only; omega, fs_hit (by omega) hFI hg0 hcdx (hcc ▸ hckx) hk1⟩ | exact ⟨by simp only; omega, fs_miss hFI hckx hcc⟩⟩, (by simp only; omega)⟩
      ·
       have hinn : ¬ k < i ∨ ¬ e1 = 0 := by first | exact .inr c23 | exact .inl (by omega)
       refine JC_exit ?_
       refine thenQ_x ?_
       refine thenQ_x ?_
       refine blockQ_x ?_
       refine blockQ_n ?_
       refine thenQ_n ?_
       refine JC_region ?_
       refine JO_q (QE_mv rfl) rfl ?_
       refine JO_q (QE_add' rfl rfl (w64 (by omega) (by omega))) rfl ?_
       refine JO_q (QE_as rfl) rfl ?_
       refine JO_nil ?_
       refine thenQ_n ⟨(i + 1, e1, e2), [], (Keeps.cons rfl (Keeps.cons rfl (Keeps.cons rfl (Keeps.cons rfl (Keeps.nil _))))), rfl, ⟨(Le.trans I18.1 I21.1), ⟨by simp only; omega, fs_next hFI hcdx hinn⟩⟩, (by simp only; omega)⟩
     ·
      refine JO_gF rfl rfl rfl rfl ?_
      refine JO_gF rfl rfl rfl rfl ?_
      refine JO_gF rfl rfl rfl rfl ?_
      refine JO_q (QE_pickF rfl rfl) rfl ?_
      refine JO_nil ?_
      refine thenQ_n ?_
      refine JC_ifF rfl ?_
      have hinn : ¬ k < i ∨ ¬ e1 = 0 := by first | exact .inr trivial | exact .inl (by omega)
      refine JC_exit ?_
      refine thenQ_x ?_
      refine thenQ_x ?_
      refine blockQ_x ?_
      refine blockQ_n ?_
      refine thenQ_n ?_
      refine JC_region ?_
      refine JO_q (QE_mv rfl) rfl ?_
      refine JO_q (QE_add' rfl rfl (w64 (by omega) (by omega))) rfl ?_
      refine JO_q (QE_as rfl) rfl ?_
      refine JO_nil ?_
      refine thenQ_n ⟨(i + 1, e1, e2), [], (Keeps.cons rfl (Keeps.cons rfl (Keeps.cons rfl (Keeps.cons rfl (Keeps.nil _))))), rfl, ⟨(Le.trans I18.1 I21.1), ⟨by simp only; omega, fs_next hFI hcdx hinn⟩⟩, (by simp only; omega)⟩
    ·
     have hend : ¬ i < codes.length ∨ ¬ f1 = 0 := by first | exact .inr c20 | exact .inl (by omega)
     refine JC_exit ?_
     refine thenQ_x ?_
     refine thenQ_x ?_
     refine blockQ_x ?_
     refine thenQ_n ?_
     refine JC_seq ?_
     refine JC_region ?_
     refine JO_q (QE_ldA 0 [_, _] rfl rfl rfl rfl rfl) rfl ?_
     refine JO_st 1 [_, _] rfl rfl rfl rfl rfl rfl rfl rfl rfl ?_
     refine JO_nil ?_
     refine thenQ_n ?_
     refine JC_ret ?_
     refine retQ_mk [_, _, _] L (.inr rfl) (.agg (us := [_, _]) 1 rfl rfl rfl rfl rfl (.nil)) rfl (Le.trans (Le.trans (Le.trans (Le.trans (Le.trans h1 h2) h3) h4) h5) I18.1) (fun sR hS2 => ?_)
     exact ⟨by rw [fs_end hFS hend]; rfl, rfl⟩
   ·
    refine JO_gF rfl rfl rfl rfl ?_
    refine JO_gF rfl rfl rfl rfl ?_
    refine JO_gF rfl rfl rfl rfl ?_
    refine JO_q (QE_pickF rfl rfl) rfl ?_
    refine JO_nil ?_
    refine thenQ_n ?_
    refine JC_ifF rfl ?_
    have hend : ¬ i < codes.length ∨ ¬ f1 = 0 := by first | exact .inr trivial | exact .inl (by omega)
    refine JC_exit ?_
    refine thenQ_x ?_
    refine thenQ_x ?_
    refine blockQ_x ?_
    refine thenQ_n ?_
    refine JC_seq ?_
    refine JC_region ?_
    refine JO_q (QE_ldA 0 [_, _] rfl rfl rfl rfl rfl) rfl ?_
    refine JO_st 1 [_, _] rfl rfl rfl rfl rfl rfl rfl rfl rfl ?_
    refine JO_nil ?_
    refine thenQ_n ?_
    refine JC_ret ?_
    refine retQ_mk [_, _, _] L (.inr rfl) (.agg (us := [_, _]) 1 rfl rfl rfl rfl rfl (.nil)) rfl (Le.trans (Le.trans (Le.trans (Le.trans (Le.trans h1 h2) h3) h4) h5) I18.1) (fun sR hS2 => ?_)
    exact ⟨by rw [fs_end hFS hend]; rfl, rfl⟩

theorem renumber_ac (D : Nat) (L : Hl) (s : World) (t : Tab) (A : Option Addr) (n c : Nat) (hA : Inss s A n c t.ins) (A1 : Option Addr) (n1 c1 : Nat) (codes : List Int) (hCo : Wds s A1 n1 c1 codes) : AC Try.prog D 25 [.agg #[.int .i64 t.cells, .slice A n c], .slice A1 n1 c1] L s fun v L' s' => L = L' ∧ ∃ A2 n2 c2, v = .tuple #[.agg #[.int .i64 (renumR t codes).cells, .slice A2 n2 c2], .agg #[.int .i64 (renumF t codes).1, .int .i64 (renumF t codes).2]] ∧ Inss s' A2 n2 c2 (renumR t codes).ins := AC.pubW (renumberO_ac D L s t A n c hA A1 n1 c1 codes hCo)
theorem renumbered_ac (D : Nat) (L : Hl) (s : World) (t : Tab) (A : Option Addr) (n c : Nat) (hA : Inss s A n c t.ins) (A1 : Option Addr) (n1 c1 : Nat) (codes : List Int) (hCo : Wds s A1 n1 c1 codes) (hlen : codes.length = t.ins.length) (hn64 : n ≤ 64) : AC Try.prog D 31 [.agg #[.int .i64 t.cells, .slice A n c], .slice A1 n1 c1] L s fun v L' s' => L = L' ∧ ∃ A2 n2 c2, v = .agg #[.int .i64 t.cells, .slice A2 n2 c2] ∧ Inss s' A2 n2 c2 (recode codes 0 t.ins) := AC.pubW (renumberedO_ac D L s t A n c hA A1 n1 c1 codes hCo hlen hn64)
theorem default_ac (D : Nat) (L : Hl) (s : World) : AC Try.prog D 29 [] L s fun v L' s' => L = L' ∧ ∃ A n c, v = .agg #[.int .i64 65536, .slice A n c] ∧ Inss s' A n c defT.ins := AC.pubW (defaultO_ac D L s)
theorem standard_ac (D : Nat) (L : Hl) (s : World) : AC Try.prog D 30 [] L s fun v L' s' => L = L' ∧ ∃ A n c, v = .agg #[.int .i64 65536, .slice A n c] ∧ Inss s' A n c stdT.ins := AC.pubW (standardO_ac D L s)
theorem rnR_ok {t : Tab} {codes : List Int} (h : (renumF t codes).1 = 0) : renumR t codes = ⟨t.cells, recode codes 0 t.ins⟩ := by unfold renumR; rw [if_neg (by simpa using h)]
theorem rnR_bad {t : Tab} {codes : List Int} (h : ¬ (renumF t codes).1 = 0) : renumR t codes = ⟨0, []⟩ := by unfold renumR; rw [if_pos h]

set_option maxHeartbeats 4000000 in
set_option maxRecDepth 100000 in
theorem lawTables_ac (D : Nat) (L : Hl) (s : World) (t : Tab) (A : Option Addr) (n c : Nat) (hA : Inss s A n c t.ins) (A1 : Option Addr) (n1 c1 : Nat) (codes : List Int) (hCo : Wds s A1 n1 c1 codes) : AC Try.prog D 8 [.agg #[.int .i64 t.cells, .slice A n c], .slice A1 n1 c1] L s fun v L' _ => v = .bool true ∧ L = L' := by
 refine AC_enter (TT := TT) (fn := Try.f8) TT_ok Try.func8 (by kernel_rfl) rfl Try.ntmps8 rfl (rs := [.tmp 4]) rfl [(0, _), (1, _)] rfl ?_
 refine JC_seq ?_
 refine JC_region ?_
 refine JO_boxA rfl rfl ?_
 intro β1 s1 h1
 refine JO_q (QE_as rfl) rfl ?_
 refine JO_nil ?_
 refine thenQ_n ?_
 refine JC_seq ?_
 refine JC_region ?_
 refine JO_q (QE_ldA 0 [_, _] rfl rfl rfl rfl rfl) rfl ?_
 refine JO_q (QE_mv rfl) rfl ?_
 refine JO_call (first := []) (captured := []) rfl rfl rfl (renumber_ac D _ _ _ _ _ _ (hA.le h1) _ _ _ _ (hCo.le h1)) ?_
 rintro _ _ s2 h2 ⟨rfl, Au, nu, cu, rfl, hu⟩
 refine JO_q (QE_mv rfl) rfl ?_
 refine JO_q (QE_ext rfl rfl) rfl ?_
 refine JO_q (QE_ext rfl rfl) rfl ?_
 refine JO_allocZ rfl [_, _] rfl rfl ?_
 intro β3 s3 h3
 refine JO_allocZ rfl [_, _] rfl rfl ?_
 intro β4 s4 h4
 refine JO_st 1 [_, _] rfl rfl rfl rfl rfl rfl rfl rfl rfl ?_
 refine JO_st 0 [_, _] rfl rfl rfl rfl rfl rfl rfl rfl rfl ?_
 refine JO_nil ?_
 refine thenQ_n ?_
 refine JC_seq ?_
 refine JC_region ?_
 refine JO_q (QE_ldA 2 [_, _] rfl rfl rfl rfl rfl) rfl ?_
 refine JO_q (QE_mv rfl) rfl ?_
 refine JO_call (first := []) (captured := []) rfl rfl rfl (renumberFault_ac D _ _ _ _ _ _ (hA.le (Le.trans (Le.trans (Le.trans h1 h2) h3) h4)) _ _ _ _ (hCo.le (Le.trans (Le.trans (Le.trans h1 h2) h3) h4))) ?_
 rintro _ _ s5 h5 ⟨rfl, rfl⟩
 refine JO_allocZ rfl [_, _] rfl rfl ?_
 intro β6 s6 h6
 refine JO_st 0 [_, _] rfl rfl rfl rfl rfl rfl rfl rfl rfl ?_
 refine JO_nil ?_
 refine thenQ_n ?_
 refine JC_seq ?_
 refine JC_seq ?_
 refine JC_draw drawsMixed 20 rfl _ (fun _ h => h) ?_
 intro s7 h7
 refine JA_1 0 (by kernel_rfl) ?_
 refine JB_call rfl trivial (first := []) (captured := []) rfl rfl rfl (runs_ac D _ _) ?_
 rintro _ _ s8 h8 ⟨rfl, rfl⟩
 refine ⟨fun _ _ h => h, ?_⟩
 refine JA_q 1 rfl (by kernel_rfl) (by kernel_rfl) (by kernel_rfl) trivial (QE_notT rfl) rfl ?_
 refine JA_q 2 rfl (by kernel_rfl) (by kernel_rfl) (by kernel_rfl) trivial (QE_mv rfl) rfl ?_
 refine JA_q 3 rfl (by kernel_rfl) (by kernel_rfl) (by kernel_rfl) ⟨_, rfl, rfl⟩ (QE_ldA 3 [_, _] rfl rfl rfl rfl rfl) rfl ?_
 refine JA_q 5 rfl (by kernel_rfl) (by kernel_rfl) (by kernel_rfl) ⟨_, rfl, rfl⟩ (QE_ldA 3 [_, _] rfl rfl rfl rfl rfl) rfl ?_
 refine JA_1 4 (by kernel_rfl) ?_
 refine JB_call rfl ⟨_, rfl, rfl⟩ (first := []) (captured := []) rfl rfl rfl (validate_ac D _ _ _ _ _ _ (hA.le (Le.trans (Le.trans (Le.trans (Le.trans (Le.trans (Le.trans (Le.trans h1 h2) h3) h4) h5) h6) h7) h8))) ?_
 rintro _ _ s9 h9 ⟨rfl, rfl⟩
 refine ⟨fun _ _ h => h, ?_⟩
 refine JA_1 6 (by kernel_rfl) ?_
 refine JB_call rfl ⟨_, rfl, rfl⟩ (first := []) (captured := []) rfl rfl rfl (tableFault_ac D _ _ _ _ _ _ (hA.le (Le.trans (Le.trans (Le.trans (Le.trans (Le.trans (Le.trans (Le.trans (Le.trans h1 h2) h3) h4) h5) h6) h7) h8) h9))) ?_
 rintro _ _ s10 h10 ⟨rfl, rfl⟩
 refine ⟨fun _ _ h => h, ?_⟩
 refine JA_q 7 rfl (by kernel_rfl) (by kernel_rfl) (by kernel_rfl) ⟨_, rfl, rfl⟩ (QE_cast (v' := .bool false) (QE_ane rfl rfl (eqFault _ _ _ _)) (bF ⟨rfl, rfl⟩)) rfl ?_
 refine JA_q 8 rfl (by kernel_rfl) (by kernel_rfl) (by kernel_rfl) trivial (QE_pickF rfl rfl) rfl ?_
 refine JA_q 9 rfl (by kernel_rfl) (by kernel_rfl) (by kernel_rfl) trivial (QE_mv rfl) rfl ?_
 refine JA_1 10 (by kernel_rfl) ?_
 refine JB_call rfl ⟨_, rfl, rfl⟩ (first := []) (captured := []) rfl rfl rfl (default_ac D _ _) ?_
 rintro _ _ s11 h11 ⟨rfl, Ad, nd, cd, rfl, hd⟩
 refine ⟨fun _ _ h => h, ?_⟩
 refine JA_1 11 (by kernel_rfl) ?_
 refine JB_call rfl ⟨_, rfl, rfl⟩ (first := []) (captured := []) rfl rfl rfl (standard_ac D _ _) ?_
 rintro _ _ s12 h12 ⟨rfl, Ae, ne, ce, rfl, he⟩
 refine ⟨fun _ _ h => h, ?_⟩
 refine JA_1 12 (by kernel_rfl) ?_
 refine JB_call rfl ⟨_, rfl, rfl⟩ (first := []) (captured := []) rfl rfl rfl (AC.isT (sameTable_ac D _ _ defT _ _ _ (hd.le h12) stdT _ _ _ (he.le (Le.refl (D := D) _))) def_std.symm) ?_
 rintro _ _ s13 h13 ⟨rfl, rfl⟩
 refine ⟨fun _ _ h => h, ?_⟩
 refine JA_q 13 rfl (by kernel_rfl) (by kernel_rfl) (by kernel_rfl) ⟨_, rfl, rfl⟩ (QE_notT rfl) rfl ?_
 refine JA_q 14 rfl (by kernel_rfl) (by kernel_rfl) (by kernel_rfl) trivial (QE_pickF rfl rfl) rfl ?_
 refine JA_q 15 rfl (by kernel_rfl) (by kernel_rfl) (by kernel_rfl) trivial (QE_mv rfl) rfl ?_
 refine JA_q 16 rfl (by kernel_rfl) (by kernel_rfl) (by kernel_rfl) ⟨_, rfl, rfl⟩ (QE_ldA 1 [_, _] rfl rfl rfl rfl rfl) rfl ?_
 refine JA_q 17 rfl (by kernel_rfl) (by kernel_rfl) (by kernel_rfl) ⟨_, rfl, rfl⟩ (QE_ldA 0 [_, _] rfl rfl rfl rfl rfl) rfl ?_
 refine JA_q 18 rfl (by kernel_rfl) (by kernel_rfl) (by kernel_rfl) ⟨_, rfl, rfl⟩ (QE_cast (v' := .bool false) (QE_ane rfl rfl (eqFault _ _ _ _)) (bF ⟨rfl, rfl⟩)) rfl ?_
 refine JA_q 19 rfl (by kernel_rfl) (by kernel_rfl) (by kernel_rfl) trivial (QE_pickF rfl rfl) rfl ?_
 refine JA_done (by kernel_rfl) ?_
 refine thenQ_n ?_
 refine JC_ifF rfl ?_
 refine JC_skip ?_
 refine thenQ_n ?_
 refine JC_seq ?_
 refine JC_region ?_
 refine JO_q (QE_build [] [_, _] rfl rfl rfl rfl rfl rfl) rfl ?_
 refine JO_allocZ rfl [_, _] rfl rfl ?_
 intro β14 s14 h14
 refine JO_st 0 [_, _] rfl rfl rfl rfl rfl rfl rfl rfl rfl ?_
 refine JO_nil ?_
 refine thenQ_n ?_
 refine JC_seq ?_
 refine JC_seq ?_
 refine JC_region ?_
 refine JO_q (QE_fa0 rfl rfl rfl rfl) rfl ?_
 refine JO_q (QE_ld1 1 rfl rfl rfl rfl rfl) rfl ?_
 refine JO_q (QE_eq rfl rfl) rfl ?_
 refine JO_nil ?_
 refine thenQ_n ?_
 refine JC_ifD rfl (fun c15 => ?_) (fun c15 => ?_)
 ·
  have hz0 : (renumF t codes).1 = 0 := c15
  obtain ⟨hz1, hz2, _⟩ := rn_zero hz0
  refine JC_region ?_
  refine JO_q (QE_ldA 4 [_, _] rfl rfl rfl rfl rfl) rfl ?_
  refine JO_q (QE_mv rfl) rfl ?_
  refine JO_call (first := []) (captured := []) rfl rfl rfl (renumbered_ac D _ _ _ _ _ _ (hA.le (Le.trans (Le.trans (Le.trans (Le.trans (Le.trans (Le.trans (Le.trans (Le.trans (Le.trans (Le.trans (Le.trans (Le.trans (Le.trans h1 h2) h3) h4) h5) h6) h7) h8) h9) h10) h11) h12) h13) h14)) _ _ _ _ (hCo.le (Le.trans (Le.trans (Le.trans (Le.trans (Le.trans (Le.trans (Le.trans (Le.trans (Le.trans (Le.trans (Le.trans (Le.trans (Le.trans h1 h2) h3) h4) h5) h6) h7) h8) h9) h10) h11) h12) h13) h14)) hz2 (by have := hA.1; have := (tabG hA hz1).len; omega)) ?_
  rintro _ _ s16 h16 ⟨rfl, Aw, nw, cw, rfl, hw⟩
  refine JO_st 0 [_, _] rfl rfl rfl rfl rfl rfl rfl rfl rfl ?_
  refine JO_nil ?_
  refine thenQ_n ?_
  refine JC_seq ?_
  refine JC_region ?_
  refine JO_q (QE_ldA 3 [_, _] rfl rfl rfl rfl rfl) rfl ?_
  refine JO_q (QE_ldA 0 [_, _] rfl rfl rfl rfl rfl) rfl ?_
  refine JO_call (first := []) (captured := []) rfl rfl rfl (AC.isT (sameTable_ac D _ _ (renumR t codes) _ _ _ (hu.le (Le.trans (Le.trans (Le.trans (Le.trans (Le.trans (Le.trans (Le.trans (Le.trans (Le.trans (Le.trans (Le.trans (Le.trans h3 h4) h5) h6) h7) h8) h9) h10) h11) h12) h13) h14) h16)) ⟨t.cells, recode codes 0 t.ins⟩ _ _ _ (hw.le (Le.refl (D := D) _))) (rnR_ok hz0)) ?_
  rintro _ _ s17 h17 ⟨rfl, rfl⟩
  refine JO_q (QE_as rfl) rfl ?_
  refine JO_nil ?_
  refine thenQ_n ?_
  refine JC_ret ?_
  refine retQ_mk [_, _, _, _, _] L (.inr rfl) (.tmp rfl (.nil)) rfl (Le.trans (Le.trans (Le.trans (Le.trans (Le.trans (Le.trans (Le.trans (Le.trans (Le.trans (Le.trans (Le.trans (Le.trans (Le.trans (Le.trans (Le.trans h1 h2) h3) h4) h5) h6) h7) h8) h9) h10) h11) h12) h13) h14) h16) h17) (fun sR hS2 => ?_)
  exact ⟨rfl, rfl⟩
 ·
  have hz0 := c15
  refine JC_skip ?_
  refine thenQ_n ?_
  refine JC_seq ?_
  refine JC_region ?_
  refine JO_q (QE_ldA 3 [_, _] rfl rfl rfl rfl rfl) rfl ?_
  refine JO_q (QE_ldA 0 [_, _] rfl rfl rfl rfl rfl) rfl ?_
  refine JO_call (first := []) (captured := []) rfl rfl rfl (AC.isT (sameTable_ac D _ _ (renumR t codes) _ _ _ (hu.le (Le.trans (Le.trans (Le.trans (Le.trans (Le.trans (Le.trans (Le.trans (Le.trans (Le.trans (Le.trans (Le.trans h3 h4) h5) h6) h7) h8) h9) h10) h11) h12) h13) h14)) ⟨0, []⟩ _ _ _ ⟨rfl, Nat.le_refl _, by omega, fun i x h => by cases h⟩) (rnR_bad hz0)) ?_
  rintro _ _ s18 h18 ⟨rfl, rfl⟩
  refine JO_q (QE_as rfl) rfl ?_
  refine JO_nil ?_
  refine thenQ_n ?_
  refine JC_ret ?_
  refine retQ_mk [_, _, _, _, _] L (.inr rfl) (.tmp rfl (.nil)) rfl (Le.trans (Le.trans (Le.trans (Le.trans (Le.trans (Le.trans (Le.trans (Le.trans (Le.trans (Le.trans (Le.trans (Le.trans (Le.trans (Le.trans h1 h2) h3) h4) h5) h6) h7) h8) h9) h10) h11) h12) h13) h14) h18) (fun sR hS2 => ?_)
  exact ⟨rfl, rfl⟩
end Go.Proofs.Ytpjnphonanbopaa
