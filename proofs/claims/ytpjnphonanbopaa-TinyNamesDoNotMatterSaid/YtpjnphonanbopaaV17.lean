/- The law on names: its walk. -/
import Derived.Test.YtpjnphonanbopaaV16
import Derived.Test.YtpjnphonanbopaaFlL
namespace Go.Proofs.Ytpjnphonanbopaa
open Go.FL
attribute [local irreducible] JC JO JA JB thenQ blockQ retQ AC fill CellsAt QE Ev Mid


theorem ren_take {names : List (List UInt8)} {l : List Ins} {j : Nat} {y : Ins} (h : (ren names 0 l)[j]? = some y) : (ren names 0 l).take (j + 1) = (ren names 0 l).take j ++ [y] := by
  obtain ⟨hj, rfl⟩ := List.getElem?_eq_some_iff.1 h
  rw [List.take_succ_eq_append_getElem hj]
theorem name_in {names : List (List UInt8)} {j : Nat} {nm d : List UInt8} (h : names[j]? = some nm) : names.getD (0 + j) d = nm := by simp [List.getD, h]
theorem name_out {names : List (List UInt8)} {j : Nat} {d : List UInt8} (h : ¬ j < names.length) : names.getD (0 + j) d = d := by simp [List.getD, List.getElem?_eq_none (Nat.le_of_not_lt h)]
theorem flat_snoc (css : List (List Value)) (cs : List Value) : (css ++ [cs]).flatten = css.flatten ++ cs := by simp


set_option maxHeartbeats 4000000 in
set_option maxRecDepth 100000 in
theorem lawNames_ac (D : Nat) (L : Hl) (s : World) (t : Tab) (A : Option Addr) (n c : Nat) (hA : Inss s A n c t.ins) (m : Mst) (Ax Bx Ox : Option Addr) (nAx cAx nBx cBx nOx cOx : Nat) (hAx : Wds s Ax nAx cAx m.cells) (hBx : Bts s Bx nBx cBx m.input) (hOx : Bts s Ox nOx cOx m.output) (hU : MU m) (An : Option Addr) (nn cn : Nat) (names : List (List UInt8)) (hNm : Strs s An nn cn names) (k : Int) (hroom : n * 48 ≤ 140737488351232) : AC Try.prog D 7 [.agg #[.int .i64 t.cells, .slice A n c], .agg #[.slice Ax nAx cAx, .int .u32 m.r0, .int .u32 m.r1, .int .u32 m.r2, .int .u32 m.r3, .int .u32 m.r4, .slice Bx nBx cBx, .slice Ox nOx cOx, .int .i64 m.stop, .int .u32 m.code], .slice An nn cn, .int .i64 k] L s fun v L' _ => v = .bool true ∧ L = L' := by
 have hn := hA.1
 have hnn := hNm.1
 have hc1 := hA.2.1
 have hc2 := hA.2.2.1
 refine AC_enter (TT := TT) (fn := Try.f7) TT_ok Try.func7 (by kernel_rfl) rfl Try.ntmps7 rfl (rs := [.tmp 8]) rfl [(0, _), (1, _), (2, _), (3, _)] rfl ?_
 refine JC_seq ?_
 refine JC_region ?_
 refine JO_boxA rfl rfl ?_
 intro β1 s1 h1
 refine JO_boxA rfl rfl ?_
 intro β2 s2 h2
 refine JO_q (QE_as rfl) rfl ?_
 refine JO_nil ?_
 refine thenQ_n ?_
 refine JC_seq ?_
 refine JC_seq ?_
 refine JC_region ?_
 refine JO_call (first := []) (captured := []) rfl rfl rfl (runs_ac D _ _) ?_
 rintro _ _ s3 h3 ⟨rfl, rfl⟩
 refine JO_q (QE_notT rfl) rfl ?_
 refine JO_nil ?_
 refine thenQ_n ?_
 refine JC_ifF rfl ?_
 refine JC_skip ?_
 refine thenQ_n ?_
 refine JC_seq ?_
 refine JC_region ?_
 refine JO_q (QE_fa0 rfl rfl rfl rfl) rfl ?_
 refine JO_q (QE_ld1 1 rfl rfl rfl rfl rfl) rfl ?_
 refine JO_q (QE_build [(_, _)] [_, _] rfl rfl rfl rfl rfl rfl) rfl ?_
 refine JO_allocZ rfl [_, _] rfl rfl ?_
 intro β4 s4 h4
 refine JO_st 0 [_, _] rfl rfl rfl rfl rfl rfl rfl rfl rfl ?_
 refine JO_nil ?_
 refine thenQ_n ?_
 refine JC_seq ?_
 refine JC_seq ?_
 refine JC_region ?_
 refine JO_q (QE_as rfl) rfl ?_
 refine JO_nil ?_
 refine thenQ_n ?_
 refine JC_block ?_
 refine JC_loop (γ := Nat × Value × Hl × List (List Value)) (fun g => [(2, _), (3, _), (4, _), (5, _), (8, _), (9, _), (10, .int .i64 (g.1 : Int))]) (fun g => (β4, cb [.int .i64 t.cells, g.2.1] 24) :: (β2, cb [.slice Ax nAx cAx, .int .u32 m.r0, .int .u32 m.r1, .int .u32 m.r2, .int .u32 m.r3, .int .u32 m.r4, .slice Bx nBx cBx, .slice Ox nOx cOx, .int .i64 m.stop, .int .u32 m.code] 30) :: (β1, cb [.int .i64 t.cells, .slice A n c] 24) :: (g.2.2.1 ++ L)) (fun g tw => Le D s4 tw ∧ (g.1 ≤ n ∧ Own 60 4 g.2.2.1 g.2.1 g.1 g.2.2.2.flatten ∧ All2 (fun x cs => cs.length = 4 ∧ InsR tw x cs) ((ren names 0 t.ins).take g.1) g.2.2.2)) (fun g => n - g.1) (fun _ _ _ h hl => ⟨h.1.trans hl, by obtain ⟨_, k1, k2, k3⟩ := h; exact ⟨k1, k2, k3.mono fun a b h => ⟨h.1, h.2.le hl⟩⟩⟩) (0, .slice none 0 0, [], []) (Keeps.cons rfl (Keeps.cons rfl (Keeps.cons rfl (Keeps.cons rfl (Keeps.cons rfl (Keeps.cons rfl (Keeps.cons rfl (Keeps.nil _)))))))) rfl ⟨Le.refl _, ⟨Nat.zero_le _, Own.nil, All2.nil⟩⟩ ?_
 intro g s5 I5
 obtain ⟨j, vj, Mj, css⟩ := g
 obtain ⟨hj0, hOj, hAj⟩ := I5.2
 simp only at hj0 hOj hAj
 dsimp only
 refine JC_seq ?_
 refine JC_seq ?_
 refine JC_region ?_
 refine JO_q (QE_mv rfl) rfl ?_
 refine JO_q (QE_faB rfl rfl rfl rfl) rfl ?_
 refine JO_q (QE_ld1 2 rfl rfl rfl rfl rfl) rfl ?_
 refine JO_q (QE_lenS rfl rfl rfl) rfl ?_
 refine JO_q (QE_lt rfl rfl) rfl ?_
 refine JO_nil ?_
 refine thenQ_n ?_
 refine JC_ifD rfl (fun c6 => ?_) (fun c6 => ?_)
 · -- c6 True
  have hk : j < n := by omega
  obtain ⟨b, off, x, A', n', c', rfl, hx, hcx, hax, hnl, hcd⟩ := Inss.at_ (hA.le (Le.trans (Le.trans (Le.trans (Le.trans h1 h2) h3) h4) I5.1)) hk
  have hY0 := ren_at (names := names) (k := 0) hx
  refine JC_skip ?_
  refine thenQ_n ?_
  refine JC_seq ?_
  refine JC_block ?_
  refine JC_seq ?_
  refine JC_region ?_
  refine JO_q (QE_faB rfl rfl rfl rfl) rfl ?_
  refine JO_q (QE_ld1 2 rfl rfl rfl rfl rfl) rfl ?_
  refine JO_q (QE_mv rfl) rfl ?_
  refine JO_q (QE_iaN rfl rfl rfl rfl rfl rfl hk) rfl ?_
  refine JO_q (QE_ldsA rfl rfl rfl (hcx.le (Le.refl (D := D) _)) rfl) rfl ?_
  refine JO_allocZ rfl [_, _, _, _] rfl rfl ?_
  intro β7 s7 h7
  refine JO_st 0 [_, _, _, _] rfl rfl rfl rfl rfl rfl rfl rfl rfl ?_
  refine JO_nil ?_
  refine thenQ_n ?_
  refine JC_seq ?_
  refine JC_seq ?_
  refine JC_region ?_
  refine JO_q (QE_mv rfl) rfl ?_
  refine JO_q (QE_mv rfl) rfl ?_
  refine JO_q (QE_lenS rfl rfl rfl) rfl ?_
  refine JO_q (QE_lt rfl rfl) rfl ?_
  refine JO_nil ?_
  refine thenQ_n ?_
  refine JC_ifD rfl (fun c8 => ?_) (fun c8 => ?_)
  · -- c8 True
   have hkn : j < nn := by omega
   obtain ⟨b2, off2, nm, rfl, hnm, hcn, hnl2⟩ := Strs.at_ (hNm.le (Le.trans (Le.trans (Le.trans (Le.trans (Le.trans h1 h2) h3) h4) I5.1) h7)) hkn
   have hY : (ren names 0 t.ins)[j]? = some { x with name := nm } := by rw [hY0, name_in hnm]
   refine JC_region ?_
   refine JO_q (QE_mv rfl) rfl ?_
   refine JO_q (QE_mv rfl) rfl ?_
   refine JO_q (QE_ia1 rfl rfl rfl rfl rfl rfl hkn) rfl ?_
   refine JO_q (QE_ldsR0 rfl rfl rfl (hcn.le (Le.refl (D := D) _)) rfl) rfl ?_
   refine JO_q (QE_fa0 rfl rfl rfl rfl) rfl ?_
   refine JO_st 0 [_, _, _, _] rfl rfl rfl rfl rfl rfl rfl rfl rfl ?_
   refine JO_nil ?_
   refine thenQ_n ?_
   refine JC_region ?_
   refine JO_q (QE_faB rfl rfl rfl rfl) rfl ?_
   refine JO_q (QE_ld1 1 rfl rfl rfl rfl rfl) rfl ?_
   refine JO_q (QE_ldA 0 [_, _, _, _] rfl rfl rfl rfl rfl) rfl ?_
   refine JO_bs [(_, _)] [_, _, _, _] rfl rfl rfl rfl rfl rfl rfl rfl rfl ?_
   intro βn s9 h9 hcb
   refine JO_app (sz := 4) [_, _, _, _] Mj L rfl rfl rfl rfl rfl rfl rfl hOj (Row.of_cells (hcb.le (Le.refl (D := D) _)) rfl rfl) ⟨by simp [ti60]; omega, by omega⟩ rfl ?_
   intro v2 A2x s10 h10 o2
   obtain ⟨Av2, cv2, rfl, _, _⟩ := Own.slice o2
   simp only [List.cons_append, List.nil_append]
   refine JO_q (QE_faB rfl rfl rfl rfl) rfl ?_
   refine JO_st 1 [_, _] rfl rfl rfl rfl rfl rfl rfl rfl rfl ?_
   refine JO_nil ?_
   refine blockQ_n ?_
   refine thenQ_n ?_
   refine JC_region ?_
   refine JO_q (QE_mv rfl) rfl ?_
   refine JO_q (QE_add' rfl rfl (w64 (by omega) (by omega))) rfl ?_
   refine JO_q (QE_as rfl) rfl ?_
   refine JO_nil ?_
   refine thenQ_n ⟨(j + 1, .slice Av2 (j + 1) cv2, A2x, css ++ [_]), [_], (Keeps.cons rfl (Keeps.cons rfl (Keeps.cons rfl (Keeps.cons rfl (Keeps.cons rfl (Keeps.cons rfl (Keeps.cons rfl (Keeps.nil _)))))))), rfl, ⟨(Le.trans (Le.trans (Le.trans I5.1 h7) h9) h10), ⟨by simp only; omega, by simp only; rw [flat_snoc]; exact o2, by simp only; rw [ren_take hY]; exact All2.snoc (hAj.mono fun a b h => ⟨h.1, h.2.le (Le.trans (Le.trans h7 h9) h10)⟩) ⟨rfl, _, _, _, rfl, hax.le (Le.trans (Le.trans h7 h9) h10), hnl2, hcd⟩⟩⟩, (by simp only; omega)⟩
  · -- c8 False
   have hY : (ren names 0 t.ins)[j]? = some { x with name := x.name } := by rw [hY0, name_out (by omega)]
   have hnl2 := hnl
   refine JC_skip ?_
   refine thenQ_n ?_
   refine JC_region ?_
   refine JO_q (QE_faB rfl rfl rfl rfl) rfl ?_
   refine JO_q (QE_ld1 1 rfl rfl rfl rfl rfl) rfl ?_
   refine JO_q (QE_ldA 0 [_, _, _, _] rfl rfl rfl rfl rfl) rfl ?_
   refine JO_bs [(_, _)] [_, _, _, _] rfl rfl rfl rfl rfl rfl rfl rfl rfl ?_
   intro βn s11 h11 hcb
   refine JO_app (sz := 4) [_, _, _, _] Mj L rfl rfl rfl rfl rfl rfl rfl hOj (Row.of_cells (hcb.le (Le.refl (D := D) _)) rfl rfl) ⟨by simp [ti60]; omega, by omega⟩ rfl ?_
   intro v2 A2x s12 h12 o2
   obtain ⟨Av2, cv2, rfl, _, _⟩ := Own.slice o2
   simp only [List.cons_append, List.nil_append]
   refine JO_q (QE_faB rfl rfl rfl rfl) rfl ?_
   refine JO_st 1 [_, _] rfl rfl rfl rfl rfl rfl rfl rfl rfl ?_
   refine JO_nil ?_
   refine blockQ_n ?_
   refine thenQ_n ?_
   refine JC_region ?_
   refine JO_q (QE_mv rfl) rfl ?_
   refine JO_q (QE_add' rfl rfl (w64 (by omega) (by omega))) rfl ?_
   refine JO_q (QE_as rfl) rfl ?_
   refine JO_nil ?_
   refine thenQ_n ⟨(j + 1, .slice Av2 (j + 1) cv2, A2x, css ++ [_]), [_], (Keeps.cons rfl (Keeps.cons rfl (Keeps.cons rfl (Keeps.cons rfl (Keeps.cons rfl (Keeps.cons rfl (Keeps.cons rfl (Keeps.nil _)))))))), rfl, ⟨(Le.trans (Le.trans (Le.trans I5.1 h7) h11) h12), ⟨by simp only; omega, by simp only; rw [flat_snoc]; exact o2, by simp only; rw [ren_take hY]; exact All2.snoc (hAj.mono fun a b h => ⟨h.1, h.2.le (Le.trans (Le.trans h7 h11) h12)⟩) ⟨rfl, _, _, _, rfl, hax.le (Le.trans (Le.trans h7 h11) h12), hnl2, hcd⟩⟩⟩, (by simp only; omega)⟩
 · -- c6 False
  have hjn : j = n := by omega
  obtain ⟨Au, cu, rfl, ku1, ku2⟩ := Own.slice hOj
  refine JC_exit ?_
  refine thenQ_x ?_
  refine thenQ_x ?_
  refine blockQ_x ?_
  refine thenQ_n ?_
  refine JC_seq ?_
  refine JC_seq ?_
  refine JC_pubX [_, _, _] Mj _ ?_
  intro s13 h13 hpub13
  simp only [List.cons_append, List.nil_append]
  have hIu : Inss s13 Au j cu (ren names 0 t.ins) := by
    have hA2 := hAj.mono (R' := fun x cs => cs.length = 4 ∧ InsR s13 x cs) fun a b h => ⟨h.1, h.2.le h13⟩
    rw [List.take_of_length_le (by rw [ren_len]; omega)] at hA2
    exact Own.rows hOj hpub13 hA2 (by rw [ren_len]; omega)
  refine JC_region ?_
  refine JO_q (QE_ldA 2 [_, _] rfl rfl rfl rfl rfl) rfl ?_
  refine JO_call (first := []) (captured := []) rfl rfl rfl (tableFault_ac D _ _ _ _ _ _ (hA.le (Le.trans (Le.trans (Le.trans (Le.trans (Le.trans h1 h2) h3) h4) I5.1) h13))) ?_
  rintro _ _ s14 h14 ⟨rfl, rfl⟩
  refine JO_q (QE_field rfl rfl rfl rfl rfl rfl rfl rfl rfl) rfl ?_
  refine JO_q (QE_ne rfl rfl) rfl ?_
  refine JO_q (QE_mv rfl) rfl ?_
  refine JO_caseN (t := 54) rfl (fun c15 => ?_) (fun c15 => ?_)
  · -- c15 True
   refine JO_gF rfl rfl rfl rfl ?_
   refine JO_gF rfl rfl rfl rfl ?_
   refine JO_gF rfl rfl rfl rfl ?_
   refine JO_gF rfl rfl rfl rfl ?_
   refine JO_q (QE_pickT rfl rfl) rfl ?_
   refine JO_q (QE_mv rfl) rfl ?_
   refine JO_gF rfl rfl rfl rfl ?_
   refine JO_gF rfl rfl rfl rfl ?_
   refine JO_gF rfl rfl rfl rfl ?_
   refine JO_q (QE_pickT rfl rfl) rfl ?_
   refine JO_nil ?_
   refine thenQ_n ?_
   refine JC_ifT rfl ?_
   refine JC_seq ?_
   refine JC_region ?_
   refine JO_q (QE_as rfl) rfl ?_
   refine JO_nil ?_
   refine thenQ_n ?_
   refine JC_ret ?_
   refine thenQ_r ?_
   refine retQ_mk [_, _, _] L (.inr rfl) (.tmp rfl (.nil)) rfl (Le.trans (Le.trans (Le.trans (Le.trans (Le.trans (Le.trans h1 h2) h3) h4) I5.1) h13) h14) (fun sR hS2 => ?_)
   exact ⟨rfl, rfl⟩
  · -- c15 False
   refine JO_gT rfl rfl ?_
   refine JO_q (QE_ldA 0 [_, _] rfl rfl rfl rfl rfl) rfl ?_
   refine JO_gT rfl rfl ?_
   refine JO_call (first := []) (captured := []) rfl rfl rfl (tableFault_ac D _ _ ⟨t.cells, ren names 0 t.ins⟩ _ _ _ (hIu.le h14)) ?_
   rintro _ _ s16 h16 ⟨rfl, rfl⟩
   refine JO_gT rfl rfl ?_
   refine JO_q (QE_field rfl rfl rfl rfl rfl rfl rfl rfl rfl) rfl ?_
   refine JO_gT rfl rfl ?_
   refine JO_q (QE_ne rfl rfl) rfl ?_
   refine JO_q (QE_pickF rfl rfl) rfl ?_
   refine JO_q (QE_mv rfl) rfl ?_
   refine JO_caseN (t := 60) rfl (fun c17 => ?_) (fun c17 => ?_)
   · -- c17 True
    refine JO_gF rfl rfl rfl rfl ?_
    refine JO_gF rfl rfl rfl rfl ?_
    refine JO_gF rfl rfl rfl rfl ?_
    refine JO_q (QE_pickT rfl rfl) rfl ?_
    refine JO_nil ?_
    refine thenQ_n ?_
    refine JC_ifT rfl ?_
    refine JC_seq ?_
    refine JC_region ?_
    refine JO_q (QE_as rfl) rfl ?_
    refine JO_nil ?_
    refine thenQ_n ?_
    refine JC_ret ?_
    refine thenQ_r ?_
    refine retQ_mk [_, _, _] L (.inr rfl) (.tmp rfl (.nil)) rfl (Le.trans (Le.trans (Le.trans (Le.trans (Le.trans (Le.trans (Le.trans h1 h2) h3) h4) I5.1) h13) h14) h16) (fun sR hS2 => ?_)
    exact ⟨rfl, rfl⟩
   · -- c17 False
    refine JO_gT rfl rfl ?_
    refine JO_q (QE_mv rfl) rfl ?_
    refine JO_gT rfl rfl ?_
    refine JO_call (first := []) (captured := []) rfl rfl rfl (in_ac D _ _ _ _ _) ?_
    rintro _ _ s18 h18 ⟨rfl, rfl⟩
    refine JO_gT rfl rfl ?_
    refine JO_q (QE_not rfl) rfl ?_
    refine JO_q (QE_pickF rfl rfl) rfl ?_
    refine JO_nil ?_
    refine thenQ_n ?_
    refine JC_ifN rfl (fun c19 => ?_) (fun c19 => ?_)
    · -- c19 True
     refine JC_seq ?_
     refine JC_region ?_
     refine JO_q (QE_as rfl) rfl ?_
     refine JO_nil ?_
     refine thenQ_n ?_
     refine JC_ret ?_
     refine thenQ_r ?_
     refine retQ_mk [_, _, _] L (.inr rfl) (.tmp rfl (.nil)) rfl (Le.trans (Le.trans (Le.trans (Le.trans (Le.trans (Le.trans (Le.trans (Le.trans h1 h2) h3) h4) I5.1) h13) h14) h16) h18) (fun sR hS2 => ?_)
     exact ⟨rfl, rfl⟩
    · -- c19 False
     refine JC_skip ?_
     refine thenQ_n ?_
     refine JC_seq ?_
     refine JC_region ?_
     refine JO_q (QE_ldA 2 [_, _] rfl rfl rfl rfl rfl) rfl ?_
     refine JO_q (QE_ldA 1 [_, _, _, _, _, _, _, _, _, _] rfl rfl rfl rfl rfl) rfl ?_
     refine JO_q (QE_mv rfl) rfl ?_
     have hrr := runR_ren (names := names) (t := t) (by assumption) (by assumption) m k
     refine JO_call (first := []) (captured := []) rfl rfl rfl (run_ac D _ _ _ _ _ _ (hA.le (Le.trans (Le.trans (Le.trans (Le.trans (Le.trans (Le.trans (Le.trans (Le.trans h1 h2) h3) h4) I5.1) h13) h14) h16) h18)) _ _ _ _ _ _ _ _ _ _ (hAx.le (Le.trans (Le.trans (Le.trans (Le.trans (Le.trans (Le.trans (Le.trans (Le.trans h1 h2) h3) h4) I5.1) h13) h14) h16) h18)) (hBx.le (Le.trans (Le.trans (Le.trans (Le.trans (Le.trans (Le.trans (Le.trans (Le.trans h1 h2) h3) h4) I5.1) h13) h14) h16) h18)) (hOx.le (Le.trans (Le.trans (Le.trans (Le.trans (Le.trans (Le.trans (Le.trans (Le.trans h1 h2) h3) h4) I5.1) h13) h14) h16) h18)) hU k) ?_
     rintro _ _ s20 h20 ⟨rfl, _, ⟨Aa, na, ca, Ba, nBa, cBa, Oa, nOa, cOa, rfl, hAa, hBa, hOa⟩, rfl⟩
     refine JO_q (QE_mv rfl) rfl ?_
     refine JO_q (QE_ext rfl rfl) rfl ?_
     refine JO_q (QE_ext rfl rfl) rfl ?_
     refine JO_q (QE_ext rfl rfl) rfl ?_
     refine JO_allocZ rfl [_, _, _, _, _, _, _, _, _, _] rfl rfl ?_
     intro β21 s21 h21
     refine JO_allocZ rfl [_, _] rfl rfl ?_
     intro β22 s22 h22
     refine JO_st 1 [_, _, _, _, _, _, _, _, _, _] rfl rfl rfl rfl rfl rfl rfl rfl rfl ?_
     refine JO_q (QE_as rfl) rfl ?_
     refine JO_st 0 [_, _] rfl rfl rfl rfl rfl rfl rfl rfl rfl ?_
     refine JO_nil ?_
     refine thenQ_n ?_
     refine JC_seq ?_
     refine JC_region ?_
     refine JO_q (QE_ldA 2 [_, _] rfl rfl rfl rfl rfl) rfl ?_
     refine JO_q (QE_ldA 3 [_, _, _, _, _, _, _, _, _, _] rfl rfl rfl rfl rfl) rfl ?_
     refine JO_q (QE_mv rfl) rfl ?_
     refine JO_call (first := []) (captured := []) rfl rfl rfl (run_ac D _ _ ⟨t.cells, ren names 0 t.ins⟩ _ _ _ (hIu.le (Le.trans (Le.trans (Le.trans (Le.trans (Le.trans h14 h16) h18) h20) h21) h22)) _ _ _ _ _ _ _ _ _ _ (hAx.le (Le.trans (Le.trans (Le.trans (Le.trans (Le.trans (Le.trans (Le.trans (Le.trans (Le.trans (Le.trans (Le.trans h1 h2) h3) h4) I5.1) h13) h14) h16) h18) h20) h21) h22)) (hBx.le (Le.trans (Le.trans (Le.trans (Le.trans (Le.trans (Le.trans (Le.trans (Le.trans (Le.trans (Le.trans (Le.trans h1 h2) h3) h4) I5.1) h13) h14) h16) h18) h20) h21) h22)) (hOx.le (Le.trans (Le.trans (Le.trans (Le.trans (Le.trans (Le.trans (Le.trans (Le.trans (Le.trans (Le.trans (Le.trans h1 h2) h3) h4) I5.1) h13) h14) h16) h18) h20) h21) h22)) hU k) ?_
     rintro _ _ s23 h23 ⟨rfl, _, ⟨Ab, nb, cb, Bb, nBb, cBb, Ob, nOb, cOb, rfl, hAb, hBb, hOb⟩, rfl⟩
     refine JO_q (QE_mv rfl) rfl ?_
     refine JO_q (QE_ext rfl rfl) rfl ?_
     refine JO_q (QE_ext rfl rfl) rfl ?_
     refine JO_q (QE_ext rfl rfl) rfl ?_
     refine JO_allocZ rfl [_, _, _, _, _, _, _, _, _, _] rfl rfl ?_
     intro β24 s24 h24
     refine JO_allocZ rfl [_, _] rfl rfl ?_
     intro β25 s25 h25
     refine JO_st 1 [_, _, _, _, _, _, _, _, _, _] rfl rfl rfl rfl rfl rfl rfl rfl rfl ?_
     refine JO_q (QE_as rfl) rfl ?_
     refine JO_st 0 [_, _] rfl rfl rfl rfl rfl rfl rfl rfl rfl ?_
     refine JO_nil ?_
     refine thenQ_n ?_
     refine JC_seq ?_
     refine JC_region ?_
     refine JO_q (QE_ldA 2 [_, _] rfl rfl rfl rfl rfl) rfl ?_
     refine JO_q (QE_ldA 0 [_, _] rfl rfl rfl rfl rfl) rfl ?_
     refine JO_q (QE_cast (v' := .bool true) (QE_aeq rfl rfl (eqFault _ _ _ _)) (bT (by rw [hrr]; exact ⟨rfl, rfl⟩))) rfl ?_
     refine JO_q (QE_mv rfl) rfl ?_
     refine JO_gT rfl rfl ?_
     refine JO_q (QE_mv rfl) rfl ?_
     refine JO_gT rfl rfl ?_
     refine JO_q (QE_mv rfl) rfl ?_
     refine JO_gT rfl rfl ?_
     refine JO_q (QE_cast (v' := .bool true) (QE_eq rfl rfl) (bT (by rw [hrr]))) rfl ?_
     refine JO_q (QE_pickT rfl rfl) rfl ?_
     refine JO_q (QE_mv rfl) rfl ?_
     refine JO_gT rfl rfl ?_
     refine JO_q (QE_ldA 3 [_, _, _, _, _, _, _, _, _, _] rfl rfl rfl rfl rfl) rfl ?_
     refine JO_gT rfl rfl ?_
     refine JO_q (QE_ldA 1 [_, _, _, _, _, _, _, _, _, _] rfl rfl rfl rfl rfl) rfl ?_
     refine JO_gT rfl rfl ?_
     refine JO_call (first := []) (captured := []) rfl rfl rfl (AC.isT (sameState_ac D _ _ (runR t m k).1 _ _ _ _ _ _ _ _ _ (hAa.le (Le.trans (Le.trans (Le.trans (Le.trans h21 h22) h23) h24) h25)) (hBa.le (Le.trans (Le.trans (Le.trans (Le.trans h21 h22) h23) h24) h25)) (hOa.le (Le.trans (Le.trans (Le.trans (Le.trans h21 h22) h23) h24) h25)) (runR ⟨t.cells, ren names 0 t.ins⟩ m k).1 _ _ _ _ _ _ _ _ _ (hAb.le (Le.trans h24 h25)) (hBb.le (Le.trans h24 h25)) (hOb.le (Le.trans h24 h25))) (by rw [hrr])) ?_
     rintro _ _ s26 h26 ⟨rfl, rfl⟩
     refine JO_q (QE_pickT rfl rfl) rfl ?_
     refine JO_q (QE_as rfl) rfl ?_
     refine JO_nil ?_
     refine thenQ_n ?_
     refine JC_ret ?_
     refine retQ_mk [_, _, _, _, _, _, _] L (.inr rfl) (.tmp rfl (.nil)) rfl (Le.trans (Le.trans (Le.trans (Le.trans (Le.trans (Le.trans (Le.trans (Le.trans (Le.trans (Le.trans (Le.trans (Le.trans (Le.trans (Le.trans (Le.trans h1 h2) h3) h4) I5.1) h13) h14) h16) h18) h20) h21) h22) h23) h24) h25) h26) (fun sR hS2 => ?_)
     exact ⟨rfl, rfl⟩
end Go.Proofs.Ytpjnphonanbopaa
