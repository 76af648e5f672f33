/- The reference: steps and runs. -/
import Derived.Test.YtpjnphonanbopaaV10
namespace Go.Proofs.Ytpjnphonanbopaa
open Go.FL
attribute [local irreducible] JC JO JA JB thenQ blockQ retQ AC fill CellsAt QE Ev Mid

theorem StO.list {m : Mst} {zs : List Value} {M : Hl} {s : World} (h : StO m (.agg zs.toArray) M s) : ∃ bc cc yc O Ao co Ai ni ci, zs = [.slice (some ⟨bc, 0, none⟩) m.cells.length cc, .int .u32 m.r0, .int .u32 m.r1, .int .u32 m.r2, .int .u32 m.r3, .int .u32 m.r4, .slice Ai ni ci, .slice Ao m.output.length co, .int .i64 m.stop, .int .u32 m.code]
  ∧ M = (bc, cb (wv m.cells ++ yc) 26) :: O ∧ Own 5 1 O (.slice Ao m.output.length co) m.output.length (bv m.output) ∧ Bts s Ai ni ci m.input ∧ m.cells.length + yc.length = cc ∧ cc ≤ 9223372036854775807 := by
  obtain ⟨bc, cc, yc, O, Ao, co, Ai, ni, ci, h1, h2⟩ := h
  refine ⟨bc, cc, yc, O, Ao, co, Ai, ni, ci, ?_, h2⟩
  injection h1 with h1
  have := congrArg Array.toList h1
  simpa using this
theorem StO.le {D : Nat} {m : Mst} {v : Value} {M : Hl} {s s' : World} (h : StO m v M s) (hl : Le D s s') : StO m v M s' := by
  obtain ⟨bc, cc, yc, O, Ao, co, Ai, ni, ci, h1, h2, h3, h4, h5⟩ := h
  exact ⟨bc, cc, yc, O, Ao, co, Ai, ni, ci, h1, h2, h3, h4.le hl, h5⟩
theorem acts_next {m mk : Mst} {t : Tab} {op : Int} {l : List Ac} {k : Nat} {a : Ac} (h : l[k]? = some a) (hs : stepM t m = actsM mk op (l.drop k)) :
    ((actM mk a op).stop = 0 → stepM t m = actsM (actM mk a op) op (l.drop (k + 1))) ∧ (¬ (actM mk a op).stop = 0 → stepM t m = actM mk a op) :=
  ⟨fun h0 => by rw [hs, acts_go h h0], fun h0 => by rw [hs, acts_halt h h0]⟩

set_option maxHeartbeats 4000000 in
set_option maxRecDepth 100000 in
theorem stepped_ac (D : Nat) (L : Hl) (s : World) (t : Tab) (A : Option Addr) (n c : Nat) (hA : Inss s A n c t.ins) (m : Mst) (v : Value) (M : Hl) (hM : StO m v M s) (hG : TabG t) (hok : MOK m) (hst : m.stop = 0) : AC Try.prog D 35 [.agg #[.int .i64 t.cells, .slice A n c], v] (M ++ L) s fun v L' s' => ∃ M', L' = M' ++ L ∧ StO (stepM t m) v M' s' := by
 obtain ⟨bc, cc, yc, O, Ao, co, Ai, ni, ci, rfl, rfl, hO, hI, hcc, hcc2⟩ := hM
 have hr1 := hok.u4.1
 have hr2 := hok.u4.2
 have hnc := hok.cells
 have hn := hA.1
 have hc1 := hA.2.1
 have hc2 := hA.2.2.1
 simp only [List.cons_append]
 refine AC_enter (TT := TT) (fn := Try.f35) TT_ok Try.func35 (by kernel_rfl) rfl Try.ntmps35 rfl (rs := [.cell 4 30]) rfl [(0, _), (1, _)] rfl ?_
 refine JC_seq ?_
 refine JC_region ?_
 refine JO_boxA rfl rfl ?_
 intro β1 s1 h1
 refine JO_boxA rfl rfl ?_
 intro β2 s2 h2
 refine JO_allocZ rfl [_, _, _, _, _, _, _, _, _, _] rfl rfl ?_
 intro β3 s3 h3
 refine JO_nil ?_
 refine thenQ_n ?_
 refine JC_seq ?_
 refine JC_region ?_
 refine JO_q (QE_faB rfl rfl rfl rfl) rfl ?_
 refine JO_q (QE_iaL (sz := 1) 4 rfl rfl rfl rfl rfl rfl (by decide)) rfl ?_
 refine JO_q (QE_ld1 1 rfl rfl rfl rfl rfl) rfl ?_
 refine JO_q (QE_conv' rfl rfl rfl rfl rfl (w64 (by omega) (by omega))) rfl ?_
 refine JO_q (QE_as rfl) rfl ?_
 refine JO_nil ?_
 refine thenQ_n ?_
 refine JC_seq ?_
 refine JC_seq ?_
 refine JC_region ?_
 refine JO_q (QE_mv rfl) rfl ?_
 refine JO_q (QE_fa0 rfl rfl rfl rfl) rfl ?_
 refine JO_q (QE_ld1 1 rfl rfl rfl rfl rfl) rfl ?_
 refine JO_q (QE_lenS rfl rfl rfl) rfl ?_
 refine JO_q (QE_ge rfl rfl) rfl ?_
 refine JO_nil ?_
 refine thenQ_n ?_
 refine JC_ifD rfl (fun c4 => ?_) (fun c4 => ?_)
 ·
  have hfar : ¬ m.r4 < (m.cells.length : Int) := by omega
  refine JC_seq ?_
  refine JC_region ?_
  refine JO_q (QE_faB rfl rfl rfl rfl) rfl ?_
  refine JO_st 1 [_, _, _, _, _, _, _, _, _, _] rfl rfl rfl rfl rfl rfl rfl rfl rfl ?_
  refine JO_nil ?_
  refine thenQ_n ?_
  refine JC_seq ?_
  refine JC_region ?_
  refine JO_q (QE_ldA 1 [_, _, _, _, _, _, _, _, _, _] rfl rfl rfl rfl rfl) rfl ?_
  refine JO_st 0 [_, _, _, _, _, _, _, _, _, _] rfl rfl rfl rfl rfl rfl rfl rfl rfl ?_
  refine JO_nil ?_
  refine thenQ_n ?_
  refine JC_ret ?_
  refine thenQ_r ?_
  refine retQ_mk [_, _, _] _ (.inr rfl) (.agg (us := [_, _, _, _, _, _, _, _, _, _]) 0 rfl rfl rfl rfl rfl (.nil)) rfl (Le.trans (Le.trans h1 h2) h3) (fun sR hS2 => ?_)
  refine ⟨_ :: O, rfl, ?_⟩
  rw [step_far hfar]; exact ⟨bc, cc, yc, O, Ao, co, Ai, ni, ci, rfl, rfl, hO, hI.le (Le.trans (Le.trans (Le.trans h1 h2) h3) hS2), hcc, hcc2⟩
 ·
  have hfar : m.r4 < (m.cells.length : Int) := by omega
  refine JC_skip ?_
  refine thenQ_n ?_
  refine JC_seq ?_
  refine JC_region ?_
  refine JO_q (QE_as rfl) rfl ?_
  refine JO_nil ?_
  refine thenQ_n ?_
  refine JC_seq ?_
  refine JC_seq ?_
  refine JC_region ?_
  refine JO_q (QE_as rfl) rfl ?_
  refine JO_nil ?_
  refine thenQ_n ?_
  refine JC_block ?_
  refine JC_loop (γ := Nat) (fun i => [(2, _), (3, _), (4, _), (5, _), (6, _), (7, .int .i64 (i : Int))]) (fun _ => _) (fun i tw => Le D s3 tw ∧ (i ≤ n ∧ ∀ j x, j < i → t.ins[j]? = some x → x.code ≠ m.cells.getD m.r4.toNat 0)) (fun i => n - i) (fun _ _ _ h hl => ⟨h.1.trans hl, h.2⟩) 0 (Keeps.cons rfl (Keeps.cons rfl (Keeps.cons rfl (Keeps.cons rfl (Keeps.cons rfl (Keeps.cons rfl (Keeps.nil _))))))) rfl ⟨Le.refl _, ⟨Nat.zero_le _, fun j x hj => by omega⟩⟩ ?_
  intro i s5 I5
  have hi0 := I5.2.1
  have hI0 := I5.2.2
  refine JC_seq ?_
  refine JC_seq ?_
  refine JC_region ?_
  refine JO_q (QE_mv rfl) rfl ?_
  refine JO_q (QE_faB rfl rfl rfl rfl) rfl ?_
  refine JO_q (QE_ld1 2 rfl rfl rfl rfl rfl) rfl ?_
  refine JO_q (QE_lenS rfl rfl rfl) rfl ?_
  refine JO_q (QE_lt rfl rfl) rfl ?_
  refine JO_nil ?_
  refine thenQ_n ?_
  refine JC_ifD rfl (fun c6 => ?_) (fun c6 => ?_)
  ·
   have hk : i < n := by omega
   obtain ⟨b, off, x, A', n', c', rfl, hx, hcx, hax, _, _⟩ := Inss.at_ (hA.le (Le.trans (Le.trans (Le.trans h1 h2) h3) I5.1)) hk
   have hn' := hax.1
   have hfew := hG.few _ _ hx
   refine JC_skip ?_
   refine thenQ_n ?_
   refine JC_seq ?_
   refine JC_block ?_
   refine JC_seq ?_
   refine JC_draw drawsMixed 12 rfl _ (fun _ h => h) ?_
   intro s7 h7
   refine JA_q 0 rfl (by kernel_rfl) (by kernel_rfl) (by kernel_rfl) trivial (QE_faB rfl rfl rfl rfl) rfl ?_
   refine JA_q 1 rfl (by kernel_rfl) (by kernel_rfl) (by kernel_rfl) trivial (QE_ld1 2 rfl rfl rfl rfl rfl) rfl ?_
   refine JA_q 2 rfl (by kernel_rfl) (by kernel_rfl) (by kernel_rfl) trivial (QE_mv rfl) rfl ?_
   refine JA_q 3 rfl (by kernel_rfl) (by kernel_rfl) (by kernel_rfl) trivial (QE_iaN rfl rfl rfl rfl rfl rfl hk) rfl ?_
   refine JA_q 4 rfl (by kernel_rfl) (by kernel_rfl) (by kernel_rfl) trivial (QE_fa rfl rfl rfl rfl) rfl ?_
   refine JA_q 5 rfl (by kernel_rfl) (by kernel_rfl) (by kernel_rfl) trivial (QE_ldsR 1 rfl rfl rfl (hcx.le h7) rfl) rfl ?_
   refine JA_q 6 rfl (by kernel_rfl) (by kernel_rfl) (by kernel_rfl) trivial (QE_fa0 rfl rfl rfl rfl) rfl ?_
   refine JA_q 7 rfl (by kernel_rfl) (by kernel_rfl) (by kernel_rfl) trivial (QE_ld1 1 rfl rfl rfl rfl rfl) rfl ?_
   refine JA_q 8 rfl (by kernel_rfl) (by kernel_rfl) (by kernel_rfl) trivial (QE_mv rfl) rfl ?_
   refine JA_q 9 rfl (by kernel_rfl) (by kernel_rfl) (by kernel_rfl) trivial (QE_iaS rfl rfl rfl rfl rfl rfl hr1 hfar) rfl ?_
   refine JA_q 10 rfl (by kernel_rfl) (by kernel_rfl) (by kernel_rfl) trivial (QE_ld1 3 rfl rfl rfl rfl (nth_wv0 hr1 hfar)) rfl ?_
   refine JA_q 11 rfl (by kernel_rfl) (by kernel_rfl) (by kernel_rfl) trivial (QE_eq rfl rfl) rfl ?_
   refine JA_done (by kernel_rfl) ?_
   refine thenQ_n ?_
   refine JC_ifD rfl (fun c8 => ?_) (fun c8 => ?_)
   ·
    have hxc : x.code = m.cells.getD m.r4.toNat 0 := c8
    have hfi := findI_some hG hx hxc
    refine JC_seq ?_
    refine JC_region ?_
    refine JO_q (QE_mv rfl) rfl ?_
    refine JO_q (QE_as rfl) rfl ?_
    refine JO_nil ?_
    refine thenQ_n ?_
    refine JC_exit ?_
    refine blockQ_xo rfl ?_
    refine thenQ_x ?_
    refine thenQ_x ?_
    refine blockQ_x ?_
    refine thenQ_n ?_
    refine JC_seq ?_
    refine JC_seq ?_
    refine JC_region ?_
    refine JO_q (QE_mv rfl) rfl ?_
    refine JO_q (QE_lt rfl rfl) rfl ?_
    refine JO_nil ?_
    refine thenQ_n ?_
    refine JC_ifD rfl (fun c9 => ?_) (fun c9 => ?_)
    ·
     exfalso; omega --end
    ·
     refine JC_skip ?_
     refine thenQ_n ?_
     refine JC_seq ?_
     refine JC_region ?_
     refine JO_q (QE_faB rfl rfl rfl rfl) rfl ?_
     refine JO_q (QE_ld1 2 rfl rfl rfl rfl rfl) rfl ?_
     refine JO_q (QE_mv rfl) rfl ?_
     refine JO_q (QE_iaN rfl rfl rfl rfl rfl rfl hk) rfl ?_
     refine JO_q (QE_ldsA rfl rfl rfl (hcx.le h7) rfl) rfl ?_
     refine JO_allocZ rfl [_, _, _, _] rfl rfl ?_
     intro β10 s10 h10
     refine JO_st 0 [_, _, _, _] rfl rfl rfl rfl rfl rfl rfl rfl rfl ?_
     refine JO_nil ?_
     refine thenQ_n ?_
     refine JC_seq ?_
     refine JC_region ?_
     refine JO_q (QE_as rfl) rfl ?_
     refine JO_nil ?_
     refine thenQ_n ?_
     refine JC_seq ?_
     refine JC_region ?_
     refine JO_q (QE_mv rfl) rfl ?_
     refine JO_q (QE_add' rfl rfl (w64 (by omega) (by omega))) rfl ?_
     refine JO_q (QE_as rfl) rfl ?_
     refine JO_nil ?_
     refine thenQ_n ?_
     refine JC_seq ?_
     refine JC_seq ?_
     refine JC_region ?_
     refine JO_q (QE_faB rfl rfl rfl rfl) rfl ?_
     refine JO_q (QE_ld1 0 rfl rfl rfl rfl rfl) rfl ?_
     refine JO_nil ?_
     refine thenQ_n ?_
     refine JC_if rfl (fun c11 => ?_) (fun c11 => ?_)
     ·
      have hopd := c11
      refine JC_seq ?_
      refine JC_seq ?_
      refine JC_region ?_
      refine JO_q (QE_mv rfl) rfl ?_
      refine JO_q (QE_fa0 rfl rfl rfl rfl) rfl ?_
      refine JO_q (QE_ld1 2 rfl rfl rfl rfl rfl) rfl ?_
      refine JO_q (QE_lenS rfl rfl rfl) rfl ?_
      refine JO_q (QE_eq rfl rfl) rfl ?_
      refine JO_nil ?_
      refine thenQ_n ?_
      refine JC_ifD rfl (fun c12 => ?_) (fun c12 => ?_)
      ·
       have hnext : ¬ m.r4 + 1 < (m.cells.length : Int) := by omega
       refine JC_seq ?_
       refine JC_region ?_
       refine JO_q (QE_faB rfl rfl rfl rfl) rfl ?_
       refine JO_st 2 [_, _, _, _, _, _, _, _, _, _] rfl rfl rfl rfl rfl rfl rfl rfl rfl ?_
       refine JO_nil ?_
       refine thenQ_n ?_
       refine JC_seq ?_
       refine JC_region ?_
       refine JO_q (QE_ldA 2 [_, _, _, _, _, _, _, _, _, _] rfl rfl rfl rfl rfl) rfl ?_
       refine JO_st 1 [_, _, _, _, _, _, _, _, _, _] rfl rfl rfl rfl rfl rfl rfl rfl rfl ?_
       refine JO_nil ?_
       refine thenQ_n ?_
       refine JC_ret ?_
       refine thenQ_r ?_
       refine thenQ_r ?_
       refine retQ_mk [_, _, _, _] _ (.inr rfl) (.agg (us := [_, _, _, _, _, _, _, _, _, _]) 1 rfl rfl rfl rfl rfl (.nil)) rfl (Le.trans (Le.trans (Le.trans (Le.trans (Le.trans h1 h2) h3) I5.1) h7) h10) (fun sR hS2 => ?_)
       refine ⟨_ :: O, rfl, ?_⟩
       rw [step_end hfar hfi hopd hnext]; exact ⟨bc, cc, yc, O, Ao, co, Ai, ni, ci, rfl, rfl, hO, hI.le (Le.trans (Le.trans (Le.trans (Le.trans (Le.trans (Le.trans h1 h2) h3) I5.1) h7) h10) hS2), hcc, hcc2⟩
      ·
       have hnext : m.r4 + 1 < (m.cells.length : Int) := by omega
       refine JC_skip ?_
       refine thenQ_n ?_
       refine JC_seq ?_
       refine JC_region ?_
       refine JO_q (QE_fa0 rfl rfl rfl rfl) rfl ?_
       refine JO_q (QE_ld1 2 rfl rfl rfl rfl rfl) rfl ?_
       refine JO_q (QE_mv rfl) rfl ?_
       refine JO_q (QE_iaS rfl rfl rfl rfl rfl rfl (by omega) hnext) rfl ?_
       refine JO_q (QE_ld1 4 rfl rfl rfl rfl (nth_wv0 (by omega) hnext)) rfl ?_
       refine JO_q (QE_as rfl) rfl ?_
       refine JO_nil ?_
       refine thenQ_n ?_
       refine JC_region ?_
       refine JO_q (QE_mv rfl) rfl ?_
       refine JO_q (QE_add' rfl rfl (show IntKind.i64.wrap (m.r4 + 1 + 1) = m.r4 + 2 by rw [w64 (by omega) (by omega)]; omega)) rfl ?_
       refine JO_q (QE_as rfl) rfl ?_
       refine JO_nil ?_
       refine thenQ_n ?_
       refine JC_seq ?_
       refine JC_region ?_
       refine JO_q (QE_mv rfl) rfl ?_
       refine JO_q (QE_conv' rfl rfl rfl rfl rfl (w32_in (by omega) (by omega))) rfl ?_
       refine JO_q (QE_faB rfl rfl rfl rfl) rfl ?_
       refine JO_q (QE_iaL (sz := 1) 4 rfl rfl rfl rfl rfl rfl (by decide)) rfl ?_
       refine JO_st 2 [_, _, _, _, _, _, _, _, _, _] rfl rfl rfl rfl rfl rfl rfl rfl rfl ?_
       refine JO_nil ?_
       refine thenQ_n ?_
       refine JC_seq ?_
       refine JC_seq ?_
       refine JC_region ?_
       refine JO_q (QE_as rfl) rfl ?_
       refine JO_nil ?_
       refine thenQ_n ?_
       refine JC_block ?_
       refine JC_loopX [_, _] (γ := Nat × Mst × Int × List Value × Hl) (fun g => [(3, _), (4, _), (8, _), (9, .int .u32 g.2.2.1), (11, .int .i64 (g.1 : Int))]) (fun g => (β2, cb g.2.2.2.1 30) :: (β1, cb [.int .i64 t.cells, .slice (some ⟨b, off, none⟩) n c] 24) :: (g.2.2.2.2 ++ L)) (fun g tw => Le D s10 tw ∧ (g.1 ≤ n' ∧ StO g.2.1 (.agg g.2.2.2.1.toArray) g.2.2.2.2 tw ∧ MOK g.2.1 ∧ U32 g.2.2.1 ∧ (g.2.1.stop = 0 → stepM t m = actsM g.2.1 g.2.2.1 (x.acts.drop g.1)) ∧ (¬ g.2.1.stop = 0 → stepM t m = g.2.1))) (fun g => n' - g.1) (fun _ _ _ h hl => ⟨h.1.trans hl, by obtain ⟨_, k1, k2, k3⟩ := h; exact ⟨k1, k2.le hl, k3⟩⟩) (0, { m with r4 := m.r4 + 2 }, m.cells.getD (m.r4 + 1).toNat 0, [_, _, _, _, _, _, _, _, _, _], _ :: O) (Keeps.cons rfl (Keeps.cons rfl (Keeps.cons rfl (Keeps.cons rfl (Keeps.cons rfl (Keeps.nil _)))))) rfl ⟨Le.refl _, ⟨Nat.zero_le _, ⟨bc, cc, yc, O, Ao, co, Ai, ni, ci, rfl, rfl, hO, hI.le (Le.trans (Le.trans (Le.trans (Le.trans (Le.trans h1 h2) h3) I5.1) h7) h10), hcc, hcc2⟩, r4_ok hok (by constructor <;> omega), by first | exact U32_zero | exact getD_u32 hok.wide _, fun _ => by first | exact step_op hfar hfi hopd hnext | exact step_no hfar hfi hopd (fun a ha => (hG.acts _ _ _ hx ha).2 hopd) _, fun h => absurd hst h⟩⟩ ?_
       intro g s13 I13
       simp only [List.cons_append, List.nil_append]
       obtain ⟨k, mk, opk, zk, Mk⟩ := g
       obtain ⟨hk0, hSt1, hok1, hop1, hgo, hhalt⟩ := I13.2
       simp only at hk0 hSt1 hok1 hop1 hgo hhalt
       obtain ⟨bc1, cc1, yc1, O1, Ao1, co1, Ai1, ni1, ci1, hz1, hM1, hO1, hI1, hcc1, hcc21⟩ := StO.list hSt1
       subst hz1
       subst hM1
       simp only [List.cons_append]
       refine JC_seq ?_
       refine JC_seq ?_
       refine JC_region ?_
       refine JO_q (QE_mv rfl) rfl ?_
       refine JO_q (QE_faB rfl rfl rfl rfl) rfl ?_
       refine JO_q (QE_ld1 0 rfl rfl rfl rfl rfl) rfl ?_
       refine JO_q (QE_lenS rfl rfl rfl) rfl ?_
       refine JO_q (QE_lt rfl rfl) rfl ?_
       refine JO_q (QE_mv rfl) rfl ?_
       refine JO_caseD (t := 79) rfl (fun c14 => ?_) (fun c14 => ?_)
       ·
        refine JO_gT rfl rfl ?_
        refine JO_q (QE_faB rfl rfl rfl rfl) rfl ?_
        refine JO_gT rfl rfl ?_
        refine JO_q (QE_ld1 2 rfl rfl rfl rfl rfl) rfl ?_
        refine JO_gT rfl rfl ?_
        refine JO_q (QE_eq rfl rfl) rfl ?_
        refine JO_q (QE_pickT rfl rfl) rfl ?_
        refine JO_nil ?_
        refine thenQ_n ?_
        refine JC_ifD rfl (fun c15 => ?_) (fun c15 => ?_)
        ·
         have hs1 : mk.stop = 0 := c15
         have hk1 : k < n' := by omega
         obtain ⟨b2, off2, a, rfl, ha, hca, hau⟩ := Acs.at_ (hax.le (Le.trans (Le.trans h7 h10) I13.1)) hk1
         have hacOK := hG.acts _ _ _ hx (List.mem_of_getElem? ha)
         refine JC_skip ?_
         refine thenQ_n ?_
         refine JC_seq ?_
         refine JC_block ?_
         refine JC_drawT drawsMixed 9 rfl 2 ?_
         intro s16 h16
         refine JA_q 1 rfl (by kernel_rfl) (by kernel_rfl) (by kernel_rfl) trivial (QE_faB rfl rfl rfl rfl) rfl ?_
         refine JA_q 2 rfl (by kernel_rfl) (by kernel_rfl) (by kernel_rfl) trivial (QE_ld1 0 rfl rfl rfl rfl rfl) rfl ?_
         refine JA_q 3 rfl (by kernel_rfl) (by kernel_rfl) (by kernel_rfl) trivial (QE_mv rfl) rfl ?_
         refine JA_q 4 rfl (by kernel_rfl) (by kernel_rfl) (by kernel_rfl) trivial (QE_iaN rfl rfl rfl rfl rfl rfl hk1) rfl ?_
         refine JA_q 5 rfl (by kernel_rfl) (by kernel_rfl) (by kernel_rfl) trivial (QE_ldsA rfl rfl rfl (hca.le h16) rfl) rfl ?_
         refine JA_q 6 rfl (by kernel_rfl) (by kernel_rfl) (by kernel_rfl) trivial (QE_mv rfl) rfl ?_
         refine JA_1 0 (by kernel_rfl) ?_
         refine JB_q rfl trivial (QE_ldA 2 [_, _, _, _, _, _, _, _, _, _] rfl rfl rfl rfl rfl) rfl ?_
         refine JA_1 7 (by kernel_rfl) ?_
         refine JB_call rfl trivial (first := []) (captured := []) rfl rfl rfl (AC.mid [_, _, _, _] (_ :: O1) L (acted_ac D _ _ mk _ _ ⟨bc1, cc1, yc1, O1, Ao1, co1, Ai1, ni1, ci1, rfl, rfl, hO1, hI1.le h16, hcc1, hcc21⟩ opk a hok1 hop1 hacOK.1)) ?_
         rintro _ _ s17 h17 ⟨M2, rfl, bc2, cc2, yc2, O2, Ao2, co2, Ai2, ni2, ci2, rfl, hM2, hO2, hI2, hcc22, hcc23⟩
         refine ⟨(fun x hx _ => sub_mem (sbY (sbY (sb0 _))) hx), ?_⟩
         have hSt2 : StO (actM mk a opk) _ M2 s17 := ⟨bc2, cc2, yc2, O2, Ao2, co2, Ai2, ni2, ci2, rfl, hM2, hO2, hI2, hcc22, hcc23⟩
         simp only [List.cons_append, List.nil_append]
         refine JA_1 8 (by kernel_rfl) ?_
         refine JB_st rfl trivial 2 [_, _, _, _, _, _, _, _, _, _] rfl rfl rfl rfl rfl rfl rfl rfl rfl (fun _ hx => sub_mem (sbY (sbY (sb0 _))) hx) ?_
         refine JA_done (by kernel_rfl) ?_
         refine blockQ_n ?_
         refine thenQ_n ?_
         refine JC_region ?_
         refine JO_q (QE_mv rfl) rfl ?_
         refine JO_q (QE_add' rfl rfl (w64 (by omega) (by omega))) rfl ?_
         refine JO_q (QE_as rfl) rfl ?_
         refine JO_nil ?_
         refine thenQ_n ⟨(k + 1, actM mk a opk, opk, _, M2), [], (Keeps.cons rfl (Keeps.cons rfl (Keeps.cons rfl (Keeps.cons rfl (Keeps.cons rfl (Keeps.nil _)))))), rfl, ⟨(Le.trans (Le.trans I13.1 h16) h17), ⟨by omega, hSt2.le (Le.refl (D := D) _), act_ok hok1 hacOK.1 hop1, hop1, (acts_next ha (hgo hs1)).1, (acts_next ha (hgo hs1)).2⟩⟩, (by simp only; omega)⟩
        ·
         have hfin : stepM t m = mk := by
           by_cases h0 : mk.stop = 0
           · rw [hgo h0, acts_done (by first | omega | exact absurd h0 c15)]
           · exact hhalt h0
         refine JC_exit ?_
         refine thenQ_x ?_
         refine thenQ_x ?_
         refine blockQ_x ?_
         refine thenQ_n ?_
         refine JC_seq ?_
         refine JC_region ?_
         refine JO_q (QE_ldA 2 [_, _, _, _, _, _, _, _, _, _] rfl rfl rfl rfl rfl) rfl ?_
         refine JO_st 1 [_, _, _, _, _, _, _, _, _, _] rfl rfl rfl rfl rfl rfl rfl rfl rfl ?_
         refine JO_nil ?_
         refine thenQ_n ?_
         refine JC_ret ?_
         refine retQ_mk [_, _, _, _] _ (.inr rfl) (.agg (us := [_, _, _, _, _, _, _, _, _, _]) 1 rfl rfl rfl rfl rfl (.nil)) rfl (Le.trans (Le.trans (Le.trans (Le.trans (Le.trans (Le.trans h1 h2) h3) I5.1) h7) h10) I13.1) (fun sR hS2 => ?_)
         refine ⟨_ :: O1, rfl, ?_⟩
         rw [hfin]; exact ⟨bc1, cc1, yc1, O1, Ao1, co1, Ai1, ni1, ci1, rfl, rfl, hO1, hI1.le (Le.trans (Le.refl (D := D) _) hS2), hcc1, hcc21⟩
       ·
        refine JO_gF rfl rfl rfl rfl ?_
        refine JO_gF rfl rfl rfl rfl ?_
        refine JO_gF rfl rfl rfl rfl ?_
        refine JO_q (QE_pickF rfl rfl) rfl ?_
        refine JO_nil ?_
        refine thenQ_n ?_
        refine JC_ifF rfl ?_
        have hfin : stepM t m = mk := by
          by_cases h0 : mk.stop = 0
          · rw [hgo h0, acts_done (by first | omega | exact absurd h0 trivial)]
          · exact hhalt h0
        refine JC_exit ?_
        refine thenQ_x ?_
        refine thenQ_x ?_
        refine blockQ_x ?_
        refine thenQ_n ?_
        refine JC_seq ?_
        refine JC_region ?_
        refine JO_q (QE_ldA 2 [_, _, _, _, _, _, _, _, _, _] rfl rfl rfl rfl rfl) rfl ?_
        refine JO_st 1 [_, _, _, _, _, _, _, _, _, _] rfl rfl rfl rfl rfl rfl rfl rfl rfl ?_
        refine JO_nil ?_
        refine thenQ_n ?_
        refine JC_ret ?_
        refine retQ_mk [_, _, _, _] _ (.inr rfl) (.agg (us := [_, _, _, _, _, _, _, _, _, _]) 1 rfl rfl rfl rfl rfl (.nil)) rfl (Le.trans (Le.trans (Le.trans (Le.trans (Le.trans (Le.trans h1 h2) h3) I5.1) h7) h10) I13.1) (fun sR hS2 => ?_)
        refine ⟨_ :: O1, rfl, ?_⟩
        rw [hfin]; exact ⟨bc1, cc1, yc1, O1, Ao1, co1, Ai1, ni1, ci1, rfl, rfl, hO1, hI1.le (Le.trans (Le.refl (D := D) _) hS2), hcc1, hcc21⟩
     ·
      have hopd := c11
      refine JC_skip ?_
      refine thenQ_n ?_
      refine JC_seq ?_
      refine JC_region ?_
      refine JO_q (QE_mv rfl) rfl ?_
      refine JO_q (QE_conv' rfl rfl rfl rfl rfl (w32_in (by omega) (by omega))) rfl ?_
      refine JO_q (QE_faB rfl rfl rfl rfl) rfl ?_
      refine JO_q (QE_iaL (sz := 1) 4 rfl rfl rfl rfl rfl rfl (by decide)) rfl ?_
      refine JO_st 2 [_, _, _, _, _, _, _, _, _, _] rfl rfl rfl rfl rfl rfl rfl rfl rfl ?_
      refine JO_nil ?_
      refine thenQ_n ?_
      refine JC_seq ?_
      refine JC_seq ?_
      refine JC_region ?_
      refine JO_q (QE_as rfl) rfl ?_
      refine JO_nil ?_
      refine thenQ_n ?_
      refine JC_block ?_
      refine JC_loopX [_, _] (γ := Nat × Mst × Int × List Value × Hl) (fun g => [(3, _), (4, _), (8, _), (9, .int .u32 g.2.2.1), (11, .int .i64 (g.1 : Int))]) (fun g => (β2, cb g.2.2.2.1 30) :: (β1, cb [.int .i64 t.cells, .slice (some ⟨b, off, none⟩) n c] 24) :: (g.2.2.2.2 ++ L)) (fun g tw => Le D s10 tw ∧ (g.1 ≤ n' ∧ StO g.2.1 (.agg g.2.2.2.1.toArray) g.2.2.2.2 tw ∧ MOK g.2.1 ∧ U32 g.2.2.1 ∧ (g.2.1.stop = 0 → stepM t m = actsM g.2.1 g.2.2.1 (x.acts.drop g.1)) ∧ (¬ g.2.1.stop = 0 → stepM t m = g.2.1))) (fun g => n' - g.1) (fun _ _ _ h hl => ⟨h.1.trans hl, by obtain ⟨_, k1, k2, k3⟩ := h; exact ⟨k1, k2.le hl, k3⟩⟩) (0, { m with r4 := m.r4 + 1 }, 0, [_, _, _, _, _, _, _, _, _, _], _ :: O) (Keeps.cons rfl (Keeps.cons rfl (Keeps.cons rfl (Keeps.cons rfl (Keeps.cons rfl (Keeps.nil _)))))) rfl ⟨Le.refl _, ⟨Nat.zero_le _, ⟨bc, cc, yc, O, Ao, co, Ai, ni, ci, rfl, rfl, hO, hI.le (Le.trans (Le.trans (Le.trans (Le.trans (Le.trans h1 h2) h3) I5.1) h7) h10), hcc, hcc2⟩, r4_ok hok (by constructor <;> omega), by first | exact U32_zero | exact getD_u32 hok.wide _, fun _ => by first | exact step_op hfar hfi hopd hnext | exact step_no hfar hfi hopd (fun a ha => (hG.acts _ _ _ hx ha).2 hopd) _, fun h => absurd hst h⟩⟩ ?_
      intro g s18 I18
      simp only [List.cons_append, List.nil_append]
      obtain ⟨k, mk, opk, zk, Mk⟩ := g
      obtain ⟨hk0, hSt1, hok1, hop1, hgo, hhalt⟩ := I18.2
      simp only at hk0 hSt1 hok1 hop1 hgo hhalt
      obtain ⟨bc1, cc1, yc1, O1, Ao1, co1, Ai1, ni1, ci1, hz1, hM1, hO1, hI1, hcc1, hcc21⟩ := StO.list hSt1
      subst hz1
      subst hM1
      simp only [List.cons_append]
      refine JC_seq ?_
      refine JC_seq ?_
      refine JC_region ?_
      refine JO_q (QE_mv rfl) rfl ?_
      refine JO_q (QE_faB rfl rfl rfl rfl) rfl ?_
      refine JO_q (QE_ld1 0 rfl rfl rfl rfl rfl) rfl ?_
      refine JO_q (QE_lenS rfl rfl rfl) rfl ?_
      refine JO_q (QE_lt rfl rfl) rfl ?_
      refine JO_q (QE_mv rfl) rfl ?_
      refine JO_caseD (t := 79) rfl (fun c19 => ?_) (fun c19 => ?_)
      ·
       refine JO_gT rfl rfl ?_
       refine JO_q (QE_faB rfl rfl rfl rfl) rfl ?_
       refine JO_gT rfl rfl ?_
       refine JO_q (QE_ld1 2 rfl rfl rfl rfl rfl) rfl ?_
       refine JO_gT rfl rfl ?_
       refine JO_q (QE_eq rfl rfl) rfl ?_
       refine JO_q (QE_pickT rfl rfl) rfl ?_
       refine JO_nil ?_
       refine thenQ_n ?_
       refine JC_ifD rfl (fun c20 => ?_) (fun c20 => ?_)
       ·
        have hs1 : mk.stop = 0 := c20
        have hk1 : k < n' := by omega
        obtain ⟨b2, off2, a, rfl, ha, hca, hau⟩ := Acs.at_ (hax.le (Le.trans (Le.trans h7 h10) I18.1)) hk1
        have hacOK := hG.acts _ _ _ hx (List.mem_of_getElem? ha)
        refine JC_skip ?_
        refine thenQ_n ?_
        refine JC_seq ?_
        refine JC_block ?_
        refine JC_drawT drawsMixed 9 rfl 2 ?_
        intro s21 h21
        refine JA_q 1 rfl (by kernel_rfl) (by kernel_rfl) (by kernel_rfl) trivial (QE_faB rfl rfl rfl rfl) rfl ?_
        refine JA_q 2 rfl (by kernel_rfl) (by kernel_rfl) (by kernel_rfl) trivial (QE_ld1 0 rfl rfl rfl rfl rfl) rfl ?_
        refine JA_q 3 rfl (by kernel_rfl) (by kernel_rfl) (by kernel_rfl) trivial (QE_mv rfl) rfl ?_
        refine JA_q 4 rfl (by kernel_rfl) (by kernel_rfl) (by kernel_rfl) trivial (QE_iaN rfl rfl rfl rfl rfl rfl hk1) rfl ?_
        refine JA_q 5 rfl (by kernel_rfl) (by kernel_rfl) (by kernel_rfl) trivial (QE_ldsA rfl rfl rfl (hca.le h21) rfl) rfl ?_
        refine JA_q 6 rfl (by kernel_rfl) (by kernel_rfl) (by kernel_rfl) trivial (QE_mv rfl) rfl ?_
        refine JA_1 0 (by kernel_rfl) ?_
        refine JB_q rfl trivial (QE_ldA 2 [_, _, _, _, _, _, _, _, _, _] rfl rfl rfl rfl rfl) rfl ?_
        refine JA_1 7 (by kernel_rfl) ?_
        refine JB_call rfl trivial (first := []) (captured := []) rfl rfl rfl (AC.mid [_, _, _, _] (_ :: O1) L (acted_ac D _ _ mk _ _ ⟨bc1, cc1, yc1, O1, Ao1, co1, Ai1, ni1, ci1, rfl, rfl, hO1, hI1.le h21, hcc1, hcc21⟩ opk a hok1 hop1 hacOK.1)) ?_
        rintro _ _ s22 h22 ⟨M2, rfl, bc2, cc2, yc2, O2, Ao2, co2, Ai2, ni2, ci2, rfl, hM2, hO2, hI2, hcc22, hcc23⟩
        refine ⟨(fun x hx _ => sub_mem (sbY (sbY (sb0 _))) hx), ?_⟩
        have hSt2 : StO (actM mk a opk) _ M2 s22 := ⟨bc2, cc2, yc2, O2, Ao2, co2, Ai2, ni2, ci2, rfl, hM2, hO2, hI2, hcc22, hcc23⟩
        simp only [List.cons_append, List.nil_append]
        refine JA_1 8 (by kernel_rfl) ?_
        refine JB_st rfl trivial 2 [_, _, _, _, _, _, _, _, _, _] rfl rfl rfl rfl rfl rfl rfl rfl rfl (fun _ hx => sub_mem (sbY (sbY (sb0 _))) hx) ?_
        refine JA_done (by kernel_rfl) ?_
        refine blockQ_n ?_
        refine thenQ_n ?_
        refine JC_region ?_
        refine JO_q (QE_mv rfl) rfl ?_
        refine JO_q (QE_add' rfl rfl (w64 (by omega) (by omega))) rfl ?_
        refine JO_q (QE_as rfl) rfl ?_
        refine JO_nil ?_
        refine thenQ_n ⟨(k + 1, actM mk a opk, opk, _, M2), [], (Keeps.cons rfl (Keeps.cons rfl (Keeps.cons rfl (Keeps.cons rfl (Keeps.cons rfl (Keeps.nil _)))))), rfl, ⟨(Le.trans (Le.trans I18.1 h21) h22), ⟨by omega, hSt2.le (Le.refl (D := D) _), act_ok hok1 hacOK.1 hop1, hop1, (acts_next ha (hgo hs1)).1, (acts_next ha (hgo hs1)).2⟩⟩, (by simp only; omega)⟩
       ·
        have hfin : stepM t m = mk := by
          by_cases h0 : mk.stop = 0
          · rw [hgo h0, acts_done (by first | omega | exact absurd h0 c20)]
          · exact hhalt h0
        refine JC_exit ?_
        refine thenQ_x ?_
        refine thenQ_x ?_
        refine blockQ_x ?_
        refine thenQ_n ?_
        refine JC_seq ?_
        refine JC_region ?_
        refine JO_q (QE_ldA 2 [_, _, _, _, _, _, _, _, _, _] rfl rfl rfl rfl rfl) rfl ?_
        refine JO_st 1 [_, _, _, _, _, _, _, _, _, _] rfl rfl rfl rfl rfl rfl rfl rfl rfl ?_
        refine JO_nil ?_
        refine thenQ_n ?_
        refine JC_ret ?_
        refine retQ_mk [_, _, _, _] _ (.inr rfl) (.agg (us := [_, _, _, _, _, _, _, _, _, _]) 1 rfl rfl rfl rfl rfl (.nil)) rfl (Le.trans (Le.trans (Le.trans (Le.trans (Le.trans (Le.trans h1 h2) h3) I5.1) h7) h10) I18.1) (fun sR hS2 => ?_)
        refine ⟨_ :: O1, rfl, ?_⟩
        rw [hfin]; exact ⟨bc1, cc1, yc1, O1, Ao1, co1, Ai1, ni1, ci1, rfl, rfl, hO1, hI1.le (Le.trans (Le.refl (D := D) _) hS2), hcc1, hcc21⟩
      ·
       refine JO_gF rfl rfl rfl rfl ?_
       refine JO_gF rfl rfl rfl rfl ?_
       refine JO_gF rfl rfl rfl rfl ?_
       refine JO_q (QE_pickF rfl rfl) rfl ?_
       refine JO_nil ?_
       refine thenQ_n ?_
       refine JC_ifF rfl ?_
       have hfin : stepM t m = mk := by
         by_cases h0 : mk.stop = 0
         · rw [hgo h0, acts_done (by first | omega | exact absurd h0 trivial)]
         · exact hhalt h0
       refine JC_exit ?_
       refine thenQ_x ?_
       refine thenQ_x ?_
       refine blockQ_x ?_
       refine thenQ_n ?_
       refine JC_seq ?_
       refine JC_region ?_
       refine JO_q (QE_ldA 2 [_, _, _, _, _, _, _, _, _, _] rfl rfl rfl rfl rfl) rfl ?_
       refine JO_st 1 [_, _, _, _, _, _, _, _, _, _] rfl rfl rfl rfl rfl rfl rfl rfl rfl ?_
       refine JO_nil ?_
       refine thenQ_n ?_
       refine JC_ret ?_
       refine retQ_mk [_, _, _, _] _ (.inr rfl) (.agg (us := [_, _, _, _, _, _, _, _, _, _]) 1 rfl rfl rfl rfl rfl (.nil)) rfl (Le.trans (Le.trans (Le.trans (Le.trans (Le.trans (Le.trans h1 h2) h3) I5.1) h7) h10) I18.1) (fun sR hS2 => ?_)
       refine ⟨_ :: O1, rfl, ?_⟩
       rw [hfin]; exact ⟨bc1, cc1, yc1, O1, Ao1, co1, Ai1, ni1, ci1, rfl, rfl, hO1, hI1.le (Le.trans (Le.refl (D := D) _) hS2), hcc1, hcc21⟩
   ·
    have hxc := c8
    refine JC_skip ?_
    refine blockQ_n ?_
    refine thenQ_n ?_
    refine JC_region ?_
    refine JO_q (QE_mv rfl) rfl ?_
    refine JO_q (QE_add' rfl rfl (w64 (by omega) (by omega))) rfl ?_
    refine JO_q (QE_as rfl) rfl ?_
    refine JO_nil ?_
    refine thenQ_n ⟨(i + 1), [], (Keeps.cons rfl (Keeps.cons rfl (Keeps.cons rfl (Keeps.cons rfl (Keeps.cons rfl (Keeps.cons rfl (Keeps.nil _))))))), rfl, ⟨(Le.trans I5.1 h7), ⟨by omega, below_succ hI0 hx hxc⟩⟩, (by omega)⟩
  ·
   have hfi : findI t.ins (m.cells.getD m.r4.toNat 0) = none := findI_none (fun j x hj hx => hI0 j x (by omega) hx)
   refine JC_exit ?_
   refine thenQ_x ?_
   refine thenQ_x ?_
   refine blockQ_x ?_
   refine thenQ_n ?_
   refine JC_seq ?_
   refine JC_seq ?_
   refine JC_region ?_
   refine JO_q (QE_mv rfl) rfl ?_
   refine JO_q (QE_lt rfl rfl) rfl ?_
   refine JO_nil ?_
   refine thenQ_n ?_
   refine JC_ifD rfl (fun c23 => ?_) (fun c23 => ?_)
   ·
    refine JC_seq ?_
    refine JC_region ?_
    refine JO_q (QE_faB rfl rfl rfl rfl) rfl ?_
    refine JO_st 1 [_, _, _, _, _, _, _, _, _, _] rfl rfl rfl rfl rfl rfl rfl rfl rfl ?_
    refine JO_nil ?_
    refine thenQ_n ?_
    refine JC_seq ?_
    refine JC_region ?_
    refine JO_q (QE_ldA 1 [_, _, _, _, _, _, _, _, _, _] rfl rfl rfl rfl rfl) rfl ?_
    refine JO_st 0 [_, _, _, _, _, _, _, _, _, _] rfl rfl rfl rfl rfl rfl rfl rfl rfl ?_
    refine JO_nil ?_
    refine thenQ_n ?_
    refine JC_ret ?_
    refine thenQ_r ?_
    refine retQ_mk [_, _, _] _ (.inr rfl) (.agg (us := [_, _, _, _, _, _, _, _, _, _]) 0 rfl rfl rfl rfl rfl (.nil)) rfl (Le.trans (Le.trans (Le.trans h1 h2) h3) I5.1) (fun sR hS2 => ?_)
    refine ⟨_ :: O, rfl, ?_⟩
    rw [step_unk hfar hfi]; exact ⟨bc, cc, yc, O, Ao, co, Ai, ni, ci, rfl, rfl, hO, hI.le (Le.trans (Le.trans (Le.trans (Le.trans h1 h2) h3) I5.1) hS2), hcc, hcc2⟩
   ·
    exfalso; omega --end
end Go.Proofs.Ytpjnphonanbopaa
