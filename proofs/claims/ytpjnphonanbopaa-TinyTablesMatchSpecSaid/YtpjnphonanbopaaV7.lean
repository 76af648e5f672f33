/- The machine: a step. -/
import Derived.Test.YtpjnphonanbopaaV6
import Derived.Test.YtpjnphonanbopaaDq
namespace Go.Proofs.Ytpjnphonanbopaa
open Go.FL
attribute [local irreducible] JC JO JA JB thenQ blockQ retQ AC fill CellsAt QE Ev Mid

section
variable {t : Tab} {m : Mst} {x : Ins}
theorem step_far (h : ¬ m.r4 < (m.cells.length : Int)) : stepM t m = { m with stop := 3 } := by unfold stepM; rw [if_pos (by omega)]
theorem step_unk (h : m.r4 < (m.cells.length : Int)) (hf : findI t.ins (m.cells.getD m.r4.toNat 0) = none) : stepM t m = { m with stop := 2 } := by unfold stepM; rw [if_neg (by omega), hf]
theorem step_end (h : m.r4 < (m.cells.length : Int)) (hf : findI t.ins (m.cells.getD m.r4.toNat 0) = some x) (ho : x.operand = true) (h1 : ¬ m.r4 + 1 < (m.cells.length : Int)) : stepM t m = { m with stop := 3 } := by
  unfold stepM; rw [if_neg (by omega), hf]; simp only [ho, if_true]; rw [if_pos (by omega)]
theorem step_op (h : m.r4 < (m.cells.length : Int)) (hf : findI t.ins (m.cells.getD m.r4.toNat 0) = some x) (ho : x.operand = true) (h1 : m.r4 + 1 < (m.cells.length : Int)) : stepM t m = actsM { m with r4 := m.r4 + 2 } (m.cells.getD (m.r4 + 1).toNat 0) x.acts := by
  unfold stepM; rw [if_neg (by omega), hf]; simp only [ho, if_true]; rw [if_neg (by omega)]
theorem step_no (h : m.r4 < (m.cells.length : Int)) (hf : findI t.ins (m.cells.getD m.r4.toNat 0) = some x) (ho : x.operand = false) (ha : ∀ a ∈ x.acts, a.x.kind ≠ 2 ∧ a.y.kind ≠ 2) (op : Int) : stepM t m = actsM { m with r4 := m.r4 + 1 } op x.acts := by
  unfold stepM; rw [if_neg (by omega), hf]; simp only [ho]; rw [acts_op ha _ op 0]; rfl
end
theorem acts_go {m : Mst} {op : Int} {l : List Ac} {k : Nat} {a : Ac} (h : l[k]? = some a) (hs : (actM m a op).stop = 0) : actsM m op (l.drop k) = actsM (actM m a op) op (l.drop (k + 1)) := by
  obtain ⟨hk, rfl⟩ := List.getElem?_eq_some_iff.1 h
  rw [List.drop_eq_getElem_cons hk]; simp [actsM, hs]
theorem acts_halt {m : Mst} {op : Int} {l : List Ac} {k : Nat} {a : Ac} (h : l[k]? = some a) (hs : ¬ (actM m a op).stop = 0) : actsM m op (l.drop k) = actM m a op := by
  obtain ⟨hk, rfl⟩ := List.getElem?_eq_some_iff.1 h
  rw [List.drop_eq_getElem_cons hk]; simp [actsM, hs]
theorem acts_done {m : Mst} {op : Int} {l : List Ac} {k : Nat} (h : l.length ≤ k) : actsM m op (l.drop k) = m := by rw [List.drop_eq_nil_of_le h]; rfl
theorem getD_u32 {l : List Int} (h : ∀ x ∈ l, U32 x) (i : Nat) : U32 (l.getD i 0) := by
  by_cases hl : i < l.length
  · simp only [List.getD, List.getElem?_eq_getElem hl, Option.getD_some]; exact h _ (List.getElem_mem hl)
  · simp [List.getD, List.getElem?_eq_none (Nat.le_of_not_lt hl)]; exact ⟨by decide, by decide⟩
theorem r4_ok {m : Mst} (h : MOK m) {v : Int} (hv : U32 v) : MOK { m with r4 := v } := ⟨h.cells, h.wide, h.u0, h.u1, h.u2, h.u3, hv, h.output, h.input, h.code⟩

set_option maxHeartbeats 4000000 in
set_option maxRecDepth 100000 in
theorem step_ac (D : Nat) (L : Hl) (s : World) (bm : Nat) (Ax : Option Addr) (nx cx : Nat) (sm : List Int) (hsm : sm.length = 256) (bq : Nat) (es : List (Int × Value × Nat)) (ck : Nat) (op : Int) (m : Mst) (M : Hl) (hM : MaMem bm (.slice Ax nx cx) sm bq es ck op m M s) (t : Tab) (hX : Inss s Ax nx cx t.ins) (hG : TabG t) (hok : MOK m) (hop : U32 op) (hst : m.stop = 0) (hS : ∀ c, 0 ≤ c → c < 256 → sm[c.toNat]? = some (posn t.ins c nx : Int)) (hB : ∀ c, 256 ≤ c → (assoc es c).getD (.int .i64 0) = .int .i64 (posn t.ins c nx : Int)) : AC Try.prog D 38 [.pointer (some ⟨bm, 0, none⟩)] (M ++ L) s fun v L' s' => ∃ M', L' = M' ++ L ∧ v = .tuple #[] ∧ ∃ op', U32 op' ∧ MaMem bm (.slice Ax nx cx) sm bq es ck op' (stepM t m) M' s' := by
 obtain ⟨bc, cc, yc, O, Ao, co, Ai, ni, ci, rfl, hO, hI, hcc, hcc2⟩ := hM
 have hu4 := hok.u4
 have hr1 := hu4.1
 have hr2 := hu4.2
 have hnc := hok.cells
 have hnx := hX.1
 have hple := posn_le t.ins (m.cells.getD m.r4.toNat 0) nx
 have hcu := getD_u32 hok.wide m.r4.toNat
 simp only [List.cons_append]
 refine AC_enter (TT := TT) (fn := Try.f38) TT_ok Try.func38 (by kernel_rfl) rfl Try.ntmps38 rfl (rs := []) rfl [(0, _)] rfl ?_
 refine JC_seq ?_
 refine JC_region ?_
 refine JO_q (QE_mv rfl) rfl ?_
 refine JO_q (QE_nil rfl) rfl ?_
 refine JO_q (QE_fa0 rfl rfl rfl rfl) rfl ?_
 refine JO_q (QE_faB rfl rfl rfl rfl) rfl ?_
 refine JO_q (QE_iaL (sz := 1) 4 rfl rfl rfl rfl rfl rfl (by decide)) rfl ?_
 refine JO_q (QE_ld1 0 rfl rfl rfl rfl rfl) rfl ?_
 refine JO_q (QE_as rfl) rfl ?_
 refine JO_nil ?_
 refine thenQ_n ?_
 refine JC_seq ?_
 refine JC_seq ?_
 refine JC_region ?_
 refine JO_q (QE_mv rfl) rfl ?_
 refine JO_q (QE_mv rfl) rfl ?_
 refine JO_call (first := []) (captured := []) rfl rfl rfl (AC.mid [] [_] _ (isCell_ac D _ _ _ _ _ _ _ _ _ _ _ _ _ _ _ _ _ _ _ hsm _ hu4 hnc)) ?_
 rintro _ _ s1 h1 ⟨_, rfl, rfl, rfl⟩
 simp only [List.cons_append, List.nil_append]
 refine JO_q (QE_not rfl) rfl ?_
 refine JO_nil ?_
 refine thenQ_n ?_
 refine JC_ifN rfl (fun c2 => ?_) (fun c2 => ?_)
 ·
  have hfar := c2
  refine JC_seq ?_
  refine JC_region ?_
  refine JO_q (QE_mv rfl) rfl ?_
  refine JO_q (QE_nil rfl) rfl ?_
  refine JO_q (QE_fa0 rfl rfl rfl rfl) rfl ?_
  refine JO_q (QE_faB rfl rfl rfl rfl) rfl ?_
  refine JO_st 0 (_ :: _ :: _ :: _ :: _ :: _ :: _ :: _ :: _ :: _ :: _ :: _) rfl rfl rfl rfl rfl rfl rfl rfl rfl ?_
  refine JO_nil ?_
  refine thenQ_n ?_
  refine JC_ret ?_
  refine thenQ_r ?_
  refine retQ_mk [] _ (.inr rfl) (.nil) rfl h1 (fun sR hS2 => ?_)
  refine ⟨_ :: _ :: _ :: O, rfl, rfl, op, hop, ?_⟩
  rw [step_far hfar]; exact ⟨bc, cc, yc, O, Ao, co, Ai, ni, ci, rfl, hO, hI.le (Le.trans h1 hS2), hcc, hcc2⟩
 ·
  have hfar : m.r4 < (m.cells.length : Int) := c2
  refine JC_skip ?_
  refine thenQ_n ?_
  refine JC_seq ?_
  refine JC_region ?_
  refine JO_q (QE_mv rfl) rfl ?_
  refine JO_q (QE_mv rfl) rfl ?_
  refine JO_q (QE_nil rfl) rfl ?_
  refine JO_q (QE_fa0 rfl rfl rfl rfl) rfl ?_
  refine JO_q (QE_fa0 rfl rfl rfl rfl) rfl ?_
  refine JO_q (QE_ld1 0 rfl rfl rfl rfl rfl) rfl ?_
  refine JO_q (QE_mv rfl) rfl ?_
  refine JO_q (QE_iaS rfl rfl rfl rfl rfl rfl hr1 hfar) rfl ?_
  refine JO_q (QE_ld1 1 rfl rfl rfl rfl (nth_wv0 hr1 hfar)) rfl ?_
  refine JO_call (first := []) (captured := []) rfl rfl rfl (find_ac D _ _ _ _ _ _ _ _ _ _ _ _ _ _ _ _ _ _ _ hsm _ es ck t.ins (hX.le h1) _ hcu (posn t.ins (m.cells.getD m.r4.toNat 0) nx) hple (hS _ hcu.1) (hB _)) ?_
  rintro _ _ s3 h3 ⟨_, rfl, rfl, rfl⟩
  simp only [List.cons_append, List.nil_append]
  refine JO_q (QE_mv rfl) rfl ?_
  refine JO_q (QE_ext rfl rfl) rfl ?_
  refine JO_q (QE_ext rfl rfl) rfl ?_
  refine JO_q (QE_as rfl) rfl ?_
  refine JO_q (QE_as rfl) rfl ?_
  refine JO_nil ?_
  refine thenQ_n ?_
  refine JC_seq ?_
  refine JC_block ?_
  refine JC_seq ?_
  refine JC_region ?_
  refine JO_q (QE_mv rfl) rfl ?_
  refine JO_q (QE_not rfl) rfl ?_
  refine JO_q (QE_as rfl) rfl ?_
  refine JO_nil ?_
  refine thenQ_n ?_
  refine JC_ifN rfl (fun c4 => ?_) (fun c4 => ?_)
  ·
   have hp0 : posn t.ins (m.cells.getD m.r4.toNat 0) nx = 0 := by simpa using c4
   have hfi := findI_none (fun i x hi hx => posn_zero hp0 i x (by omega) hx)
   refine JC_seq ?_
   refine JC_region ?_
   refine JO_q (QE_mv rfl) rfl ?_
   refine JO_q (QE_nil rfl) rfl ?_
   refine JO_q (QE_fa0 rfl rfl rfl rfl) rfl ?_
   refine JO_q (QE_faB rfl rfl rfl rfl) rfl ?_
   refine JO_st 0 (_ :: _ :: _ :: _ :: _ :: _ :: _ :: _ :: _ :: _ :: _ :: _) rfl rfl rfl rfl rfl rfl rfl rfl rfl ?_
   refine JO_nil ?_
   refine thenQ_n ?_
   refine JC_ret ?_
   refine blockQ_r ?_
   refine thenQ_r ?_
   refine retQ_mk [] _ (.inr rfl) (.nil) rfl (Le.trans h1 h3) (fun sR hS2 => ?_)
   refine ⟨_ :: _ :: _ :: O, rfl, rfl, op, hop, ?_⟩
   rw [step_unk hfar hfi]; exact ⟨bc, cc, yc, O, Ao, co, Ai, ni, ci, rfl, hO, hI.le (Le.trans (Le.trans h1 h3) hS2), hcc, hcc2⟩
  ·
   have hp0 : posn t.ins (m.cells.getD m.r4.toNat 0) nx ≠ 0 := by simpa using c4
   obtain ⟨bx, ox, x, A', n', c', hAx, hx, hcx, hax, _, _⟩ := Inss.at_ (hX.le (Le.trans h1 h3)) (show posn t.ins (m.cells.getD m.r4.toNat 0) nx - 1 < nx by omega)
   subst hAx
   rw [fp_some hp0]
   obtain ⟨x', hx', hxc⟩ := posn_pos hp0
   rw [hx] at hx'
   injection hx' with hx'
   subst hx'
   have hfi := findI_some hG hx hxc
   have hn' := hax.1
   have hfew := hG.few _ _ hx
   refine JC_seq ?_
   refine JC_region ?_
   refine JO_q (QE_mv rfl) rfl ?_
   refine JO_q (QE_nil rfl) rfl ?_
   refine JO_q (QE_fa rfl rfl rfl rfl) rfl ?_
   refine JO_q (QE_ldsR 2 rfl rfl rfl (hcx.le (Le.refl (D := D) _)) rfl) rfl ?_
   refine JO_q (QE_not rfl) rfl ?_
   refine JO_q (QE_as rfl) rfl ?_
   refine JO_nil ?_
   refine thenQ_n ?_
   refine JC_ifM rfl (fun c5 => ?_) (fun c5 => ?_)
   ·
    have hopd := c5
    refine JC_region ?_
    refine JO_q (QE_mv rfl) rfl ?_
    refine JO_q (QE_mv rfl) rfl ?_
    refine JO_q (QE_add' rfl rfl (w32_in (by omega) (by omega))) rfl ?_
    refine JO_q (QE_nil rfl) rfl ?_
    refine JO_q (QE_fa0 rfl rfl rfl rfl) rfl ?_
    refine JO_q (QE_faB rfl rfl rfl rfl) rfl ?_
    refine JO_q (QE_iaL (sz := 1) 4 rfl rfl rfl rfl rfl rfl (by decide)) rfl ?_
    refine JO_st 0 (_ :: _ :: _ :: _ :: _ :: _ :: _ :: _ :: _ :: _ :: _ :: _) rfl rfl rfl rfl rfl rfl rfl rfl rfl ?_
    refine JO_nil ?_
    refine blockQ_n ?_
    refine thenQ_n ?_
    refine JC_seq ?_
    refine JC_region ?_
    refine JO_q (QE_mv rfl) rfl ?_
    refine JO_q (QE_nil rfl) rfl ?_
    refine JO_q (QE_fa rfl rfl rfl rfl) rfl ?_
    refine JO_q (QE_ldsR 3 rfl rfl rfl (hcx.le (Le.refl (D := D) _)) rfl) rfl ?_
    refine JO_q (QE_lenS rfl rfl rfl) rfl ?_
    refine JO_q (QE_mv rfl) rfl ?_
    refine JO_nil ?_
    refine thenQ_n ?_
    refine JC_block ?_
    refine JC_loop (γ := Nat × Mst × Int × Hl) (fun g => [(0, _), (3, _), (86, _), (87, .int .i64 (g.1 : Int))]) (fun g => g.2.2.2 ++ L) (fun g tw => Le D s3 tw ∧ (g.1 ≤ n' ∧ MaMem bm (.slice (some ⟨bx, ox, none⟩) nx cx) sm bq es ck g.2.2.1 g.2.1 g.2.2.2 tw ∧ MOK g.2.1 ∧ U32 g.2.2.1 ∧ g.2.1.stop = 0 ∧ stepM t m = actsM g.2.1 g.2.2.1 (x.acts.drop g.1))) (fun g => n' - g.1) (fun _ _ _ h hl => ⟨h.1.trans hl, by obtain ⟨_, k1, ⟨bc, cc, yc, O, Ao, co, Ai, ni, ci, k2, k3, k4, k5⟩, k6⟩ := h; exact ⟨k1, ⟨bc, cc, yc, O, Ao, co, Ai, ni, ci, k2, k3, k4.le hl, k5⟩, k6⟩⟩) (0, { m with r4 := m.r4 + 1 }, op, _ :: _ :: _ :: O) (Keeps.cons rfl (Keeps.cons rfl (Keeps.cons rfl (Keeps.cons rfl (Keeps.nil _))))) rfl ⟨Le.refl _, ⟨Nat.zero_le _, ⟨bc, cc, yc, O, Ao, co, Ai, ni, ci, rfl, hO, hI.le (Le.trans h1 h3), hcc, hcc2⟩, r4_ok hok (by constructor <;> omega), by first | exact hop | exact getD_u32 hok.wide _, hst, by first | exact step_op hfar hfi hopd hnext | exact step_no hfar hfi hopd (fun a ha => (hG.acts _ _ _ hx ha).2 hopd) _⟩⟩ ?_
    intro g s6 I6
    obtain ⟨k, mk, opk, Mk⟩ := g
    obtain ⟨hk0, ⟨bc1, cc1, yc1, O1, Ao1, co1, Ai1, ni1, ci1, hMk, hO1, hI1, hcc1, hcc21⟩, hok1, hop1, hst1, hact⟩ := I6.2
    simp only at hk0 hMk hO1 hI1 hcc1 hok1 hop1 hst1 hact
    subst hMk
    simp only [List.cons_append]
    refine JC_seq ?_
    refine JC_region ?_
    refine JO_q (QE_lt rfl rfl) rfl ?_
    refine JO_nil ?_
    refine thenQ_n ?_
    refine JC_seq ?_
    refine JC_ifD rfl (fun c7 => ?_) (fun c7 => ?_)
    ·
     have hk : k < n' := by omega
     obtain ⟨b2, off2, a, rfl, ha, hca, hau⟩ := Acs.at_ (hax.le I6.1) hk
     have hacOK := hG.acts _ _ _ hx (List.mem_of_getElem? ha)
     refine JC_skip ?_
     refine thenQ_n ?_
     refine JC_seq ?_
     refine JC_block ?_
     refine JC_seq ?_
     refine JC_region ?_
     refine JO_q (QE_mv rfl) rfl ?_
     refine JO_q (QE_as rfl) rfl ?_
     refine JO_nil ?_
     refine thenQ_n ?_
     refine JC_seq ?_
     refine JC_region ?_
     refine JO_q (QE_mv rfl) rfl ?_
     refine JO_q (QE_mv rfl) rfl ?_
     refine JO_q (QE_nil rfl) rfl ?_
     refine JO_q (QE_fa rfl rfl rfl rfl) rfl ?_
     refine JO_q (QE_ldsR 3 rfl rfl rfl (hcx.le I6.1) rfl) rfl ?_
     refine JO_q (QE_mv rfl) rfl ?_
     refine JO_q (QE_iaN rfl rfl rfl rfl rfl rfl hk) rfl ?_
     refine JO_call (first := []) (captured := []) rfl rfl rfl (act_ac D _ _ bm _ _ _ sm hsm bq es ck opk mk _ ⟨bc1, cc1, yc1, O1, Ao1, co1, Ai1, ni1, ci1, rfl, hO1, hI1.le (Le.refl (D := D) _), hcc1, hcc21⟩ a _ _ (hca.le (Le.refl (D := D) _)) hok1 hop1 hacOK.1) ?_
     rintro _ _ s8 h8 ⟨M2, rfl, rfl, bc2, cc2, yc2, O2, Ao2, co2, Ai2, ni2, ci2, rfl, hO2, hI2, hcc22, hcc23⟩
     simp only [List.cons_append]
     refine JO_nil ?_
     refine thenQ_n ?_
     refine JC_seq ?_
     refine JC_region ?_
     refine JO_q (QE_mv rfl) rfl ?_
     refine JO_q (QE_nil rfl) rfl ?_
     refine JO_q (QE_fa0 rfl rfl rfl rfl) rfl ?_
     refine JO_q (QE_faB rfl rfl rfl rfl) rfl ?_
     refine JO_q (QE_ld1 0 rfl rfl rfl rfl rfl) rfl ?_
     refine JO_q (QE_ne rfl rfl) rfl ?_
     refine JO_nil ?_
     refine thenQ_n ?_
     refine JC_ifN rfl (fun c9 => ?_) (fun c9 => ?_)
     ·
      have hs2 := c9
      refine JC_ret ?_
      refine blockQ_r ?_
      refine thenQ_r ?_
      refine thenQ_r ?_
      refine blockQ_r ?_
      refine retQ_mk [] _ (.inr rfl) (.nil) rfl (Le.trans (Le.trans (Le.trans h1 h3) I6.1) h8) (fun sR hS2 => ?_)
      refine ⟨_ :: _ :: _ :: O2, rfl, rfl, opk, hop1, ?_⟩
      rw [hact, acts_halt ha hs2]; exact ⟨bc2, cc2, yc2, O2, Ao2, co2, Ai2, ni2, ci2, rfl, hO2, hI2.le (Le.trans (Le.refl (D := D) _) hS2), hcc22, hcc23⟩
     ·
      have hs2 := c9
      refine JC_skip ?_
      refine blockQ_n ?_
      refine thenQ_n ?_
      refine JC_region ?_
      refine JO_q (QE_add' rfl rfl (w64 (by omega) (by omega))) rfl ?_
      refine JO_q (QE_mv rfl) rfl ?_
      refine JO_nil ?_
      refine thenQ_n ⟨(k + 1, actM mk a opk, opk, _ :: _ :: _ :: O2), [], (Keeps.cons rfl (Keeps.cons rfl (Keeps.cons rfl (Keeps.cons rfl (Keeps.nil _))))), rfl, ⟨(Le.trans I6.1 h8), ⟨by omega, ⟨bc2, cc2, yc2, O2, Ao2, co2, Ai2, ni2, ci2, rfl, hO2, hI2.le (Le.refl (D := D) _), hcc22, hcc23⟩, act_ok hok1 hacOK.1 hop1, hop1, hs2, by rw [hact, acts_go ha hs2]⟩⟩, (by simp only; omega)⟩
    ·
     refine JC_exit ?_
     refine thenQ_x ?_
     refine thenQ_x ?_
     refine blockQ_x ?_
     refine retQ_mk [] _ (.inl rfl) (.nil) rfl (Le.trans (Le.trans h1 h3) I6.1) (fun sR hS2 => ?_)
     refine ⟨_ :: _ :: _ :: O1, rfl, rfl, opk, hop1, ?_⟩
     rw [hact, acts_done (by omega)]; exact ⟨bc1, cc1, yc1, O1, Ao1, co1, Ai1, ni1, ci1, rfl, hO1, hI1.le (Le.trans (Le.refl (D := D) _) hS2), hcc1, hcc21⟩
   ·
    have hopd := c5
    refine JC_seq ?_
    refine JC_region ?_
    refine JO_q (QE_mv rfl) rfl ?_
    refine JO_q (QE_mv rfl) rfl ?_
    refine JO_q (QE_add' rfl rfl (w32_in (by omega) (by omega))) rfl ?_
    refine JO_call (first := []) (captured := []) rfl rfl rfl (AC.mid [] [_] _ (isCell_ac D _ _ _ _ _ _ _ _ _ _ _ _ _ _ _ _ _ _ _ hsm _ (show U32 (m.r4 + 1) from ⟨by omega, by omega⟩) hnc)) ?_
    rintro _ _ s10 h10 ⟨_, rfl, rfl, rfl⟩
    simp only [List.cons_append, List.nil_append]
    refine JO_q (QE_not rfl) rfl ?_
    refine JO_q (QE_as rfl) rfl ?_
    refine JO_nil ?_
    refine thenQ_n ?_
    refine JC_ifN rfl (fun c11 => ?_) (fun c11 => ?_)
    ·
     have hnext := c11
     refine JC_seq ?_
     refine JC_region ?_
     refine JO_q (QE_mv rfl) rfl ?_
     refine JO_q (QE_nil rfl) rfl ?_
     refine JO_q (QE_fa0 rfl rfl rfl rfl) rfl ?_
     refine JO_q (QE_faB rfl rfl rfl rfl) rfl ?_
     refine JO_st 0 (_ :: _ :: _ :: _ :: _ :: _ :: _ :: _ :: _ :: _ :: _ :: _) rfl rfl rfl rfl rfl rfl rfl rfl rfl ?_
     refine JO_nil ?_
     refine thenQ_n ?_
     refine JC_ret ?_
     refine blockQ_r ?_
     refine thenQ_r ?_
     refine retQ_mk [] _ (.inr rfl) (.nil) rfl (Le.trans (Le.trans h1 h3) h10) (fun sR hS2 => ?_)
     refine ⟨_ :: _ :: _ :: O, rfl, rfl, op, hop, ?_⟩
     rw [step_end hfar hfi hopd hnext]; exact ⟨bc, cc, yc, O, Ao, co, Ai, ni, ci, rfl, hO, hI.le (Le.trans (Le.trans (Le.trans h1 h3) h10) hS2), hcc, hcc2⟩
    ·
     have hnext : m.r4 + 1 < (m.cells.length : Int) := c11
     refine JC_seq ?_
     refine JC_region ?_
     refine JO_q (QE_mv rfl) rfl ?_
     refine JO_q (QE_mv rfl) rfl ?_
     refine JO_q (QE_nil rfl) rfl ?_
     refine JO_q (QE_fa0 rfl rfl rfl rfl) rfl ?_
     refine JO_q (QE_fa0 rfl rfl rfl rfl) rfl ?_
     refine JO_q (QE_ld1 0 rfl rfl rfl rfl rfl) rfl ?_
     refine JO_q (QE_mv rfl) rfl ?_
     refine JO_q (QE_add' rfl rfl (w32_in (by omega) (by omega))) rfl ?_
     refine JO_q (QE_iaS rfl rfl rfl rfl rfl rfl (by omega) hnext) rfl ?_
     refine JO_q (QE_ld1 1 rfl rfl rfl rfl (nth_wv0 (by omega) hnext)) rfl ?_
     refine JO_q (QE_nil rfl) rfl ?_
     refine JO_q (QE_faB rfl rfl rfl rfl) rfl ?_
     refine JO_st 0 _ rfl rfl rfl rfl rfl (ble_op _ _ _ _ _ _ _ _ _ _ _ _ _ hsm) rfl (spl_op _ _ _ _ _ _ _ _ _ _ _ _ _ _ hsm) rfl ?_
     refine JO_nil ?_
     refine thenQ_n ?_
     refine JC_region ?_
     refine JO_q (QE_mv rfl) rfl ?_
     refine JO_q (QE_mv rfl) rfl ?_
     refine JO_q (QE_add' rfl rfl (w32_in (by omega) (by omega))) rfl ?_
     refine JO_q (QE_nil rfl) rfl ?_
     refine JO_q (QE_fa0 rfl rfl rfl rfl) rfl ?_
     refine JO_q (QE_faB rfl rfl rfl rfl) rfl ?_
     refine JO_q (QE_iaL (sz := 1) 4 rfl rfl rfl rfl rfl rfl (by decide)) rfl ?_
     refine JO_st 0 (_ :: _ :: _ :: _ :: _ :: _ :: _ :: _ :: _ :: _ :: _ :: _) rfl rfl rfl rfl rfl rfl rfl rfl rfl ?_
     refine JO_nil ?_
     refine blockQ_n ?_
     refine thenQ_n ?_
     refine JC_seq ?_
     refine JC_region ?_
     refine JO_q (QE_mv rfl) rfl ?_
     refine JO_q (QE_nil rfl) rfl ?_
     refine JO_q (QE_fa rfl rfl rfl rfl) rfl ?_
     refine JO_q (QE_ldsR 3 rfl rfl rfl (hcx.le h10) rfl) rfl ?_
     refine JO_q (QE_lenS rfl rfl rfl) rfl ?_
     refine JO_q (QE_mv rfl) rfl ?_
     refine JO_nil ?_
     refine thenQ_n ?_
     refine JC_block ?_
     refine JC_loop (γ := Nat × Mst × Int × Hl) (fun g => [(0, _), (3, _), (86, _), (87, .int .i64 (g.1 : Int))]) (fun g => g.2.2.2 ++ L) (fun g tw => Le D s10 tw ∧ (g.1 ≤ n' ∧ MaMem bm (.slice (some ⟨bx, ox, none⟩) nx cx) sm bq es ck g.2.2.1 g.2.1 g.2.2.2 tw ∧ MOK g.2.1 ∧ U32 g.2.2.1 ∧ g.2.1.stop = 0 ∧ stepM t m = actsM g.2.1 g.2.2.1 (x.acts.drop g.1))) (fun g => n' - g.1) (fun _ _ _ h hl => ⟨h.1.trans hl, by obtain ⟨_, k1, ⟨bc, cc, yc, O, Ao, co, Ai, ni, ci, k2, k3, k4, k5⟩, k6⟩ := h; exact ⟨k1, ⟨bc, cc, yc, O, Ao, co, Ai, ni, ci, k2, k3, k4.le hl, k5⟩, k6⟩⟩) (0, { m with r4 := m.r4 + 2 }, m.cells.getD (m.r4 + 1).toNat 0, _ :: _ :: _ :: O) (Keeps.cons rfl (Keeps.cons rfl (Keeps.cons rfl (Keeps.cons rfl (Keeps.nil _))))) rfl ⟨Le.refl _, ⟨Nat.zero_le _, ⟨bc, cc, yc, O, Ao, co, Ai, ni, ci, rfl, hO, hI.le (Le.trans (Le.trans h1 h3) h10), hcc, hcc2⟩, r4_ok hok (by constructor <;> omega), by first | exact hop | exact getD_u32 hok.wide _, hst, by first | exact step_op hfar hfi hopd hnext | exact step_no hfar hfi hopd (fun a ha => (hG.acts _ _ _ hx ha).2 hopd) _⟩⟩ ?_
     intro g s13 I13
     obtain ⟨k, mk, opk, Mk⟩ := g
     obtain ⟨hk0, ⟨bc1, cc1, yc1, O1, Ao1, co1, Ai1, ni1, ci1, hMk, hO1, hI1, hcc1, hcc21⟩, hok1, hop1, hst1, hact⟩ := I13.2
     simp only at hk0 hMk hO1 hI1 hcc1 hok1 hop1 hst1 hact
     subst hMk
     simp only [List.cons_append]
     refine JC_seq ?_
     refine JC_region ?_
     refine JO_q (QE_lt rfl rfl) rfl ?_
     refine JO_nil ?_
     refine thenQ_n ?_
     refine JC_seq ?_
     refine JC_ifD rfl (fun c14 => ?_) (fun c14 => ?_)
     ·
      have hk : k < n' := by omega
      obtain ⟨b2, off2, a, rfl, ha, hca, hau⟩ := Acs.at_ (hax.le (Le.trans h10 I13.1)) hk
      have hacOK := hG.acts _ _ _ hx (List.mem_of_getElem? ha)
      refine JC_skip ?_
      refine thenQ_n ?_
      refine JC_seq ?_
      refine JC_block ?_
      refine JC_seq ?_
      refine JC_region ?_
      refine JO_q (QE_mv rfl) rfl ?_
      refine JO_q (QE_as rfl) rfl ?_
      refine JO_nil ?_
      refine thenQ_n ?_
      refine JC_seq ?_
      refine JC_region ?_
      refine JO_q (QE_mv rfl) rfl ?_
      refine JO_q (QE_mv rfl) rfl ?_
      refine JO_q (QE_nil rfl) rfl ?_
      refine JO_q (QE_fa rfl rfl rfl rfl) rfl ?_
      refine JO_q (QE_ldsR 3 rfl rfl rfl (hcx.le (Le.trans h10 I13.1)) rfl) rfl ?_
      refine JO_q (QE_mv rfl) rfl ?_
      refine JO_q (QE_iaN rfl rfl rfl rfl rfl rfl hk) rfl ?_
      refine JO_call (first := []) (captured := []) rfl rfl rfl (act_ac D _ _ bm _ _ _ sm hsm bq es ck opk mk _ ⟨bc1, cc1, yc1, O1, Ao1, co1, Ai1, ni1, ci1, rfl, hO1, hI1.le (Le.refl (D := D) _), hcc1, hcc21⟩ a _ _ (hca.le (Le.refl (D := D) _)) hok1 hop1 hacOK.1) ?_
      rintro _ _ s15 h15 ⟨M2, rfl, rfl, bc2, cc2, yc2, O2, Ao2, co2, Ai2, ni2, ci2, rfl, hO2, hI2, hcc22, hcc23⟩
      simp only [List.cons_append]
      refine JO_nil ?_
      refine thenQ_n ?_
      refine JC_seq ?_
      refine JC_region ?_
      refine JO_q (QE_mv rfl) rfl ?_
      refine JO_q (QE_nil rfl) rfl ?_
      refine JO_q (QE_fa0 rfl rfl rfl rfl) rfl ?_
      refine JO_q (QE_faB rfl rfl rfl rfl) rfl ?_
      refine JO_q (QE_ld1 0 rfl rfl rfl rfl rfl) rfl ?_
      refine JO_q (QE_ne rfl rfl) rfl ?_
      refine JO_nil ?_
      refine thenQ_n ?_
      refine JC_ifN rfl (fun c16 => ?_) (fun c16 => ?_)
      ·
       have hs2 := c16
       refine JC_ret ?_
       refine blockQ_r ?_
       refine thenQ_r ?_
       refine thenQ_r ?_
       refine blockQ_r ?_
       refine retQ_mk [] _ (.inr rfl) (.nil) rfl (Le.trans (Le.trans (Le.trans (Le.trans h1 h3) h10) I13.1) h15) (fun sR hS2 => ?_)
       refine ⟨_ :: _ :: _ :: O2, rfl, rfl, opk, hop1, ?_⟩
       rw [hact, acts_halt ha hs2]; exact ⟨bc2, cc2, yc2, O2, Ao2, co2, Ai2, ni2, ci2, rfl, hO2, hI2.le (Le.trans (Le.refl (D := D) _) hS2), hcc22, hcc23⟩
      ·
       have hs2 := c16
       refine JC_skip ?_
       refine blockQ_n ?_
       refine thenQ_n ?_
       refine JC_region ?_
       refine JO_q (QE_add' rfl rfl (w64 (by omega) (by omega))) rfl ?_
       refine JO_q (QE_mv rfl) rfl ?_
       refine JO_nil ?_
       refine thenQ_n ⟨(k + 1, actM mk a opk, opk, _ :: _ :: _ :: O2), [], (Keeps.cons rfl (Keeps.cons rfl (Keeps.cons rfl (Keeps.cons rfl (Keeps.nil _))))), rfl, ⟨(Le.trans I13.1 h15), ⟨by omega, ⟨bc2, cc2, yc2, O2, Ao2, co2, Ai2, ni2, ci2, rfl, hO2, hI2.le (Le.refl (D := D) _), hcc22, hcc23⟩, act_ok hok1 hacOK.1 hop1, hop1, hs2, by rw [hact, acts_go ha hs2]⟩⟩, (by simp only; omega)⟩
     ·
      refine JC_exit ?_
      refine thenQ_x ?_
      refine thenQ_x ?_
      refine blockQ_x ?_
      refine retQ_mk [] _ (.inl rfl) (.nil) rfl (Le.trans (Le.trans (Le.trans h1 h3) h10) I13.1) (fun sR hS2 => ?_)
      refine ⟨_ :: _ :: _ :: O1, rfl, rfl, opk, hop1, ?_⟩
      rw [hact, acts_done (by omega)]; exact ⟨bc1, cc1, yc1, O1, Ao1, co1, Ai1, ni1, ci1, rfl, hO1, hI1.le (Le.trans (Le.refl (D := D) _) hS2), hcc1, hcc21⟩
end Go.Proofs.Ytpjnphonanbopaa
