/- Starts, in the program and in the reference. -/
import Derived.Test.YtpjnphonanbopaaV12
namespace Go.Proofs.Ytpjnphonanbopaa
open Go.FL
attribute [local irreducible] JC JO JA JB thenQ blockQ retQ AC fill CellsAt QE Ev Mid

/-- the state before the first step -/
def startM (t : Tab) (l : List Int) (i : List UInt8) : Mst := ⟨l ++ List.replicate (t.cells.toNat - l.length) 0, 0, 0, 0, 0, 0, i, [], 0, 0⟩
def startR (t : Tab) (l : List Int) (i : List UInt8) : Mst × Int × Int := if (startFault t l i).1 ≠ 0 then (zeroM, (startFault t l i).1, (startFault t l i).2) else (startM t l i, 0, 0)
theorem wds_start {s : World} {bc N : Nat} {l : List Int} (hp : CellsAt s bc 0 (wv l ++ (List.replicate N (Value.int .u32 0)).drop l.length)) (hu : ∀ x ∈ l, U32 x) (h : l.length ≤ N) (hN : N ≤ 65536) : Wds s (some ⟨bc, 0, none⟩) N N (l ++ List.replicate (N - l.length) 0) := by
  have e : wv l ++ (List.replicate N (Value.int .u32 0)).drop l.length = wv (l ++ List.replicate (N - l.length) 0) ++ [] := by simp [wv]
  rw [e] at hp
  have hl : (l ++ List.replicate (N - l.length) 0).length = N := by simp; omega
  have := wds_pub (cc := N) hp (fun x hx => by
    rcases List.mem_append.1 hx with h1 | h1
    · exact hu x h1
    · obtain ⟨_, rfl⟩ := List.mem_replicate.1 h1; exact U32_zero) (by rw [hl]; simp) (by omega)
  rwa [hl] at this
theorem start_bad {t : Tab} {l : List Int} {i : List UInt8} (h : (tabFault t).1 ≠ 0) : startR t l i = (zeroM, (tabFault t).1, (tabFault t).2) := by simp [startR, startFault, h]
theorem start_long {t : Tab} {l : List Int} {i : List UInt8} (h : (tabFault t).1 = 0) (h1 : t.cells < (l.length : Int)) : startR t l i = (zeroM, 3, -2) := by simp [startR, startFault, h, h1]
theorem start_in {t : Tab} {l : List Int} {i : List UInt8} (h : (tabFault t).1 = 0) (h1 : ¬ t.cells < (l.length : Int)) (h2 : 400000 < i.length) : startR t l i = (zeroM, 3, -3) := by simp [startR, startFault, h, h1, h2]
theorem start_ok {t : Tab} {l : List Int} {i : List UInt8} (h : (tabFault t).1 = 0) (h1 : ¬ t.cells < (l.length : Int)) (h2 : ¬ 400000 < i.length) : startR t l i = (startM t l i, 0, 0) := by simp [startR, startFault, h, h1, h2]
theorem sf_bad {t : Tab} {l : List Int} {i : List UInt8} (h : (startFault t l i).1 ≠ 0) : startR t l i = (zeroM, (startFault t l i).1, (startFault t l i).2) := by simp [startR, h]
theorem sf_ok {t : Tab} {l : List Int} {i : List UInt8} (h : (startFault t l i).1 = 0) : startR t l i = (startM t l i, 0, 0) := by simp [startR, h]
theorem sf_spec {t : Tab} {l : List Int} {i : List UInt8} (h : (startFault t l i).1 = 0) : (tabFault t).1 = 0 ∧ (l.length : Int) ≤ t.cells ∧ i.length ≤ 400000 := by
  unfold startFault at h
  split at h
  · contradiction
  split at h
  · exact absurd h (by decide)
  split at h
  · exact absurd h (by decide)
  rename_i h1 h2 h3
  exact ⟨by simpa using h1, by omega, by omega⟩
theorem sf_zero (t : Tab) (l : List Int) (i : List UInt8) : (startFault t l i).1 = 0 → (startFault t l i).2 = 0 := by
  unfold startFault
  repeat' split
  all_goals (intro h; first | rfl | contradiction | (exact absurd h (by decide)))
theorem start_good {t : Tab} {l : List Int} {i : List UInt8} (hG : TabG t) (hl : (l.length : Int) ≤ t.cells) (hi : i.length ≤ 400000) (hu : ∀ x ∈ l, U32 x) : MOK (startM t l i) ∧ SOK (startM t l i) ∧ ((startM t l i).cells.length : Int) = t.cells := by
  have := hG.cells
  have hlen : (startM t l i).cells.length = t.cells.toNat := by simp [startM]; omega
  refine ⟨⟨by omega, fun x hx => ?_, U32_zero, U32_zero, U32_zero, U32_zero, U32_zero, by simp [startM], hi, U32_zero⟩, ⟨⟨by simp [startM], by simp [startM]⟩, fun h => absurd rfl h⟩, by omega⟩
  rcases List.mem_append.1 hx with h1 | h1
  · exact hu x h1
  · obtain ⟨_, rfl⟩ := List.mem_replicate.1 h1; exact U32_zero
theorem startU (t : Tab) (l : List Int) (i : List UInt8) : MU (startR t l i).1 := by
  unfold startR
  split
  · exact zeroU
  · constructor <;> exact U32_zero

set_option maxHeartbeats 4000000 in
set_option maxRecDepth 100000 in
theorem startO_ac (D : Nat) (L : Hl) (s : World) (t : Tab) (A : Option Addr) (n c : Nat) (hA : Inss s A n c t.ins) (A1 : Option Addr) (n1 c1 : Nat) (l : List Int) (hIm : Wds s A1 n1 c1 l) (A2 : Option Addr) (n2 c2 : Nat) (i : List UInt8) (hIn : Bts s A2 n2 c2 i) : AC Try.prog D 18 [.agg #[.int .i64 t.cells, .slice A n c], .slice A1 n1 c1, .slice A2 n2 c2] L s fun v L' s' => ∃ M', L' = M' ++ L ∧ ∀ s2, Le D s' s2 → Pub M' s2 → ∃ vs, StW s2 (startR t l i).1 vs ∧ v = .tuple #[vs, .agg #[.int .i64 (startR t l i).2.1, .int .i64 (startR t l i).2.2]] := by
 obtain rfl := hIm.1
 have hn2 := hIn.1
 have hF := tab_zero t
 have hu := hIm.u32
 refine AC_enter (TT := TT) (fn := Try.f18) TT_ok Try.func18 (by kernel_rfl) rfl Try.ntmps18 rfl (rs := [.cell 6 30, .cell 7 32]) rfl [(0, _), (1, _), (2, _)] rfl ?_
 refine JC_seq ?_
 refine JC_region ?_
 refine JO_boxA rfl rfl ?_
 intro β1 s1 h1
 refine JO_allocZ rfl [_, _, _, _, _, _, _, _, _, _] rfl rfl ?_
 intro β2 s2 h2
 refine JO_allocZ rfl [_, _] rfl rfl ?_
 intro β3 s3 h3
 refine JO_nil ?_
 refine thenQ_n ?_
 refine JC_seq ?_
 refine JC_seq ?_
 refine JC_region ?_
 refine JO_q (QE_ldA 2 [_, _] rfl rfl rfl rfl rfl) rfl ?_
 refine JO_call (first := []) (captured := []) rfl rfl rfl (validate_ac D _ _ _ _ _ _ (hA.le (Le.trans (Le.trans h1 h2) h3))) ?_
 rintro _ _ s4 h4 ⟨rfl, rfl⟩
 refine JO_allocZ rfl [_, _] rfl rfl ?_
 intro β5 s5 h5
 refine JO_st 0 [_, _] rfl rfl rfl rfl rfl rfl rfl rfl rfl ?_
 refine JO_nil ?_
 refine thenQ_n ?_
 refine JC_seq ?_
 refine JC_region ?_
 refine JO_q (QE_ldA 0 [_, _] rfl rfl rfl rfl rfl) rfl ?_
 refine JO_q (QE_build [] [_, _] rfl rfl rfl rfl rfl rfl) rfl ?_
 refine JO_q (QE_ane rfl rfl (eqFault _ _ _ _)) rfl ?_
 refine JO_nil ?_
 refine thenQ_n ?_
 refine JC_ifN rfl (fun c6 => ?_) (fun c6 => ?_)
 ·
  have hbad : (tabFault t).1 ≠ 0 := fun h => c6 ⟨h, hF h⟩
  refine JC_seq ?_
  refine JC_drawE drawsMixed 4 rfl [2, 1] (by intro x hx; exact eraseAll_mem hx) ?_
  intro s7 h7
  refine JA_q 0 rfl (by kernel_rfl) (by kernel_rfl) (by kernel_rfl) trivial (QE_build [] [_, _, _, _, _, _, _, _, _, _] rfl rfl rfl rfl rfl rfl) rfl ?_
  refine JA_q 1 rfl (by kernel_rfl) (by kernel_rfl) (by kernel_rfl) trivial (QE_ldA 0 [_, _] rfl rfl rfl rfl rfl) rfl ?_
  refine JA_1 2 (by kernel_rfl) ?_
  refine JB_st rfl trivial 2 [_, _, _, _, _, _, _, _, _, _] rfl rfl rfl rfl rfl rfl rfl rfl rfl (fun _ hx => sub_mem (sbY (sbN (sbY (sbE _)))) hx) ?_
  refine JA_1 3 (by kernel_rfl) ?_
  refine JB_st rfl trivial 1 [_, _] rfl rfl rfl rfl rfl rfl rfl rfl rfl (fun _ hx => sub_mem (sbY (sbN (sbY (sbE _)))) hx) ?_
  refine JA_done (by kernel_rfl) ?_
  refine thenQ_n ?_
  refine JC_ret ?_
  refine thenQ_r ?_
  refine retQ_mk [] _ (.inr rfl) (.agg (us := [_, _, _, _, _, _, _, _, _, _]) 2 rfl rfl rfl rfl rfl (.agg (us := [_, _]) 1 rfl rfl rfl rfl rfl (.nil))) rfl (Le.trans (Le.trans (Le.trans (Le.trans (Le.trans h1 h2) h3) h4) h5) h7) (fun sR hS2 => ?_)
  refine ⟨[_, _, _, _], rfl, fun s2 hs2 hp => ?_⟩
  rw [start_bad hbad]; exact ⟨_, StW.zero _, rfl⟩
 ·
  have hst0 : (tabFault t).1 = 0 := c6.1
  have hG := tabG hA hst0
  have hcl := hG.cells
  obtain ⟨N, hN⟩ := Int.eq_ofNat_of_zero_le (show 0 ≤ t.cells by omega)
  refine JC_skip ?_
  refine thenQ_n ?_
  refine JC_seq ?_
  refine JC_seq ?_
  refine JC_region ?_
  refine JO_q (QE_mv rfl) rfl ?_
  refine JO_q (QE_lenS rfl rfl rfl) rfl ?_
  refine JO_q (QE_fa0 rfl rfl rfl rfl) rfl ?_
  refine JO_q (QE_ld1 3 rfl rfl rfl rfl rfl) rfl ?_
  refine JO_q (QE_gt rfl rfl) rfl ?_
  refine JO_nil ?_
  refine thenQ_n ?_
  refine JC_ifD rfl (fun c8 => ?_) (fun c8 => ?_)
  ·
   have hlong : t.cells < (l.length : Int) := c8
   refine JC_seq ?_
   refine JC_region ?_
   refine JO_q (QE_build [] [_, _, _, _, _, _, _, _, _, _] rfl rfl rfl rfl rfl rfl) rfl ?_
   refine JO_call (first := []) (captured := []) rfl rfl rfl (fault_ac D _ _ _ _) ?_
   rintro _ _ s9 h9 ⟨rfl, rfl⟩
   refine JO_st 2 [_, _, _, _, _, _, _, _, _, _] rfl rfl rfl rfl rfl rfl rfl rfl rfl ?_
   refine JO_st 1 [_, _] rfl rfl rfl rfl rfl rfl rfl rfl rfl ?_
   refine JO_nil ?_
   refine thenQ_n ?_
   refine JC_ret ?_
   refine thenQ_r ?_
   refine retQ_mk [] _ (.inr rfl) (.agg (us := [_, _, _, _, _, _, _, _, _, _]) 2 rfl rfl rfl rfl rfl (.agg (us := [_, _]) 1 rfl rfl rfl rfl rfl (.nil))) rfl (Le.trans (Le.trans (Le.trans (Le.trans (Le.trans h1 h2) h3) h4) h5) h9) (fun sR hS2 => ?_)
   refine ⟨[_, _, _, _], rfl, fun s2 hs2 hp => ?_⟩
   rw [start_long hst0 hlong]; exact ⟨_, StW.zero _, rfl⟩
  ·
   have hlong : ¬ t.cells < (l.length : Int) := c8
   refine JC_skip ?_
   refine thenQ_n ?_
   refine JC_seq ?_
   refine JC_seq ?_
   refine JC_region ?_
   refine JO_q (QE_mv rfl) rfl ?_
   refine JO_q (QE_lenS rfl rfl rfl) rfl ?_
   refine JO_q (QE_gt rfl rfl) rfl ?_
   refine JO_nil ?_
   refine thenQ_n ?_
   refine JC_ifD rfl (fun c10 => ?_) (fun c10 => ?_)
   ·
    have hin : 400000 < i.length := by omega
    refine JC_seq ?_
    refine JC_region ?_
    refine JO_q (QE_build [] [_, _, _, _, _, _, _, _, _, _] rfl rfl rfl rfl rfl rfl) rfl ?_
    refine JO_call (first := []) (captured := []) rfl rfl rfl (fault_ac D _ _ _ _) ?_
    rintro _ _ s11 h11 ⟨rfl, rfl⟩
    refine JO_st 2 [_, _, _, _, _, _, _, _, _, _] rfl rfl rfl rfl rfl rfl rfl rfl rfl ?_
    refine JO_st 1 [_, _] rfl rfl rfl rfl rfl rfl rfl rfl rfl ?_
    refine JO_nil ?_
    refine thenQ_n ?_
    refine JC_ret ?_
    refine thenQ_r ?_
    refine retQ_mk [] _ (.inr rfl) (.agg (us := [_, _, _, _, _, _, _, _, _, _]) 2 rfl rfl rfl rfl rfl (.agg (us := [_, _]) 1 rfl rfl rfl rfl rfl (.nil))) rfl (Le.trans (Le.trans (Le.trans (Le.trans (Le.trans h1 h2) h3) h4) h5) h11) (fun sR hS2 => ?_)
    refine ⟨[_, _, _, _], rfl, fun s2 hs2 hp => ?_⟩
    rw [start_in hst0 hlong hin]; exact ⟨_, StW.zero _, rfl⟩
   ·
    have hin : ¬ 400000 < i.length := by omega
    refine JC_skip ?_
    refine thenQ_n ?_
    refine JC_seq ?_
    refine JC_draw drawsMixed 8 rfl _ (fun _ h => h) ?_
    intro s12 h12
    refine JA_q 0 rfl (by kernel_rfl) (by kernel_rfl) (by kernel_rfl) trivial (QE_fa0 rfl rfl rfl rfl) rfl ?_
    refine JA_q 1 rfl (by kernel_rfl) (by kernel_rfl) (by kernel_rfl) trivial (QE_cast (QE_ld1 3 rfl rfl rfl rfl rfl) (congrArg (Value.int .i64) hN)) rfl ?_
    refine JA_q 3 rfl (by kernel_rfl) (by kernel_rfl) (by kernel_rfl) trivial (QE_mv rfl) rfl ?_
    refine JA_3 2 4 6 (by kernel_rfl) ?_ ?_ ?_
    ·
     refine JB_mk rfl trivial rfl rfl rfl rfl rfl (by simp [ti26]; omega) (by omega) rfl ?_
     intro bc s13 h13
     refine JA_2 4 6 (by kernel_rfl) ?_ ?_
     ·
      refine JB_call rfl trivial (first := []) (captured := []) rfl rfl rfl (AC.pub (cloneB_ac D _ _ _ _ _ _ (hIn.le (Le.trans (Le.trans (Le.trans (Le.trans (Le.trans (Le.trans h1 h2) h3) h4) h5) h12) h13)) (by omega))) ?_
      rintro _ _ s14 h14 ⟨rfl, Mi, swi, ⟨Ai1, ci1, rfl, _, _, hOi⟩, hswi, hcwi⟩
      refine ⟨fun _ _ h => h, ?_⟩
      have hBi := Own.bts hOi hcwi
      refine JA_q 5 rfl (by kernel_rfl) (by kernel_rfl) (by kernel_rfl) trivial (QE_build [(_, _), (_, _)] [_, _, _, _, _, _, _, _, _, _] rfl rfl rfl rfl rfl rfl) rfl ?_
      refine JA_1 6 (by kernel_rfl) ?_
      refine JB_alloc rfl trivial rfl [_, _, _, _, _, _, _, _, _, _] rfl rfl ?_
      intro β15 s15 h15
      refine JA_1 7 (by kernel_rfl) ?_
      refine JB_st rfl trivial 0 [_, _, _, _, _, _, _, _, _, _] rfl rfl rfl rfl rfl rfl rfl rfl rfl (fun _ hx => sub_mem (sbN (sbY (sbY (sbY (sbY (sbE _)))))) hx) ?_
      refine JA_done (by kernel_rfl) ?_
      refine thenQ_n ?_
      refine JC_seq ?_
      refine JC_region ?_
      refine JO_q (QE_fa0 rfl rfl rfl rfl) rfl ?_
      refine JO_q (QE_ld1 0 rfl rfl rfl rfl rfl) rfl ?_
      refine JO_q (QE_mv rfl) rfl ?_
      refine JO_copy 1 rfl rfl rfl rfl rfl rfl rfl (hIm.row.le (Le.trans (Le.trans (Le.trans (Le.trans (Le.trans (Le.trans (Le.trans (Le.trans h1 h2) h3) h4) h5) h12) h13) h14) h15)) (by omega) (by simp) rfl rfl ?_
      refine JO_nil ?_
      refine thenQ_n ?_
      refine JC_seq ?_
      refine JC_region ?_
      refine JO_q (QE_ldA 0 [_, _, _, _, _, _, _, _, _, _] rfl rfl rfl rfl rfl) rfl ?_
      refine JO_q (QE_build [] [_, _] rfl rfl rfl rfl rfl rfl) rfl ?_
      refine JO_st 4 [_, _, _, _, _, _, _, _, _, _] rfl rfl rfl rfl rfl rfl rfl rfl rfl ?_
      refine JO_st 3 [_, _] rfl rfl rfl rfl rfl rfl rfl rfl rfl ?_
      refine JO_nil ?_
      refine thenQ_n ?_
      refine JC_ret ?_
      refine retQ_mk [] _ (.inr rfl) (.agg (us := [_, _, _, _, _, _, _, _, _, _]) 4 rfl rfl rfl rfl rfl (.agg (us := [_, _]) 3 rfl rfl rfl rfl rfl (.nil))) rfl (Le.trans (Le.trans (Le.trans (Le.trans (Le.trans (Le.trans (Le.trans (Le.trans h1 h2) h3) h4) h5) h12) h13) h14) h15) (fun sR hS2 => ?_)
      refine ⟨[_, _, _, _, _, _], rfl, fun s2 hs2 hp => ?_⟩
      rw [start_ok hst0 hlong hin]
      have hw := wds_start (hp bc (wv l ++ (List.replicate N (Value.int .u32 0)).drop l.length) 26 (by simp)) hu (by omega) (by omega)
      have hNN : t.cells.toNat = N := by omega
      rw [← hNN] at hw
      exact ⟨_, ⟨_, _, _, _, _, _, _, _, _, by rw [← hNN]; rfl, hw, hBi.le (Le.trans h15 (Le.trans hS2 hs2)), Bts.nil _ none 0 (by omega)⟩, rfl⟩
     ·
      refine JB_alloc rfl trivial rfl [_, _, _, _, _, _, _, _, _, _] rfl rfl ?_
      intro β17 s17 h17
      refine JA_1 4 (by kernel_rfl) ?_
      refine JB_call rfl trivial (first := []) (captured := []) rfl rfl rfl (AC.pub (cloneB_ac D _ _ _ _ _ _ (hIn.le (Le.trans (Le.trans (Le.trans (Le.trans (Le.trans (Le.trans (Le.trans h1 h2) h3) h4) h5) h12) h13) h17)) (by omega))) ?_
      rintro _ _ s18 h18 ⟨rfl, Mi, swi, ⟨Ai1, ci1, rfl, _, _, hOi⟩, hswi, hcwi⟩
      refine ⟨fun _ _ h => h, ?_⟩
      have hBi := Own.bts hOi hcwi
      refine JA_q 5 rfl (by kernel_rfl) (by kernel_rfl) (by kernel_rfl) trivial (QE_build [(_, _), (_, _)] [_, _, _, _, _, _, _, _, _, _] rfl rfl rfl rfl rfl rfl) rfl ?_
      refine JA_1 7 (by kernel_rfl) ?_
      refine JB_st rfl trivial 0 [_, _, _, _, _, _, _, _, _, _] rfl rfl rfl rfl rfl rfl rfl rfl rfl (fun _ hx => sub_mem (sbN (sbY (sbY (sbY (sbY (sbE _)))))) hx) ?_
      refine JA_done (by kernel_rfl) ?_
      refine thenQ_n ?_
      refine JC_seq ?_
      refine JC_region ?_
      refine JO_q (QE_fa0 rfl rfl rfl rfl) rfl ?_
      refine JO_q (QE_ld1 0 rfl rfl rfl rfl rfl) rfl ?_
      refine JO_q (QE_mv rfl) rfl ?_
      refine JO_copy 1 rfl rfl rfl rfl rfl rfl rfl (hIm.row.le (Le.trans (Le.trans (Le.trans (Le.trans (Le.trans (Le.trans (Le.trans (Le.trans h1 h2) h3) h4) h5) h12) h13) h17) h18)) (by omega) (by simp) rfl rfl ?_
      refine JO_nil ?_
      refine thenQ_n ?_
      refine JC_seq ?_
      refine JC_region ?_
      refine JO_q (QE_ldA 0 [_, _, _, _, _, _, _, _, _, _] rfl rfl rfl rfl rfl) rfl ?_
      refine JO_q (QE_build [] [_, _] rfl rfl rfl rfl rfl rfl) rfl ?_
      refine JO_st 4 [_, _, _, _, _, _, _, _, _, _] rfl rfl rfl rfl rfl rfl rfl rfl rfl ?_
      refine JO_st 3 [_, _] rfl rfl rfl rfl rfl rfl rfl rfl rfl ?_
      refine JO_nil ?_
      refine thenQ_n ?_
      refine JC_ret ?_
      refine retQ_mk [] _ (.inr rfl) (.agg (us := [_, _, _, _, _, _, _, _, _, _]) 4 rfl rfl rfl rfl rfl (.agg (us := [_, _]) 3 rfl rfl rfl rfl rfl (.nil))) rfl (Le.trans (Le.trans (Le.trans (Le.trans (Le.trans (Le.trans (Le.trans (Le.trans h1 h2) h3) h4) h5) h12) h13) h17) h18) (fun sR hS2 => ?_)
      refine ⟨[_, _, _, _, _, _], rfl, fun s2 hs2 hp => ?_⟩
      rw [start_ok hst0 hlong hin]
      have hw := wds_start (hp bc (wv l ++ (List.replicate N (Value.int .u32 0)).drop l.length) 26 (by simp)) hu (by omega) (by omega)
      have hNN : t.cells.toNat = N := by omega
      rw [← hNN] at hw
      exact ⟨_, ⟨_, _, _, _, _, _, _, _, _, by rw [← hNN]; rfl, hw, hBi.le (Le.trans (Le.refl (D := D) _) (Le.trans hS2 hs2)), Bts.nil _ none 0 (by omega)⟩, rfl⟩
    ·
     refine JB_call rfl trivial (first := []) (captured := []) rfl rfl rfl (AC.pub (cloneB_ac D _ _ _ _ _ _ (hIn.le (Le.trans (Le.trans (Le.trans (Le.trans (Le.trans h1 h2) h3) h4) h5) h12)) (by omega))) ?_
     rintro _ _ s20 h20 ⟨rfl, Mi, swi, ⟨Ai1, ci1, rfl, _, _, hOi⟩, hswi, hcwi⟩
     refine ⟨fun _ _ h => h, ?_⟩
     have hBi := Own.bts hOi hcwi
     refine JA_2 2 6 (by kernel_rfl) ?_ ?_
     ·
      refine JB_mk rfl trivial rfl rfl rfl rfl rfl (by simp [ti26]; omega) (by omega) rfl ?_
      intro bc s21 h21
      refine JA_q 5 rfl (by kernel_rfl) (by kernel_rfl) (by kernel_rfl) trivial (QE_build [(_, _), (_, _)] [_, _, _, _, _, _, _, _, _, _] rfl rfl rfl rfl rfl rfl) rfl ?_
      refine JA_1 6 (by kernel_rfl) ?_
      refine JB_alloc rfl trivial rfl [_, _, _, _, _, _, _, _, _, _] rfl rfl ?_
      intro β22 s22 h22
      refine JA_1 7 (by kernel_rfl) ?_
      refine JB_st rfl trivial 0 [_, _, _, _, _, _, _, _, _, _] rfl rfl rfl rfl rfl rfl rfl rfl rfl (fun _ hx => sub_mem (sbN (sbY (sbY (sbY (sbY (sbE _)))))) hx) ?_
      refine JA_done (by kernel_rfl) ?_
      refine thenQ_n ?_
      refine JC_seq ?_
      refine JC_region ?_
      refine JO_q (QE_fa0 rfl rfl rfl rfl) rfl ?_
      refine JO_q (QE_ld1 0 rfl rfl rfl rfl rfl) rfl ?_
      refine JO_q (QE_mv rfl) rfl ?_
      refine JO_copy 1 rfl rfl rfl rfl rfl rfl rfl (hIm.row.le (Le.trans (Le.trans (Le.trans (Le.trans (Le.trans (Le.trans (Le.trans (Le.trans h1 h2) h3) h4) h5) h12) h20) h21) h22)) (by omega) (by simp) rfl rfl ?_
      refine JO_nil ?_
      refine thenQ_n ?_
      refine JC_seq ?_
      refine JC_region ?_
      refine JO_q (QE_ldA 0 [_, _, _, _, _, _, _, _, _, _] rfl rfl rfl rfl rfl) rfl ?_
      refine JO_q (QE_build [] [_, _] rfl rfl rfl rfl rfl rfl) rfl ?_
      refine JO_st 4 [_, _, _, _, _, _, _, _, _, _] rfl rfl rfl rfl rfl rfl rfl rfl rfl ?_
      refine JO_st 3 [_, _] rfl rfl rfl rfl rfl rfl rfl rfl rfl ?_
      refine JO_nil ?_
      refine thenQ_n ?_
      refine JC_ret ?_
      refine retQ_mk [] _ (.inr rfl) (.agg (us := [_, _, _, _, _, _, _, _, _, _]) 4 rfl rfl rfl rfl rfl (.agg (us := [_, _]) 3 rfl rfl rfl rfl rfl (.nil))) rfl (Le.trans (Le.trans (Le.trans (Le.trans (Le.trans (Le.trans (Le.trans (Le.trans h1 h2) h3) h4) h5) h12) h20) h21) h22) (fun sR hS2 => ?_)
      refine ⟨[_, _, _, _, _, _], rfl, fun s2 hs2 hp => ?_⟩
      rw [start_ok hst0 hlong hin]
      have hw := wds_start (hp bc (wv l ++ (List.replicate N (Value.int .u32 0)).drop l.length) 26 (by simp)) hu (by omega) (by omega)
      have hNN : t.cells.toNat = N := by omega
      rw [← hNN] at hw
      exact ⟨_, ⟨_, _, _, _, _, _, _, _, _, by rw [← hNN]; rfl, hw, hBi.le (Le.trans (Le.trans h21 h22) (Le.trans hS2 hs2)), Bts.nil _ none 0 (by omega)⟩, rfl⟩
     ·
      refine JB_alloc rfl trivial rfl [_, _, _, _, _, _, _, _, _, _] rfl rfl ?_
      intro β24 s24 h24
      refine JA_1 2 (by kernel_rfl) ?_
      refine JB_mk rfl trivial rfl rfl rfl rfl rfl (by simp [ti26]; omega) (by omega) rfl ?_
      intro bc s25 h25
      refine JA_q 5 rfl (by kernel_rfl) (by kernel_rfl) (by kernel_rfl) trivial (QE_build [(_, _), (_, _)] [_, _, _, _, _, _, _, _, _, _] rfl rfl rfl rfl rfl rfl) rfl ?_
      refine JA_1 7 (by kernel_rfl) ?_
      refine JB_st rfl trivial 1 [_, _, _, _, _, _, _, _, _, _] rfl rfl rfl rfl rfl rfl rfl rfl rfl (fun _ hx => sub_mem (sbN (sbY (sbY (sbY (sbY (sbE _)))))) hx) ?_
      refine JA_done (by kernel_rfl) ?_
      refine thenQ_n ?_
      refine JC_seq ?_
      refine JC_region ?_
      refine JO_q (QE_fa0 rfl rfl rfl rfl) rfl ?_
      refine JO_q (QE_ld1 1 rfl rfl rfl rfl rfl) rfl ?_
      refine JO_q (QE_mv rfl) rfl ?_
      refine JO_copy 0 rfl rfl rfl rfl rfl rfl rfl (hIm.row.le (Le.trans (Le.trans (Le.trans (Le.trans (Le.trans (Le.trans (Le.trans (Le.trans h1 h2) h3) h4) h5) h12) h20) h24) h25)) (by omega) (by simp) rfl rfl ?_
      refine JO_nil ?_
      refine thenQ_n ?_
      refine JC_seq ?_
      refine JC_region ?_
      refine JO_q (QE_ldA 1 [_, _, _, _, _, _, _, _, _, _] rfl rfl rfl rfl rfl) rfl ?_
      refine JO_q (QE_build [] [_, _] rfl rfl rfl rfl rfl rfl) rfl ?_
      refine JO_st 4 [_, _, _, _, _, _, _, _, _, _] rfl rfl rfl rfl rfl rfl rfl rfl rfl ?_
      refine JO_st 3 [_, _] rfl rfl rfl rfl rfl rfl rfl rfl rfl ?_
      refine JO_nil ?_
      refine thenQ_n ?_
      refine JC_ret ?_
      refine retQ_mk [] _ (.inr rfl) (.agg (us := [_, _, _, _, _, _, _, _, _, _]) 4 rfl rfl rfl rfl rfl (.agg (us := [_, _]) 3 rfl rfl rfl rfl rfl (.nil))) rfl (Le.trans (Le.trans (Le.trans (Le.trans (Le.trans (Le.trans (Le.trans (Le.trans h1 h2) h3) h4) h5) h12) h20) h24) h25) (fun sR hS2 => ?_)
      refine ⟨[_, _, _, _, _, _], rfl, fun s2 hs2 hp => ?_⟩
      rw [start_ok hst0 hlong hin]
      have hw := wds_start (hp bc (wv l ++ (List.replicate N (Value.int .u32 0)).drop l.length) 26 (by simp)) hu (by omega) (by omega)
      have hNN : t.cells.toNat = N := by omega
      rw [← hNN] at hw
      exact ⟨_, ⟨_, _, _, _, _, _, _, _, _, by rw [← hNN]; rfl, hw, hBi.le (Le.trans (Le.trans h24 h25) (Le.trans hS2 hs2)), Bts.nil _ none 0 (by omega)⟩, rfl⟩
    ·
     refine JB_alloc rfl trivial rfl [_, _, _, _, _, _, _, _, _, _] rfl rfl ?_
     intro β27 s27 h27
     refine JA_2 2 4 (by kernel_rfl) ?_ ?_
     ·
      refine JB_mk rfl trivial rfl rfl rfl rfl rfl (by simp [ti26]; omega) (by omega) rfl ?_
      intro bc s28 h28
      refine JA_1 4 (by kernel_rfl) ?_
      refine JB_call rfl trivial (first := []) (captured := []) rfl rfl rfl (AC.pub (cloneB_ac D _ _ _ _ _ _ (hIn.le (Le.trans (Le.trans (Le.trans (Le.trans (Le.trans (Le.trans (Le.trans h1 h2) h3) h4) h5) h12) h27) h28)) (by omega))) ?_
      rintro _ _ s29 h29 ⟨rfl, Mi, swi, ⟨Ai1, ci1, rfl, _, _, hOi⟩, hswi, hcwi⟩
      refine ⟨fun _ _ h => h, ?_⟩
      have hBi := Own.bts hOi hcwi
      refine JA_q 5 rfl (by kernel_rfl) (by kernel_rfl) (by kernel_rfl) trivial (QE_build [(_, _), (_, _)] [_, _, _, _, _, _, _, _, _, _] rfl rfl rfl rfl rfl rfl) rfl ?_
      refine JA_1 7 (by kernel_rfl) ?_
      refine JB_st rfl trivial 1 [_, _, _, _, _, _, _, _, _, _] rfl rfl rfl rfl rfl rfl rfl rfl rfl (fun _ hx => sub_mem (sbN (sbY (sbY (sbY (sbY (sbE _)))))) hx) ?_
      refine JA_done (by kernel_rfl) ?_
      refine thenQ_n ?_
      refine JC_seq ?_
      refine JC_region ?_
      refine JO_q (QE_fa0 rfl rfl rfl rfl) rfl ?_
      refine JO_q (QE_ld1 1 rfl rfl rfl rfl rfl) rfl ?_
      refine JO_q (QE_mv rfl) rfl ?_
      refine JO_copy 0 rfl rfl rfl rfl rfl rfl rfl (hIm.row.le (Le.trans (Le.trans (Le.trans (Le.trans (Le.trans (Le.trans (Le.trans (Le.trans h1 h2) h3) h4) h5) h12) h27) h28) h29)) (by omega) (by simp) rfl rfl ?_
      refine JO_nil ?_
      refine thenQ_n ?_
      refine JC_seq ?_
      refine JC_region ?_
      refine JO_q (QE_ldA 1 [_, _, _, _, _, _, _, _, _, _] rfl rfl rfl rfl rfl) rfl ?_
      refine JO_q (QE_build [] [_, _] rfl rfl rfl rfl rfl rfl) rfl ?_
      refine JO_st 4 [_, _, _, _, _, _, _, _, _, _] rfl rfl rfl rfl rfl rfl rfl rfl rfl ?_
      refine JO_st 3 [_, _] rfl rfl rfl rfl rfl rfl rfl rfl rfl ?_
      refine JO_nil ?_
      refine thenQ_n ?_
      refine JC_ret ?_
      refine retQ_mk [] _ (.inr rfl) (.agg (us := [_, _, _, _, _, _, _, _, _, _]) 4 rfl rfl rfl rfl rfl (.agg (us := [_, _]) 3 rfl rfl rfl rfl rfl (.nil))) rfl (Le.trans (Le.trans (Le.trans (Le.trans (Le.trans (Le.trans (Le.trans (Le.trans h1 h2) h3) h4) h5) h12) h27) h28) h29) (fun sR hS2 => ?_)
      refine ⟨[_, _, _, _, _, _], rfl, fun s2 hs2 hp => ?_⟩
      rw [start_ok hst0 hlong hin]
      have hw := wds_start (hp bc (wv l ++ (List.replicate N (Value.int .u32 0)).drop l.length) 26 (by simp)) hu (by omega) (by omega)
      have hNN : t.cells.toNat = N := by omega
      rw [← hNN] at hw
      exact ⟨_, ⟨_, _, _, _, _, _, _, _, _, by rw [← hNN]; rfl, hw, hBi.le (Le.trans (Le.refl (D := D) _) (Le.trans hS2 hs2)), Bts.nil _ none 0 (by omega)⟩, rfl⟩
     ·
      refine JB_call rfl trivial (first := []) (captured := []) rfl rfl rfl (AC.pub (cloneB_ac D _ _ _ _ _ _ (hIn.le (Le.trans (Le.trans (Le.trans (Le.trans (Le.trans (Le.trans h1 h2) h3) h4) h5) h12) h27)) (by omega))) ?_
      rintro _ _ s31 h31 ⟨rfl, Mi, swi, ⟨Ai1, ci1, rfl, _, _, hOi⟩, hswi, hcwi⟩
      refine ⟨fun _ _ h => h, ?_⟩
      have hBi := Own.bts hOi hcwi
      refine JA_1 2 (by kernel_rfl) ?_
      refine JB_mk rfl trivial rfl rfl rfl rfl rfl (by simp [ti26]; omega) (by omega) rfl ?_
      intro bc s32 h32
      refine JA_q 5 rfl (by kernel_rfl) (by kernel_rfl) (by kernel_rfl) trivial (QE_build [(_, _), (_, _)] [_, _, _, _, _, _, _, _, _, _] rfl rfl rfl rfl rfl rfl) rfl ?_
      refine JA_1 7 (by kernel_rfl) ?_
      refine JB_st rfl trivial 1 [_, _, _, _, _, _, _, _, _, _] rfl rfl rfl rfl rfl rfl rfl rfl rfl (fun _ hx => sub_mem (sbN (sbY (sbY (sbY (sbY (sbE _)))))) hx) ?_
      refine JA_done (by kernel_rfl) ?_
      refine thenQ_n ?_
      refine JC_seq ?_
      refine JC_region ?_
      refine JO_q (QE_fa0 rfl rfl rfl rfl) rfl ?_
      refine JO_q (QE_ld1 1 rfl rfl rfl rfl rfl) rfl ?_
      refine JO_q (QE_mv rfl) rfl ?_
      refine JO_copy 0 rfl rfl rfl rfl rfl rfl rfl (hIm.row.le (Le.trans (Le.trans (Le.trans (Le.trans (Le.trans (Le.trans (Le.trans (Le.trans h1 h2) h3) h4) h5) h12) h27) h31) h32)) (by omega) (by simp) rfl rfl ?_
      refine JO_nil ?_
      refine thenQ_n ?_
      refine JC_seq ?_
      refine JC_region ?_
      refine JO_q (QE_ldA 1 [_, _, _, _, _, _, _, _, _, _] rfl rfl rfl rfl rfl) rfl ?_
      refine JO_q (QE_build [] [_, _] rfl rfl rfl rfl rfl rfl) rfl ?_
      refine JO_st 4 [_, _, _, _, _, _, _, _, _, _] rfl rfl rfl rfl rfl rfl rfl rfl rfl ?_
      refine JO_st 3 [_, _] rfl rfl rfl rfl rfl rfl rfl rfl rfl ?_
      refine JO_nil ?_
      refine thenQ_n ?_
      refine JC_ret ?_
      refine retQ_mk [] _ (.inr rfl) (.agg (us := [_, _, _, _, _, _, _, _, _, _]) 4 rfl rfl rfl rfl rfl (.agg (us := [_, _]) 3 rfl rfl rfl rfl rfl (.nil))) rfl (Le.trans (Le.trans (Le.trans (Le.trans (Le.trans (Le.trans (Le.trans (Le.trans h1 h2) h3) h4) h5) h12) h27) h31) h32) (fun sR hS2 => ?_)
      refine ⟨[_, _, _, _, _, _], rfl, fun s2 hs2 hp => ?_⟩
      rw [start_ok hst0 hlong hin]
      have hw := wds_start (hp bc (wv l ++ (List.replicate N (Value.int .u32 0)).drop l.length) 26 (by simp)) hu (by omega) (by omega)
      have hNN : t.cells.toNat = N := by omega
      rw [← hNN] at hw
      exact ⟨_, ⟨_, _, _, _, _, _, _, _, _, by rw [← hNN]; rfl, hw, hBi.le (Le.trans h32 (Le.trans hS2 hs2)), Bts.nil _ none 0 (by omega)⟩, rfl⟩

theorem take_wv {l : List Int} {j : Nat} {x : Int} (h : l[j]? = some x) : wv (l.take (j + 1)) = wv (l.take j) ++ [.int .u32 x] := by
  obtain ⟨hj, rfl⟩ := List.getElem?_eq_some_iff.1 h
  rw [List.take_succ_eq_append_getElem hj]; unfold wv; rw [List.map_append]; rfl
theorem start_at {t : Tab} {l : List Int} {i : List UInt8} {j : Nat} {x : Int} (h : l[j]? = some x) : (startM t l i).cells[j]? = some x := by
  simp only [startM]; rw [List.getElem?_append_left (List.getElem?_eq_some_iff.1 h).1]; exact h
theorem start_zero {t : Tab} {l : List Int} {i : List UInt8} {j : Nat} (h : ¬ j < l.length) (hj : (j : Int) < t.cells) : (startM t l i).cells[j]? = some 0 := by
  simp only [startM]; rw [List.getElem?_append_right (by omega), List.getElem?_replicate, if_pos (by omega)]

set_option maxHeartbeats 4000000 in
set_option maxRecDepth 100000 in
theorem startedO_ac (D : Nat) (L : Hl) (s : World) (t : Tab) (A : Option Addr) (n c : Nat) (hA : Inss s A n c t.ins) (A1 : Option Addr) (n1 c1 : Nat) (l : List Int) (hIm : Wds s A1 n1 c1 l) (A2 : Option Addr) (n2 c2 : Nat) (i : List UInt8) (hIn : Bts s A2 n2 c2 i) (hG : TabG t) (hl : (l.length : Int) ≤ t.cells) (hi : i.length ≤ 400000) : AC Try.prog D 21 [.agg #[.int .i64 t.cells, .slice A n c], .slice A1 n1 c1, .slice A2 n2 c2] L s fun v L' s' => ∃ M', L' = M' ++ L ∧ ∀ s2, Le D s' s2 → Pub M' s2 → StW s2 (startM t l i) v := by
 obtain rfl := hIm.1
 obtain rfl := hIn.1
 have hcl := hG.cells
 obtain ⟨hmok, _, hlen⟩ := start_good hG hl hi hIm.u32
 refine AC_enter (TT := TT) (fn := Try.f21) TT_ok Try.func21 (by kernel_rfl) rfl Try.ntmps21 rfl (rs := [.cell 6 30]) rfl [(0, _), (1, _), (2, _)] rfl ?_
 refine JC_seq ?_
 refine JC_region ?_
 refine JO_boxA rfl rfl ?_
 intro β1 s1 h1
 refine JO_allocZ rfl [_, _, _, _, _, _, _, _, _, _] rfl rfl ?_
 intro β2 s2 h2
 refine JO_nil ?_
 refine thenQ_n ?_
 refine JC_seq ?_
 refine JC_region ?_
 refine JO_allocZ rfl [_, _, _, _, _, _, _, _, _, _] rfl rfl ?_
 intro β3 s3 h3
 refine JO_nil ?_
 refine thenQ_n ?_
 refine JC_seq ?_
 refine JC_seq ?_
 refine JC_region ?_
 refine JO_q (QE_as rfl) rfl ?_
 refine JO_nil ?_
 refine thenQ_n ?_
 refine JC_block ?_
 refine JC_loop (γ := Nat × Value × Hl) (fun g => [(1, _), (2, _), (3, _), (6, _), (7, _), (8, .int .i64 (g.1 : Int))]) (fun g => (β3, cb [g.2.1, .int .u32 0, .int .u32 0, .int .u32 0, .int .u32 0, .int .u32 0, .slice none 0 0, .slice none 0 0, .int .i64 0, .int .u32 0] 30) :: (β2, cb [.slice none 0 0, .int .u32 0, .int .u32 0, .int .u32 0, .int .u32 0, .int .u32 0, .slice none 0 0, .slice none 0 0, .int .i64 0, .int .u32 0] 30) :: (β1, cb [.int .i64 t.cells, .slice A n c] 24) :: (g.2.2 ++ L)) (fun g tw => Le D s3 tw ∧ ((g.1 : Int) ≤ t.cells ∧ Own 26 1 g.2.2 g.2.1 g.1 (wv ((startM t l i).cells.take g.1)))) (fun g => t.cells.toNat - g.1) (fun _ _ _ h hl => ⟨h.1.trans hl, h.2⟩) (0, .slice none 0 0, []) (Keeps.cons rfl (Keeps.cons rfl (Keeps.cons rfl (Keeps.cons rfl (Keeps.cons rfl (Keeps.cons rfl (Keeps.nil _))))))) rfl ⟨Le.refl _, ⟨by simp only; omega, Own.nil⟩⟩ ?_
 intro g s4 I4
 obtain ⟨j, vj, Mj⟩ := g
 obtain ⟨hj0, hOj⟩ := I4.2
 simp only at hj0 hOj
 dsimp only
 refine JC_seq ?_
 refine JC_seq ?_
 refine JC_region ?_
 refine JO_q (QE_mv rfl) rfl ?_
 refine JO_q (QE_fa0 rfl rfl rfl rfl) rfl ?_
 refine JO_q (QE_ld1 2 rfl rfl rfl rfl rfl) rfl ?_
 refine JO_q (QE_lt rfl rfl) rfl ?_
 refine JO_nil ?_
 refine thenQ_n ?_
 refine JC_ifD rfl (fun c5 => ?_) (fun c5 => ?_)
 ·
  have hj : (j : Int) < t.cells := c5
  refine JC_skip ?_
  refine thenQ_n ?_
  refine JC_seq ?_
  refine JC_block ?_
  refine JC_seq ?_
  refine JC_region ?_
  refine JO_q (QE_as rfl) rfl ?_
  refine JO_nil ?_
  refine thenQ_n ?_
  refine JC_seq ?_
  refine JC_seq ?_
  refine JC_region ?_
  refine JO_q (QE_mv rfl) rfl ?_
  refine JO_q (QE_mv rfl) rfl ?_
  refine JO_q (QE_lenS rfl rfl rfl) rfl ?_
  refine JO_q (QE_lt rfl rfl) rfl ?_
  refine JO_nil ?_
  refine thenQ_n ?_
  refine JC_ifD rfl (fun c6 => ?_) (fun c6 => ?_)
  ·
   have hk : j < l.length := by omega
   obtain ⟨b, off, x, rfl, hx, hcx, _⟩ := Wds.at_ (hIm.le (Le.trans (Le.trans (Le.trans h1 h2) h3) I4.1)) hk
   have hX := start_at (t := t) (i := i) hx
   refine JC_region ?_
   refine JO_q (QE_mv rfl) rfl ?_
   refine JO_q (QE_mv rfl) rfl ?_
   refine JO_q (QE_ia1 rfl rfl rfl rfl rfl rfl hk) rfl ?_
   refine JO_q (QE_ldsR0 rfl rfl rfl (hcx.le (Le.refl (D := D) _)) rfl) rfl ?_
   refine JO_q (QE_as rfl) rfl ?_
   refine JO_nil ?_
   refine thenQ_n ?_
   refine JC_region ?_
   refine JO_q (QE_fa0 rfl rfl rfl rfl) rfl ?_
   refine JO_q (QE_ld1 0 rfl rfl rfl rfl rfl) rfl ?_
   refine JO_q (QE_mv rfl) rfl ?_
   refine JO_bs [(_, _)] [_] rfl rfl rfl rfl rfl rfl rfl rfl rfl ?_
   intro βn s7 h7 hcn
   refine JO_app (sz := 1) [_, _, _] Mj L rfl rfl rfl rfl rfl rfl rfl hOj (Row.of_cells (hcn.le (Le.refl (D := D) _)) rfl rfl) ⟨by simp [ti26]; omega, by omega⟩ rfl ?_
   intro v2 A2x s8 h8 o2
   obtain ⟨Av2, cv2, rfl, _, _⟩ := Own.slice o2
   simp only [List.cons_append, List.nil_append]
   refine JO_q (QE_fa0 rfl rfl rfl rfl) rfl ?_
   refine JO_st 0 [_, _, _, _, _, _, _, _, _, _] rfl rfl rfl rfl rfl rfl rfl rfl rfl ?_
   refine JO_nil ?_
   refine blockQ_n ?_
   refine thenQ_n ?_
   refine JC_region ?_
   refine JO_q (QE_mv rfl) rfl ?_
   refine JO_q (QE_add' rfl rfl (w64 (by omega) (by omega))) rfl ?_
   refine JO_q (QE_as rfl) rfl ?_
   refine JO_nil ?_
   refine thenQ_n ⟨(j + 1, .slice Av2 (j + 1) cv2, A2x), [], (Keeps.cons rfl (Keeps.cons rfl (Keeps.cons rfl (Keeps.cons rfl (Keeps.cons rfl (Keeps.cons rfl (Keeps.nil _))))))), rfl, ⟨(Le.trans (Le.trans I4.1 h7) h8), ⟨by simp only; omega, by simp only; rw [take_wv hX]; exact o2⟩⟩, (by simp only; omega)⟩
  ·
   have hX := start_zero (l := l) (i := i) (show ¬ j < l.length by omega) hj
   refine JC_skip ?_
   refine thenQ_n ?_
   refine JC_region ?_
   refine JO_q (QE_fa0 rfl rfl rfl rfl) rfl ?_
   refine JO_q (QE_ld1 0 rfl rfl rfl rfl rfl) rfl ?_
   refine JO_q (QE_mv rfl) rfl ?_
   refine JO_bs [(_, _)] [_] rfl rfl rfl rfl rfl rfl rfl rfl rfl ?_
   intro βn s9 h9 hcn
   refine JO_app (sz := 1) [_, _, _] Mj L rfl rfl rfl rfl rfl rfl rfl hOj (Row.of_cells (hcn.le (Le.refl (D := D) _)) rfl rfl) ⟨by simp [ti26]; omega, by omega⟩ rfl ?_
   intro v2 A2x s10 h10 o2
   obtain ⟨Av2, cv2, rfl, _, _⟩ := Own.slice o2
   simp only [List.cons_append, List.nil_append]
   refine JO_q (QE_fa0 rfl rfl rfl rfl) rfl ?_
   refine JO_st 0 [_, _, _, _, _, _, _, _, _, _] rfl rfl rfl rfl rfl rfl rfl rfl rfl ?_
   refine JO_nil ?_
   refine blockQ_n ?_
   refine thenQ_n ?_
   refine JC_region ?_
   refine JO_q (QE_mv rfl) rfl ?_
   refine JO_q (QE_add' rfl rfl (w64 (by omega) (by omega))) rfl ?_
   refine JO_q (QE_as rfl) rfl ?_
   refine JO_nil ?_
   refine thenQ_n ⟨(j + 1, .slice Av2 (j + 1) cv2, A2x), [], (Keeps.cons rfl (Keeps.cons rfl (Keeps.cons rfl (Keeps.cons rfl (Keeps.cons rfl (Keeps.cons rfl (Keeps.nil _))))))), rfl, ⟨(Le.trans (Le.trans I4.1 h9) h10), ⟨by simp only; omega, by simp only; rw [take_wv hX]; exact o2⟩⟩, (by simp only; omega)⟩
 ·
  have hcells : (startM t l i).cells.take j = (startM t l i).cells := List.take_of_length_le (by omega)
  rw [hcells] at hOj
  obtain ⟨Ac, cc, rfl, kc1, kc2⟩ := Own.slice hOj
  refine JC_exit ?_
  refine thenQ_x ?_
  refine thenQ_x ?_
  refine blockQ_x ?_
  refine thenQ_n ?_
  refine JC_seq ?_
  refine JC_region ?_
  refine JO_q (QE_faB rfl rfl rfl rfl) rfl ?_
  refine JO_q (QE_ld1 0 rfl rfl rfl rfl rfl) rfl ?_
  refine JO_q (QE_mv rfl) rfl ?_
  refine JO_app (sz := 1) [_, _, _] [] _ rfl rfl rfl rfl rfl rfl rfl Own.nil (hIn.row.le (Le.trans (Le.trans (Le.trans h1 h2) h3) I4.1)) ⟨by simp [ti5]; omega, by omega⟩ rfl ?_
  intro v11 A11 s11 h11 o11
  simp only [Nat.zero_add, List.nil_append] at o11
  obtain ⟨Ai1, ci1, rfl, ki1, ki2⟩ := Own.slice o11
  have hOi := o11
  simp only [List.cons_append, List.nil_append]
  refine JO_q (QE_faB rfl rfl rfl rfl) rfl ?_
  refine JO_st 0 [_, _, _, _, _, _, _, _, _, _] rfl rfl rfl rfl rfl rfl rfl rfl rfl ?_
  refine JO_nil ?_
  refine thenQ_n ?_
  refine JC_seq ?_
  refine JC_region ?_
  refine JO_q (QE_ldA 0 [_, _, _, _, _, _, _, _, _, _] rfl rfl rfl rfl rfl) rfl ?_
  refine JO_st 1 [_, _, _, _, _, _, _, _, _, _] rfl rfl rfl rfl rfl rfl rfl rfl rfl ?_
  refine JO_nil ?_
  refine thenQ_n ?_
  refine JC_ret ?_
  refine retQ_mk [_, _, _] _ (.inr rfl) (.agg (us := [_, _, _, _, _, _, _, _, _, _]) 1 rfl rfl rfl rfl rfl (.nil)) rfl (Le.trans (Le.trans (Le.trans (Le.trans h1 h2) h3) I4.1) h11) (fun sR hS2 => ?_)
  exact ⟨_, (List.append_assoc ..).symm, fun s2 hs2 hp => ⟨_, _, _, _, _, _, _, _, _, rfl, Own.wds hOj hmok.wide hp.right, Own.bts hOi hp.left, Bts.nil _ _ _ (by omega)⟩⟩
end Go.Proofs.Ytpjnphonanbopaa
