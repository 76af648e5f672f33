/- Steps and executions. -/
import Derived.Test.YtpjnphonanbopaaV13
namespace Go.Proofs.Ytpjnphonanbopaa
open Go.FL
attribute [local irreducible] JC JO JA JB thenQ blockQ retQ AC fill CellsAt QE Ev Mid

theorem run_ac (D : Nat) (L : Hl) (s : World) (t : Tab) (A : Option Addr) (n c : Nat) (hA : Inss s A n c t.ins) (m : Mst) (Ax Bx Ox : Option Addr) (nAx cAx nBx cBx nOx cOx : Nat) (hAx : Wds s Ax nAx cAx m.cells) (hBx : Bts s Bx nBx cBx m.input) (hOx : Bts s Ox nOx cOx m.output) (hU : MU m) (k : Int) : AC Try.prog D 16 [.agg #[.int .i64 t.cells, .slice A n c], .agg #[.slice Ax nAx cAx, .int .u32 m.r0, .int .u32 m.r1, .int .u32 m.r2, .int .u32 m.r3, .int .u32 m.r4, .slice Bx nBx cBx, .slice Ox nOx cOx, .int .i64 m.stop, .int .u32 m.code], .int .i64 k] L s fun v L' s' => L = L' ∧ ∃ vs, StW s' (runR t m k).1 vs ∧ v = .tuple #[vs, .int .i64 (runR t m k).2.1, .agg #[.int .i64 (runR t m k).2.2.1, .int .i64 (runR t m k).2.2.2]] := AC.pubW (runO_ac D L s t A n c hA m Ax Bx Ox nAx cAx nBx cBx nOx cOx hAx hBx hOx hU k)
theorem ran_ac (D : Nat) (L : Hl) (s : World) (t : Tab) (A : Option Addr) (n c : Nat) (hA : Inss s A n c t.ins) (m : Mst) (Ax Bx Ox : Option Addr) (nAx cAx nBx cBx nOx cOx : Nat) (hAx : Wds s Ax nAx cAx m.cells) (hBx : Bts s Bx nBx cBx m.input) (hOx : Bts s Ox nOx cOx m.output) (hG : TabG t) (hok : MOK m) (hsok : SOK m) (hc0 : 0 < m.cells.length) (k : Int) (hk : 0 ≤ k ∧ k ≤ 50000000) : AC Try.prog D 13 [.agg #[.int .i64 t.cells, .slice A n c], .agg #[.slice Ax nAx cAx, .int .u32 m.r0, .int .u32 m.r1, .int .u32 m.r2, .int .u32 m.r3, .int .u32 m.r4, .slice Bx nBx cBx, .slice Ox nOx cOx, .int .i64 m.stop, .int .u32 m.code], .int .i64 k] L s fun v L' s' => L = L' ∧ ∃ vs, StW s' (runM t m k.toNat).1 vs ∧ v = .tuple #[vs, .int .i64 ((runM t m k.toNat).2 : Int)] := AC.pubW (ranO_ac D L s t A n c hA m Ax Bx Ox nAx cAx nBx cBx nOx cOx hAx hBx hOx hG hok hsok hc0 k hk)
theorem start_ac (D : Nat) (L : Hl) (s : World) (t : Tab) (A : Option Addr) (n c : Nat) (hA : Inss s A n c t.ins) (A1 : Option Addr) (n1 c1 : Nat) (l : List Int) (hIm : Wds s A1 n1 c1 l) (A2 : Option Addr) (n2 c2 : Nat) (i : List UInt8) (hIn : Bts s A2 n2 c2 i) : AC Try.prog D 18 [.agg #[.int .i64 t.cells, .slice A n c], .slice A1 n1 c1, .slice A2 n2 c2] L s fun v L' s' => L = L' ∧ ∃ vs, StW s' (startR t l i).1 vs ∧ v = .tuple #[vs, .agg #[.int .i64 (startR t l i).2.1, .int .i64 (startR t l i).2.2]] := AC.pubW (startO_ac D L s t A n c hA A1 n1 c1 l hIm A2 n2 c2 i hIn)
theorem started_ac (D : Nat) (L : Hl) (s : World) (t : Tab) (A : Option Addr) (n c : Nat) (hA : Inss s A n c t.ins) (A1 : Option Addr) (n1 c1 : Nat) (l : List Int) (hIm : Wds s A1 n1 c1 l) (A2 : Option Addr) (n2 c2 : Nat) (i : List UInt8) (hIn : Bts s A2 n2 c2 i) (hG : TabG t) (hl : (l.length : Int) ≤ t.cells) (hi : i.length ≤ 400000) : AC Try.prog D 21 [.agg #[.int .i64 t.cells, .slice A n c], .slice A1 n1 c1, .slice A2 n2 c2] L s fun v L' s' => L = L' ∧ StW s' (startM t l i) v := AC.pubW (startedO_ac D L s t A n c hA A1 n1 c1 l hIm A2 n2 c2 i hIn hG hl hi)
/-- the outcome of an execution: output, stop, code, steps -/
def execM (t : Tab) (l : List Int) (i : List UInt8) (k : Int) : List UInt8 × Int × Int × Int := ((runM t (startM t l i) k.toNat).1.output, (runM t (startM t l i) k.toNat).1.stop, (runM t (startM t l i) k.toNat).1.code, ((runM t (startM t l i) k.toNat).2 : Int))
def execR (t : Tab) (l : List Int) (i : List UInt8) (k : Int) : (List UInt8 × Int × Int × Int) × Int × Int :=
  if (startFault t l i).1 ≠ 0 then (([], 0, 0, 0), startFault t l i) else if k < 0 ∨ 50000000 < k then (([], 0, 0, 0), 4, -4) else (execM t l i k, 0, 0)
def OutW (s : World) (o : List UInt8 × Int × Int × Int) (v : Value) : Prop := ∃ A n c, v = .agg #[.slice A n c, .int .i64 o.2.1, .int .u32 o.2.2.1, .int .i64 o.2.2.2] ∧ Bts s A n c o.1
theorem OutW.zero (s : World) : OutW s ([], 0, 0, 0) (.agg #[.slice none 0 0, .int .i64 0, .int .u32 0, .int .i64 0]) := ⟨none, 0, 0, rfl, Bts.nil _ _ _ (by omega)⟩
theorem OutW.le {D : Nat} {s s' : World} {o : List UInt8 × Int × Int × Int} {v : Value} (h : OutW s o v) (hl : Le D s s') : OutW s' o v := by
  obtain ⟨A, n, c, h1, h2⟩ := h
  exact ⟨A, n, c, h1, h2.le hl⟩
theorem start_run {t : Tab} {l : List Int} {i : List UInt8} {s : World} {A A1 : Option Addr} {n c n1 c1 : Nat} (hA : Inss s A n c t.ins) (h1 : Wds s A1 n1 c1 l) (h : (startFault t l i).1 = 0) {k : Int} (hk : ¬ (k < 0 ∨ 50000000 < k)) :
    runR t (startR t l i).1 k = ((runM t (startM t l i) k.toNat).1, ((runM t (startM t l i) k.toNat).2 : Int), 0, 0) := by
  obtain ⟨h0, h2, h3⟩ := sf_spec h
  obtain ⟨k1, k2, k3⟩ := start_good (tabG hA h0) h2 h3 h1.u32
  rw [sf_ok h, runR_ok (by rw [st_none h0 k1 k2 k3]) hk]

set_option maxHeartbeats 1000000 in
set_option maxRecDepth 100000 in
theorem step1_ac (D : Nat) (L : Hl) (s : World) (t : Tab) (A : Option Addr) (n c : Nat) (hA : Inss s A n c t.ins) (m : Mst) (Ax Bx Ox : Option Addr) (nAx cAx nBx cBx nOx cOx : Nat) (hAx : Wds s Ax nAx cAx m.cells) (hBx : Bts s Bx nBx cBx m.input) (hOx : Bts s Ox nOx cOx m.output) (hU : MU m) : AC Try.prog D 9 [.agg #[.int .i64 t.cells, .slice A n c], .agg #[.slice Ax nAx cAx, .int .u32 m.r0, .int .u32 m.r1, .int .u32 m.r2, .int .u32 m.r3, .int .u32 m.r4, .slice Bx nBx cBx, .slice Ox nOx cOx, .int .i64 m.stop, .int .u32 m.code]] L s fun v L' s' => L = L' ∧ ∃ vs, StW s' (runR t m 1).1 vs ∧ v = .tuple #[vs, .agg #[.int .i64 (runR t m 1).2.2.1, .int .i64 (runR t m 1).2.2.2]] := by
 refine AC_enter (TT := TT) (fn := Try.f9) TT_ok Try.func9 (by kernel_rfl) rfl Try.ntmps9 rfl (rs := [.cell 4 30, .cell 5 32]) rfl [(0, _), (1, _)] rfl ?_
 refine JC_seq ?_
 refine JC_region ?_
 refine JO_boxA rfl rfl ?_
 intro β1 s1 h1
 refine JO_boxA rfl rfl ?_
 intro β2 s2 h2
 refine JO_allocZ rfl [_, _, _, _, _, _, _, _, _, _] rfl rfl ?_
 intro β3 s3 h3
 refine JO_allocZ rfl [_, _] rfl rfl ?_
 intro β4 s4 h4
 refine JO_nil ?_
 refine thenQ_n ?_
 refine JC_seq ?_
 refine JC_region ?_
 refine JO_q (QE_ldA 3 [_, _] rfl rfl rfl rfl rfl) rfl ?_
 refine JO_q (QE_ldA 2 [_, _, _, _, _, _, _, _, _, _] rfl rfl rfl rfl rfl) rfl ?_
 refine JO_call (first := []) (captured := []) rfl rfl rfl (run_ac D _ _ _ _ _ _ (hA.le (Le.trans (Le.trans (Le.trans h1 h2) h3) h4)) _ _ _ _ _ _ _ _ _ _ (hAx.le (Le.trans (Le.trans (Le.trans h1 h2) h3) h4)) (hBx.le (Le.trans (Le.trans (Le.trans h1 h2) h3) h4)) (hOx.le (Le.trans (Le.trans (Le.trans h1 h2) h3) h4)) hU 1) ?_
 rintro _ _ s5 h5 ⟨rfl, _, ⟨Ar, nr, cr, Br, nBr, cBr, Or, nOr, cOr, rfl, hAr, hBr, hOr⟩, rfl⟩
 refine JO_q (QE_mv rfl) rfl ?_
 refine JO_q (QE_ext rfl rfl) rfl ?_
 refine JO_q (QE_ext rfl rfl) rfl ?_
 refine JO_q (QE_ext rfl rfl) rfl ?_
 refine JO_allocZ rfl [_, _, _, _, _, _, _, _, _, _] rfl rfl ?_
 intro β6 s6 h6
 refine JO_allocZ rfl [_, _] rfl rfl ?_
 intro β7 s7 h7
 refine JO_st 1 [_, _, _, _, _, _, _, _, _, _] rfl rfl rfl rfl rfl rfl rfl rfl rfl ?_
 refine JO_q (QE_as rfl) rfl ?_
 refine JO_st 0 [_, _] rfl rfl rfl rfl rfl rfl rfl rfl rfl ?_
 refine JO_nil ?_
 refine thenQ_n ?_
 refine JC_seq ?_
 refine JC_drawE drawsMixed 4 rfl [3, 2] (by intro x hx; exact eraseAll_mem hx) ?_
 intro s8 h8
 refine JA_q 0 rfl (by kernel_rfl) (by kernel_rfl) (by kernel_rfl) trivial (QE_ldA 1 [_, _, _, _, _, _, _, _, _, _] rfl rfl rfl rfl rfl) rfl ?_
 refine JA_q 1 rfl (by kernel_rfl) (by kernel_rfl) (by kernel_rfl) trivial (QE_ldA 0 [_, _] rfl rfl rfl rfl rfl) rfl ?_
 refine JA_1 2 (by kernel_rfl) ?_
 refine JB_st rfl trivial 3 [_, _, _, _, _, _, _, _, _, _] rfl rfl rfl rfl rfl rfl rfl rfl rfl (fun _ hx => sub_mem (sbY (sbY (sbN (sbY (sbY (sbE _)))))) hx) ?_
 refine JA_1 3 (by kernel_rfl) ?_
 refine JB_st rfl trivial 2 [_, _] rfl rfl rfl rfl rfl rfl rfl rfl rfl (fun _ hx => sub_mem (sbY (sbY (sbN (sbY (sbY (sbE _)))))) hx) ?_
 refine JA_done (by kernel_rfl) ?_
 refine thenQ_n ?_
 refine JC_ret ?_
 refine retQ_mk [_, _, _, _, _, _] L (.inr rfl) (.agg (us := [_, _, _, _, _, _, _, _, _, _]) 3 rfl rfl rfl rfl rfl (.agg (us := [_, _]) 2 rfl rfl rfl rfl rfl (.nil))) rfl (Le.trans (Le.trans (Le.trans (Le.trans (Le.trans (Le.trans (Le.trans h1 h2) h3) h4) h5) h6) h7) h8) (fun sR hS2 => ?_)
 exact ⟨rfl, _, ⟨_, _, _, _, _, _, _, _, _, rfl, hAr.le (Le.trans (Le.trans (Le.trans h6 h7) h8) hS2), hBr.le (Le.trans (Le.trans (Le.trans h6 h7) h8) hS2), hOr.le (Le.trans (Le.trans (Le.trans h6 h7) h8) hS2)⟩, rfl⟩

set_option maxHeartbeats 4000000 in
set_option maxRecDepth 100000 in
theorem execute_ac (D : Nat) (L : Hl) (s : World) (t : Tab) (A : Option Addr) (n c : Nat) (hA : Inss s A n c t.ins) (A1 : Option Addr) (n1 c1 : Nat) (l : List Int) (hIm : Wds s A1 n1 c1 l) (A2 : Option Addr) (n2 c2 : Nat) (i : List UInt8) (hIn : Bts s A2 n2 c2 i) (k : Int) : AC Try.prog D 19 [.agg #[.int .i64 t.cells, .slice A n c], .slice A1 n1 c1, .slice A2 n2 c2, .int .i64 k] L s fun v L' s' => L = L' ∧ ∃ vs, OutW s' (execR t l i k).1 vs ∧ v = .tuple #[vs, .agg #[.int .i64 (execR t l i k).2.1, .int .i64 (execR t l i k).2.2]] := by
 refine AC_enter (TT := TT) (fn := Try.f19) TT_ok Try.func19 (by kernel_rfl) rfl Try.ntmps19 rfl (rs := [.cell 8 48, .cell 9 32]) rfl [(0, _), (1, _), (2, _), (3, _)] rfl ?_
 refine JC_seq ?_
 refine JC_region ?_
 refine JO_boxA rfl rfl ?_
 intro β1 s1 h1
 refine JO_allocZ rfl [_, _, _, _] rfl rfl ?_
 intro β2 s2 h2
 refine JO_allocZ rfl [_, _] rfl rfl ?_
 intro β3 s3 h3
 refine JO_nil ?_
 refine thenQ_n ?_
 refine JC_seq ?_
 refine JC_region ?_
 refine JO_q (QE_ldA 2 [_, _] rfl rfl rfl rfl rfl) rfl ?_
 refine JO_q (QE_mv rfl) rfl ?_
 refine JO_q (QE_mv rfl) rfl ?_
 refine JO_call (first := []) (captured := []) rfl rfl rfl (start_ac D _ _ _ _ _ _ (hA.le (Le.trans (Le.trans h1 h2) h3)) _ _ _ _ (hIm.le (Le.trans (Le.trans h1 h2) h3)) _ _ _ _ (hIn.le (Le.trans (Le.trans h1 h2) h3))) ?_
 rintro _ _ s4 h4 ⟨rfl, _, ⟨Aa, na, ca, Ba, nBa, cBa, Oa, nOa, cOa, rfl, hAa, hBa, hOa⟩, rfl⟩
 refine JO_q (QE_mv rfl) rfl ?_
 refine JO_q (QE_ext rfl rfl) rfl ?_
 refine JO_q (QE_ext rfl rfl) rfl ?_
 refine JO_allocZ rfl [_, _, _, _, _, _, _, _, _, _] rfl rfl ?_
 intro β5 s5 h5
 refine JO_allocZ rfl [_, _] rfl rfl ?_
 intro β6 s6 h6
 refine JO_st 1 [_, _, _, _, _, _, _, _, _, _] rfl rfl rfl rfl rfl rfl rfl rfl rfl ?_
 refine JO_st 0 [_, _] rfl rfl rfl rfl rfl rfl rfl rfl rfl ?_
 refine JO_nil ?_
 refine thenQ_n ?_
 refine JC_seq ?_
 refine JC_seq ?_
 refine JC_region ?_
 refine JO_q (QE_ldA 0 [_, _] rfl rfl rfl rfl rfl) rfl ?_
 refine JO_q (QE_build [] [_, _] rfl rfl rfl rfl rfl rfl) rfl ?_
 refine JO_q (QE_ane rfl rfl (eqFault _ _ _ _)) rfl ?_
 refine JO_nil ?_
 refine thenQ_n ?_
 refine JC_ifN rfl (fun c7 => ?_) (fun c7 => ?_)
 ·
  have hbad : (startFault t l i).1 ≠ 0 := fun h => c7 (by rw [sf_ok h]; exact ⟨rfl, rfl⟩)
  refine JC_seq ?_
  refine JC_drawE drawsMixed 4 rfl [3, 2] (by intro x hx; exact eraseAll_mem hx) ?_
  intro s8 h8
  refine JA_q 0 rfl (by kernel_rfl) (by kernel_rfl) (by kernel_rfl) trivial (QE_build [] [_, _, _, _] rfl rfl rfl rfl rfl rfl) rfl ?_
  refine JA_q 1 rfl (by kernel_rfl) (by kernel_rfl) (by kernel_rfl) trivial (QE_ldA 0 [_, _] rfl rfl rfl rfl rfl) rfl ?_
  refine JA_1 2 (by kernel_rfl) ?_
  refine JB_st rfl trivial 3 [_, _, _, _] rfl rfl rfl rfl rfl rfl rfl rfl rfl (fun _ hx => sub_mem (sbY (sbY (sbN (sbY (sbE _))))) hx) ?_
  refine JA_1 3 (by kernel_rfl) ?_
  refine JB_st rfl trivial 2 [_, _] rfl rfl rfl rfl rfl rfl rfl rfl rfl (fun _ hx => sub_mem (sbY (sbY (sbN (sbY (sbE _))))) hx) ?_
  refine JA_done (by kernel_rfl) ?_
  refine thenQ_n ?_
  refine JC_ret ?_
  refine thenQ_r ?_
  refine retQ_mk [_, _, _, _, _] L (.inr rfl) (.agg (us := [_, _, _, _]) 3 rfl rfl rfl rfl rfl (.agg (us := [_, _]) 2 rfl rfl rfl rfl rfl (.nil))) rfl (Le.trans (Le.trans (Le.trans (Le.trans (Le.trans (Le.trans h1 h2) h3) h4) h5) h6) h8) (fun sR hS2 => ?_)
  rw [show execR t l i k = (([], 0, 0, 0), startFault t l i) by simp only [execR]; rw [if_pos hbad]]
  exact ⟨rfl, _, OutW.zero _, by rw [sf_bad hbad]; rfl⟩
 ·
  have hsf : (startFault t l i).1 = 0 := by
    by_cases h : (startFault t l i).1 = 0
    · exact h
    · have hc := c7.1; rw [sf_bad h] at hc; exact absurd hc h
  refine JC_skip ?_
  refine thenQ_n ?_
  refine JC_seq ?_
  refine JC_seq ?_
  refine JC_region ?_
  refine JO_q (QE_mv rfl) rfl ?_
  refine JO_q (QE_lt rfl rfl) rfl ?_
  refine JO_q (QE_mv rfl) rfl ?_
  refine JO_caseD (t := 28) rfl (fun c9 => ?_) (fun c9 => ?_)
  ·
   refine JO_gF rfl rfl rfl rfl ?_
   refine JO_gF rfl rfl rfl rfl ?_
   refine JO_q (QE_pickT rfl rfl) rfl ?_
   refine JO_nil ?_
   refine thenQ_n ?_
   refine JC_ifT rfl ?_
   have hfar : k < 0 ∨ 50000000 < k := by omega
   refine JC_seq ?_
   refine JC_region ?_
   refine JO_q (QE_build [] [_, _, _, _] rfl rfl rfl rfl rfl rfl) rfl ?_
   refine JO_call (first := []) (captured := []) rfl rfl rfl (fault_ac D _ _ _ _) ?_
   rintro _ _ s10 h10 ⟨rfl, rfl⟩
   refine JO_st 3 [_, _, _, _] rfl rfl rfl rfl rfl rfl rfl rfl rfl ?_
   refine JO_st 2 [_, _] rfl rfl rfl rfl rfl rfl rfl rfl rfl ?_
   refine JO_nil ?_
   refine thenQ_n ?_
   refine JC_ret ?_
   refine thenQ_r ?_
   refine retQ_mk [_, _, _, _, _] L (.inr rfl) (.agg (us := [_, _, _, _]) 3 rfl rfl rfl rfl rfl (.agg (us := [_, _]) 2 rfl rfl rfl rfl rfl (.nil))) rfl (Le.trans (Le.trans (Le.trans (Le.trans (Le.trans (Le.trans h1 h2) h3) h4) h5) h6) h10) (fun sR hS2 => ?_)
   rw [show execR t l i k = (([], 0, 0, 0), 4, -4) by simp only [execR]; rw [if_neg (by simpa using hsf), if_pos hfar]]
   exact ⟨rfl, _, OutW.zero _, rfl⟩
  ·
   refine JO_gT rfl rfl ?_
   refine JO_q (QE_mv rfl) rfl ?_
   refine JO_gT rfl rfl ?_
   refine JO_q (QE_gt rfl rfl) rfl ?_
   refine JO_q (QE_pickF rfl rfl) rfl ?_
   refine JO_nil ?_
   refine thenQ_n ?_
   refine JC_ifD rfl (fun c11 => ?_) (fun c11 => ?_)
   ·
    have hfar : k < 0 ∨ 50000000 < k := by omega
    refine JC_seq ?_
    refine JC_region ?_
    refine JO_q (QE_build [] [_, _, _, _] rfl rfl rfl rfl rfl rfl) rfl ?_
    refine JO_call (first := []) (captured := []) rfl rfl rfl (fault_ac D _ _ _ _) ?_
    rintro _ _ s12 h12 ⟨rfl, rfl⟩
    refine JO_st 3 [_, _, _, _] rfl rfl rfl rfl rfl rfl rfl rfl rfl ?_
    refine JO_st 2 [_, _] rfl rfl rfl rfl rfl rfl rfl rfl rfl ?_
    refine JO_nil ?_
    refine thenQ_n ?_
    refine JC_ret ?_
    refine thenQ_r ?_
    refine retQ_mk [_, _, _, _, _] L (.inr rfl) (.agg (us := [_, _, _, _]) 3 rfl rfl rfl rfl rfl (.agg (us := [_, _]) 2 rfl rfl rfl rfl rfl (.nil))) rfl (Le.trans (Le.trans (Le.trans (Le.trans (Le.trans (Le.trans h1 h2) h3) h4) h5) h6) h12) (fun sR hS2 => ?_)
    rw [show execR t l i k = (([], 0, 0, 0), 4, -4) by simp only [execR]; rw [if_neg (by simpa using hsf), if_pos hfar]]
    exact ⟨rfl, _, OutW.zero _, rfl⟩
   ·
    have hin : ¬ (k < 0 ∨ 50000000 < k) := by omega
    have hrr := start_run hA hIm hsf hin
    refine JC_skip ?_
    refine thenQ_n ?_
    refine JC_seq ?_
    refine JC_region ?_
    refine JO_q (QE_ldA 4 [_, _] rfl rfl rfl rfl rfl) rfl ?_
    refine JO_q (QE_ldA 1 [_, _, _, _, _, _, _, _, _, _] rfl rfl rfl rfl rfl) rfl ?_
    refine JO_q (QE_mv rfl) rfl ?_
    refine JO_call (first := []) (captured := []) rfl rfl rfl (run_ac D _ _ _ _ _ _ (hA.le (Le.trans (Le.trans (Le.trans (Le.trans (Le.trans h1 h2) h3) h4) h5) h6)) (startR t l i).1 _ _ _ _ _ _ _ _ _ (hAa.le (Le.trans h5 h6)) (hBa.le (Le.trans h5 h6)) (hOa.le (Le.trans h5 h6)) (startU _ _ _) k) ?_
    rintro _ _ s13 h13 ⟨rfl, _, ⟨Ar, nr, cr, Br, nBr, cBr, Or, nOr, cOr, rfl, hAr, hBr, hOr⟩, rfl⟩
    refine JO_q (QE_mv rfl) rfl ?_
    refine JO_q (QE_ext rfl rfl) rfl ?_
    refine JO_q (QE_ext rfl rfl) rfl ?_
    refine JO_q (QE_ext rfl rfl) rfl ?_
    refine JO_allocZ rfl [_, _, _, _, _, _, _, _, _, _] rfl rfl ?_
    intro β14 s14 h14
    refine JO_st 0 [_, _, _, _, _, _, _, _, _, _] rfl rfl rfl rfl rfl rfl rfl rfl rfl ?_
    refine JO_q (QE_as rfl) rfl ?_
    refine JO_st 1 [_, _] rfl rfl rfl rfl rfl rfl rfl rfl rfl ?_
    refine JO_nil ?_
    refine thenQ_n ?_
    refine JC_seq ?_
    refine JC_seq ?_
    refine JC_region ?_
    refine JO_q (QE_ldA 1 [_, _] rfl rfl rfl rfl rfl) rfl ?_
    refine JO_q (QE_build [] [_, _] rfl rfl rfl rfl rfl rfl) rfl ?_
    refine JO_q (QE_ane rfl rfl (eqFault _ _ _ _)) rfl ?_
    refine JO_nil ?_
    refine thenQ_n ?_
    refine JC_ifN rfl (fun c15 => ?_) (fun c15 => ?_)
    ·
     exact absurd (by rw [hrr]; exact ⟨rfl, rfl⟩) c15 --end
    ·
     refine JC_skip ?_
     refine thenQ_n ?_
     refine JC_seq ?_
     refine JC_region ?_
     refine JO_q (QE_faB rfl rfl rfl rfl) rfl ?_
     refine JO_q (QE_ld1 0 rfl rfl rfl rfl rfl) rfl ?_
     refine JO_q (QE_faB rfl rfl rfl rfl) rfl ?_
     refine JO_q (QE_ld1 0 rfl rfl rfl rfl rfl) rfl ?_
     refine JO_q (QE_faB rfl rfl rfl rfl) rfl ?_
     refine JO_q (QE_ld1 0 rfl rfl rfl rfl rfl) rfl ?_
     refine JO_q (QE_mv rfl) rfl ?_
     refine JO_q (QE_build [(_, _), (_, _), (_, _), (_, _)] [_, _, _, _] rfl rfl rfl rfl rfl rfl) rfl ?_
     refine JO_q (QE_build [] [_, _] rfl rfl rfl rfl rfl rfl) rfl ?_
     refine JO_st 4 [_, _, _, _] rfl rfl rfl rfl rfl rfl rfl rfl rfl ?_
     refine JO_st 3 [_, _] rfl rfl rfl rfl rfl rfl rfl rfl rfl ?_
     refine JO_nil ?_
     refine thenQ_n ?_
     refine JC_ret ?_
     refine retQ_mk [_, _, _, _, _, _] L (.inr rfl) (.agg (us := [_, _, _, _]) 4 rfl rfl rfl rfl rfl (.agg (us := [_, _]) 3 rfl rfl rfl rfl rfl (.nil))) rfl (Le.trans (Le.trans (Le.trans (Le.trans (Le.trans (Le.trans (Le.trans h1 h2) h3) h4) h5) h6) h13) h14) (fun sR hS2 => ?_)
     rw [show execR t l i k = (execM t l i k, 0, 0) by simp only [execR]; rw [if_neg (by simpa using hsf), if_neg hin]]
     refine ⟨rfl, _, ⟨Or, nOr, cOr, ?_, ?_⟩, rfl⟩
     · rw [hrr]; rfl
     · rw [hrr] at hOr; exact hOr.le (Le.trans h14 hS2)

set_option maxHeartbeats 4000000 in
set_option maxRecDepth 100000 in
theorem executed_ac (D : Nat) (L : Hl) (s : World) (t : Tab) (A : Option Addr) (n c : Nat) (hA : Inss s A n c t.ins) (A1 : Option Addr) (n1 c1 : Nat) (l : List Int) (hIm : Wds s A1 n1 c1 l) (A2 : Option Addr) (n2 c2 : Nat) (i : List UInt8) (hIn : Bts s A2 n2 c2 i) (hsf : (startFault t l i).1 = 0) (k : Int) (hk : 0 ≤ k ∧ k ≤ 50000000) : AC Try.prog D 22 [.agg #[.int .i64 t.cells, .slice A n c], .slice A1 n1 c1, .slice A2 n2 c2, .int .i64 k] L s fun v L' s' => L = L' ∧ OutW s' (execM t l i k) v := by
 obtain ⟨ht0, hl1, hi1⟩ := sf_spec hsf
 have hG := tabG hA ht0
 have hcl := hG.cells
 obtain ⟨hmok, hsok, hlen⟩ := start_good hG hl1 hi1 hIm.u32
 refine AC_enter (TT := TT) (fn := Try.f22) TT_ok Try.func22 (by kernel_rfl) rfl Try.ntmps22 rfl (rs := [.cell 8 48]) rfl [(0, _), (1, _), (2, _), (3, _)] rfl ?_
 refine JC_seq ?_
 refine JC_region ?_
 refine JO_boxA rfl rfl ?_
 intro β1 s1 h1
 refine JO_allocZ rfl [_, _, _, _] rfl rfl ?_
 intro β2 s2 h2
 refine JO_nil ?_
 refine thenQ_n ?_
 refine JC_seq ?_
 refine JC_draw drawsMixed 13 rfl _ (fun _ h => h) ?_
 intro s3 h3
 refine JA_q 0 rfl (by kernel_rfl) (by kernel_rfl) (by kernel_rfl) trivial (QE_ldA 1 [_, _] rfl rfl rfl rfl rfl) rfl ?_
 refine JA_q 1 rfl (by kernel_rfl) (by kernel_rfl) (by kernel_rfl) trivial (QE_ldA 1 [_, _] rfl rfl rfl rfl rfl) rfl ?_
 refine JA_q 2 rfl (by kernel_rfl) (by kernel_rfl) (by kernel_rfl) trivial (QE_mv rfl) rfl ?_
 refine JA_q 3 rfl (by kernel_rfl) (by kernel_rfl) (by kernel_rfl) trivial (QE_mv rfl) rfl ?_
 refine JA_q 5 rfl (by kernel_rfl) (by kernel_rfl) (by kernel_rfl) trivial (QE_mv rfl) rfl ?_
 refine JA_2 4 10 (by kernel_rfl) ?_ ?_
 ·
  refine JB_call rfl trivial (first := []) (captured := []) rfl rfl rfl (started_ac D _ _ _ _ _ _ (hA.le (Le.trans (Le.trans h1 h2) h3)) _ _ _ _ (hIm.le (Le.trans (Le.trans h1 h2) h3)) _ _ _ _ (hIn.le (Le.trans (Le.trans h1 h2) h3)) hG hl1 hi1) ?_
  rintro _ _ s4 h4 ⟨rfl, ⟨Aa, na, ca, Ba, nBa, cBa, Oa, nOa, cOa, rfl, hAa, hBa, hOa⟩⟩
  refine ⟨fun _ _ h => h, ?_⟩
  refine JA_2 6 10 (by kernel_rfl) ?_ ?_
  ·
   refine JB_call rfl trivial (first := []) (captured := []) rfl rfl rfl (ran_ac D _ _ _ _ _ _ (hA.le (Le.trans (Le.trans (Le.trans h1 h2) h3) h4)) (startM t l i) _ _ _ _ _ _ _ _ _ (hAa.le (Le.refl (D := D) _)) (hBa.le (Le.refl (D := D) _)) (hOa.le (Le.refl (D := D) _)) hG hmok hsok (by omega) k hk) ?_
   rintro _ _ s5 h5 ⟨rfl, _, ⟨Ar, nr, cr, Br, nBr, cBr, Or, nOr, cOr, rfl, hAr, hBr, hOr⟩, rfl⟩
   refine ⟨fun _ _ h => h, ?_⟩
   refine JA_q 7 rfl (by kernel_rfl) (by kernel_rfl) (by kernel_rfl) trivial (QE_mv rfl) rfl ?_
   refine JA_q 8 rfl (by kernel_rfl) (by kernel_rfl) (by kernel_rfl) trivial (QE_ext rfl rfl) rfl ?_
   refine JA_q 9 rfl (by kernel_rfl) (by kernel_rfl) (by kernel_rfl) trivial (QE_ext rfl rfl) rfl ?_
   refine JA_1 10 (by kernel_rfl) ?_
   refine JB_alloc rfl trivial rfl [_, _, _, _, _, _, _, _, _, _] rfl rfl ?_
   intro β6 s6 h6
   refine JA_1 11 (by kernel_rfl) ?_
   refine JB_st rfl trivial 0 [_, _, _, _, _, _, _, _, _, _] rfl rfl rfl rfl rfl rfl rfl rfl rfl (fun _ hx => sub_mem (sbY (sbY (sbE _))) hx) ?_
   refine JA_q 12 rfl (by kernel_rfl) (by kernel_rfl) (by kernel_rfl) trivial (QE_as rfl) rfl ?_
   refine JA_done (by kernel_rfl) ?_
   refine thenQ_n ?_
   refine JC_seq ?_
   refine JC_region ?_
   refine JO_q (QE_faB rfl rfl rfl rfl) rfl ?_
   refine JO_q (QE_ld1 0 rfl rfl rfl rfl rfl) rfl ?_
   refine JO_q (QE_faB rfl rfl rfl rfl) rfl ?_
   refine JO_q (QE_ld1 0 rfl rfl rfl rfl rfl) rfl ?_
   refine JO_q (QE_faB rfl rfl rfl rfl) rfl ?_
   refine JO_q (QE_ld1 0 rfl rfl rfl rfl rfl) rfl ?_
   refine JO_q (QE_mv rfl) rfl ?_
   refine JO_q (QE_build [(_, _), (_, _), (_, _), (_, _)] [_, _, _, _] rfl rfl rfl rfl rfl rfl) rfl ?_
   refine JO_st 1 [_, _, _, _] rfl rfl rfl rfl rfl rfl rfl rfl rfl ?_
   refine JO_nil ?_
   refine thenQ_n ?_
   refine JC_ret ?_
   refine retQ_mk [_, _, _] L (.inr rfl) (.agg (us := [_, _, _, _]) 1 rfl rfl rfl rfl rfl (.nil)) rfl (Le.trans (Le.trans (Le.trans (Le.trans (Le.trans h1 h2) h3) h4) h5) h6) (fun sR hS2 => ?_)
   exact ⟨rfl, _, _, _, rfl, hOr.le (Le.trans h6 hS2)⟩
  ·
   refine JB_alloc rfl trivial rfl [_, _, _, _, _, _, _, _, _, _] rfl rfl ?_
   intro β7 s7 h7
   refine JA_1 6 (by kernel_rfl) ?_
   refine JB_call rfl trivial (first := []) (captured := []) rfl rfl rfl (ran_ac D _ _ _ _ _ _ (hA.le (Le.trans (Le.trans (Le.trans (Le.trans h1 h2) h3) h4) h7)) (startM t l i) _ _ _ _ _ _ _ _ _ (hAa.le h7) (hBa.le h7) (hOa.le h7) hG hmok hsok (by omega) k hk) ?_
   rintro _ _ s8 h8 ⟨rfl, _, ⟨Ar, nr, cr, Br, nBr, cBr, Or, nOr, cOr, rfl, hAr, hBr, hOr⟩, rfl⟩
   refine ⟨fun _ _ h => h, ?_⟩
   refine JA_q 7 rfl (by kernel_rfl) (by kernel_rfl) (by kernel_rfl) trivial (QE_mv rfl) rfl ?_
   refine JA_q 8 rfl (by kernel_rfl) (by kernel_rfl) (by kernel_rfl) trivial (QE_ext rfl rfl) rfl ?_
   refine JA_q 9 rfl (by kernel_rfl) (by kernel_rfl) (by kernel_rfl) trivial (QE_ext rfl rfl) rfl ?_
   refine JA_1 11 (by kernel_rfl) ?_
   refine JB_st rfl trivial 0 [_, _, _, _, _, _, _, _, _, _] rfl rfl rfl rfl rfl rfl rfl rfl rfl (fun _ hx => sub_mem (sbY (sbY (sbE _))) hx) ?_
   refine JA_q 12 rfl (by kernel_rfl) (by kernel_rfl) (by kernel_rfl) trivial (QE_as rfl) rfl ?_
   refine JA_done (by kernel_rfl) ?_
   refine thenQ_n ?_
   refine JC_seq ?_
   refine JC_region ?_
   refine JO_q (QE_faB rfl rfl rfl rfl) rfl ?_
   refine JO_q (QE_ld1 0 rfl rfl rfl rfl rfl) rfl ?_
   refine JO_q (QE_faB rfl rfl rfl rfl) rfl ?_
   refine JO_q (QE_ld1 0 rfl rfl rfl rfl rfl) rfl ?_
   refine JO_q (QE_faB rfl rfl rfl rfl) rfl ?_
   refine JO_q (QE_ld1 0 rfl rfl rfl rfl rfl) rfl ?_
   refine JO_q (QE_mv rfl) rfl ?_
   refine JO_q (QE_build [(_, _), (_, _), (_, _), (_, _)] [_, _, _, _] rfl rfl rfl rfl rfl rfl) rfl ?_
   refine JO_st 1 [_, _, _, _] rfl rfl rfl rfl rfl rfl rfl rfl rfl ?_
   refine JO_nil ?_
   refine thenQ_n ?_
   refine JC_ret ?_
   refine retQ_mk [_, _, _] L (.inr rfl) (.agg (us := [_, _, _, _]) 1 rfl rfl rfl rfl rfl (.nil)) rfl (Le.trans (Le.trans (Le.trans (Le.trans (Le.trans h1 h2) h3) h4) h7) h8) (fun sR hS2 => ?_)
   exact ⟨rfl, _, _, _, rfl, hOr.le (Le.trans (Le.refl (D := D) _) hS2)⟩
 ·
  refine JB_alloc rfl trivial rfl [_, _, _, _, _, _, _, _, _, _] rfl rfl ?_
  intro β9 s9 h9
  refine JA_1 4 (by kernel_rfl) ?_
  refine JB_call rfl trivial (first := []) (captured := []) rfl rfl rfl (started_ac D _ _ _ _ _ _ (hA.le (Le.trans (Le.trans (Le.trans h1 h2) h3) h9)) _ _ _ _ (hIm.le (Le.trans (Le.trans (Le.trans h1 h2) h3) h9)) _ _ _ _ (hIn.le (Le.trans (Le.trans (Le.trans h1 h2) h3) h9)) hG hl1 hi1) ?_
  rintro _ _ s10 h10 ⟨rfl, ⟨Aa, na, ca, Ba, nBa, cBa, Oa, nOa, cOa, rfl, hAa, hBa, hOa⟩⟩
  refine ⟨fun _ _ h => h, ?_⟩
  refine JA_1 6 (by kernel_rfl) ?_
  refine JB_call rfl trivial (first := []) (captured := []) rfl rfl rfl (ran_ac D _ _ _ _ _ _ (hA.le (Le.trans (Le.trans (Le.trans (Le.trans h1 h2) h3) h9) h10)) (startM t l i) _ _ _ _ _ _ _ _ _ (hAa.le (Le.refl (D := D) _)) (hBa.le (Le.refl (D := D) _)) (hOa.le (Le.refl (D := D) _)) hG hmok hsok (by omega) k hk) ?_
  rintro _ _ s11 h11 ⟨rfl, _, ⟨Ar, nr, cr, Br, nBr, cBr, Or, nOr, cOr, rfl, hAr, hBr, hOr⟩, rfl⟩
  refine ⟨fun _ _ h => h, ?_⟩
  refine JA_q 7 rfl (by kernel_rfl) (by kernel_rfl) (by kernel_rfl) trivial (QE_mv rfl) rfl ?_
  refine JA_q 8 rfl (by kernel_rfl) (by kernel_rfl) (by kernel_rfl) trivial (QE_ext rfl rfl) rfl ?_
  refine JA_q 9 rfl (by kernel_rfl) (by kernel_rfl) (by kernel_rfl) trivial (QE_ext rfl rfl) rfl ?_
  refine JA_1 11 (by kernel_rfl) ?_
  refine JB_st rfl trivial 0 [_, _, _, _, _, _, _, _, _, _] rfl rfl rfl rfl rfl rfl rfl rfl rfl (fun _ hx => sub_mem (sbY (sbY (sbE _))) hx) ?_
  refine JA_q 12 rfl (by kernel_rfl) (by kernel_rfl) (by kernel_rfl) trivial (QE_as rfl) rfl ?_
  refine JA_done (by kernel_rfl) ?_
  refine thenQ_n ?_
  refine JC_seq ?_
  refine JC_region ?_
  refine JO_q (QE_faB rfl rfl rfl rfl) rfl ?_
  refine JO_q (QE_ld1 0 rfl rfl rfl rfl rfl) rfl ?_
  refine JO_q (QE_faB rfl rfl rfl rfl) rfl ?_
  refine JO_q (QE_ld1 0 rfl rfl rfl rfl rfl) rfl ?_
  refine JO_q (QE_faB rfl rfl rfl rfl) rfl ?_
  refine JO_q (QE_ld1 0 rfl rfl rfl rfl rfl) rfl ?_
  refine JO_q (QE_mv rfl) rfl ?_
  refine JO_q (QE_build [(_, _), (_, _), (_, _), (_, _)] [_, _, _, _] rfl rfl rfl rfl rfl rfl) rfl ?_
  refine JO_st 1 [_, _, _, _] rfl rfl rfl rfl rfl rfl rfl rfl rfl ?_
  refine JO_nil ?_
  refine thenQ_n ?_
  refine JC_ret ?_
  refine retQ_mk [_, _, _] L (.inr rfl) (.agg (us := [_, _, _, _]) 1 rfl rfl rfl rfl rfl (.nil)) rfl (Le.trans (Le.trans (Le.trans (Le.trans (Le.trans h1 h2) h3) h9) h10) h11) (fun sR hS2 => ?_)
  exact ⟨rfl, _, _, _, rfl, hOr.le (Le.trans (Le.refl (D := D) _) hS2)⟩
end Go.Proofs.Ytpjnphonanbopaa
