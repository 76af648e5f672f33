/- The example of the machine. -/
import Derived.Test.YtpjnphonanbopaaV14
import Derived.Test.YtpjnphonanbopaaDu
namespace Go.Proofs.Ytpjnphonanbopaa
open Go.FL
attribute [local irreducible] JC JO JA JB thenQ blockQ retQ AC fill CellsAt QE Ev Mid

def echoT : Tab := ⟨8, [⟨[105, 110], 5, false, [⟨15, 0, ⟨0, 0⟩, ⟨0, 0⟩⟩]⟩, ⟨[111, 117, 116], 300, false, [⟨16, 0, ⟨1, 0⟩, ⟨0, 0⟩⟩, ⟨17, 0, ⟨1, 0⟩, ⟨0, 0⟩⟩]⟩, ⟨[103, 111], 0, true, [⟨0, 4, ⟨2, 0⟩, ⟨0, 0⟩⟩]⟩]⟩
theorem uc (n : Nat) (h : n < 4294967296) : U32 (n : Int) := ⟨by omega, by omega⟩
theorem echo_inss {s : World} {b0 b1 b2 b3 : Nat} (h : CellsAt s b3 0 [St [105, 110], .int .u32 5, .bool false, .slice (some ⟨b0, 0, none⟩) 1 1, St [111, 117, 116], .int .u32 300, .bool false, .slice (some ⟨b1, 0, none⟩) 2 2, St [103, 111], .int .u32 0, .bool true, .slice (some ⟨b2, 0, none⟩) 1 1])
    (h0 : CellsAt s b0 0 [.int .i64 15, .int .i64 0, .int .i64 0, .int .u32 0, .int .i64 0, .int .u32 0]) (h1 : CellsAt s b1 0 [.int .i64 16, .int .i64 0, .int .i64 1, .int .u32 0, .int .i64 0, .int .u32 0, .int .i64 17, .int .i64 0, .int .i64 1, .int .u32 0, .int .i64 0, .int .u32 0])
    (h2 : CellsAt s b2 0 [.int .i64 0, .int .i64 4, .int .i64 2, .int .u32 0, .int .i64 0, .int .u32 0]) : Inss s (some ⟨b3, 0, none⟩) 3 3 echoT.ins :=
  Sl.lit [[_, _, _, _], [_, _, _, _], [_, _, _, _]] h rfl
    (.cons ⟨rfl, _, _, _, rfl, Sl.lit [[_, _, _, _, _, _]] h0 rfl (.cons ⟨rfl, rfl, U32_zero, U32_zero⟩ .nil) 1 rfl (by omega), by decide, uc 5 (by omega)⟩
    (.cons ⟨rfl, _, _, _, rfl, Sl.lit [[_, _, _, _, _, _], [_, _, _, _, _, _]] h1 rfl (.cons ⟨rfl, rfl, U32_zero, U32_zero⟩ (.cons ⟨rfl, rfl, U32_zero, U32_zero⟩ .nil)) 2 rfl (by omega), by decide, uc 300 (by omega)⟩
    (.cons ⟨rfl, _, _, _, rfl, Sl.lit [[_, _, _, _, _, _]] h2 rfl (.cons ⟨rfl, rfl, U32_zero, U32_zero⟩ .nil) 1 rfl (by omega), by decide, U32_zero⟩ .nil))) 3 rfl (by omega)
def m0 : Mst := ⟨[0, 2, 5, 300, 0, 0, 0, 0], 0, 0, 0, 0, 0, [65, 66], [], 0, 0⟩
def m9 : Mst := ⟨[0, 2, 5, 300, 0, 0, 0, 0], 65, 0, 0, 0, 4, [66], [65], 1, 65⟩
def mS : Mst := ⟨[0, 2, 5, 300, 0, 0, 0, 0], 0, 0, 0, 0, 2, [65, 66], [], 0, 0⟩
theorem echo0 : startR echoT [0, 2, 5, 300] [65, 66] = (m0, 0, 0) := by decide +kernel
theorem echo9 : runR echoT m0 9 = (m9, 3, 0, 0) := by decide +kernel
theorem echoS : runR echoT m0 1 = (mS, 1, 0, 0) := by decide +kernel
theorem echoE : execR echoT [0, 2, 5, 300] [65, 66] 2 = (([], 0, 0, 2), 0, 0) := by decide +kernel
theorem echoV : tabFault echoT = (0, 0) := by decide +kernel
theorem echoW : stFault echoT m9 = (0, 0) := by decide +kernel
theorem m0U : MU m0 := by constructor <;> exact U32_zero

set_option maxHeartbeats 1000000 in
set_option maxRecDepth 100000 in
theorem echo_ac (D : Nat) (L : Hl) (s : World) : AC Try.prog D 32 [] L s fun v L' s' => L = L' ∧ ∃ A c, v = .agg #[.int .i64 8, .slice A 3 c] ∧ Inss s' A 3 c echoT.ins := by
 refine AC_enter (TT := TT) (fn := Try.f32) TT_ok Try.func32 (by kernel_rfl) rfl Try.ntmps32 rfl (rs := [.cell 0 24]) rfl [] rfl ?_
 refine JC_seq ?_
 refine JC_region ?_
 refine JO_allocZ rfl [_, _] rfl rfl ?_
 intro β1 s1 h1
 refine JO_nil ?_
 refine thenQ_n ?_
 refine JC_seq ?_
 refine JC_region ?_
 refine JO_q (QE_build [(_, _), (_, _)] [_, _] rfl rfl rfl rfl rfl rfl) rfl ?_
 refine JO_allocZ rfl [_, _] rfl rfl ?_
 intro β2 s2 h2
 refine JO_st 0 [_, _] rfl rfl rfl rfl rfl rfl rfl rfl rfl ?_
 refine JO_nil ?_
 refine thenQ_n ?_
 refine JC_seq ?_
 refine JC_region ?_
 refine JO_q (QE_build [(_, _), (_, _)] [_, _, _, _, _, _] rfl rfl rfl rfl rfl rfl) rfl ?_
 refine JO_bs [(_, _)] [_, _, _, _, _, _] rfl rfl rfl rfl rfl rfl rfl rfl rfl ?_
 intro βa s3 h3 hca
 refine JO_q (QE_build [(_, _), (_, _), (_, _)] [_, _, _, _] rfl rfl rfl rfl rfl rfl) rfl ?_
 refine JO_q (QE_ldA 0 [_, _] rfl rfl rfl rfl rfl) rfl ?_
 refine JO_q (QE_build [(_, _), (_, _)] [_, _, _, _, _, _] rfl rfl rfl rfl rfl rfl) rfl ?_
 refine JO_q (QE_ldA 0 [_, _] rfl rfl rfl rfl rfl) rfl ?_
 refine JO_q (QE_build [(_, _), (_, _)] [_, _, _, _, _, _] rfl rfl rfl rfl rfl rfl) rfl ?_
 refine JO_bs [(_, _), (_, _)] [_, _, _, _, _, _, _, _, _, _, _, _] rfl rfl rfl rfl rfl rfl rfl rfl rfl ?_
 intro βb s4 h4 hcb
 refine JO_q (QE_build [(_, _), (_, _), (_, _)] [_, _, _, _] rfl rfl rfl rfl rfl rfl) rfl ?_
 refine JO_q (QE_build [(_, _)] [_, _] rfl rfl rfl rfl rfl rfl) rfl ?_
 refine JO_q (QE_build [(_, _), (_, _), (_, _)] [_, _, _, _, _, _] rfl rfl rfl rfl rfl rfl) rfl ?_
 refine JO_bs [(_, _)] [_, _, _, _, _, _] rfl rfl rfl rfl rfl rfl rfl rfl rfl ?_
 intro βc s5 h5 hcc
 refine JO_q (QE_build [(_, _), (_, _), (_, _), (_, _)] [_, _, _, _] rfl rfl rfl rfl rfl rfl) rfl ?_
 refine JO_bs [(_, _), (_, _), (_, _)] [_, _, _, _, _, _, _, _, _, _, _, _] rfl rfl rfl rfl rfl rfl rfl rfl rfl ?_
 intro βd s6 h6 hcd
 refine JO_q (QE_build [(_, _), (_, _)] [_, _] rfl rfl rfl rfl rfl rfl) rfl ?_
 refine JO_st 1 [_, _] rfl rfl rfl rfl rfl rfl rfl rfl rfl ?_
 refine JO_nil ?_
 refine thenQ_n ?_
 refine JC_ret ?_
 refine retQ_mk [_, _] L (.inr rfl) (.agg (us := [_, _]) 1 rfl rfl rfl rfl rfl (.nil)) rfl (Le.trans (Le.trans (Le.trans (Le.trans (Le.trans h1 h2) h3) h4) h5) h6) (fun sR hS2 => ?_)
 exact ⟨rfl, _, _, rfl, echo_inss (hcd.le (Le.trans (Le.refl (D := D) _) hS2)) (hca.le (Le.trans (Le.trans (Le.trans h4 h5) h6) hS2)) (hcb.le (Le.trans (Le.trans h5 h6) hS2)) (hcc.le (Le.trans h6 hS2))⟩

theorem img_lit {s : World} {b : Nat} (h : CellsAt s b 0 [.int .u32 0, .int .u32 2, .int .u32 5, .int .u32 300]) : Wds s (some ⟨b, 0, none⟩) 4 4 [0, 2, 5, 300] :=
  wds_pub (l := [0, 2, 5, 300]) (yc := []) h (fun x hx => by simp at hx; unfold U32; omega) rfl (by omega)
theorem inp_lit {s : World} {b : Nat} (h : CellsAt s b 0 [.int .u8 65, .int .u8 66]) : Bts s (some ⟨b, 0, none⟩) 2 2 [65, 66] := bts_pub (l := [65, 66]) (yc := []) h rfl (by omega)
theorem one_lit {s : World} {b : Nat} (c : UInt8) (h : CellsAt s b 0 [.int .u8 (c.toNat : Int)]) : Bts s (some ⟨b, 0, none⟩) 1 1 [c] := bts_pub (l := [c]) (yc := []) h rfl (by omega)
section
variable (D : Nat) (L : Hl) (s : World) (A : Option Addr) (c : Nat) (hA : Inss s A 3 c echoT.ins)
include hA
theorem eStart (A1 : Option Addr) (n1 c1 : Nat) (hIm : Wds s A1 n1 c1 [0, 2, 5, 300]) (A2 : Option Addr) (n2 c2 : Nat) (hIn : Bts s A2 n2 c2 [65, 66]) : AC Try.prog D 18 [.agg #[.int .i64 8, .slice A 3 c], .slice A1 n1 c1, .slice A2 n2 c2] L s fun v L' s' => L = L' ∧ ∃ vs, StW s' m0 vs ∧ v = .tuple #[vs, .agg #[.int .i64 0, .int .i64 0]] := by
  have h := start_ac D L s echoT A 3 c hA A1 n1 c1 _ hIm A2 n2 c2 _ hIn
  rw [echo0] at h; exact h
theorem eExec (A1 : Option Addr) (n1 c1 : Nat) (hIm : Wds s A1 n1 c1 [0, 2, 5, 300]) (A2 : Option Addr) (n2 c2 : Nat) (hIn : Bts s A2 n2 c2 [65, 66]) : AC Try.prog D 19 [.agg #[.int .i64 8, .slice A 3 c], .slice A1 n1 c1, .slice A2 n2 c2, .int .i64 2] L s fun v L' s' => L = L' ∧ ∃ vs, OutW s' ([], 0, 0, 2) vs ∧ v = .tuple #[vs, .agg #[.int .i64 0, .int .i64 0]] := by
  have h := execute_ac D L s echoT A 3 c hA A1 n1 c1 _ hIm A2 n2 c2 _ hIn 2
  rw [echoE] at h; exact h
variable (Ax Bx Ox : Option Addr) (nAx cAx nBx cBx nOx cOx : Nat)
theorem eRun (hAx : Wds s Ax nAx cAx m0.cells) (hBx : Bts s Bx nBx cBx m0.input) (hOx : Bts s Ox nOx cOx m0.output) : AC Try.prog D 16 [.agg #[.int .i64 8, .slice A 3 c], .agg #[.slice Ax nAx cAx, .int .u32 m0.r0, .int .u32 m0.r1, .int .u32 m0.r2, .int .u32 m0.r3, .int .u32 m0.r4, .slice Bx nBx cBx, .slice Ox nOx cOx, .int .i64 m0.stop, .int .u32 m0.code], .int .i64 9] L s fun v L' s' => L = L' ∧ ∃ vs, StW s' m9 vs ∧ v = .tuple #[vs, .int .i64 3, .agg #[.int .i64 0, .int .i64 0]] := by
  have h := run_ac D L s echoT A 3 c hA m0 Ax Bx Ox nAx cAx nBx cBx nOx cOx hAx hBx hOx m0U 9
  rw [echo9] at h; exact h
theorem eStep (hAx : Wds s Ax nAx cAx m0.cells) (hBx : Bts s Bx nBx cBx m0.input) (hOx : Bts s Ox nOx cOx m0.output) : AC Try.prog D 9 [.agg #[.int .i64 8, .slice A 3 c], .agg #[.slice Ax nAx cAx, .int .u32 m0.r0, .int .u32 m0.r1, .int .u32 m0.r2, .int .u32 m0.r3, .int .u32 m0.r4, .slice Bx nBx cBx, .slice Ox nOx cOx, .int .i64 m0.stop, .int .u32 m0.code]] L s fun v L' s' => L = L' ∧ ∃ vs, StW s' mS vs ∧ v = .tuple #[vs, .agg #[.int .i64 0, .int .i64 0]] := by
  have h := step1_ac D L s echoT A 3 c hA m0 Ax Bx Ox nAx cAx nBx cBx nOx cOx hAx hBx hOx m0U
  rw [echoS] at h; exact h
omit hA
theorem eSame (c : UInt8) {m : List UInt8} (hm : m = [c]) (A1 : Option Addr) (n1 c1 : Nat) (h1 : Bts s A1 n1 c1 m) (b : Nat) (h2 : CellsAt s b 0 [.int .u8 (c.toNat : Int)]) : AC Try.prog D 33 [.slice A1 n1 c1, .slice (some ⟨b, 0, none⟩) 1 1] L s fun v L' _ => v = .bool true ∧ L = L' := by
  have h := sameBytes_ac D L s A1 n1 c1 m h1 (some ⟨b, 0, none⟩) 1 1 [c] (one_lit c h2)
  rw [decide_eq_true hm] at h; exact h
end

set_option maxHeartbeats 4000000 in
set_option maxRecDepth 100000 in
theorem runs_ac (D : Nat) (L : Hl) (s : World) : AC Try.prog D 11 [] L s fun v L' _ => v = .bool true ∧ L = L' := by
 refine AC_enter (TT := TT) (fn := Try.f11) TT_ok Try.func11 (by kernel_rfl) rfl Try.ntmps11 rfl (rs := [.tmp 0]) rfl [] rfl ?_
 refine JC_seq ?_
 refine JC_region ?_
 refine JO_q (QE_as rfl) rfl ?_
 refine JO_nil ?_
 refine thenQ_n ?_
 refine JC_seq ?_
 refine JC_region ?_
 refine JO_call (first := []) (captured := []) rfl rfl rfl (echo_ac D _ _) ?_
 rintro _ _ s1 h1 ⟨rfl, Ae1, ce1, rfl, hE1⟩
 refine JO_bs [(_, _), (_, _), (_, _), (_, _)] [_, _, _, _] rfl rfl rfl rfl rfl rfl rfl rfl rfl ?_
 intro βm1 s2 h2 hcm1
 refine JO_bs [(_, _), (_, _)] [_, _] rfl rfl rfl rfl rfl rfl rfl rfl rfl ?_
 intro βi1 s3 h3 hci1
 refine JO_call (first := []) (captured := []) rfl rfl rfl (eStart D _ _ _ _ (hE1.le (Le.trans h2 h3)) _ _ _ (img_lit (hcm1.le h3)) _ _ _ (inp_lit (hci1.le (Le.refl (D := D) _)))) ?_
 rintro _ _ s4 h4 ⟨rfl, _, ⟨Aa, na, ca, Ba, nBa, cBa, Oa, nOa, cOa, rfl, hAa, hBa, hOa⟩, rfl⟩
 refine JO_q (QE_mv rfl) rfl ?_
 refine JO_q (QE_ext rfl rfl) rfl ?_
 refine JO_q (QE_ext rfl rfl) rfl ?_
 refine JO_allocZ rfl [_, _, _, _, _, _, _, _, _, _] rfl rfl ?_
 intro β5 s5 h5
 refine JO_allocZ rfl [_, _] rfl rfl ?_
 intro β6 s6 h6
 refine JO_st 1 [_, _, _, _, _, _, _, _, _, _] rfl rfl rfl rfl rfl rfl rfl rfl rfl ?_
 refine JO_st 0 [_, _] rfl rfl rfl rfl rfl rfl rfl rfl rfl ?_
 refine JO_nil ?_
 refine thenQ_n ?_
 refine JC_cutN (γ := Nat × Nat × List Value) (fun g => [(3, .pointer (some ⟨g.1, 0, none⟩)), (5, .pointer (some ⟨g.2.1, 0, none⟩)), (4, .int .i64 3)]) (fun g => [(g.1, cb g.2.2 30), (g.2.1, cb [.int .i64 0, .int .i64 0] 32)]) (fun g tw => StW tw m9 (.agg g.2.2.toArray)) (fun _ _ _ h hl => h.le hl) ?_ ?_
 ·
  refine JC_draw drawsMixed 12 rfl _ (fun _ h => h) ?_
  intro s8 h8
  refine JA_q 1 rfl (by kernel_rfl) (by kernel_rfl) (by kernel_rfl) trivial (QE_ldA 1 [_, _, _, _, _, _, _, _, _, _] rfl rfl rfl rfl rfl) rfl ?_
  refine JA_3 0 7 8 (by kernel_rfl) ?_ ?_ ?_
  ·
   refine JB_call rfl trivial (first := []) (captured := []) rfl rfl rfl (echo_ac D _ _) ?_
   rintro _ _ s9 h9 ⟨rfl, Ae2, ce2, rfl, hE2⟩
   refine ⟨fun _ _ h => h, ?_⟩
   refine JA_3 2 7 8 (by kernel_rfl) ?_ ?_ ?_
   ·
    refine JB_call rfl trivial (first := []) (captured := []) rfl rfl rfl (eRun D _ _ _ _ (hE2.le (Le.refl (D := D) _)) _ _ _ _ _ _ _ _ _ (hAa.le (Le.trans (Le.trans (Le.trans h5 h6) h8) h9)) (hBa.le (Le.trans (Le.trans (Le.trans h5 h6) h8) h9)) (hOa.le (Le.trans (Le.trans (Le.trans h5 h6) h8) h9))) ?_
    rintro _ _ s10 h10 ⟨rfl, _, ⟨Ar, nr, cr, Br, nBr, cBr, Or, nOr, cOr, rfl, hAr, hBr, hOr⟩, rfl⟩
    refine ⟨fun _ _ h => h, ?_⟩
    refine JA_q 3 rfl (by kernel_rfl) (by kernel_rfl) (by kernel_rfl) trivial (QE_mv rfl) rfl ?_
    refine JA_q 4 rfl (by kernel_rfl) (by kernel_rfl) (by kernel_rfl) trivial (QE_ext rfl rfl) rfl ?_
    refine JA_q 5 rfl (by kernel_rfl) (by kernel_rfl) (by kernel_rfl) trivial (QE_ext rfl rfl) rfl ?_
    refine JA_q 6 rfl (by kernel_rfl) (by kernel_rfl) (by kernel_rfl) trivial (QE_ext rfl rfl) rfl ?_
    refine JA_2 7 8 (by kernel_rfl) ?_ ?_
    ·
     refine JB_alloc rfl trivial rfl [_, _, _, _, _, _, _, _, _, _] rfl rfl ?_
     intro β11 s11 h11
     refine JA_1 8 (by kernel_rfl) ?_
     refine JB_alloc rfl trivial rfl [_, _] rfl rfl ?_
     intro β12 s12 h12
     refine JA_1 9 (by kernel_rfl) ?_
     refine JB_st rfl trivial 1 [_, _, _, _, _, _, _, _, _, _] rfl rfl rfl rfl rfl rfl rfl rfl rfl (fun _ hx => sub_mem (sbN (sbY (sbY (sbE _)))) hx) ?_
     refine JA_q 10 rfl (by kernel_rfl) (by kernel_rfl) (by kernel_rfl) trivial (QE_as rfl) rfl ?_
     refine JA_1 11 (by kernel_rfl) ?_
     refine JB_st rfl trivial 0 [_, _] rfl rfl rfl rfl rfl rfl rfl rfl rfl (fun _ hx => sub_mem (sbN (sbY (sbY (sbE _)))) hx) ?_
     refine JA_done (by kernel_rfl) ?_
     refine thenQ_n (MidN.mk (β11, β12, [_, _, _, _, _, _, _, _, _, _]) [] (Le.trans (Le.trans (Le.trans (Le.trans h8 h9) h10) h11) h12) (Keeps.cons rfl (Keeps.cons rfl (Keeps.cons rfl (Suf.keeps (by repeat (first | exact Suf.refl | refine Suf.push rfl ?_)))))) (by first | exact List.Perm.refl _ | exact List.Perm.swap _ _ _) ⟨_, _, _, _, _, _, _, _, _, rfl, hAr.le (Le.trans h11 h12), hBr.le (Le.trans h11 h12), hOr.le (Le.trans h11 h12)⟩)
    ·
     refine JB_alloc rfl trivial rfl [_, _] rfl rfl ?_
     intro β13 s13 h13
     refine JA_1 7 (by kernel_rfl) ?_
     refine JB_alloc rfl trivial rfl [_, _, _, _, _, _, _, _, _, _] rfl rfl ?_
     intro β14 s14 h14
     refine JA_1 9 (by kernel_rfl) ?_
     refine JB_st rfl trivial 0 [_, _, _, _, _, _, _, _, _, _] rfl rfl rfl rfl rfl rfl rfl rfl rfl (fun _ hx => sub_mem (sbN (sbY (sbY (sbE _)))) hx) ?_
     refine JA_q 10 rfl (by kernel_rfl) (by kernel_rfl) (by kernel_rfl) trivial (QE_as rfl) rfl ?_
     refine JA_1 11 (by kernel_rfl) ?_
     refine JB_st rfl trivial 1 [_, _] rfl rfl rfl rfl rfl rfl rfl rfl rfl (fun _ hx => sub_mem (sbN (sbY (sbY (sbE _)))) hx) ?_
     refine JA_done (by kernel_rfl) ?_
     refine thenQ_n (MidN.mk (β14, β13, [_, _, _, _, _, _, _, _, _, _]) [] (Le.trans (Le.trans (Le.trans (Le.trans h8 h9) h10) h13) h14) (Keeps.cons rfl (Keeps.cons rfl (Keeps.cons rfl (Suf.keeps (by repeat (first | exact Suf.refl | refine Suf.push rfl ?_)))))) (by first | exact List.Perm.refl _ | exact List.Perm.swap _ _ _) ⟨_, _, _, _, _, _, _, _, _, rfl, hAr.le (Le.trans h13 h14), hBr.le (Le.trans h13 h14), hOr.le (Le.trans h13 h14)⟩)
   ·
    refine JB_alloc rfl trivial rfl [_, _, _, _, _, _, _, _, _, _] rfl rfl ?_
    intro β15 s15 h15
    refine JA_2 2 8 (by kernel_rfl) ?_ ?_
    ·
     refine JB_call rfl trivial (first := []) (captured := []) rfl rfl rfl (eRun D _ _ _ _ (hE2.le h15) _ _ _ _ _ _ _ _ _ (hAa.le (Le.trans (Le.trans (Le.trans (Le.trans h5 h6) h8) h9) h15)) (hBa.le (Le.trans (Le.trans (Le.trans (Le.trans h5 h6) h8) h9) h15)) (hOa.le (Le.trans (Le.trans (Le.trans (Le.trans h5 h6) h8) h9) h15))) ?_
     rintro _ _ s16 h16 ⟨rfl, _, ⟨Ar, nr, cr, Br, nBr, cBr, Or, nOr, cOr, rfl, hAr, hBr, hOr⟩, rfl⟩
     refine ⟨fun _ _ h => h, ?_⟩
     refine JA_q 3 rfl (by kernel_rfl) (by kernel_rfl) (by kernel_rfl) trivial (QE_mv rfl) rfl ?_
     refine JA_q 4 rfl (by kernel_rfl) (by kernel_rfl) (by kernel_rfl) trivial (QE_ext rfl rfl) rfl ?_
     refine JA_q 5 rfl (by kernel_rfl) (by kernel_rfl) (by kernel_rfl) trivial (QE_ext rfl rfl) rfl ?_
     refine JA_q 6 rfl (by kernel_rfl) (by kernel_rfl) (by kernel_rfl) trivial (QE_ext rfl rfl) rfl ?_
     refine JA_1 8 (by kernel_rfl) ?_
     refine JB_alloc rfl trivial rfl [_, _] rfl rfl ?_
     intro β17 s17 h17
     refine JA_1 9 (by kernel_rfl) ?_
     refine JB_st rfl trivial 1 [_, _, _, _, _, _, _, _, _, _] rfl rfl rfl rfl rfl rfl rfl rfl rfl (fun _ hx => sub_mem (sbN (sbY (sbY (sbE _)))) hx) ?_
     refine JA_q 10 rfl (by kernel_rfl) (by kernel_rfl) (by kernel_rfl) trivial (QE_as rfl) rfl ?_
     refine JA_1 11 (by kernel_rfl) ?_
     refine JB_st rfl trivial 0 [_, _] rfl rfl rfl rfl rfl rfl rfl rfl rfl (fun _ hx => sub_mem (sbN (sbY (sbY (sbE _)))) hx) ?_
     refine JA_done (by kernel_rfl) ?_
     refine thenQ_n (MidN.mk (β15, β17, [_, _, _, _, _, _, _, _, _, _]) [] (Le.trans (Le.trans (Le.trans (Le.trans h8 h9) h15) h16) h17) (Keeps.cons rfl (Keeps.cons rfl (Keeps.cons rfl (Suf.keeps (by repeat (first | exact Suf.refl | refine Suf.push rfl ?_)))))) (by first | exact List.Perm.refl _ | exact List.Perm.swap _ _ _) ⟨_, _, _, _, _, _, _, _, _, rfl, hAr.le h17, hBr.le h17, hOr.le h17⟩)
    ·
     refine JB_alloc rfl trivial rfl [_, _] rfl rfl ?_
     intro β18 s18 h18
     refine JA_1 2 (by kernel_rfl) ?_
     refine JB_call rfl trivial (first := []) (captured := []) rfl rfl rfl (eRun D _ _ _ _ (hE2.le (Le.trans h15 h18)) _ _ _ _ _ _ _ _ _ (hAa.le (Le.trans (Le.trans (Le.trans (Le.trans (Le.trans h5 h6) h8) h9) h15) h18)) (hBa.le (Le.trans (Le.trans (Le.trans (Le.trans (Le.trans h5 h6) h8) h9) h15) h18)) (hOa.le (Le.trans (Le.trans (Le.trans (Le.trans (Le.trans h5 h6) h8) h9) h15) h18))) ?_
     rintro _ _ s19 h19 ⟨rfl, _, ⟨Ar, nr, cr, Br, nBr, cBr, Or, nOr, cOr, rfl, hAr, hBr, hOr⟩, rfl⟩
     refine ⟨fun _ _ h => h, ?_⟩
     refine JA_q 3 rfl (by kernel_rfl) (by kernel_rfl) (by kernel_rfl) trivial (QE_mv rfl) rfl ?_
     refine JA_q 4 rfl (by kernel_rfl) (by kernel_rfl) (by kernel_rfl) trivial (QE_ext rfl rfl) rfl ?_
     refine JA_q 5 rfl (by kernel_rfl) (by kernel_rfl) (by kernel_rfl) trivial (QE_ext rfl rfl) rfl ?_
     refine JA_q 6 rfl (by kernel_rfl) (by kernel_rfl) (by kernel_rfl) trivial (QE_ext rfl rfl) rfl ?_
     refine JA_1 9 (by kernel_rfl) ?_
     refine JB_st rfl trivial 1 [_, _, _, _, _, _, _, _, _, _] rfl rfl rfl rfl rfl rfl rfl rfl rfl (fun _ hx => sub_mem (sbN (sbY (sbY (sbE _)))) hx) ?_
     refine JA_q 10 rfl (by kernel_rfl) (by kernel_rfl) (by kernel_rfl) trivial (QE_as rfl) rfl ?_
     refine JA_1 11 (by kernel_rfl) ?_
     refine JB_st rfl trivial 0 [_, _] rfl rfl rfl rfl rfl rfl rfl rfl rfl (fun _ hx => sub_mem (sbN (sbY (sbY (sbE _)))) hx) ?_
     refine JA_done (by kernel_rfl) ?_
     refine thenQ_n (MidN.mk (β15, β18, [_, _, _, _, _, _, _, _, _, _]) [] (Le.trans (Le.trans (Le.trans (Le.trans h8 h9) h15) h18) h19) (Keeps.cons rfl (Keeps.cons rfl (Keeps.cons rfl (Suf.keeps (by repeat (first | exact Suf.refl | refine Suf.push rfl ?_)))))) (by first | exact List.Perm.refl _ | exact List.Perm.swap _ _ _) ⟨_, _, _, _, _, _, _, _, _, rfl, hAr.le (Le.refl (D := D) _), hBr.le (Le.refl (D := D) _), hOr.le (Le.refl (D := D) _)⟩)
   ·
    refine JB_alloc rfl trivial rfl [_, _] rfl rfl ?_
    intro β20 s20 h20
    refine JA_2 2 7 (by kernel_rfl) ?_ ?_
    ·
     refine JB_call rfl trivial (first := []) (captured := []) rfl rfl rfl (eRun D _ _ _ _ (hE2.le h20) _ _ _ _ _ _ _ _ _ (hAa.le (Le.trans (Le.trans (Le.trans (Le.trans h5 h6) h8) h9) h20)) (hBa.le (Le.trans (Le.trans (Le.trans (Le.trans h5 h6) h8) h9) h20)) (hOa.le (Le.trans (Le.trans (Le.trans (Le.trans h5 h6) h8) h9) h20))) ?_
     rintro _ _ s21 h21 ⟨rfl, _, ⟨Ar, nr, cr, Br, nBr, cBr, Or, nOr, cOr, rfl, hAr, hBr, hOr⟩, rfl⟩
     refine ⟨fun _ _ h => h, ?_⟩
     refine JA_q 3 rfl (by kernel_rfl) (by kernel_rfl) (by kernel_rfl) trivial (QE_mv rfl) rfl ?_
     refine JA_q 4 rfl (by kernel_rfl) (by kernel_rfl) (by kernel_rfl) trivial (QE_ext rfl rfl) rfl ?_
     refine JA_q 5 rfl (by kernel_rfl) (by kernel_rfl) (by kernel_rfl) trivial (QE_ext rfl rfl) rfl ?_
     refine JA_q 6 rfl (by kernel_rfl) (by kernel_rfl) (by kernel_rfl) trivial (QE_ext rfl rfl) rfl ?_
     refine JA_1 7 (by kernel_rfl) ?_
     refine JB_alloc rfl trivial rfl [_, _, _, _, _, _, _, _, _, _] rfl rfl ?_
     intro β22 s22 h22
     refine JA_1 9 (by kernel_rfl) ?_
     refine JB_st rfl trivial 0 [_, _, _, _, _, _, _, _, _, _] rfl rfl rfl rfl rfl rfl rfl rfl rfl (fun _ hx => sub_mem (sbN (sbY (sbY (sbE _)))) hx) ?_
     refine JA_q 10 rfl (by kernel_rfl) (by kernel_rfl) (by kernel_rfl) trivial (QE_as rfl) rfl ?_
     refine JA_1 11 (by kernel_rfl) ?_
     refine JB_st rfl trivial 1 [_, _] rfl rfl rfl rfl rfl rfl rfl rfl rfl (fun _ hx => sub_mem (sbN (sbY (sbY (sbE _)))) hx) ?_
     refine JA_done (by kernel_rfl) ?_
     refine thenQ_n (MidN.mk (β22, β20, [_, _, _, _, _, _, _, _, _, _]) [] (Le.trans (Le.trans (Le.trans (Le.trans h8 h9) h20) h21) h22) (Keeps.cons rfl (Keeps.cons rfl (Keeps.cons rfl (Suf.keeps (by repeat (first | exact Suf.refl | refine Suf.push rfl ?_)))))) (by first | exact List.Perm.refl _ | exact List.Perm.swap _ _ _) ⟨_, _, _, _, _, _, _, _, _, rfl, hAr.le h22, hBr.le h22, hOr.le h22⟩)
    ·
     refine JB_alloc rfl trivial rfl [_, _, _, _, _, _, _, _, _, _] rfl rfl ?_
     intro β23 s23 h23
     refine JA_1 2 (by kernel_rfl) ?_
     refine JB_call rfl trivial (first := []) (captured := []) rfl rfl rfl (eRun D _ _ _ _ (hE2.le (Le.trans h20 h23)) _ _ _ _ _ _ _ _ _ (hAa.le (Le.trans (Le.trans (Le.trans (Le.trans (Le.trans h5 h6) h8) h9) h20) h23)) (hBa.le (Le.trans (Le.trans (Le.trans (Le.trans (Le.trans h5 h6) h8) h9) h20) h23)) (hOa.le (Le.trans (Le.trans (Le.trans (Le.trans (Le.trans h5 h6) h8) h9) h20) h23))) ?_
     rintro _ _ s24 h24 ⟨rfl, _, ⟨Ar, nr, cr, Br, nBr, cBr, Or, nOr, cOr, rfl, hAr, hBr, hOr⟩, rfl⟩
     refine ⟨fun _ _ h => h, ?_⟩
     refine JA_q 3 rfl (by kernel_rfl) (by kernel_rfl) (by kernel_rfl) trivial (QE_mv rfl) rfl ?_
     refine JA_q 4 rfl (by kernel_rfl) (by kernel_rfl) (by kernel_rfl) trivial (QE_ext rfl rfl) rfl ?_
     refine JA_q 5 rfl (by kernel_rfl) (by kernel_rfl) (by kernel_rfl) trivial (QE_ext rfl rfl) rfl ?_
     refine JA_q 6 rfl (by kernel_rfl) (by kernel_rfl) (by kernel_rfl) trivial (QE_ext rfl rfl) rfl ?_
     refine JA_1 9 (by kernel_rfl) ?_
     refine JB_st rfl trivial 0 [_, _, _, _, _, _, _, _, _, _] rfl rfl rfl rfl rfl rfl rfl rfl rfl (fun _ hx => sub_mem (sbN (sbY (sbY (sbE _)))) hx) ?_
     refine JA_q 10 rfl (by kernel_rfl) (by kernel_rfl) (by kernel_rfl) trivial (QE_as rfl) rfl ?_
     refine JA_1 11 (by kernel_rfl) ?_
     refine JB_st rfl trivial 1 [_, _] rfl rfl rfl rfl rfl rfl rfl rfl rfl (fun _ hx => sub_mem (sbN (sbY (sbY (sbE _)))) hx) ?_
     refine JA_done (by kernel_rfl) ?_
     refine thenQ_n (MidN.mk (β23, β20, [_, _, _, _, _, _, _, _, _, _]) [] (Le.trans (Le.trans (Le.trans (Le.trans h8 h9) h20) h23) h24) (Keeps.cons rfl (Keeps.cons rfl (Keeps.cons rfl (Suf.keeps (by repeat (first | exact Suf.refl | refine Suf.push rfl ?_)))))) (by first | exact List.Perm.refl _ | exact List.Perm.swap _ _ _) ⟨_, _, _, _, _, _, _, _, _, rfl, hAr.le (Le.refl (D := D) _), hBr.le (Le.refl (D := D) _), hOr.le (Le.refl (D := D) _)⟩)
  ·
   refine JB_alloc rfl trivial rfl [_, _, _, _, _, _, _, _, _, _] rfl rfl ?_
   intro β25 s25 h25
   refine JA_2 0 8 (by kernel_rfl) ?_ ?_
   ·
    refine JB_call rfl trivial (first := []) (captured := []) rfl rfl rfl (echo_ac D _ _) ?_
    rintro _ _ s26 h26 ⟨rfl, Ae2, ce2, rfl, hE2⟩
    refine ⟨fun _ _ h => h, ?_⟩
    refine JA_2 2 8 (by kernel_rfl) ?_ ?_
    ·
     refine JB_call rfl trivial (first := []) (captured := []) rfl rfl rfl (eRun D _ _ _ _ (hE2.le (Le.refl (D := D) _)) _ _ _ _ _ _ _ _ _ (hAa.le (Le.trans (Le.trans (Le.trans (Le.trans h5 h6) h8) h25) h26)) (hBa.le (Le.trans (Le.trans (Le.trans (Le.trans h5 h6) h8) h25) h26)) (hOa.le (Le.trans (Le.trans (Le.trans (Le.trans h5 h6) h8) h25) h26))) ?_
     rintro _ _ s27 h27 ⟨rfl, _, ⟨Ar, nr, cr, Br, nBr, cBr, Or, nOr, cOr, rfl, hAr, hBr, hOr⟩, rfl⟩
     refine ⟨fun _ _ h => h, ?_⟩
     refine JA_q 3 rfl (by kernel_rfl) (by kernel_rfl) (by kernel_rfl) trivial (QE_mv rfl) rfl ?_
     refine JA_q 4 rfl (by kernel_rfl) (by kernel_rfl) (by kernel_rfl) trivial (QE_ext rfl rfl) rfl ?_
     refine JA_q 5 rfl (by kernel_rfl) (by kernel_rfl) (by kernel_rfl) trivial (QE_ext rfl rfl) rfl ?_
     refine JA_q 6 rfl (by kernel_rfl) (by kernel_rfl) (by kernel_rfl) trivial (QE_ext rfl rfl) rfl ?_
     refine JA_1 8 (by kernel_rfl) ?_
     refine JB_alloc rfl trivial rfl [_, _] rfl rfl ?_
     intro β28 s28 h28
     refine JA_1 9 (by kernel_rfl) ?_
     refine JB_st rfl trivial 1 [_, _, _, _, _, _, _, _, _, _] rfl rfl rfl rfl rfl rfl rfl rfl rfl (fun _ hx => sub_mem (sbN (sbY (sbY (sbE _)))) hx) ?_
     refine JA_q 10 rfl (by kernel_rfl) (by kernel_rfl) (by kernel_rfl) trivial (QE_as rfl) rfl ?_
     refine JA_1 11 (by kernel_rfl) ?_
     refine JB_st rfl trivial 0 [_, _] rfl rfl rfl rfl rfl rfl rfl rfl rfl (fun _ hx => sub_mem (sbN (sbY (sbY (sbE _)))) hx) ?_
     refine JA_done (by kernel_rfl) ?_
     refine thenQ_n (MidN.mk (β25, β28, [_, _, _, _, _, _, _, _, _, _]) [] (Le.trans (Le.trans (Le.trans (Le.trans h8 h25) h26) h27) h28) (Keeps.cons rfl (Keeps.cons rfl (Keeps.cons rfl (Suf.keeps (by repeat (first | exact Suf.refl | refine Suf.push rfl ?_)))))) (by first | exact List.Perm.refl _ | exact List.Perm.swap _ _ _) ⟨_, _, _, _, _, _, _, _, _, rfl, hAr.le h28, hBr.le h28, hOr.le h28⟩)
    ·
     refine JB_alloc rfl trivial rfl [_, _] rfl rfl ?_
     intro β29 s29 h29
     refine JA_1 2 (by kernel_rfl) ?_
     refine JB_call rfl trivial (first := []) (captured := []) rfl rfl rfl (eRun D _ _ _ _ (hE2.le h29) _ _ _ _ _ _ _ _ _ (hAa.le (Le.trans (Le.trans (Le.trans (Le.trans (Le.trans h5 h6) h8) h25) h26) h29)) (hBa.le (Le.trans (Le.trans (Le.trans (Le.trans (Le.trans h5 h6) h8) h25) h26) h29)) (hOa.le (Le.trans (Le.trans (Le.trans (Le.trans (Le.trans h5 h6) h8) h25) h26) h29))) ?_
     rintro _ _ s30 h30 ⟨rfl, _, ⟨Ar, nr, cr, Br, nBr, cBr, Or, nOr, cOr, rfl, hAr, hBr, hOr⟩, rfl⟩
     refine ⟨fun _ _ h => h, ?_⟩
     refine JA_q 3 rfl (by kernel_rfl) (by kernel_rfl) (by kernel_rfl) trivial (QE_mv rfl) rfl ?_
     refine JA_q 4 rfl (by kernel_rfl) (by kernel_rfl) (by kernel_rfl) trivial (QE_ext rfl rfl) rfl ?_
     refine JA_q 5 rfl (by kernel_rfl) (by kernel_rfl) (by kernel_rfl) trivial (QE_ext rfl rfl) rfl ?_
     refine JA_q 6 rfl (by kernel_rfl) (by kernel_rfl) (by kernel_rfl) trivial (QE_ext rfl rfl) rfl ?_
     refine JA_1 9 (by kernel_rfl) ?_
     refine JB_st rfl trivial 1 [_, _, _, _, _, _, _, _, _, _] rfl rfl rfl rfl rfl rfl rfl rfl rfl (fun _ hx => sub_mem (sbN (sbY (sbY (sbE _)))) hx) ?_
     refine JA_q 10 rfl (by kernel_rfl) (by kernel_rfl) (by kernel_rfl) trivial (QE_as rfl) rfl ?_
     refine JA_1 11 (by kernel_rfl) ?_
     refine JB_st rfl trivial 0 [_, _] rfl rfl rfl rfl rfl rfl rfl rfl rfl (fun _ hx => sub_mem (sbN (sbY (sbY (sbE _)))) hx) ?_
     refine JA_done (by kernel_rfl) ?_
     refine thenQ_n (MidN.mk (β25, β29, [_, _, _, _, _, _, _, _, _, _]) [] (Le.trans (Le.trans (Le.trans (Le.trans h8 h25) h26) h29) h30) (Keeps.cons rfl (Keeps.cons rfl (Keeps.cons rfl (Suf.keeps (by repeat (first | exact Suf.refl | refine Suf.push rfl ?_)))))) (by first | exact List.Perm.refl _ | exact List.Perm.swap _ _ _) ⟨_, _, _, _, _, _, _, _, _, rfl, hAr.le (Le.refl (D := D) _), hBr.le (Le.refl (D := D) _), hOr.le (Le.refl (D := D) _)⟩)
   ·
    refine JB_alloc rfl trivial rfl [_, _] rfl rfl ?_
    intro β31 s31 h31
    refine JA_1 0 (by kernel_rfl) ?_
    refine JB_call rfl trivial (first := []) (captured := []) rfl rfl rfl (echo_ac D _ _) ?_
    rintro _ _ s32 h32 ⟨rfl, Ae2, ce2, rfl, hE2⟩
    refine ⟨fun _ _ h => h, ?_⟩
    refine JA_1 2 (by kernel_rfl) ?_
    refine JB_call rfl trivial (first := []) (captured := []) rfl rfl rfl (eRun D _ _ _ _ (hE2.le (Le.refl (D := D) _)) _ _ _ _ _ _ _ _ _ (hAa.le (Le.trans (Le.trans (Le.trans (Le.trans (Le.trans h5 h6) h8) h25) h31) h32)) (hBa.le (Le.trans (Le.trans (Le.trans (Le.trans (Le.trans h5 h6) h8) h25) h31) h32)) (hOa.le (Le.trans (Le.trans (Le.trans (Le.trans (Le.trans h5 h6) h8) h25) h31) h32))) ?_
    rintro _ _ s33 h33 ⟨rfl, _, ⟨Ar, nr, cr, Br, nBr, cBr, Or, nOr, cOr, rfl, hAr, hBr, hOr⟩, rfl⟩
    refine ⟨fun _ _ h => h, ?_⟩
    refine JA_q 3 rfl (by kernel_rfl) (by kernel_rfl) (by kernel_rfl) trivial (QE_mv rfl) rfl ?_
    refine JA_q 4 rfl (by kernel_rfl) (by kernel_rfl) (by kernel_rfl) trivial (QE_ext rfl rfl) rfl ?_
    refine JA_q 5 rfl (by kernel_rfl) (by kernel_rfl) (by kernel_rfl) trivial (QE_ext rfl rfl) rfl ?_
    refine JA_q 6 rfl (by kernel_rfl) (by kernel_rfl) (by kernel_rfl) trivial (QE_ext rfl rfl) rfl ?_
    refine JA_1 9 (by kernel_rfl) ?_
    refine JB_st rfl trivial 1 [_, _, _, _, _, _, _, _, _, _] rfl rfl rfl rfl rfl rfl rfl rfl rfl (fun _ hx => sub_mem (sbN (sbY (sbY (sbE _)))) hx) ?_
    refine JA_q 10 rfl (by kernel_rfl) (by kernel_rfl) (by kernel_rfl) trivial (QE_as rfl) rfl ?_
    refine JA_1 11 (by kernel_rfl) ?_
    refine JB_st rfl trivial 0 [_, _] rfl rfl rfl rfl rfl rfl rfl rfl rfl (fun _ hx => sub_mem (sbN (sbY (sbY (sbE _)))) hx) ?_
    refine JA_done (by kernel_rfl) ?_
    refine thenQ_n (MidN.mk (β25, β31, [_, _, _, _, _, _, _, _, _, _]) [] (Le.trans (Le.trans (Le.trans (Le.trans h8 h25) h31) h32) h33) (Keeps.cons rfl (Keeps.cons rfl (Keeps.cons rfl (Suf.keeps (by repeat (first | exact Suf.refl | refine Suf.push rfl ?_)))))) (by first | exact List.Perm.refl _ | exact List.Perm.swap _ _ _) ⟨_, _, _, _, _, _, _, _, _, rfl, hAr.le (Le.refl (D := D) _), hBr.le (Le.refl (D := D) _), hOr.le (Le.refl (D := D) _)⟩)
  ·
   refine JB_alloc rfl trivial rfl [_, _] rfl rfl ?_
   intro β34 s34 h34
   refine JA_2 0 7 (by kernel_rfl) ?_ ?_
   ·
    refine JB_call rfl trivial (first := []) (captured := []) rfl rfl rfl (echo_ac D _ _) ?_
    rintro _ _ s35 h35 ⟨rfl, Ae2, ce2, rfl, hE2⟩
    refine ⟨fun _ _ h => h, ?_⟩
    refine JA_2 2 7 (by kernel_rfl) ?_ ?_
    ·
     refine JB_call rfl trivial (first := []) (captured := []) rfl rfl rfl (eRun D _ _ _ _ (hE2.le (Le.refl (D := D) _)) _ _ _ _ _ _ _ _ _ (hAa.le (Le.trans (Le.trans (Le.trans (Le.trans h5 h6) h8) h34) h35)) (hBa.le (Le.trans (Le.trans (Le.trans (Le.trans h5 h6) h8) h34) h35)) (hOa.le (Le.trans (Le.trans (Le.trans (Le.trans h5 h6) h8) h34) h35))) ?_
     rintro _ _ s36 h36 ⟨rfl, _, ⟨Ar, nr, cr, Br, nBr, cBr, Or, nOr, cOr, rfl, hAr, hBr, hOr⟩, rfl⟩
     refine ⟨fun _ _ h => h, ?_⟩
     refine JA_q 3 rfl (by kernel_rfl) (by kernel_rfl) (by kernel_rfl) trivial (QE_mv rfl) rfl ?_
     refine JA_q 4 rfl (by kernel_rfl) (by kernel_rfl) (by kernel_rfl) trivial (QE_ext rfl rfl) rfl ?_
     refine JA_q 5 rfl (by kernel_rfl) (by kernel_rfl) (by kernel_rfl) trivial (QE_ext rfl rfl) rfl ?_
     refine JA_q 6 rfl (by kernel_rfl) (by kernel_rfl) (by kernel_rfl) trivial (QE_ext rfl rfl) rfl ?_
     refine JA_1 7 (by kernel_rfl) ?_
     refine JB_alloc rfl trivial rfl [_, _, _, _, _, _, _, _, _, _] rfl rfl ?_
     intro β37 s37 h37
     refine JA_1 9 (by kernel_rfl) ?_
     refine JB_st rfl trivial 0 [_, _, _, _, _, _, _, _, _, _] rfl rfl rfl rfl rfl rfl rfl rfl rfl (fun _ hx => sub_mem (sbN (sbY (sbY (sbE _)))) hx) ?_
     refine JA_q 10 rfl (by kernel_rfl) (by kernel_rfl) (by kernel_rfl) trivial (QE_as rfl) rfl ?_
     refine JA_1 11 (by kernel_rfl) ?_
     refine JB_st rfl trivial 1 [_, _] rfl rfl rfl rfl rfl rfl rfl rfl rfl (fun _ hx => sub_mem (sbN (sbY (sbY (sbE _)))) hx) ?_
     refine JA_done (by kernel_rfl) ?_
     refine thenQ_n (MidN.mk (β37, β34, [_, _, _, _, _, _, _, _, _, _]) [] (Le.trans (Le.trans (Le.trans (Le.trans h8 h34) h35) h36) h37) (Keeps.cons rfl (Keeps.cons rfl (Keeps.cons rfl (Suf.keeps (by repeat (first | exact Suf.refl | refine Suf.push rfl ?_)))))) (by first | exact List.Perm.refl _ | exact List.Perm.swap _ _ _) ⟨_, _, _, _, _, _, _, _, _, rfl, hAr.le h37, hBr.le h37, hOr.le h37⟩)
    ·
     refine JB_alloc rfl trivial rfl [_, _, _, _, _, _, _, _, _, _] rfl rfl ?_
     intro β38 s38 h38
     refine JA_1 2 (by kernel_rfl) ?_
     refine JB_call rfl trivial (first := []) (captured := []) rfl rfl rfl (eRun D _ _ _ _ (hE2.le h38) _ _ _ _ _ _ _ _ _ (hAa.le (Le.trans (Le.trans (Le.trans (Le.trans (Le.trans h5 h6) h8) h34) h35) h38)) (hBa.le (Le.trans (Le.trans (Le.trans (Le.trans (Le.trans h5 h6) h8) h34) h35) h38)) (hOa.le (Le.trans (Le.trans (Le.trans (Le.trans (Le.trans h5 h6) h8) h34) h35) h38))) ?_
     rintro _ _ s39 h39 ⟨rfl, _, ⟨Ar, nr, cr, Br, nBr, cBr, Or, nOr, cOr, rfl, hAr, hBr, hOr⟩, rfl⟩
     refine ⟨fun _ _ h => h, ?_⟩
     refine JA_q 3 rfl (by kernel_rfl) (by kernel_rfl) (by kernel_rfl) trivial (QE_mv rfl) rfl ?_
     refine JA_q 4 rfl (by kernel_rfl) (by kernel_rfl) (by kernel_rfl) trivial (QE_ext rfl rfl) rfl ?_
     refine JA_q 5 rfl (by kernel_rfl) (by kernel_rfl) (by kernel_rfl) trivial (QE_ext rfl rfl) rfl ?_
     refine JA_q 6 rfl (by kernel_rfl) (by kernel_rfl) (by kernel_rfl) trivial (QE_ext rfl rfl) rfl ?_
     refine JA_1 9 (by kernel_rfl) ?_
     refine JB_st rfl trivial 0 [_, _, _, _, _, _, _, _, _, _] rfl rfl rfl rfl rfl rfl rfl rfl rfl (fun _ hx => sub_mem (sbN (sbY (sbY (sbE _)))) hx) ?_
     refine JA_q 10 rfl (by kernel_rfl) (by kernel_rfl) (by kernel_rfl) trivial (QE_as rfl) rfl ?_
     refine JA_1 11 (by kernel_rfl) ?_
     refine JB_st rfl trivial 1 [_, _] rfl rfl rfl rfl rfl rfl rfl rfl rfl (fun _ hx => sub_mem (sbN (sbY (sbY (sbE _)))) hx) ?_
     refine JA_done (by kernel_rfl) ?_
     refine thenQ_n (MidN.mk (β38, β34, [_, _, _, _, _, _, _, _, _, _]) [] (Le.trans (Le.trans (Le.trans (Le.trans h8 h34) h35) h38) h39) (Keeps.cons rfl (Keeps.cons rfl (Keeps.cons rfl (Suf.keeps (by repeat (first | exact Suf.refl | refine Suf.push rfl ?_)))))) (by first | exact List.Perm.refl _ | exact List.Perm.swap _ _ _) ⟨_, _, _, _, _, _, _, _, _, rfl, hAr.le (Le.refl (D := D) _), hBr.le (Le.refl (D := D) _), hOr.le (Le.refl (D := D) _)⟩)
   ·
    refine JB_alloc rfl trivial rfl [_, _, _, _, _, _, _, _, _, _] rfl rfl ?_
    intro β40 s40 h40
    refine JA_1 0 (by kernel_rfl) ?_
    refine JB_call rfl trivial (first := []) (captured := []) rfl rfl rfl (echo_ac D _ _) ?_
    rintro _ _ s41 h41 ⟨rfl, Ae2, ce2, rfl, hE2⟩
    refine ⟨fun _ _ h => h, ?_⟩
    refine JA_1 2 (by kernel_rfl) ?_
    refine JB_call rfl trivial (first := []) (captured := []) rfl rfl rfl (eRun D _ _ _ _ (hE2.le (Le.refl (D := D) _)) _ _ _ _ _ _ _ _ _ (hAa.le (Le.trans (Le.trans (Le.trans (Le.trans (Le.trans h5 h6) h8) h34) h40) h41)) (hBa.le (Le.trans (Le.trans (Le.trans (Le.trans (Le.trans h5 h6) h8) h34) h40) h41)) (hOa.le (Le.trans (Le.trans (Le.trans (Le.trans (Le.trans h5 h6) h8) h34) h40) h41))) ?_
    rintro _ _ s42 h42 ⟨rfl, _, ⟨Ar, nr, cr, Br, nBr, cBr, Or, nOr, cOr, rfl, hAr, hBr, hOr⟩, rfl⟩
    refine ⟨fun _ _ h => h, ?_⟩
    refine JA_q 3 rfl (by kernel_rfl) (by kernel_rfl) (by kernel_rfl) trivial (QE_mv rfl) rfl ?_
    refine JA_q 4 rfl (by kernel_rfl) (by kernel_rfl) (by kernel_rfl) trivial (QE_ext rfl rfl) rfl ?_
    refine JA_q 5 rfl (by kernel_rfl) (by kernel_rfl) (by kernel_rfl) trivial (QE_ext rfl rfl) rfl ?_
    refine JA_q 6 rfl (by kernel_rfl) (by kernel_rfl) (by kernel_rfl) trivial (QE_ext rfl rfl) rfl ?_
    refine JA_1 9 (by kernel_rfl) ?_
    refine JB_st rfl trivial 0 [_, _, _, _, _, _, _, _, _, _] rfl rfl rfl rfl rfl rfl rfl rfl rfl (fun _ hx => sub_mem (sbN (sbY (sbY (sbE _)))) hx) ?_
    refine JA_q 10 rfl (by kernel_rfl) (by kernel_rfl) (by kernel_rfl) trivial (QE_as rfl) rfl ?_
    refine JA_1 11 (by kernel_rfl) ?_
    refine JB_st rfl trivial 1 [_, _] rfl rfl rfl rfl rfl rfl rfl rfl rfl (fun _ hx => sub_mem (sbN (sbY (sbY (sbE _)))) hx) ?_
    refine JA_done (by kernel_rfl) ?_
    refine thenQ_n (MidN.mk (β40, β34, [_, _, _, _, _, _, _, _, _, _]) [] (Le.trans (Le.trans (Le.trans (Le.trans h8 h34) h40) h41) h42) (Keeps.cons rfl (Keeps.cons rfl (Keeps.cons rfl (Suf.keeps (by repeat (first | exact Suf.refl | refine Suf.push rfl ?_)))))) (by first | exact List.Perm.refl _ | exact List.Perm.swap _ _ _) ⟨_, _, _, _, _, _, _, _, _, rfl, hAr.le (Le.refl (D := D) _), hBr.le (Le.refl (D := D) _), hOr.le (Le.refl (D := D) _)⟩)
 ·
  intro g s7 h7 I7
  simp only [List.cons_append, List.nil_append]
  obtain ⟨bTr, bFr, zTr⟩ := g
  obtain ⟨Ar, nr, cr, Br, nBr, cBr, Or, nOr, cOr, hzr, hAr, hBr, hOr⟩ := StW.list I7
  subst hzr
  dsimp only
  refine JC_cutN (γ := Nat × Nat × List Value) (fun g => [(6, .pointer (some ⟨g.1, 0, none⟩)), (7, .pointer (some ⟨g.2.1, 0, none⟩))]) (fun g => [(g.1, cb g.2.2 30), (g.2.1, cb [.int .i64 0, .int .i64 0] 32)]) (fun g tw => StW tw mS (.agg g.2.2.toArray)) (fun _ _ _ h hl => h.le hl) ?_ ?_
  ·
   refine JC_draw drawsMixed 10 rfl _ (fun _ h => h) ?_
   intro s44 h44
   refine JA_q 1 rfl (by kernel_rfl) (by kernel_rfl) (by kernel_rfl) trivial (QE_ldA 3 [_, _, _, _, _, _, _, _, _, _] rfl rfl rfl rfl rfl) rfl ?_
   refine JA_3 0 6 7 (by kernel_rfl) ?_ ?_ ?_
   ·
    refine JB_call rfl trivial (first := []) (captured := []) rfl rfl rfl (echo_ac D _ _) ?_
    rintro _ _ s45 h45 ⟨rfl, Ae3, ce3, rfl, hE3⟩
    refine ⟨fun _ _ h => h, ?_⟩
    refine JA_3 2 6 7 (by kernel_rfl) ?_ ?_ ?_
    ·
     refine JB_call rfl trivial (first := []) (captured := []) rfl rfl rfl (eStep D _ _ _ _ (hE3.le (Le.refl (D := D) _)) _ _ _ _ _ _ _ _ _ (hAa.le (Le.trans (Le.trans (Le.trans (Le.trans h5 h6) h7) h44) h45)) (hBa.le (Le.trans (Le.trans (Le.trans (Le.trans h5 h6) h7) h44) h45)) (hOa.le (Le.trans (Le.trans (Le.trans (Le.trans h5 h6) h7) h44) h45))) ?_
     rintro _ _ s46 h46 ⟨rfl, _, ⟨Au, nu, cu, Bu, nBu, cBu, Ou, nOu, cOu, rfl, hAu, hBu, hOu⟩, rfl⟩
     refine ⟨fun _ _ h => h, ?_⟩
     refine JA_q 3 rfl (by kernel_rfl) (by kernel_rfl) (by kernel_rfl) trivial (QE_mv rfl) rfl ?_
     refine JA_q 4 rfl (by kernel_rfl) (by kernel_rfl) (by kernel_rfl) trivial (QE_ext rfl rfl) rfl ?_
     refine JA_q 5 rfl (by kernel_rfl) (by kernel_rfl) (by kernel_rfl) trivial (QE_ext rfl rfl) rfl ?_
     refine JA_2 6 7 (by kernel_rfl) ?_ ?_
     ·
      refine JB_alloc rfl trivial rfl [_, _, _, _, _, _, _, _, _, _] rfl rfl ?_
      intro β47 s47 h47
      refine JA_1 7 (by kernel_rfl) ?_
      refine JB_alloc rfl trivial rfl [_, _] rfl rfl ?_
      intro β48 s48 h48
      refine JA_1 8 (by kernel_rfl) ?_
      refine JB_st rfl trivial 1 [_, _, _, _, _, _, _, _, _, _] rfl rfl rfl rfl rfl rfl rfl rfl rfl (fun _ hx => sub_mem (sbN (sbY (sbY (sbY (sbY (sbE _)))))) hx) ?_
      refine JA_1 9 (by kernel_rfl) ?_
      refine JB_st rfl trivial 0 [_, _] rfl rfl rfl rfl rfl rfl rfl rfl rfl (fun _ hx => sub_mem (sbN (sbY (sbY (sbY (sbY (sbE _)))))) hx) ?_
      refine JA_done (by kernel_rfl) ?_
      refine thenQ_n (MidN.mk (β47, β48, [_, _, _, _, _, _, _, _, _, _]) [] (Le.trans (Le.trans (Le.trans (Le.trans h44 h45) h46) h47) h48) (Keeps.cons rfl (Keeps.cons rfl (Suf.keeps (by repeat (first | exact Suf.refl | refine Suf.push rfl ?_))))) (by first | exact List.Perm.refl _ | exact List.Perm.swap _ _ _) ⟨_, _, _, _, _, _, _, _, _, rfl, hAu.le (Le.trans h47 h48), hBu.le (Le.trans h47 h48), hOu.le (Le.trans h47 h48)⟩)
     ·
      refine JB_alloc rfl trivial rfl [_, _] rfl rfl ?_
      intro β49 s49 h49
      refine JA_1 6 (by kernel_rfl) ?_
      refine JB_alloc rfl trivial rfl [_, _, _, _, _, _, _, _, _, _] rfl rfl ?_
      intro β50 s50 h50
      refine JA_1 8 (by kernel_rfl) ?_
      refine JB_st rfl trivial 0 [_, _, _, _, _, _, _, _, _, _] rfl rfl rfl rfl rfl rfl rfl rfl rfl (fun _ hx => sub_mem (sbN (sbY (sbY (sbY (sbY (sbE _)))))) hx) ?_
      refine JA_1 9 (by kernel_rfl) ?_
      refine JB_st rfl trivial 1 [_, _] rfl rfl rfl rfl rfl rfl rfl rfl rfl (fun _ hx => sub_mem (sbN (sbY (sbY (sbY (sbY (sbE _)))))) hx) ?_
      refine JA_done (by kernel_rfl) ?_
      refine thenQ_n (MidN.mk (β50, β49, [_, _, _, _, _, _, _, _, _, _]) [] (Le.trans (Le.trans (Le.trans (Le.trans h44 h45) h46) h49) h50) (Keeps.cons rfl (Keeps.cons rfl (Suf.keeps (by repeat (first | exact Suf.refl | refine Suf.push rfl ?_))))) (by first | exact List.Perm.refl _ | exact List.Perm.swap _ _ _) ⟨_, _, _, _, _, _, _, _, _, rfl, hAu.le (Le.trans h49 h50), hBu.le (Le.trans h49 h50), hOu.le (Le.trans h49 h50)⟩)
    ·
     refine JB_alloc rfl trivial rfl [_, _, _, _, _, _, _, _, _, _] rfl rfl ?_
     intro β51 s51 h51
     refine JA_2 2 7 (by kernel_rfl) ?_ ?_
     ·
      refine JB_call rfl trivial (first := []) (captured := []) rfl rfl rfl (eStep D _ _ _ _ (hE3.le h51) _ _ _ _ _ _ _ _ _ (hAa.le (Le.trans (Le.trans (Le.trans (Le.trans (Le.trans h5 h6) h7) h44) h45) h51)) (hBa.le (Le.trans (Le.trans (Le.trans (Le.trans (Le.trans h5 h6) h7) h44) h45) h51)) (hOa.le (Le.trans (Le.trans (Le.trans (Le.trans (Le.trans h5 h6) h7) h44) h45) h51))) ?_
      rintro _ _ s52 h52 ⟨rfl, _, ⟨Au, nu, cu, Bu, nBu, cBu, Ou, nOu, cOu, rfl, hAu, hBu, hOu⟩, rfl⟩
      refine ⟨fun _ _ h => h, ?_⟩
      refine JA_q 3 rfl (by kernel_rfl) (by kernel_rfl) (by kernel_rfl) trivial (QE_mv rfl) rfl ?_
      refine JA_q 4 rfl (by kernel_rfl) (by kernel_rfl) (by kernel_rfl) trivial (QE_ext rfl rfl) rfl ?_
      refine JA_q 5 rfl (by kernel_rfl) (by kernel_rfl) (by kernel_rfl) trivial (QE_ext rfl rfl) rfl ?_
      refine JA_1 7 (by kernel_rfl) ?_
      refine JB_alloc rfl trivial rfl [_, _] rfl rfl ?_
      intro β53 s53 h53
      refine JA_1 8 (by kernel_rfl) ?_
      refine JB_st rfl trivial 1 [_, _, _, _, _, _, _, _, _, _] rfl rfl rfl rfl rfl rfl rfl rfl rfl (fun _ hx => sub_mem (sbN (sbY (sbY (sbY (sbY (sbE _)))))) hx) ?_
      refine JA_1 9 (by kernel_rfl) ?_
      refine JB_st rfl trivial 0 [_, _] rfl rfl rfl rfl rfl rfl rfl rfl rfl (fun _ hx => sub_mem (sbN (sbY (sbY (sbY (sbY (sbE _)))))) hx) ?_
      refine JA_done (by kernel_rfl) ?_
      refine thenQ_n (MidN.mk (β51, β53, [_, _, _, _, _, _, _, _, _, _]) [] (Le.trans (Le.trans (Le.trans (Le.trans h44 h45) h51) h52) h53) (Keeps.cons rfl (Keeps.cons rfl (Suf.keeps (by repeat (first | exact Suf.refl | refine Suf.push rfl ?_))))) (by first | exact List.Perm.refl _ | exact List.Perm.swap _ _ _) ⟨_, _, _, _, _, _, _, _, _, rfl, hAu.le h53, hBu.le h53, hOu.le h53⟩)
     ·
      refine JB_alloc rfl trivial rfl [_, _] rfl rfl ?_
      intro β54 s54 h54
      refine JA_1 2 (by kernel_rfl) ?_
      refine JB_call rfl trivial (first := []) (captured := []) rfl rfl rfl (eStep D _ _ _ _ (hE3.le (Le.trans h51 h54)) _ _ _ _ _ _ _ _ _ (hAa.le (Le.trans (Le.trans (Le.trans (Le.trans (Le.trans (Le.trans h5 h6) h7) h44) h45) h51) h54)) (hBa.le (Le.trans (Le.trans (Le.trans (Le.trans (Le.trans (Le.trans h5 h6) h7) h44) h45) h51) h54)) (hOa.le (Le.trans (Le.trans (Le.trans (Le.trans (Le.trans (Le.trans h5 h6) h7) h44) h45) h51) h54))) ?_
      rintro _ _ s55 h55 ⟨rfl, _, ⟨Au, nu, cu, Bu, nBu, cBu, Ou, nOu, cOu, rfl, hAu, hBu, hOu⟩, rfl⟩
      refine ⟨fun _ _ h => h, ?_⟩
      refine JA_q 3 rfl (by kernel_rfl) (by kernel_rfl) (by kernel_rfl) trivial (QE_mv rfl) rfl ?_
      refine JA_q 4 rfl (by kernel_rfl) (by kernel_rfl) (by kernel_rfl) trivial (QE_ext rfl rfl) rfl ?_
      refine JA_q 5 rfl (by kernel_rfl) (by kernel_rfl) (by kernel_rfl) trivial (QE_ext rfl rfl) rfl ?_
      refine JA_1 8 (by kernel_rfl) ?_
      refine JB_st rfl trivial 1 [_, _, _, _, _, _, _, _, _, _] rfl rfl rfl rfl rfl rfl rfl rfl rfl (fun _ hx => sub_mem (sbN (sbY (sbY (sbY (sbY (sbE _)))))) hx) ?_
      refine JA_1 9 (by kernel_rfl) ?_
      refine JB_st rfl trivial 0 [_, _] rfl rfl rfl rfl rfl rfl rfl rfl rfl (fun _ hx => sub_mem (sbN (sbY (sbY (sbY (sbY (sbE _)))))) hx) ?_
      refine JA_done (by kernel_rfl) ?_
      refine thenQ_n (MidN.mk (β51, β54, [_, _, _, _, _, _, _, _, _, _]) [] (Le.trans (Le.trans (Le.trans (Le.trans h44 h45) h51) h54) h55) (Keeps.cons rfl (Keeps.cons rfl (Suf.keeps (by repeat (first | exact Suf.refl | refine Suf.push rfl ?_))))) (by first | exact List.Perm.refl _ | exact List.Perm.swap _ _ _) ⟨_, _, _, _, _, _, _, _, _, rfl, hAu.le (Le.refl (D := D) _), hBu.le (Le.refl (D := D) _), hOu.le (Le.refl (D := D) _)⟩)
    ·
     refine JB_alloc rfl trivial rfl [_, _] rfl rfl ?_
     intro β56 s56 h56
     refine JA_2 2 6 (by kernel_rfl) ?_ ?_
     ·
      refine JB_call rfl trivial (first := []) (captured := []) rfl rfl rfl (eStep D _ _ _ _ (hE3.le h56) _ _ _ _ _ _ _ _ _ (hAa.le (Le.trans (Le.trans (Le.trans (Le.trans (Le.trans h5 h6) h7) h44) h45) h56)) (hBa.le (Le.trans (Le.trans (Le.trans (Le.trans (Le.trans h5 h6) h7) h44) h45) h56)) (hOa.le (Le.trans (Le.trans (Le.trans (Le.trans (Le.trans h5 h6) h7) h44) h45) h56))) ?_
      rintro _ _ s57 h57 ⟨rfl, _, ⟨Au, nu, cu, Bu, nBu, cBu, Ou, nOu, cOu, rfl, hAu, hBu, hOu⟩, rfl⟩
      refine ⟨fun _ _ h => h, ?_⟩
      refine JA_q 3 rfl (by kernel_rfl) (by kernel_rfl) (by kernel_rfl) trivial (QE_mv rfl) rfl ?_
      refine JA_q 4 rfl (by kernel_rfl) (by kernel_rfl) (by kernel_rfl) trivial (QE_ext rfl rfl) rfl ?_
      refine JA_q 5 rfl (by kernel_rfl) (by kernel_rfl) (by kernel_rfl) trivial (QE_ext rfl rfl) rfl ?_
      refine JA_1 6 (by kernel_rfl) ?_
      refine JB_alloc rfl trivial rfl [_, _, _, _, _, _, _, _, _, _] rfl rfl ?_
      intro β58 s58 h58
      refine JA_1 8 (by kernel_rfl) ?_
      refine JB_st rfl trivial 0 [_, _, _, _, _, _, _, _, _, _] rfl rfl rfl rfl rfl rfl rfl rfl rfl (fun _ hx => sub_mem (sbN (sbY (sbY (sbY (sbY (sbE _)))))) hx) ?_
      refine JA_1 9 (by kernel_rfl) ?_
      refine JB_st rfl trivial 1 [_, _] rfl rfl rfl rfl rfl rfl rfl rfl rfl (fun _ hx => sub_mem (sbN (sbY (sbY (sbY (sbY (sbE _)))))) hx) ?_
      refine JA_done (by kernel_rfl) ?_
      refine thenQ_n (MidN.mk (β58, β56, [_, _, _, _, _, _, _, _, _, _]) [] (Le.trans (Le.trans (Le.trans (Le.trans h44 h45) h56) h57) h58) (Keeps.cons rfl (Keeps.cons rfl (Suf.keeps (by repeat (first | exact Suf.refl | refine Suf.push rfl ?_))))) (by first | exact List.Perm.refl _ | exact List.Perm.swap _ _ _) ⟨_, _, _, _, _, _, _, _, _, rfl, hAu.le h58, hBu.le h58, hOu.le h58⟩)
     ·
      refine JB_alloc rfl trivial rfl [_, _, _, _, _, _, _, _, _, _] rfl rfl ?_
      intro β59 s59 h59
      refine JA_1 2 (by kernel_rfl) ?_
      refine JB_call rfl trivial (first := []) (captured := []) rfl rfl rfl (eStep D _ _ _ _ (hE3.le (Le.trans h56 h59)) _ _ _ _ _ _ _ _ _ (hAa.le (Le.trans (Le.trans (Le.trans (Le.trans (Le.trans (Le.trans h5 h6) h7) h44) h45) h56) h59)) (hBa.le (Le.trans (Le.trans (Le.trans (Le.trans (Le.trans (Le.trans h5 h6) h7) h44) h45) h56) h59)) (hOa.le (Le.trans (Le.trans (Le.trans (Le.trans (Le.trans (Le.trans h5 h6) h7) h44) h45) h56) h59))) ?_
      rintro _ _ s60 h60 ⟨rfl, _, ⟨Au, nu, cu, Bu, nBu, cBu, Ou, nOu, cOu, rfl, hAu, hBu, hOu⟩, rfl⟩
      refine ⟨fun _ _ h => h, ?_⟩
      refine JA_q 3 rfl (by kernel_rfl) (by kernel_rfl) (by kernel_rfl) trivial (QE_mv rfl) rfl ?_
      refine JA_q 4 rfl (by kernel_rfl) (by kernel_rfl) (by kernel_rfl) trivial (QE_ext rfl rfl) rfl ?_
      refine JA_q 5 rfl (by kernel_rfl) (by kernel_rfl) (by kernel_rfl) trivial (QE_ext rfl rfl) rfl ?_
      refine JA_1 8 (by kernel_rfl) ?_
      refine JB_st rfl trivial 0 [_, _, _, _, _, _, _, _, _, _] rfl rfl rfl rfl rfl rfl rfl rfl rfl (fun _ hx => sub_mem (sbN (sbY (sbY (sbY (sbY (sbE _)))))) hx) ?_
      refine JA_1 9 (by kernel_rfl) ?_
      refine JB_st rfl trivial 1 [_, _] rfl rfl rfl rfl rfl rfl rfl rfl rfl (fun _ hx => sub_mem (sbN (sbY (sbY (sbY (sbY (sbE _)))))) hx) ?_
      refine JA_done (by kernel_rfl) ?_
      refine thenQ_n (MidN.mk (β59, β56, [_, _, _, _, _, _, _, _, _, _]) [] (Le.trans (Le.trans (Le.trans (Le.trans h44 h45) h56) h59) h60) (Keeps.cons rfl (Keeps.cons rfl (Suf.keeps (by repeat (first | exact Suf.refl | refine Suf.push rfl ?_))))) (by first | exact List.Perm.refl _ | exact List.Perm.swap _ _ _) ⟨_, _, _, _, _, _, _, _, _, rfl, hAu.le (Le.refl (D := D) _), hBu.le (Le.refl (D := D) _), hOu.le (Le.refl (D := D) _)⟩)
   ·
    refine JB_alloc rfl trivial rfl [_, _, _, _, _, _, _, _, _, _] rfl rfl ?_
    intro β61 s61 h61
    refine JA_2 0 7 (by kernel_rfl) ?_ ?_
    ·
     refine JB_call rfl trivial (first := []) (captured := []) rfl rfl rfl (echo_ac D _ _) ?_
     rintro _ _ s62 h62 ⟨rfl, Ae3, ce3, rfl, hE3⟩
     refine ⟨fun _ _ h => h, ?_⟩
     refine JA_2 2 7 (by kernel_rfl) ?_ ?_
     ·
      refine JB_call rfl trivial (first := []) (captured := []) rfl rfl rfl (eStep D _ _ _ _ (hE3.le (Le.refl (D := D) _)) _ _ _ _ _ _ _ _ _ (hAa.le (Le.trans (Le.trans (Le.trans (Le.trans (Le.trans h5 h6) h7) h44) h61) h62)) (hBa.le (Le.trans (Le.trans (Le.trans (Le.trans (Le.trans h5 h6) h7) h44) h61) h62)) (hOa.le (Le.trans (Le.trans (Le.trans (Le.trans (Le.trans h5 h6) h7) h44) h61) h62))) ?_
      rintro _ _ s63 h63 ⟨rfl, _, ⟨Au, nu, cu, Bu, nBu, cBu, Ou, nOu, cOu, rfl, hAu, hBu, hOu⟩, rfl⟩
      refine ⟨fun _ _ h => h, ?_⟩
      refine JA_q 3 rfl (by kernel_rfl) (by kernel_rfl) (by kernel_rfl) trivial (QE_mv rfl) rfl ?_
      refine JA_q 4 rfl (by kernel_rfl) (by kernel_rfl) (by kernel_rfl) trivial (QE_ext rfl rfl) rfl ?_
      refine JA_q 5 rfl (by kernel_rfl) (by kernel_rfl) (by kernel_rfl) trivial (QE_ext rfl rfl) rfl ?_
      refine JA_1 7 (by kernel_rfl) ?_
      refine JB_alloc rfl trivial rfl [_, _] rfl rfl ?_
      intro β64 s64 h64
      refine JA_1 8 (by kernel_rfl) ?_
      refine JB_st rfl trivial 1 [_, _, _, _, _, _, _, _, _, _] rfl rfl rfl rfl rfl rfl rfl rfl rfl (fun _ hx => sub_mem (sbN (sbY (sbY (sbY (sbY (sbE _)))))) hx) ?_
      refine JA_1 9 (by kernel_rfl) ?_
      refine JB_st rfl trivial 0 [_, _] rfl rfl rfl rfl rfl rfl rfl rfl rfl (fun _ hx => sub_mem (sbN (sbY (sbY (sbY (sbY (sbE _)))))) hx) ?_
      refine JA_done (by kernel_rfl) ?_
      refine thenQ_n (MidN.mk (β61, β64, [_, _, _, _, _, _, _, _, _, _]) [] (Le.trans (Le.trans (Le.trans (Le.trans h44 h61) h62) h63) h64) (Keeps.cons rfl (Keeps.cons rfl (Suf.keeps (by repeat (first | exact Suf.refl | refine Suf.push rfl ?_))))) (by first | exact List.Perm.refl _ | exact List.Perm.swap _ _ _) ⟨_, _, _, _, _, _, _, _, _, rfl, hAu.le h64, hBu.le h64, hOu.le h64⟩)
     ·
      refine JB_alloc rfl trivial rfl [_, _] rfl rfl ?_
      intro β65 s65 h65
      refine JA_1 2 (by kernel_rfl) ?_
      refine JB_call rfl trivial (first := []) (captured := []) rfl rfl rfl (eStep D _ _ _ _ (hE3.le h65) _ _ _ _ _ _ _ _ _ (hAa.le (Le.trans (Le.trans (Le.trans (Le.trans (Le.trans (Le.trans h5 h6) h7) h44) h61) h62) h65)) (hBa.le (Le.trans (Le.trans (Le.trans (Le.trans (Le.trans (Le.trans h5 h6) h7) h44) h61) h62) h65)) (hOa.le (Le.trans (Le.trans (Le.trans (Le.trans (Le.trans (Le.trans h5 h6) h7) h44) h61) h62) h65))) ?_
      rintro _ _ s66 h66 ⟨rfl, _, ⟨Au, nu, cu, Bu, nBu, cBu, Ou, nOu, cOu, rfl, hAu, hBu, hOu⟩, rfl⟩
      refine ⟨fun _ _ h => h, ?_⟩
      refine JA_q 3 rfl (by kernel_rfl) (by kernel_rfl) (by kernel_rfl) trivial (QE_mv rfl) rfl ?_
      refine JA_q 4 rfl (by kernel_rfl) (by kernel_rfl) (by kernel_rfl) trivial (QE_ext rfl rfl) rfl ?_
      refine JA_q 5 rfl (by kernel_rfl) (by kernel_rfl) (by kernel_rfl) trivial (QE_ext rfl rfl) rfl ?_
      refine JA_1 8 (by kernel_rfl) ?_
      refine JB_st rfl trivial 1 [_, _, _, _, _, _, _, _, _, _] rfl rfl rfl rfl rfl rfl rfl rfl rfl (fun _ hx => sub_mem (sbN (sbY (sbY (sbY (sbY (sbE _)))))) hx) ?_
      refine JA_1 9 (by kernel_rfl) ?_
      refine JB_st rfl trivial 0 [_, _] rfl rfl rfl rfl rfl rfl rfl rfl rfl (fun _ hx => sub_mem (sbN (sbY (sbY (sbY (sbY (sbE _)))))) hx) ?_
      refine JA_done (by kernel_rfl) ?_
      refine thenQ_n (MidN.mk (β61, β65, [_, _, _, _, _, _, _, _, _, _]) [] (Le.trans (Le.trans (Le.trans (Le.trans h44 h61) h62) h65) h66) (Keeps.cons rfl (Keeps.cons rfl (Suf.keeps (by repeat (first | exact Suf.refl | refine Suf.push rfl ?_))))) (by first | exact List.Perm.refl _ | exact List.Perm.swap _ _ _) ⟨_, _, _, _, _, _, _, _, _, rfl, hAu.le (Le.refl (D := D) _), hBu.le (Le.refl (D := D) _), hOu.le (Le.refl (D := D) _)⟩)
    ·
     refine JB_alloc rfl trivial rfl [_, _] rfl rfl ?_
     intro β67 s67 h67
     refine JA_1 0 (by kernel_rfl) ?_
     refine JB_call rfl trivial (first := []) (captured := []) rfl rfl rfl (echo_ac D _ _) ?_
     rintro _ _ s68 h68 ⟨rfl, Ae3, ce3, rfl, hE3⟩
     refine ⟨fun _ _ h => h, ?_⟩
     refine JA_1 2 (by kernel_rfl) ?_
     refine JB_call rfl trivial (first := []) (captured := []) rfl rfl rfl (eStep D _ _ _ _ (hE3.le (Le.refl (D := D) _)) _ _ _ _ _ _ _ _ _ (hAa.le (Le.trans (Le.trans (Le.trans (Le.trans (Le.trans (Le.trans h5 h6) h7) h44) h61) h67) h68)) (hBa.le (Le.trans (Le.trans (Le.trans (Le.trans (Le.trans (Le.trans h5 h6) h7) h44) h61) h67) h68)) (hOa.le (Le.trans (Le.trans (Le.trans (Le.trans (Le.trans (Le.trans h5 h6) h7) h44) h61) h67) h68))) ?_
     rintro _ _ s69 h69 ⟨rfl, _, ⟨Au, nu, cu, Bu, nBu, cBu, Ou, nOu, cOu, rfl, hAu, hBu, hOu⟩, rfl⟩
     refine ⟨fun _ _ h => h, ?_⟩
     refine JA_q 3 rfl (by kernel_rfl) (by kernel_rfl) (by kernel_rfl) trivial (QE_mv rfl) rfl ?_
     refine JA_q 4 rfl (by kernel_rfl) (by kernel_rfl) (by kernel_rfl) trivial (QE_ext rfl rfl) rfl ?_
     refine JA_q 5 rfl (by kernel_rfl) (by kernel_rfl) (by kernel_rfl) trivial (QE_ext rfl rfl) rfl ?_
     refine JA_1 8 (by kernel_rfl) ?_
     refine JB_st rfl trivial 1 [_, _, _, _, _, _, _, _, _, _] rfl rfl rfl rfl rfl rfl rfl rfl rfl (fun _ hx => sub_mem (sbN (sbY (sbY (sbY (sbY (sbE _)))))) hx) ?_
     refine JA_1 9 (by kernel_rfl) ?_
     refine JB_st rfl trivial 0 [_, _] rfl rfl rfl rfl rfl rfl rfl rfl rfl (fun _ hx => sub_mem (sbN (sbY (sbY (sbY (sbY (sbE _)))))) hx) ?_
     refine JA_done (by kernel_rfl) ?_
     refine thenQ_n (MidN.mk (β61, β67, [_, _, _, _, _, _, _, _, _, _]) [] (Le.trans (Le.trans (Le.trans (Le.trans h44 h61) h67) h68) h69) (Keeps.cons rfl (Keeps.cons rfl (Suf.keeps (by repeat (first | exact Suf.refl | refine Suf.push rfl ?_))))) (by first | exact List.Perm.refl _ | exact List.Perm.swap _ _ _) ⟨_, _, _, _, _, _, _, _, _, rfl, hAu.le (Le.refl (D := D) _), hBu.le (Le.refl (D := D) _), hOu.le (Le.refl (D := D) _)⟩)
   ·
    refine JB_alloc rfl trivial rfl [_, _] rfl rfl ?_
    intro β70 s70 h70
    refine JA_2 0 6 (by kernel_rfl) ?_ ?_
    ·
     refine JB_call rfl trivial (first := []) (captured := []) rfl rfl rfl (echo_ac D _ _) ?_
     rintro _ _ s71 h71 ⟨rfl, Ae3, ce3, rfl, hE3⟩
     refine ⟨fun _ _ h => h, ?_⟩
     refine JA_2 2 6 (by kernel_rfl) ?_ ?_
     ·
      refine JB_call rfl trivial (first := []) (captured := []) rfl rfl rfl (eStep D _ _ _ _ (hE3.le (Le.refl (D := D) _)) _ _ _ _ _ _ _ _ _ (hAa.le (Le.trans (Le.trans (Le.trans (Le.trans (Le.trans h5 h6) h7) h44) h70) h71)) (hBa.le (Le.trans (Le.trans (Le.trans (Le.trans (Le.trans h5 h6) h7) h44) h70) h71)) (hOa.le (Le.trans (Le.trans (Le.trans (Le.trans (Le.trans h5 h6) h7) h44) h70) h71))) ?_
      rintro _ _ s72 h72 ⟨rfl, _, ⟨Au, nu, cu, Bu, nBu, cBu, Ou, nOu, cOu, rfl, hAu, hBu, hOu⟩, rfl⟩
      refine ⟨fun _ _ h => h, ?_⟩
      refine JA_q 3 rfl (by kernel_rfl) (by kernel_rfl) (by kernel_rfl) trivial (QE_mv rfl) rfl ?_
      refine JA_q 4 rfl (by kernel_rfl) (by kernel_rfl) (by kernel_rfl) trivial (QE_ext rfl rfl) rfl ?_
      refine JA_q 5 rfl (by kernel_rfl) (by kernel_rfl) (by kernel_rfl) trivial (QE_ext rfl rfl) rfl ?_
      refine JA_1 6 (by kernel_rfl) ?_
      refine JB_alloc rfl trivial rfl [_, _, _, _, _, _, _, _, _, _] rfl rfl ?_
      intro β73 s73 h73
      refine JA_1 8 (by kernel_rfl) ?_
      refine JB_st rfl trivial 0 [_, _, _, _, _, _, _, _, _, _] rfl rfl rfl rfl rfl rfl rfl rfl rfl (fun _ hx => sub_mem (sbN (sbY (sbY (sbY (sbY (sbE _)))))) hx) ?_
      refine JA_1 9 (by kernel_rfl) ?_
      refine JB_st rfl trivial 1 [_, _] rfl rfl rfl rfl rfl rfl rfl rfl rfl (fun _ hx => sub_mem (sbN (sbY (sbY (sbY (sbY (sbE _)))))) hx) ?_
      refine JA_done (by kernel_rfl) ?_
      refine thenQ_n (MidN.mk (β73, β70, [_, _, _, _, _, _, _, _, _, _]) [] (Le.trans (Le.trans (Le.trans (Le.trans h44 h70) h71) h72) h73) (Keeps.cons rfl (Keeps.cons rfl (Suf.keeps (by repeat (first | exact Suf.refl | refine Suf.push rfl ?_))))) (by first | exact List.Perm.refl _ | exact List.Perm.swap _ _ _) ⟨_, _, _, _, _, _, _, _, _, rfl, hAu.le h73, hBu.le h73, hOu.le h73⟩)
     ·
      refine JB_alloc rfl trivial rfl [_, _, _, _, _, _, _, _, _, _] rfl rfl ?_
      intro β74 s74 h74
      refine JA_1 2 (by kernel_rfl) ?_
      refine JB_call rfl trivial (first := []) (captured := []) rfl rfl rfl (eStep D _ _ _ _ (hE3.le h74) _ _ _ _ _ _ _ _ _ (hAa.le (Le.trans (Le.trans (Le.trans (Le.trans (Le.trans (Le.trans h5 h6) h7) h44) h70) h71) h74)) (hBa.le (Le.trans (Le.trans (Le.trans (Le.trans (Le.trans (Le.trans h5 h6) h7) h44) h70) h71) h74)) (hOa.le (Le.trans (Le.trans (Le.trans (Le.trans (Le.trans (Le.trans h5 h6) h7) h44) h70) h71) h74))) ?_
      rintro _ _ s75 h75 ⟨rfl, _, ⟨Au, nu, cu, Bu, nBu, cBu, Ou, nOu, cOu, rfl, hAu, hBu, hOu⟩, rfl⟩
      refine ⟨fun _ _ h => h, ?_⟩
      refine JA_q 3 rfl (by kernel_rfl) (by kernel_rfl) (by kernel_rfl) trivial (QE_mv rfl) rfl ?_
      refine JA_q 4 rfl (by kernel_rfl) (by kernel_rfl) (by kernel_rfl) trivial (QE_ext rfl rfl) rfl ?_
      refine JA_q 5 rfl (by kernel_rfl) (by kernel_rfl) (by kernel_rfl) trivial (QE_ext rfl rfl) rfl ?_
      refine JA_1 8 (by kernel_rfl) ?_
      refine JB_st rfl trivial 0 [_, _, _, _, _, _, _, _, _, _] rfl rfl rfl rfl rfl rfl rfl rfl rfl (fun _ hx => sub_mem (sbN (sbY (sbY (sbY (sbY (sbE _)))))) hx) ?_
      refine JA_1 9 (by kernel_rfl) ?_
      refine JB_st rfl trivial 1 [_, _] rfl rfl rfl rfl rfl rfl rfl rfl rfl (fun _ hx => sub_mem (sbN (sbY (sbY (sbY (sbY (sbE _)))))) hx) ?_
      refine JA_done (by kernel_rfl) ?_
      refine thenQ_n (MidN.mk (β74, β70, [_, _, _, _, _, _, _, _, _, _]) [] (Le.trans (Le.trans (Le.trans (Le.trans h44 h70) h71) h74) h75) (Keeps.cons rfl (Keeps.cons rfl (Suf.keeps (by repeat (first | exact Suf.refl | refine Suf.push rfl ?_))))) (by first | exact List.Perm.refl _ | exact List.Perm.swap _ _ _) ⟨_, _, _, _, _, _, _, _, _, rfl, hAu.le (Le.refl (D := D) _), hBu.le (Le.refl (D := D) _), hOu.le (Le.refl (D := D) _)⟩)
    ·
     refine JB_alloc rfl trivial rfl [_, _, _, _, _, _, _, _, _, _] rfl rfl ?_
     intro β76 s76 h76
     refine JA_1 0 (by kernel_rfl) ?_
     refine JB_call rfl trivial (first := []) (captured := []) rfl rfl rfl (echo_ac D _ _) ?_
     rintro _ _ s77 h77 ⟨rfl, Ae3, ce3, rfl, hE3⟩
     refine ⟨fun _ _ h => h, ?_⟩
     refine JA_1 2 (by kernel_rfl) ?_
     refine JB_call rfl trivial (first := []) (captured := []) rfl rfl rfl (eStep D _ _ _ _ (hE3.le (Le.refl (D := D) _)) _ _ _ _ _ _ _ _ _ (hAa.le (Le.trans (Le.trans (Le.trans (Le.trans (Le.trans (Le.trans h5 h6) h7) h44) h70) h76) h77)) (hBa.le (Le.trans (Le.trans (Le.trans (Le.trans (Le.trans (Le.trans h5 h6) h7) h44) h70) h76) h77)) (hOa.le (Le.trans (Le.trans (Le.trans (Le.trans (Le.trans (Le.trans h5 h6) h7) h44) h70) h76) h77))) ?_
     rintro _ _ s78 h78 ⟨rfl, _, ⟨Au, nu, cu, Bu, nBu, cBu, Ou, nOu, cOu, rfl, hAu, hBu, hOu⟩, rfl⟩
     refine ⟨fun _ _ h => h, ?_⟩
     refine JA_q 3 rfl (by kernel_rfl) (by kernel_rfl) (by kernel_rfl) trivial (QE_mv rfl) rfl ?_
     refine JA_q 4 rfl (by kernel_rfl) (by kernel_rfl) (by kernel_rfl) trivial (QE_ext rfl rfl) rfl ?_
     refine JA_q 5 rfl (by kernel_rfl) (by kernel_rfl) (by kernel_rfl) trivial (QE_ext rfl rfl) rfl ?_
     refine JA_1 8 (by kernel_rfl) ?_
     refine JB_st rfl trivial 0 [_, _, _, _, _, _, _, _, _, _] rfl rfl rfl rfl rfl rfl rfl rfl rfl (fun _ hx => sub_mem (sbN (sbY (sbY (sbY (sbY (sbE _)))))) hx) ?_
     refine JA_1 9 (by kernel_rfl) ?_
     refine JB_st rfl trivial 1 [_, _] rfl rfl rfl rfl rfl rfl rfl rfl rfl (fun _ hx => sub_mem (sbN (sbY (sbY (sbY (sbY (sbE _)))))) hx) ?_
     refine JA_done (by kernel_rfl) ?_
     refine thenQ_n (MidN.mk (β76, β70, [_, _, _, _, _, _, _, _, _, _]) [] (Le.trans (Le.trans (Le.trans (Le.trans h44 h70) h76) h77) h78) (Keeps.cons rfl (Keeps.cons rfl (Suf.keeps (by repeat (first | exact Suf.refl | refine Suf.push rfl ?_))))) (by first | exact List.Perm.refl _ | exact List.Perm.swap _ _ _) ⟨_, _, _, _, _, _, _, _, _, rfl, hAu.le (Le.refl (D := D) _), hBu.le (Le.refl (D := D) _), hOu.le (Le.refl (D := D) _)⟩)
  ·
   intro g s43 h43 I43
   simp only [List.cons_append, List.nil_append]
   obtain ⟨bTu, bFu, zTu⟩ := g
   obtain ⟨Au, nu, cu, Bu, nBu, cBu, Ou, nOu, cOu, hzu, hAu, hBu, hOu⟩ := StW.list I43
   subst hzu
   dsimp only
   refine JC_seq ?_
   refine JC_region ?_
   refine JO_call (first := []) (captured := []) rfl rfl rfl (echo_ac D _ _) ?_
   rintro _ _ s79 h79 ⟨rfl, Ae4, ce4, rfl, hE4⟩
   refine JO_bs [(_, _), (_, _), (_, _), (_, _)] [_, _, _, _] rfl rfl rfl rfl rfl rfl rfl rfl rfl ?_
   intro βm4 s80 h80 hcm4
   refine JO_bs [(_, _), (_, _)] [_, _] rfl rfl rfl rfl rfl rfl rfl rfl rfl ?_
   intro βi4 s81 h81 hci4
   refine JO_call (first := []) (captured := []) rfl rfl rfl (eExec D _ _ _ _ (hE4.le (Le.trans h80 h81)) _ _ _ (img_lit (hcm4.le h81)) _ _ _ (inp_lit (hci4.le (Le.refl (D := D) _)))) ?_
   rintro _ _ s82 h82 ⟨rfl, _, ⟨Aq, nq, cq, rfl, hOq⟩, rfl⟩
   have hnq : nq = 0 := hOq.1
   subst hnq
   refine JO_q (QE_mv rfl) rfl ?_
   refine JO_q (QE_ext rfl rfl) rfl ?_
   refine JO_q (QE_ext rfl rfl) rfl ?_
   refine JO_allocZ rfl [_, _, _, _] rfl rfl ?_
   intro β83 s83 h83
   refine JO_allocZ rfl [_, _] rfl rfl ?_
   intro β84 s84 h84
   refine JO_st 1 [_, _, _, _] rfl rfl rfl rfl rfl rfl rfl rfl rfl ?_
   refine JO_st 0 [_, _] rfl rfl rfl rfl rfl rfl rfl rfl rfl ?_
   refine JO_nil ?_
   refine thenQ_n ?_
   refine JC_seq ?_
   refine JC_seq ?_
   refine JC_draw drawsMixed 31 rfl _ (fun _ h => h) ?_
   intro s85 h85
   refine JA_q 0 rfl (by kernel_rfl) (by kernel_rfl) (by kernel_rfl) trivial (QE_fa0 rfl rfl rfl rfl) rfl ?_
   refine JA_q 1 rfl (by kernel_rfl) (by kernel_rfl) (by kernel_rfl) trivial (QE_ld1 6 rfl rfl rfl rfl rfl) rfl ?_
   refine JA_q 2 rfl (by kernel_rfl) (by kernel_rfl) (by kernel_rfl) trivial (QE_cast (v' := .bool false) (QE_ne rfl rfl) rfl) rfl ?_
   refine JA_q 3 rfl (by kernel_rfl) (by kernel_rfl) (by kernel_rfl) trivial (QE_mv rfl) rfl ?_
   refine JA_q 4 rfl (by kernel_rfl) (by kernel_rfl) (by kernel_rfl) ⟨_, rfl, rfl⟩ (QE_fa0 rfl rfl rfl rfl) rfl ?_
   refine JA_q 5 rfl (by kernel_rfl) (by kernel_rfl) (by kernel_rfl) ⟨_, rfl, rfl⟩ (QE_ld1 5 rfl rfl rfl rfl rfl) rfl ?_
   refine JA_q 6 rfl (by kernel_rfl) (by kernel_rfl) (by kernel_rfl) ⟨_, rfl, rfl⟩ (QE_cast (v' := .bool false) (QE_ne rfl rfl) rfl) rfl ?_
   refine JA_q 7 rfl (by kernel_rfl) (by kernel_rfl) (by kernel_rfl) trivial (QE_pickF rfl rfl) rfl ?_
   refine JA_q 8 rfl (by kernel_rfl) (by kernel_rfl) (by kernel_rfl) trivial (QE_mv rfl) rfl ?_
   refine JA_q 9 rfl (by kernel_rfl) (by kernel_rfl) (by kernel_rfl) ⟨_, rfl, rfl⟩ (QE_fa0 rfl rfl rfl rfl) rfl ?_
   refine JA_q 10 rfl (by kernel_rfl) (by kernel_rfl) (by kernel_rfl) ⟨_, rfl, rfl⟩ (QE_ld1 3 rfl rfl rfl rfl rfl) rfl ?_
   refine JA_q 11 rfl (by kernel_rfl) (by kernel_rfl) (by kernel_rfl) ⟨_, rfl, rfl⟩ (QE_cast (v' := .bool false) (QE_ne rfl rfl) rfl) rfl ?_
   refine JA_q 12 rfl (by kernel_rfl) (by kernel_rfl) (by kernel_rfl) trivial (QE_pickF rfl rfl) rfl ?_
   refine JA_q 13 rfl (by kernel_rfl) (by kernel_rfl) (by kernel_rfl) trivial (QE_mv rfl) rfl ?_
   refine JA_q 14 rfl (by kernel_rfl) (by kernel_rfl) (by kernel_rfl) ⟨_, rfl, rfl⟩ (QE_fa0 rfl rfl rfl rfl) rfl ?_
   refine JA_q 15 rfl (by kernel_rfl) (by kernel_rfl) (by kernel_rfl) ⟨_, rfl, rfl⟩ (QE_ld1 0 rfl rfl rfl rfl rfl) rfl ?_
   refine JA_q 16 rfl (by kernel_rfl) (by kernel_rfl) (by kernel_rfl) ⟨_, rfl, rfl⟩ (QE_cast (v' := .bool false) (QE_ne rfl rfl) rfl) rfl ?_
   refine JA_q 17 rfl (by kernel_rfl) (by kernel_rfl) (by kernel_rfl) trivial (QE_pickF rfl rfl) rfl ?_
   refine JA_q 18 rfl (by kernel_rfl) (by kernel_rfl) (by kernel_rfl) trivial (QE_mv rfl) rfl ?_
   refine JA_1 19 (by kernel_rfl) ?_
   refine JB_call rfl ⟨_, rfl, rfl⟩ (first := []) (captured := []) rfl rfl rfl (echo_ac D _ _) ?_
   rintro _ _ s86 h86 ⟨rfl, Ae5, ce5, rfl, hE5⟩
   refine ⟨fun _ _ h => h, ?_⟩
   refine JA_1 20 (by kernel_rfl) ?_
   refine JB_call rfl ⟨_, rfl, rfl⟩ (first := []) (captured := []) rfl rfl rfl (validate_ac D _ _ echoT _ _ _ (hE5.le (Le.refl (D := D) _))) ?_
   rintro _ _ s87 h87 ⟨rfl, rfl⟩
   refine ⟨fun _ _ h => h, ?_⟩
   refine JA_q 21 rfl (by kernel_rfl) (by kernel_rfl) (by kernel_rfl) ⟨_, rfl, rfl⟩ (QE_field rfl rfl rfl rfl rfl rfl rfl rfl rfl) rfl ?_
   refine JA_q 22 rfl (by kernel_rfl) (by kernel_rfl) (by kernel_rfl) ⟨_, rfl, rfl⟩ (QE_cast (v' := .bool false) (QE_ne rfl rfl) (by rw [echoV]; rfl)) rfl ?_
   refine JA_q 23 rfl (by kernel_rfl) (by kernel_rfl) (by kernel_rfl) trivial (QE_pickF rfl rfl) rfl ?_
   refine JA_q 24 rfl (by kernel_rfl) (by kernel_rfl) (by kernel_rfl) trivial (QE_mv rfl) rfl ?_
   refine JA_q 26 rfl (by kernel_rfl) (by kernel_rfl) (by kernel_rfl) ⟨_, rfl, rfl⟩ (QE_ldA 4 [_, _, _, _, _, _, _, _, _, _] rfl rfl rfl rfl rfl) rfl ?_
   refine JA_1 25 (by kernel_rfl) ?_
   refine JB_call rfl ⟨_, rfl, rfl⟩ (first := []) (captured := []) rfl rfl rfl (echo_ac D _ _) ?_
   rintro _ _ s88 h88 ⟨rfl, Ae6, ce6, rfl, hE6⟩
   refine ⟨fun _ _ h => h, ?_⟩
   refine JA_1 27 (by kernel_rfl) ?_
   refine JB_call rfl ⟨_, rfl, rfl⟩ (first := []) (captured := []) rfl rfl rfl (valid_ac D _ _ echoT _ _ _ (hE6.le (Le.refl (D := D) _)) m9 _ _ _ _ _ _ _ _ _ (hAr.le (Le.trans (Le.trans (Le.trans (Le.trans (Le.trans (Le.trans (Le.trans (Le.trans (Le.trans (Le.trans h43 h79) h80) h81) h82) h83) h84) h85) h86) h87) h88)) (hBr.le (Le.trans (Le.trans (Le.trans (Le.trans (Le.trans (Le.trans (Le.trans (Le.trans (Le.trans (Le.trans h43 h79) h80) h81) h82) h83) h84) h85) h86) h87) h88)) (hOr.le (Le.trans (Le.trans (Le.trans (Le.trans (Le.trans (Le.trans (Le.trans (Le.trans (Le.trans (Le.trans h43 h79) h80) h81) h82) h83) h84) h85) h86) h87) h88))) ?_
   rintro _ _ s89 h89 ⟨rfl, rfl⟩
   refine ⟨fun _ _ h => h, ?_⟩
   refine JA_q 28 rfl (by kernel_rfl) (by kernel_rfl) (by kernel_rfl) ⟨_, rfl, rfl⟩ (QE_field rfl rfl rfl rfl rfl rfl rfl rfl rfl) rfl ?_
   refine JA_q 29 rfl (by kernel_rfl) (by kernel_rfl) (by kernel_rfl) ⟨_, rfl, rfl⟩ (QE_cast (v' := .bool false) (QE_ne rfl rfl) (by rw [echoW]; rfl)) rfl ?_
   refine JA_q 30 rfl (by kernel_rfl) (by kernel_rfl) (by kernel_rfl) trivial (QE_pickF rfl rfl) rfl ?_
   refine JA_done (by kernel_rfl) ?_
   refine thenQ_n ?_
   refine JC_ifF rfl ?_
   refine JC_skip ?_
   refine thenQ_n ?_
   refine JC_seq ?_
   refine JC_region ?_
   refine JO_q (QE_mv rfl) rfl ?_
   refine JO_q (QE_cast (v' := .bool true) (QE_eq rfl rfl) rfl) rfl ?_
   refine JO_q (QE_mv rfl) rfl ?_
   refine JO_gT rfl rfl ?_
   refine JO_q (QE_faB rfl rfl rfl rfl) rfl ?_
   refine JO_gT rfl rfl ?_
   refine JO_q (QE_ld1 4 rfl rfl rfl rfl rfl) rfl ?_
   refine JO_gT rfl rfl ?_
   refine JO_bs [(_, _)] [_] rfl rfl rfl rfl rfl rfl rfl rfl rfl ?_
   intro βo1 s90 h90 hco1
   refine JO_gT rfl rfl ?_
   refine JO_call (first := []) (captured := []) rfl rfl rfl (eSame D _ _ 65 rfl _ _ _ (hOr.le (Le.trans (Le.trans (Le.trans (Le.trans (Le.trans (Le.trans (Le.trans (Le.trans (Le.trans (Le.trans (Le.trans (Le.trans h43 h79) h80) h81) h82) h83) h84) h85) h86) h87) h88) h89) h90)) _ (hco1.le (Le.refl (D := D) _))) ?_
   rintro _ _ s91 h91 ⟨rfl, rfl⟩
   refine JO_q (QE_pickT rfl rfl) rfl ?_
   refine JO_q (QE_mv rfl) rfl ?_
   refine JO_gT rfl rfl ?_
   refine JO_q (QE_faB rfl rfl rfl rfl) rfl ?_
   refine JO_gT rfl rfl ?_
   refine JO_q (QE_ld1 4 rfl rfl rfl rfl rfl) rfl ?_
   refine JO_gT rfl rfl ?_
   refine JO_bs [(_, _)] [_] rfl rfl rfl rfl rfl rfl rfl rfl rfl ?_
   intro βo2 s92 h92 hco2
   refine JO_gT rfl rfl ?_
   refine JO_call (first := []) (captured := []) rfl rfl rfl (eSame D _ _ 66 rfl _ _ _ (hBr.le (Le.trans (Le.trans (Le.trans (Le.trans (Le.trans (Le.trans (Le.trans (Le.trans (Le.trans (Le.trans (Le.trans (Le.trans (Le.trans (Le.trans h43 h79) h80) h81) h82) h83) h84) h85) h86) h87) h88) h89) h90) h91) h92)) _ (hco2.le (Le.refl (D := D) _))) ?_
   rintro _ _ s93 h93 ⟨rfl, rfl⟩
   refine JO_q (QE_pickT rfl rfl) rfl ?_
   refine JO_q (QE_mv rfl) rfl ?_
   refine JO_gT rfl rfl ?_
   refine JO_q (QE_faB rfl rfl rfl rfl) rfl ?_
   refine JO_gT rfl rfl ?_
   refine JO_q (QE_ld1 4 rfl rfl rfl rfl rfl) rfl ?_
   refine JO_gT rfl rfl ?_
   refine JO_q (QE_cast (v' := .bool true) (QE_eq rfl rfl) rfl) rfl ?_
   refine JO_q (QE_pickT rfl rfl) rfl ?_
   refine JO_q (QE_mv rfl) rfl ?_
   refine JO_gT rfl rfl ?_
   refine JO_q (QE_faB rfl rfl rfl rfl) rfl ?_
   refine JO_gT rfl rfl ?_
   refine JO_q (QE_ld1 4 rfl rfl rfl rfl rfl) rfl ?_
   refine JO_gT rfl rfl ?_
   refine JO_q (QE_cast (v' := .bool true) (QE_eq rfl rfl) rfl) rfl ?_
   refine JO_q (QE_pickT rfl rfl) rfl ?_
   refine JO_q (QE_mv rfl) rfl ?_
   refine JO_gT rfl rfl ?_
   refine JO_q (QE_faB rfl rfl rfl rfl) rfl ?_
   refine JO_gT rfl rfl ?_
   refine JO_q (QE_iaL (sz := 1) 4 rfl rfl rfl rfl rfl rfl (by decide)) rfl ?_
   refine JO_gT rfl rfl ?_
   refine JO_q (QE_ld1 2 rfl rfl rfl rfl rfl) rfl ?_
   refine JO_gT rfl rfl ?_
   refine JO_q (QE_cast (v' := .bool true) (QE_eq rfl rfl) rfl) rfl ?_
   refine JO_q (QE_pickT rfl rfl) rfl ?_
   refine JO_q (QE_mv rfl) rfl ?_
   refine JO_gT rfl rfl ?_
   refine JO_q (QE_fa0 rfl rfl rfl rfl) rfl ?_
   refine JO_gT rfl rfl ?_
   refine JO_q (QE_ld1 1 rfl rfl rfl rfl rfl) rfl ?_
   refine JO_gT rfl rfl ?_
   refine JO_q (QE_lenS rfl rfl rfl) rfl ?_
   refine JO_gT rfl rfl ?_
   refine JO_q (QE_cast (v' := .bool true) (QE_eq rfl rfl) rfl) rfl ?_
   refine JO_q (QE_pickT rfl rfl) rfl ?_
   refine JO_q (QE_mv rfl) rfl ?_
   refine JO_gT rfl rfl ?_
   refine JO_q (QE_faB rfl rfl rfl rfl) rfl ?_
   refine JO_gT rfl rfl ?_
   refine JO_q (QE_ld1 1 rfl rfl rfl rfl rfl) rfl ?_
   refine JO_gT rfl rfl ?_
   refine JO_q (QE_cast (v' := .bool true) (QE_eq rfl rfl) rfl) rfl ?_
   refine JO_q (QE_pickT rfl rfl) rfl ?_
   refine JO_q (QE_mv rfl) rfl ?_
   refine JO_gT rfl rfl ?_
   refine JO_q (QE_faB rfl rfl rfl rfl) rfl ?_
   refine JO_gT rfl rfl ?_
   refine JO_q (QE_ld1 1 rfl rfl rfl rfl rfl) rfl ?_
   refine JO_gT rfl rfl ?_
   refine JO_q (QE_cast (v' := .bool true) (QE_eq rfl rfl) rfl) rfl ?_
   refine JO_q (QE_pickT rfl rfl) rfl ?_
   refine JO_q (QE_as rfl) rfl ?_
   refine JO_nil ?_
   refine thenQ_n ?_
   refine JC_ret ?_
   refine retQ_mk [_, _, _, _, _, _, _, _] L (.inr rfl) (.tmp rfl (.nil)) rfl (Le.trans (Le.trans (Le.trans (Le.trans (Le.trans (Le.trans (Le.trans (Le.trans (Le.trans (Le.trans (Le.trans (Le.trans (Le.trans (Le.trans (Le.trans (Le.trans (Le.trans (Le.trans (Le.trans (Le.trans (Le.trans (Le.trans h1 h2) h3) h4) h5) h6) h7) h43) h79) h80) h81) h82) h83) h84) h85) h86) h87) h88) h89) h90) h91) h92) h93) (fun sR hS2 => ?_)
   exact ⟨rfl, rfl⟩
end Go.Proofs.Ytpjnphonanbopaa
