/- The machine: small functions. -/
import Derived.Test.YtpjnphonanbopaaV4
import Derived.Test.YtpjnphonanbopaaDp
namespace Go.Proofs.Ytpjnphonanbopaa
open Go.FL
attribute [local irreducible] JC JO JA JB thenQ blockQ retQ AC fill CellsAt QE Ev Mid

set_option maxHeartbeats 1000000 in
set_option maxRecDepth 100000 in
theorem cloneB_ac (D : Nat) (L : Hl) (s : World) (A : Option Addr) (n c : Nat) (l : List UInt8) (hA : Bts s A n c l) (hn : n ≤ 1000000) : AC Try.prog D 40 [.slice A n c] L s fun v L' _ => ∃ M', L' = M' ++ L ∧ ∃ Ad c', v = .slice Ad n c' ∧ n ≤ c' ∧ c' ≤ 9223372036854775807 ∧ Own 5 1 M' (.slice Ad n c') n (bv l) := by
 refine AC_enter (TT := TT) (fn := Try.f40) TT_ok Try.func40 (by kernel_rfl) rfl Try.ntmps40 rfl (rs := [.tmp 2]) rfl [(0, _)] rfl ?_
 refine JC_seq ?_
 refine JC_region ?_
 refine JO_q (QE_as rfl) rfl ?_
 refine JO_nil ?_
 refine thenQ_n ?_
 refine JC_seq ?_
 refine JC_seq ?_
 refine JC_region ?_
 refine JO_q (QE_mv rfl) rfl ?_
 refine JO_q (QE_snil rfl rfl rfl) rfl ?_
 refine JO_nil ?_
 refine thenQ_n ?_
 refine JC_if rfl (fun c1 => ?_) (fun c1 => ?_)
 ·
  refine JC_seq ?_
  refine JC_region ?_
  refine JO_q (QE_as rfl) rfl ?_
  refine JO_nil ?_
  refine thenQ_n ?_
  refine JC_ret ?_
  refine thenQ_r ?_
  refine retQ_mk [] _ (.inr rfl) (.tmp rfl (.nil)) rfl (Le.refl (D := D) _) (fun sR hS2 => ?_)
  have hz : A = none := by cases A <;> simp_all
  subst hz
  have hl : l = [] := by
    cases l with
    | nil => rfl
    | cons x l => obtain ⟨b, off, cs, h1, _⟩ := hA.2.2.2 0 x rfl; cases h1
  have hn0 := hA.1
  subst hl
  simp at hn0
  subst hn0
  exact ⟨[], rfl, none, 0, rfl, Nat.le_refl _, by omega, .nil⟩
 ·
  refine JC_skip ?_
  refine thenQ_n ?_
  refine JC_seq ?_
  refine JC_region ?_
  refine JO_bs0 (sz := 1) rfl rfl rfl rfl ?_
  intro βo s2 h2 oo
  refine JO_q (QE_mv rfl) rfl ?_
  refine JO_app [] [_] _ rfl rfl rfl rfl rfl rfl rfl oo (hA.row.le h2) ⟨by simp [ti5]; omega, by omega⟩ rfl ?_
  intro v1 A1 s3 h3 o1
  simp only [List.nil_append]
  refine JO_q (QE_as rfl) rfl ?_
  refine JO_nil ?_
  refine thenQ_n ?_
  refine JC_ret ?_
  refine retQ_mk [] _ (.inr rfl) (.tmp rfl (.nil)) rfl (Le.trans h2 h3) (fun sR hS2 => ?_)
  simp only [Nat.zero_add, List.nil_append] at o1
  obtain ⟨Ad, c', rfl, k1, k2⟩ := Own.slice o1
  exact ⟨_, rfl, Ad, c', rfl, k1, k2, o1⟩

set_option maxHeartbeats 1000000 in
set_option maxRecDepth 100000 in
theorem cloneW_ac (D : Nat) (L : Hl) (s : World) (A : Option Addr) (n c : Nat) (l : List Int) (hA : Wds s A n c l) (hn : n ≤ 1000000) : AC Try.prog D 57 [.slice A n c] L s fun v L' _ => ∃ M', L' = M' ++ L ∧ ∃ Ad c', v = .slice Ad n c' ∧ n ≤ c' ∧ c' ≤ 9223372036854775807 ∧ Own 26 1 M' (.slice Ad n c') n (wv l) := by
 refine AC_enter (TT := TT) (fn := Try.f57) TT_ok Try.func57 (by kernel_rfl) rfl Try.ntmps57 rfl (rs := [.tmp 2]) rfl [(0, _)] rfl ?_
 refine JC_seq ?_
 refine JC_region ?_
 refine JO_q (QE_as rfl) rfl ?_
 refine JO_nil ?_
 refine thenQ_n ?_
 refine JC_seq ?_
 refine JC_seq ?_
 refine JC_region ?_
 refine JO_q (QE_mv rfl) rfl ?_
 refine JO_q (QE_snil rfl rfl rfl) rfl ?_
 refine JO_nil ?_
 refine thenQ_n ?_
 refine JC_if rfl (fun c1 => ?_) (fun c1 => ?_)
 ·
  refine JC_seq ?_
  refine JC_region ?_
  refine JO_q (QE_as rfl) rfl ?_
  refine JO_nil ?_
  refine thenQ_n ?_
  refine JC_ret ?_
  refine thenQ_r ?_
  refine retQ_mk [] _ (.inr rfl) (.tmp rfl (.nil)) rfl (Le.refl (D := D) _) (fun sR hS2 => ?_)
  have hz : A = none := by cases A <;> simp_all
  subst hz
  have hl : l = [] := by
    cases l with
    | nil => rfl
    | cons x l => obtain ⟨b, off, cs, h1, _⟩ := hA.2.2.2 0 x rfl; cases h1
  have hn0 := hA.1
  subst hl
  simp at hn0
  subst hn0
  exact ⟨[], rfl, none, 0, rfl, Nat.le_refl _, by omega, .nil⟩
 ·
  refine JC_skip ?_
  refine thenQ_n ?_
  refine JC_seq ?_
  refine JC_region ?_
  refine JO_bs0 (sz := 1) rfl rfl rfl rfl ?_
  intro βo s2 h2 oo
  refine JO_q (QE_mv rfl) rfl ?_
  refine JO_app [] [_] _ rfl rfl rfl rfl rfl rfl rfl oo (hA.row.le h2) ⟨by simp [ti26]; omega, by omega⟩ rfl ?_
  intro v1 A1 s3 h3 o1
  simp only [List.nil_append]
  refine JO_q (QE_as rfl) rfl ?_
  refine JO_nil ?_
  refine thenQ_n ?_
  refine JC_ret ?_
  refine retQ_mk [] _ (.inr rfl) (.tmp rfl (.nil)) rfl (Le.trans h2 h3) (fun sR hS2 => ?_)
  simp only [Nat.zero_add, List.nil_append] at o1
  obtain ⟨Ad, c', rfl, k1, k2⟩ := Own.slice o1
  exact ⟨_, rfl, Ad, c', rfl, k1, k2, o1⟩

set_option maxHeartbeats 1000000 in
set_option maxRecDepth 100000 in
theorem value_ac (D : Nat) (L : Hl) (s : World) (m : Mst) (op : Int) (bm bc bq : Nat) (Ai Ao Ax : Option Addr) (nc cc ni ci no co nx cx : Nat) (sm : List Int) (hsm : sm.length = 256) (x : Tm) (hv : x.kind = 1 → 0 ≤ x.val ∧ x.val ≤ 4) : AC Try.prog D 73 [.pointer (some ⟨bm, 0, none⟩), .agg #[.int .i64 x.kind, .int .u32 x.val]] ([(bm, cb (.slice (some ⟨bc, 0, none⟩) nc cc :: .int .u32 m.r0 :: .int .u32 m.r1 :: .int .u32 m.r2 :: .int .u32 m.r3 :: .int .u32 m.r4 :: .slice Ai ni ci :: .slice Ao no co :: .int .i64 m.stop :: .int .u32 m.code :: .slice Ax nx cx :: (iv sm ++ [.map (some bq), .int .u32 op])) 78)] ++ L) s fun v L' _ => ∃ M', L' = M' ++ L ∧ v = .int .u32 (valT m op x) ∧ M' = [(bm, cb (.slice (some ⟨bc, 0, none⟩) nc cc :: .int .u32 m.r0 :: .int .u32 m.r1 :: .int .u32 m.r2 :: .int .u32 m.r3 :: .int .u32 m.r4 :: .slice Ai ni ci :: .slice Ao no co :: .int .i64 m.stop :: .int .u32 m.code :: .slice Ax nx cx :: (iv sm ++ [.map (some bq), .int .u32 op])) 78)] := by
 refine AC_enter (TT := TT) (fn := Try.f73) TT_ok Try.func73 (by kernel_rfl) rfl Try.ntmps73 rfl (rs := [.tmp 4]) rfl [(0, _), (1, _)] rfl ?_
 refine JC_seq ?_
 refine JC_region ?_
 refine JO_boxA rfl rfl ?_
 intro β1 s1 h1
 refine JO_q (QE_as rfl) rfl ?_
 refine JO_nil ?_
 refine thenQ_n ?_
 refine JC_seq ?_
 refine JC_seq ?_
 refine JC_region ?_
 refine JO_q (QE_fa0 rfl rfl rfl rfl) rfl ?_
 refine JO_q (QE_ld1 0 rfl rfl rfl rfl rfl) rfl ?_
 refine JO_nil ?_
 refine thenQ_n ?_
 refine JC_block ?_
 refine JC_seq ?_
 refine JC_region ?_
 refine JO_q (QE_eq rfl rfl) rfl ?_
 refine JO_q (QE_as rfl) rfl ?_
 refine JO_nil ?_
 refine thenQ_n ?_
 refine JC_ifD rfl (fun c2 => ?_) (fun c2 => ?_)
 ·
  have hk := c2
  refine JC_seq ?_
  refine JC_draw drawsMixed 9 rfl _ (fun _ h => h) ?_
  intro s3 h3
  refine JA_q 0 rfl (by kernel_rfl) (by kernel_rfl) (by kernel_rfl) trivial (QE_mv rfl) rfl ?_
  refine JA_q 1 rfl (by kernel_rfl) (by kernel_rfl) (by kernel_rfl) trivial (QE_faB rfl rfl rfl rfl) rfl ?_
  refine JA_q 2 rfl (by kernel_rfl) (by kernel_rfl) (by kernel_rfl) trivial (QE_ld1 0 rfl rfl rfl rfl rfl) rfl ?_
  refine JA_q 3 rfl (by kernel_rfl) (by kernel_rfl) (by kernel_rfl) trivial (QE_nil rfl) rfl ?_
  refine JA_q 4 rfl (by kernel_rfl) (by kernel_rfl) (by kernel_rfl) trivial (QE_fa0 rfl rfl rfl rfl) rfl ?_
  refine JA_q 5 rfl (by kernel_rfl) (by kernel_rfl) (by kernel_rfl) trivial (QE_faB rfl rfl rfl rfl) rfl ?_
  refine JA_q 6 rfl (by kernel_rfl) (by kernel_rfl) (by kernel_rfl) trivial (QE_iaI rfl rfl rfl rfl rfl rfl (hv hk).1 (by have := (hv hk).2; omega)) rfl ?_
  refine JA_q 7 rfl (by kernel_rfl) (by kernel_rfl) (by kernel_rfl) trivial (QE_ld1 1 rfl rfl rfl rfl (nth_reg m (hv hk) _ _)) rfl ?_
  refine JA_q 8 rfl (by kernel_rfl) (by kernel_rfl) (by kernel_rfl) trivial (QE_as rfl) rfl ?_
  refine JA_done (by kernel_rfl) ?_
  refine thenQ_n ?_
  refine JC_ret ?_
  refine blockQ_r ?_
  refine thenQ_r ?_
  refine retQ_mk [_] _ (.inr rfl) (.tmp rfl (.nil)) rfl (Le.trans h1 h3) (fun sR hS2 => ?_)
  exact ⟨[_], rfl, by simp [resV, valT, *], rfl⟩
 ·
  refine JC_seq ?_
  refine JC_region ?_
  refine JO_q (QE_eq rfl rfl) rfl ?_
  refine JO_q (QE_as rfl) rfl ?_
  refine JO_nil ?_
  refine thenQ_n ?_
  refine JC_ifD rfl (fun c4 => ?_) (fun c4 => ?_)
  ·
   refine JC_seq ?_
   refine JC_region ?_
   refine JO_q (QE_mv rfl) rfl ?_
   refine JO_q (QE_nil rfl) rfl ?_
   refine JO_q (QE_faB rfl rfl rfl rfl) rfl ?_
   refine JO_q (QE_ld1 1 rfl rfl rfl rfl (nth_op _ _ _ _ _ _ _ _ _ _ _ _ _ hsm)) rfl ?_
   refine JO_q (QE_as rfl) rfl ?_
   refine JO_nil ?_
   refine thenQ_n ?_
   refine JC_ret ?_
   refine blockQ_r ?_
   refine thenQ_r ?_
   refine retQ_mk [_] _ (.inr rfl) (.tmp rfl (.nil)) rfl h1 (fun sR hS2 => ?_)
   exact ⟨[_], rfl, by simp [resV, valT, *], rfl⟩
  ·
   refine JC_skip ?_
   refine blockQ_n ?_
   refine thenQ_n ?_
   refine JC_seq ?_
   refine JC_region ?_
   refine JO_q (QE_faB rfl rfl rfl rfl) rfl ?_
   refine JO_q (QE_ld1 0 rfl rfl rfl rfl rfl) rfl ?_
   refine JO_q (QE_as rfl) rfl ?_
   refine JO_nil ?_
   refine thenQ_n ?_
   refine JC_ret ?_
   refine retQ_mk [_] _ (.inr rfl) (.tmp rfl (.nil)) rfl h1 (fun sR hS2 => ?_)
   exact ⟨[_], rfl, by simp [resV, valT, *], rfl⟩

set_option maxHeartbeats 1000000 in
set_option maxRecDepth 100000 in
theorem isCell_ac (D : Nat) (L : Hl) (s : World) (m : Mst) (op : Int) (bm bc bq : Nat) (Ai Ao Ax : Option Addr) (nc cc ni ci no co nx cx : Nat) (sm : List Int) (hsm : sm.length = 256) (x : Int) (hx : U32 x) (hnc : nc ≤ 65536) : AC Try.prog D 58 [.pointer (some ⟨bm, 0, none⟩), .int .u32 x] ([(bm, cb (.slice (some ⟨bc, 0, none⟩) nc cc :: .int .u32 m.r0 :: .int .u32 m.r1 :: .int .u32 m.r2 :: .int .u32 m.r3 :: .int .u32 m.r4 :: .slice Ai ni ci :: .slice Ao no co :: .int .i64 m.stop :: .int .u32 m.code :: .slice Ax nx cx :: (iv sm ++ [.map (some bq), .int .u32 op])) 78)] ++ L) s fun v L' _ => ∃ M', L' = M' ++ L ∧ v = .bool (decide (x < (nc : Int))) ∧ M' = [(bm, cb (.slice (some ⟨bc, 0, none⟩) nc cc :: .int .u32 m.r0 :: .int .u32 m.r1 :: .int .u32 m.r2 :: .int .u32 m.r3 :: .int .u32 m.r4 :: .slice Ai ni ci :: .slice Ao no co :: .int .i64 m.stop :: .int .u32 m.code :: .slice Ax nx cx :: (iv sm ++ [.map (some bq), .int .u32 op])) 78)] := by
 have hx1 := hx.1
 have hx2 := hx.2
 refine AC_enter (TT := TT) (fn := Try.f58) TT_ok Try.func58 (by kernel_rfl) rfl Try.ntmps58 rfl (rs := [.tmp 4]) rfl [(0, _), (1, _)] rfl ?_
 refine JC_seq ?_
 refine JC_region ?_
 refine JO_q (QE_as rfl) rfl ?_
 refine JO_nil ?_
 refine thenQ_n ?_
 refine JC_seq ?_
 refine JC_region ?_
 refine JO_q (QE_mv rfl) rfl ?_
 refine JO_q (QE_conv' rfl rfl rfl rfl rfl (w64u (by omega) (by omega))) rfl ?_
 refine JO_q (QE_mv rfl) rfl ?_
 refine JO_q (QE_nil rfl) rfl ?_
 refine JO_q (QE_fa0 rfl rfl rfl rfl) rfl ?_
 refine JO_q (QE_fa0 rfl rfl rfl rfl) rfl ?_
 refine JO_q (QE_ld1 0 rfl rfl rfl rfl rfl) rfl ?_
 refine JO_q (QE_lenS rfl rfl rfl) rfl ?_
 refine JO_q (QE_conv' rfl rfl rfl rfl rfl (w64u (by omega) (by omega))) rfl ?_
 refine JO_q (QE_lt rfl rfl) rfl ?_
 refine JO_q (QE_as rfl) rfl ?_
 refine JO_nil ?_
 refine thenQ_n ?_
 refine JC_ret ?_
 refine retQ_mk [] _ (.inr rfl) (.tmp rfl (.nil)) rfl (Le.refl (D := D) _) (fun sR hS2 => ?_)
 exact ⟨[_], rfl, rfl, rfl⟩

theorem mapTy (w : World) : MapTy Try.prog 76 (.int .u32) (.int .i64 0) := ⟨_, _, Try.underlying76, Try.underlying26, fun w => by rw [run_zero' ti3_ok]; rfl⟩

set_option maxHeartbeats 1000000 in
set_option maxRecDepth 100000 in
theorem find_ac (D : Nat) (L : Hl) (s : World) (m : Mst) (op : Int) (bm bc bq : Nat) (Ai Ao Ax : Option Addr) (nc cc ni ci no co nx cx : Nat) (sm : List Int) (hsm : sm.length = 256) (zs : List Value) (es : List (Int × Value × Nat)) (ck : Nat) (l : List Ins) (hX : Inss s Ax nx cx l) (c : Int) (hc : U32 c) (p : Nat) (hp : p ≤ nx) (h1 : c < 256 → sm[c.toNat]? = some (p : Int)) (h2 : 256 ≤ c → (assoc es c).getD (.int .i64 0) = .int .i64 (p : Int)) : AC Try.prog D 59 [.pointer (some ⟨bm, 0, none⟩), .int .u32 c] ([(bm, cb (.slice (some ⟨bc, 0, none⟩) nc cc :: .int .u32 m.r0 :: .int .u32 m.r1 :: .int .u32 m.r2 :: .int .u32 m.r3 :: .int .u32 m.r4 :: .slice Ai ni ci :: .slice Ao no co :: .int .i64 m.stop :: .int .u32 m.code :: .slice Ax nx cx :: (iv sm ++ [.map (some bq), .int .u32 op])) 78), (bc, cb zs 26), (bq, mp (Value.int .u32) es ck)] ++ L) s fun v L' _ => ∃ M', L' = M' ++ L ∧ v = .tuple #[.pointer (fp Ax p), .bool (decide (p ≠ 0))] ∧ M' = [(bm, cb (.slice (some ⟨bc, 0, none⟩) nc cc :: .int .u32 m.r0 :: .int .u32 m.r1 :: .int .u32 m.r2 :: .int .u32 m.r3 :: .int .u32 m.r4 :: .slice Ai ni ci :: .slice Ao no co :: .int .i64 m.stop :: .int .u32 m.code :: .slice Ax nx cx :: (iv sm ++ [.map (some bq), .int .u32 op])) 78), (bc, cb zs 26), (bq, mp (Value.int .u32) es ck)] := by
 have hc1 := hc.1
 have hc2 := hc.2
 have hn := hX.1
 have hcx1 := hX.2.1
 have hcx2 := hX.2.2.1
 refine AC_enter (TT := TT) (fn := Try.f59) TT_ok Try.func59 (by kernel_rfl) rfl Try.ntmps59 rfl (rs := [.tmp 4, .tmp 5]) rfl [(0, _), (1, _)] rfl ?_
 refine JC_seq ?_
 refine JC_region ?_
 refine JO_q (QE_as rfl) rfl ?_
 refine JO_q (QE_as rfl) rfl ?_
 refine JO_nil ?_
 refine thenQ_n ?_
 refine JC_seq ?_
 refine JC_region ?_
 refine JO_q (QE_as rfl) rfl ?_
 refine JO_nil ?_
 refine thenQ_n ?_
 refine JC_seq ?_
 refine JC_seq ?_
 refine JC_region ?_
 refine JO_q (QE_mv rfl) rfl ?_
 refine JO_q (QE_lt rfl rfl) rfl ?_
 refine JO_nil ?_
 refine thenQ_n ?_
 refine JC_ifD rfl (fun c1 => ?_) (fun c1 => ?_)
 ·
  have hsmall := h1 (by omega)
  refine JC_region ?_
  refine JO_q (QE_mv rfl) rfl ?_
  refine JO_q (QE_mv rfl) rfl ?_
  refine JO_q (QE_nil rfl) rfl ?_
  refine JO_q (QE_faB rfl rfl rfl rfl) rfl ?_
  refine JO_q (QE_iaI rfl rfl rfl rfl rfl rfl (by omega) (by omega)) rfl ?_
  refine JO_q (QE_ld1 0 rfl rfl rfl rfl (nth_small _ _ _ _ _ _ _ _ _ _ _ _ _ hsmall)) rfl ?_
  refine JO_q (QE_as rfl) rfl ?_
  refine JO_nil ?_
  refine thenQ_n ?_
  refine JC_seq ?_
  refine JC_seq ?_
  refine JC_region ?_
  refine JO_q (QE_mv rfl) rfl ?_
  refine JO_q (QE_eq rfl rfl) rfl ?_
  refine JO_nil ?_
  refine thenQ_n ?_
  refine JC_ifD rfl (fun c2 => ?_) (fun c2 => ?_)
  ·
   have hp0 : p = 0 := by omega
   refine JC_seq ?_
   refine JC_region ?_
   refine JO_q (QE_as rfl) rfl ?_
   refine JO_q (QE_as rfl) rfl ?_
   refine JO_nil ?_
   refine thenQ_n ?_
   refine JC_ret ?_
   refine thenQ_r ?_
   refine retQ_mk [] _ (.inr rfl) (.tmp rfl (.tmp rfl (.nil))) rfl (Le.refl (D := D) _) (fun sR hS2 => ?_)
   exact ⟨[_, _, _], rfl, by simp [resV, fp, hp0, add_lit, ti60], rfl⟩
  ·
   have hp0 : p ≠ 0 := by omega
   obtain ⟨bx, ox, ix, A', n', c', rfl, _, _⟩ := Inss.at_ hX (show p - 1 < nx by omega)
   refine JC_skip ?_
   refine thenQ_n ?_
   refine JC_seq ?_
   refine JC_region ?_
   refine JO_q (QE_mv rfl) rfl ?_
   refine JO_q (QE_nil rfl) rfl ?_
   refine JO_q (QE_faB rfl rfl rfl rfl) rfl ?_
   refine JO_q (QE_ld1 0 rfl rfl rfl rfl rfl) rfl ?_
   refine JO_q (QE_mv rfl) rfl ?_
   refine JO_q (QE_cast (QE_sub rfl rfl) (show Value.int .i64 (IntKind.i64.wrap ((p : Int) - 1)) = .int .i64 ((p - 1 : Nat) : Int) from by rw [w64 (by omega) (by omega)]; congr 1; omega)) rfl ?_
   refine JO_q (QE_iaN rfl rfl rfl rfl rfl rfl (by omega)) rfl ?_
   refine JO_q (QE_as rfl) rfl ?_
   refine JO_q (QE_as rfl) rfl ?_
   refine JO_nil ?_
   refine thenQ_n ?_
   refine JC_ret ?_
   refine retQ_mk [] _ (.inr rfl) (.tmp rfl (.tmp rfl (.nil))) rfl (Le.refl (D := D) _) (fun sR hS2 => ?_)
   exact ⟨[_, _, _], rfl, by simp [resV, fp, hp0, add_lit, ti60], rfl⟩
 ·
  have hbig := h2 (by omega)
  refine JC_region ?_
  refine JO_q (QE_mv rfl) rfl ?_
  refine JO_q (QE_nil rfl) rfl ?_
  refine JO_q (QE_faB rfl rfl rfl rfl) rfl ?_
  refine JO_q (QE_ld1 0 rfl rfl rfl rfl (nth_map _ _ _ _ _ _ _ _ _ _ _ _ _ hsm)) rfl ?_
  refine JO_q (QE_mv rfl) rfl ?_
  refine JO_q (QE_cast (QE_lookup (KeyK.int .u32) 2 (mapTy default) rfl rfl rfl) hbig) rfl ?_
  refine JO_q (QE_as rfl) rfl ?_
  refine JO_nil ?_
  refine thenQ_n ?_
  refine JC_seq ?_
  refine JC_seq ?_
  refine JC_region ?_
  refine JO_q (QE_mv rfl) rfl ?_
  refine JO_q (QE_eq rfl rfl) rfl ?_
  refine JO_nil ?_
  refine thenQ_n ?_
  refine JC_ifD rfl (fun c3 => ?_) (fun c3 => ?_)
  ·
   have hp0 : p = 0 := by omega
   refine JC_seq ?_
   refine JC_region ?_
   refine JO_q (QE_as rfl) rfl ?_
   refine JO_q (QE_as rfl) rfl ?_
   refine JO_nil ?_
   refine thenQ_n ?_
   refine JC_ret ?_
   refine thenQ_r ?_
   refine retQ_mk [] _ (.inr rfl) (.tmp rfl (.tmp rfl (.nil))) rfl (Le.refl (D := D) _) (fun sR hS2 => ?_)
   exact ⟨[_, _, _], rfl, by simp [resV, fp, hp0, add_lit, ti60], rfl⟩
  ·
   have hp0 : p ≠ 0 := by omega
   obtain ⟨bx, ox, ix, A', n', c', rfl, _, _⟩ := Inss.at_ hX (show p - 1 < nx by omega)
   refine JC_skip ?_
   refine thenQ_n ?_
   refine JC_seq ?_
   refine JC_region ?_
   refine JO_q (QE_mv rfl) rfl ?_
   refine JO_q (QE_nil rfl) rfl ?_
   refine JO_q (QE_faB rfl rfl rfl rfl) rfl ?_
   refine JO_q (QE_ld1 0 rfl rfl rfl rfl rfl) rfl ?_
   refine JO_q (QE_mv rfl) rfl ?_
   refine JO_q (QE_cast (QE_sub rfl rfl) (show Value.int .i64 (IntKind.i64.wrap ((p : Int) - 1)) = .int .i64 ((p - 1 : Nat) : Int) from by rw [w64 (by omega) (by omega)]; congr 1; omega)) rfl ?_
   refine JO_q (QE_iaN rfl rfl rfl rfl rfl rfl (by omega)) rfl ?_
   refine JO_q (QE_as rfl) rfl ?_
   refine JO_q (QE_as rfl) rfl ?_
   refine JO_nil ?_
   refine thenQ_n ?_
   refine JC_ret ?_
   refine retQ_mk [] _ (.inr rfl) (.tmp rfl (.tmp rfl (.nil))) rfl (Le.refl (D := D) _) (fun sR hS2 => ?_)
   exact ⟨[_, _, _], rfl, by simp [resV, fp, hp0, add_lit, ti60], rfl⟩

set_option maxHeartbeats 1000000 in
set_option maxRecDepth 100000 in
theorem set_ac (D : Nat) (L : Hl) (s : World) (m : Mst) (op : Int) (bm bc bq : Nat) (Ai Ao Ax : Option Addr) (nc cc ni ci no co nx cx : Nat) (sm : List Int) (hsm : sm.length = 256) (v : Int) (a : Ac) (ba oa βa βm : Nat) (hca : CellsAt s ba oa [.int .i64 a.kind, .int .i64 a.to, .int .i64 a.x.kind, .int .u32 a.x.val, .int .i64 a.y.kind, .int .u32 a.y.val]) (ht : 0 ≤ a.to ∧ a.to ≤ 4) : AC Try.prog D 74 [.int .u32 v, .pointer (some ⟨βm, 0, none⟩), .pointer (some ⟨βa, 0, none⟩)] ((βa, cb [.pointer (some ⟨ba, oa, none⟩)] 107) :: (βm, cb [.pointer (some ⟨bm, 0, none⟩)] 73) :: (bm, cb (.slice (some ⟨bc, 0, none⟩) nc cc :: .int .u32 m.r0 :: .int .u32 m.r1 :: .int .u32 m.r2 :: .int .u32 m.r3 :: .int .u32 m.r4 :: .slice Ai ni ci :: .slice Ao no co :: .int .i64 m.stop :: .int .u32 m.code :: .slice Ax nx cx :: (iv sm ++ [.map (some bq), .int .u32 op])) 78) :: L) s fun w L' _ => w = .tuple #[] ∧ L' = (βa, cb [.pointer (some ⟨ba, oa, none⟩)] 107) :: (βm, cb [.pointer (some ⟨bm, 0, none⟩)] 73) :: (bm, cb (.slice (some ⟨bc, 0, none⟩) nc cc :: .int .u32 (setR m a.to v).r0 :: .int .u32 (setR m a.to v).r1 :: .int .u32 (setR m a.to v).r2 :: .int .u32 (setR m a.to v).r3 :: .int .u32 (setR m a.to v).r4 :: .slice Ai ni ci :: .slice Ao no co :: .int .i64 m.stop :: .int .u32 m.code :: .slice Ax nx cx :: (iv sm ++ [.map (some bq), .int .u32 op])) 78) :: L := by
 refine AC_enter (TT := TT) (fn := Try.f74) TT_ok Try.func74 (by kernel_rfl) rfl Try.ntmps74 rfl (rs := []) rfl [(0, _), (1, _), (2, _)] rfl ?_
 refine JC_drawE drawsMixed 11 rfl [2] (by intro x hx; exact eraseAll_mem hx) ?_
 intro s1 h1
 refine JA_q 0 rfl (by kernel_rfl) (by kernel_rfl) (by kernel_rfl) trivial (QE_ld1 1 rfl rfl rfl rfl rfl) rfl ?_
 refine JA_q 1 rfl (by kernel_rfl) (by kernel_rfl) (by kernel_rfl) trivial (QE_ld1 0 rfl rfl rfl rfl rfl) rfl ?_
 refine JA_q 2 rfl (by kernel_rfl) (by kernel_rfl) (by kernel_rfl) trivial (QE_nil rfl) rfl ?_
 refine JA_q 3 rfl (by kernel_rfl) (by kernel_rfl) (by kernel_rfl) trivial (QE_fa rfl rfl rfl rfl) rfl ?_
 refine JA_q 4 rfl (by kernel_rfl) (by kernel_rfl) (by kernel_rfl) trivial (QE_ldsR 1 rfl rfl rfl (hca.le h1) rfl) rfl ?_
 refine JA_q 5 rfl (by kernel_rfl) (by kernel_rfl) (by kernel_rfl) trivial (QE_mv rfl) rfl ?_
 refine JA_q 6 rfl (by kernel_rfl) (by kernel_rfl) (by kernel_rfl) trivial (QE_nil rfl) rfl ?_
 refine JA_q 7 rfl (by kernel_rfl) (by kernel_rfl) (by kernel_rfl) trivial (QE_fa0 rfl rfl rfl rfl) rfl ?_
 refine JA_q 8 rfl (by kernel_rfl) (by kernel_rfl) (by kernel_rfl) trivial (QE_faB rfl rfl rfl rfl) rfl ?_
 refine JA_q 9 rfl (by kernel_rfl) (by kernel_rfl) (by kernel_rfl) trivial (QE_iaI rfl rfl rfl rfl rfl rfl ht.1 (by have := ht.2; omega)) rfl ?_
 refine JA_1 10 (by kernel_rfl) ?_
 refine JB_st rfl trivial 2 _ rfl rfl rfl rfl rfl (ble_reg ht _ _ _ _ _ _ _) rfl (spl_reg m ht v _ _) rfl (fun x hx => hx) ?_
 refine JA_done (by kernel_rfl) ?_
 refine retQ_mk [] _ (.inl rfl) (.nil) rfl h1 (fun sR hS2 => ?_)
 exact ⟨rfl, rfl⟩
end Go.Proofs.Ytpjnphonanbopaa
