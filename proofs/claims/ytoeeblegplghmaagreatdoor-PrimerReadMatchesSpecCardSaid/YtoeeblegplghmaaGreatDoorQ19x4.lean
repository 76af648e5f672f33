/- Part 4 of the proof of primerReadMatchesSpec_holds: texts P1, FlT, FlS, Db, P2, P3, P4, P5, P6, P7, P8, P9. -/
import Derived.Test.YtoeeblegplghmaaGreatDoorQ19x3
set_option linter.unusedVariables false
set_option linter.unusedSimpArgs false
set_option linter.unnecessarySimpa false
namespace Go.Proofs.YtoeeblegplghmaaGreatDoor
open Go.FL
attribute [local irreducible] JC JO JA JB thenQ blockQ retQ AC fill CellsAt QE Ev Mid
set_option maxHeartbeats 1000000 in
set_option maxRecDepth 100000 in
theorem fmtU0_ac (D : Nat) (L : Hl) (s : World) (hG : GW s) (u : Nat) (hu : u < 4294967296) : AC Tryz.prog D 106 [.int .u64 (u : Int), .int .i64 10] L s fun v L' _ => v = St (Lib.decDigits u) ∧ L = L' := by
 refine AC_enter (TT := TT) (fn := Tryz.f106) TT_ok Tryz.func106 (by kernel_rfl) rfl Tryz.ntmps106 rfl (rs := [.tmp 4]) rfl [(0, _), (1, _)] rfl ?_
 refine JC_seq ?_
 refine JC_region ?_
 refine JO_q (QE_as rfl) rfl ?_
 refine JO_nil ?_
 refine thenQ_n ?_
 refine JC_seq ?_
 refine JC_seq ?_
 refine JC_region ?_
 refine JO_q (QE_mv rfl) rfl ?_
 refine JO_q (QE_eq rfl rfl) rfl ?_
 refine JO_nil ?_
 refine thenQ_n ?_
 refine JC_ifD rfl (fun c1 => ?_) (fun c1 => ?_)
 ·
  refine JC_seq ?_
  refine JC_seq ?_
  refine JC_region ?_
  refine JO_q (QE_mv rfl) rfl ?_
  refine JO_q (QE_lt rfl rfl) rfl ?_
  refine JO_nil ?_
  refine thenQ_n ?_
  refine JC_ifD rfl (fun c2 => ?_) (fun c2 => ?_)
  ·
   refine JC_seq ?_
   refine JC_region ?_
   refine JO_q (QE_mv rfl) rfl ?_
   refine JO_q (QE_conv' rfl rfl rfl rfl rfl (w64 (by omega) (by omega))) rfl ?_
   refine JO_call (first := []) (captured := []) rfl rfl rfl (small_ac D _ _ u (by omega)) ?_
   rintro _ _ s3 h3 ⟨rfl, rfl⟩
   refine JO_q (QE_as rfl) rfl ?_
   refine JO_nil ?_
   refine thenQ_n ?_
   refine JC_ret ?_
   refine thenQ_r ?_
   refine thenQ_r ?_
   refine retQ_mk [] L (.inr rfl) (.tmp rfl (.nil)) rfl h3 (fun sR hS2 => ?_)
   exact ⟨rfl, rfl⟩
  ·
   refine JC_skip ?_
   refine thenQ_n ?_
   refine JC_seq ?_
   refine JC_region ?_
   refine JO_allocZ rfl [_, _, _, _, _, _, _, _, _, _, _, _, _, _, _, _, _, _, _, _, _, _, _, _] rfl rfl ?_
   intro β4 s4 h4
   refine JO_nil ?_
   refine thenQ_n ?_
   refine JC_seq ?_
   refine JC_region ?_
   refine JO_q (QE_mv rfl) rfl ?_
   refine JO_call (first := []) (captured := []) rfl rfl rfl (nd_ac D _ _ (hG.le h4) u (by omega) hu) ?_
   rintro _ _ s5 h5 ⟨rfl, rfl⟩
   refine JO_q (QE_as rfl) rfl ?_
   refine JO_nil ?_
   refine thenQ_n ?_
   refine JC_seq ?_
   refine JC_region ?_
   refine JO_q (QE_mv rfl) rfl ?_
   refine JO_q (QE_slA rfl rfl rfl rfl rfl (by have := nd_le hu; omega)) rfl ?_
   refine JO_q (QE_mv rfl) rfl ?_
   refine JO_call (first := []) (captured := []) rfl rfl rfl (format_ac D _ _ u hu _ _) ?_
   rintro _ _ s6 h6 ⟨rfl, ys, rfl, hys⟩
   refine JO_nil ?_
   refine thenQ_n ?_
   refine JC_seq ?_
   refine JC_pubX [] [_] _ ?_
   intro s7 h7 hpub7
   simp only [List.cons_append, List.nil_append]
   have hbt := bts_pub (l := Lib.decDigits u) (hpub7 _ _ _ (List.mem_cons_self ..)) hys (by omega)
   rw [Lib.decDigits_length] at hbt
   refine JC_region ?_
   refine JO_q (QE_mv rfl) rfl ?_
   refine JO_q (QE_slA rfl rfl rfl rfl rfl (by have := nd_le hu; omega)) rfl ?_
   refine JO_q (QE_b2s rfl rfl rfl rfl rfl rfl rfl (hbt.le (Le.refl (D := D) _))) rfl ?_
   refine JO_q (QE_as rfl) rfl ?_
   refine JO_nil ?_
   refine thenQ_n ?_
   refine JC_ret ?_
   refine thenQ_r ?_
   refine retQ_mk [] L (.inr rfl) (.tmp rfl (.nil)) rfl (Le.trans (Le.trans (Le.trans h4 h5) h6) h7) (fun sR hS2 => ?_)
   exact ⟨rfl, rfl⟩
 ·
  exact absurd rfl c1 --end
set_option maxHeartbeats 1000000 in
set_option maxRecDepth 100000 in
theorem fmtU_ac (D : Nat) (L : Hl) (s : World) (hG : GW s) (u : Nat) (hu : u < 4294967296) : AC Tryz.prog D 90 [.int .u64 (u : Int), .int .i64 10] L s fun v L' _ => v = St (Lib.decDigits u) ∧ L = L' := by
 refine AC_enter (TT := TT) (fn := Tryz.f90) TT_ok Tryz.func90 (by kernel_rfl) rfl Tryz.ntmps90 rfl (rs := [.tmp 4]) rfl [(0, _), (1, _)] rfl ?_
 refine JC_seq ?_
 refine JC_region ?_
 refine JO_q (QE_as rfl) rfl ?_
 refine JO_nil ?_
 refine thenQ_n ?_
 refine JC_seq ?_
 refine JC_region ?_
 refine JO_q (QE_mv rfl) rfl ?_
 refine JO_q (QE_mv rfl) rfl ?_
 refine JO_call (first := []) (captured := []) rfl rfl rfl (fmtU0_ac D _ _ (hG.le (Le.refl (D := D) _)) u hu) ?_
 rintro _ _ s1 h1 ⟨rfl, rfl⟩
 refine JO_q (QE_as rfl) rfl ?_
 refine JO_nil ?_
 refine thenQ_n ?_
 refine JC_ret ?_
 refine retQ_mk [] L (.inr rfl) (.tmp rfl (.nil)) rfl h1 (fun sR hS2 => ?_)
 exact ⟨rfl, rfl⟩
theorem errT : Tryz.prog.underlying 93 = some (.interface (Tryz.prog.methodsAt 93)) := by kernel_rfl
theorem parseE_ac (D : Nat) (L : Hl) (s : World) (hG : GW s) (l : List UInt8) (hl : l.length ≤ 281474976710656) : AC Tryz.prog D 89 [St l, .int .i64 10, .int .i64 32] L s fun v L' _ => L = L' ∧ ∃ n e b, v = .tuple #[.int .u64 n, e] ∧ EqNil e b ∧ (b = true → ∃ u : Nat, n = (u : Int) ∧ Lib.parseUintB 32 l = .ok u) ∧ (b = false → ∀ u, Lib.parseUintB 32 l ≠ .ok u) :=
  (parse_ac D L s hG l hl).mono fun v L' s' _ ⟨hv, hL⟩ => by
    refine ⟨hL, ?_⟩
    cases hv with
    | ok u h => exact ⟨_, _, true, rfl, .inl ⟨rfl, rfl⟩, fun _ => ⟨u, rfl, h⟩, fun h => by cases h⟩
    | bad h n t p => exact ⟨_, _, false, rfl, .inr ⟨_, _, rfl, rfl⟩, (fun h => by cases h), fun _ => h⟩
set_option maxHeartbeats 1000000 in
set_option maxRecDepth 100000 in
theorem readNum_ac (D : Nat) (L : Hl) (s : World) (hG : GW s) (l : List UInt8) (hl : l.length ≤ 281474976710656) : AC Tryz.prog D 67 [St l] L s fun v L' _ => L = L' ∧ ∃ k, v = .tuple #[.int .u32 k, .bool (numL l).isSome] ∧ U32 k ∧ ∀ u, numL l = some u → k = (u : Int) := by
 refine AC_enter (TT := TT) (fn := Tryz.f67) TT_ok Tryz.func67 (by kernel_rfl) rfl Tryz.ntmps67 rfl (rs := [.tmp 2, .tmp 3]) rfl [(0, _)] rfl ?_
 refine JC_seq ?_
 refine JC_region ?_
 refine JO_q (QE_as rfl) rfl ?_
 refine JO_q (QE_as rfl) rfl ?_
 refine JO_nil ?_
 refine thenQ_n ?_
 refine JC_seq ?_
 refine JC_region ?_
 refine JO_q (QE_mv rfl) rfl ?_
 refine JO_call (first := []) (captured := []) rfl rfl rfl (parseE_ac D _ _ (hG.le (Le.refl (D := D) _)) l hl) ?_
 rintro _ _ s1 h1 ⟨rfl, n, e, b, rfl, hE, hT, hF⟩
 refine JO_q (QE_mv rfl) rfl ?_
 refine JO_q (QE_ext rfl rfl) rfl ?_
 refine JO_q (QE_ext rfl rfl) rfl ?_
 refine JO_q (QE_as rfl) rfl ?_
 refine JO_q (QE_as rfl) rfl ?_
 refine JO_nil ?_
 refine thenQ_n ?_
 refine JC_seq ?_
 refine JC_region ?_
 refine JO_q (QE_mv rfl) rfl ?_
 refine JO_q (QE_conv rfl rfl rfl rfl rfl) rfl ?_
 refine JO_q (QE_mv rfl) rfl ?_
 refine JO_q (QE_inil errT rfl hE) rfl ?_
 refine JO_q (QE_mv rfl) rfl ?_
 refine JO_case (t := 15) rfl (fun c2 => ?_) (fun c2 => ?_)
 ·
  refine JO_gT rfl rfl ?_
  obtain ⟨u, rfl, hu⟩ := hT (by assumption)
  refine JO_q (QE_mv rfl) rfl ?_
  refine JO_gT rfl rfl ?_
  refine JO_call (first := []) (captured := []) rfl rfl rfl (fmtU_ac D _ _ (hG.le h1) u (by have := Lib.parseUintB_le hu; omega)) ?_
  rintro _ _ s3 h3 ⟨rfl, rfl⟩
  refine JO_gT rfl rfl ?_
  refine JO_q (QE_mv rfl) rfl ?_
  refine JO_gT rfl rfl ?_
  refine JO_q (QE_seq rfl rfl) rfl ?_
  refine JO_q (QE_pickT rfl rfl) rfl ?_
  refine JO_q (QE_as rfl) rfl ?_
  refine JO_q (QE_as rfl) rfl ?_
  refine JO_nil ?_
  refine thenQ_n ?_
  refine JC_ret ?_
  refine retQ_mk [] L (.inr rfl) (.tmp rfl (.tmp rfl (.nil))) rfl (Le.trans h1 h3) (fun sR hS2 => ?_)
  first
    | (refine ⟨rfl, IntKind.u32.wrap (u : Int), ?_, wrapU32 _, fun v hv => ?_⟩
       · rw [← num_dec hu]; rfl
       · have := num_val hu hv; subst this; exact wrap_small (by have := Lib.parseUintB_le hu; omega))
    | (refine ⟨rfl, IntKind.u32.wrap n, ?_, wrapU32 _, fun v hv => ?_⟩
       · rw [num_not (hF (by assumption))]; rfl
       · rw [num_not (hF (by assumption))] at hv; cases hv)
 ·
  refine JO_gF rfl rfl rfl rfl ?_
  refine JO_gF rfl rfl rfl rfl ?_
  refine JO_gF rfl rfl rfl rfl ?_
  refine JO_gF rfl rfl rfl rfl ?_
  refine JO_q (QE_pickF rfl rfl) rfl ?_
  refine JO_q (QE_as rfl) rfl ?_
  refine JO_q (QE_as rfl) rfl ?_
  refine JO_nil ?_
  refine thenQ_n ?_
  refine JC_ret ?_
  refine retQ_mk [] L (.inr rfl) (.tmp rfl (.tmp rfl (.nil))) rfl h1 (fun sR hS2 => ?_)
  first
    | (refine ⟨rfl, IntKind.u32.wrap (u : Int), ?_, wrapU32 _, fun v hv => ?_⟩
       · rw [← num_dec hu]; rfl
       · have := num_val hu hv; subst this; exact wrap_small (by have := Lib.parseUintB_le hu; omega))
    | (refine ⟨rfl, IntKind.u32.wrap n, ?_, wrapU32 _, fun v hv => ?_⟩
       · rw [num_not (hF (by assumption))]; rfl
       · rw [num_not (hF (by assumption))] at hv; cases hv)
set_option maxHeartbeats 1000000 in
set_option maxRecDepth 100000 in
theorem pfault_ac (D : Nat) (L : Hl) (s : World) (c i : Int) : AC Tryz.prog D 34 [.int .i64 c, .int .i64 i] L s fun v L' _ => v = .agg #[.int .i64 c, .int .i64 i] ∧ L = L' := by
 refine AC_enter (TT := TT) (fn := Tryz.f34) TT_ok Tryz.func34 (by kernel_rfl) rfl Tryz.ntmps34 rfl (rs := [.cell 4 26]) rfl [(0, _), (1, _)] rfl ?_
 refine JC_seq ?_
 refine JC_region ?_
 refine JO_allocZ rfl [_, _] rfl rfl ?_
 intro β1 s1 h1
 refine JO_nil ?_
 refine thenQ_n ?_
 refine JC_seq ?_
 refine JC_region ?_
 refine JO_q (QE_mv rfl) rfl ?_
 refine JO_q (QE_mv rfl) rfl ?_
 refine JO_q (QE_build [(_, _), (_, _)] [_, _] rfl rfl rfl rfl rfl rfl) rfl ?_
 refine JO_st 0 [_, _] rfl rfl rfl rfl rfl rfl rfl rfl rfl ?_
 refine JO_nil ?_
 refine thenQ_n ?_
 refine JC_ret ?_
 refine retQ_mk [_] L (.inr rfl) (.agg (us := [_, _]) 0 rfl rfl rfl rfl rfl (.nil)) rfl h1 (fun sR hS2 => ?_)
 exact ⟨rfl, rfl⟩
theorem w64u {a : Int} (h1 : 0 ≤ a) (h2 : a < 18446744073709551616) : IntKind.u64.wrap a = a := by simp [IntKind.wrap, IntKind.bits, IntKind.signed]; omega
set_option maxHeartbeats 1000000 in
set_option maxRecDepth 100000 in
theorem number_ac (D : Nat) (L : Hl) (s : World) (hG : GP s) (n : Int) (hu : U32 n) : AC Tryz.prog D 80 [.int .u32 n] L s fun v L' _ => v = St (decS n) ∧ L = L' := by
 have h2 := hu.2
 obtain ⟨u, rfl⟩ := Int.eq_ofNat_of_zero_le hu.1
 refine AC_enter (TT := TT) (fn := Tryz.f80) TT_ok Tryz.func80 (by kernel_rfl) rfl Tryz.ntmps80 rfl (rs := [.tmp 2]) rfl [(0, _)] rfl ?_
 refine JC_seq ?_
 refine JC_region ?_
 refine JO_q (QE_as rfl) rfl ?_
 refine JO_nil ?_
 refine thenQ_n ?_
 refine JC_seq ?_
 refine JC_region ?_
 refine JO_q (QE_mv rfl) rfl ?_
 refine JO_q (QE_conv' rfl rfl rfl rfl rfl (w64u (by omega) (by omega))) rfl ?_
 refine JO_call (first := []) (captured := []) rfl rfl rfl (fmtU_ac D _ _ (hG.gw.le (Le.refl (D := D) _)) u (by omega)) ?_
 rintro _ _ s1 h1 ⟨rfl, rfl⟩
 refine JO_q (QE_as rfl) rfl ?_
 refine JO_nil ?_
 refine thenQ_n ?_
 refine JC_ret ?_
 refine retQ_mk [] L (.inr rfl) (.tmp rfl (.nil)) rfl h1 (fun sR hS2 => ?_)
 exact ⟨rfl, rfl⟩
def abcB : List UInt8 := [65, 66, 67, 68, 80]
theorem reg_cut {v : Nat} (h : v ≤ 4) : ((abcB.drop v).take (v + 1 - v)) = regS (v : Int) := by
  have : v = 0 ∨ v = 1 ∨ v = 2 ∨ v = 3 ∨ v = 4 := by omega
  rcases this with rfl | rfl | rfl | rfl | rfl <;> rfl
theorem TmG.nn {x : Tm} (h : TmG x) : 0 ≤ x.val := by
  rcases h with ⟨_, h, _⟩ | ⟨_, h, _⟩ | ⟨_, h⟩ <;> omega
theorem TmG.u32 {x : Tm} (h : TmG x) : U32 x.val := by
  unfold U32
  rcases h with ⟨_, h1, h2⟩ | ⟨_, h1, h2⟩ | ⟨_, h⟩ <;> omega
theorem w32n {v : Nat} (h : v < 4294967295) : IntKind.u32.wrap ((v : Int) + 1) = ((v + 1 : Nat) : Int) := by rw [IntKind.wrap_u32]; omega
set_option maxHeartbeats 1000000 in
set_option maxRecDepth 100000 in
theorem term_ac (D : Nat) (L : Hl) (s : World) (hG : GP s) (x : Tm) (hx : TmG x) : AC Tryz.prog D 83 [.agg #[.int .i64 x.kind, .int .u32 x.val]] L s fun v L' _ => v = St (termS x) ∧ L = L' := by
 have hu := hx.u32
 obtain ⟨k, v0⟩ := x
 obtain ⟨v, rfl⟩ := Int.eq_ofNat_of_zero_le hx.nn
 have hu2 := hu.2
 simp only at hu2
 refine AC_enter (TT := TT) (fn := Tryz.f83) TT_ok Tryz.func83 (by kernel_rfl) rfl Tryz.ntmps83 rfl (rs := [.tmp 2]) rfl [(0, _)] rfl ?_
 refine JC_seq ?_
 refine JC_region ?_
 refine JO_boxA rfl rfl ?_
 intro β1 s1 h1
 refine JO_q (QE_as rfl) rfl ?_
 refine JO_nil ?_
 refine thenQ_n ?_
 refine JC_seq ?_
 refine JC_seq ?_
 refine JC_region ?_
 refine JO_q (QE_fa0 rfl rfl rfl rfl) rfl ?_
 refine JO_q (QE_ld1 0 rfl rfl rfl rfl rfl) rfl ?_
 refine JO_nil ?_
 refine thenQ_n ?_
 refine JC_block ?_
 refine JC_seq ?_
 refine JC_region ?_
 refine JO_q (QE_eq rfl rfl) rfl ?_
 refine JO_q (QE_as rfl) rfl ?_
 refine JO_nil ?_
 refine thenQ_n ?_
 refine JC_ifD rfl (fun c2 => ?_) (fun c2 => ?_)
 ·
  have hk : k = 1 := c2
  have hv : v ≤ 4 := by rcases hx with ⟨h, _⟩ | ⟨_, _, h⟩ | ⟨h, _⟩ <;> simp only at h <;> omega
  refine JC_seq ?_
  refine JC_region ?_
  refine JO_q (QE_faB rfl rfl rfl rfl) rfl ?_
  refine JO_q (QE_ld1 0 rfl rfl rfl rfl rfl) rfl ?_
  refine JO_q (QE_faB rfl rfl rfl rfl) rfl ?_
  refine JO_q (QE_ld1 0 rfl rfl rfl rfl rfl) rfl ?_
  refine JO_q (QE_add' (c := ((v + 1 : Nat) : Int)) rfl rfl (w32n (by omega))) rfl ?_
  refine JO_q (QE_stLH (l := abcB) rfl rfl rfl rfl rfl (by omega) (by show v + 1 ≤ 5; omega)) rfl ?_
  refine JO_q (QE_as rfl) rfl ?_
  refine JO_nil ?_
  refine thenQ_n ?_
  refine JC_ret ?_
  refine blockQ_r ?_
  refine thenQ_r ?_
  refine retQ_mk [_] L (.inr rfl) (.tmp rfl (.nil)) rfl h1 (fun sR hS2 => ?_)
  refine ⟨?_, rfl⟩
  first
    | (simp only [resV, termS, hk, if_true]; rw [reg_cut hv]; done)
    | (simp only [resV, termS, hk, hk2, if_true, if_false]; first | rfl | done)
 ·
  have hk : ¬ k = 1 := c2
  refine JC_seq ?_
  refine JC_region ?_
  refine JO_q (QE_eq rfl rfl) rfl ?_
  refine JO_q (QE_as rfl) rfl ?_
  refine JO_nil ?_
  refine thenQ_n ?_
  refine JC_ifD rfl (fun c3 => ?_) (fun c3 => ?_)
  ·
   have hk2 : k = 2 := c3
   refine JC_seq ?_
   refine JC_region ?_
   refine JO_q (QE_as rfl) rfl ?_
   refine JO_nil ?_
   refine thenQ_n ?_
   refine JC_ret ?_
   refine blockQ_r ?_
   refine thenQ_r ?_
   refine retQ_mk [_] L (.inr rfl) (.tmp rfl (.nil)) rfl h1 (fun sR hS2 => ?_)
   refine ⟨?_, rfl⟩
   first
     | (simp only [resV, termS, hk, if_true]; rw [reg_cut hv]; done)
     | (simp only [resV, termS, hk, hk2, if_true, if_false]; first | rfl | done)
  ·
   have hk2 : ¬ k = 2 := c3
   refine JC_skip ?_
   refine blockQ_n ?_
   refine thenQ_n ?_
   refine JC_seq ?_
   refine JC_region ?_
   refine JO_q (QE_faB rfl rfl rfl rfl) rfl ?_
   refine JO_q (QE_ld1 0 rfl rfl rfl rfl rfl) rfl ?_
   refine JO_call (first := []) (captured := []) rfl rfl rfl (number_ac D _ _ (hG.le h1) _ hu) ?_
   rintro _ _ s4 h4 ⟨rfl, rfl⟩
   refine JO_q (QE_as rfl) rfl ?_
   refine JO_nil ?_
   refine thenQ_n ?_
   refine JC_ret ?_
   refine retQ_mk [_] L (.inr rfl) (.tmp rfl (.nil)) rfl (Le.trans h1 h4) (fun sR hS2 => ?_)
   refine ⟨?_, rfl⟩
   first
     | (simp only [resV, termS, hk, if_true]; rw [reg_cut hv]; done)
     | (simp only [resV, termS, hk, hk2, if_true, if_false]; first | rfl | done)
theorem val_fnd0 : ∀ n, n < 256 → (decide (97 ≤ n ∧ n ≤ 122) || decide (65 ≤ n ∧ n ≤ 90) || decide (48 ≤ n ∧ n ≤ 57) || decide (n = 32) || decide (valC (UInt8.ofNat n) = if 0 ≤ fndI (fnd (UInt8.ofNat n) [46, 44, 59, 58]) then fndI (fnd (UInt8.ofNat n) [46, 44, 59, 58]) + 63 else -1)) = true := by decide +kernel
theorem val_fnd {c : UInt8} (h1 : ¬ (97 ≤ c.toNat ∧ c.toNat ≤ 122)) (h2 : ¬ (65 ≤ c.toNat ∧ c.toNat ≤ 90)) (h3 : ¬ (48 ≤ c.toNat ∧ c.toNat ≤ 57)) (h4 : c.toNat ≠ 32) : valC c = if 0 ≤ fndI (fnd c [46, 44, 59, 58]) then fndI (fnd c [46, 44, 59, 58]) + 63 else -1 := by
  have := val_fnd0 c.toNat c.toNat_lt
  rw [UInt8.ofNat_toNat] at this
  simp only [Bool.or_eq_true, decide_eq_true_eq] at this
  rcases this with (((h | h) | h) | h) | h
  · exact absurd h h1
  · exact absurd h h2
  · exact absurd h h3
  · exact absurd h h4
  · exact h
theorem fndI_le (c : UInt8) (l : List UInt8) : fndI (fnd c l) ≤ l.length := by
  cases h : fnd c l with
  | none => simp only [fndI]; omega
  | some i => have := fnd_lt h; simp only [fndI]; omega
set_option maxHeartbeats 1000000 in
set_option maxRecDepth 100000 in
theorem value_ac (D : Nat) (L : Hl) (s : World) (c : UInt8) : AC Tryz.prog D 84 [.int .u8 (c.toNat : Int)] L s fun v L' _ => v = .int .i64 (valC c) ∧ L = L' := by
 have hc := c.toNat_lt
 have hf := fndI_le c [46, 44, 59, 58]
 simp only [List.length_cons, List.length_nil] at hf
 refine AC_enter (TT := TT) (fn := Tryz.f84) TT_ok Tryz.func84 (by kernel_rfl) rfl Tryz.ntmps84 rfl (rs := [.tmp 2]) rfl [(0, _)] rfl ?_
 refine JC_seq ?_
 refine JC_region ?_
 refine JO_q (QE_as rfl) rfl ?_
 refine JO_nil ?_
 refine thenQ_n ?_
 refine JC_seq ?_
 refine JC_block ?_
 refine JC_cutB 4 (97 ≤ (c.toNat : Int) ∧ (c.toNat : Int) ≤ 122) ?_ ?_
 ·
  refine JC_region ?_
  refine JO_q (QE_mv rfl) rfl ?_
  refine JO_q (QE_ge rfl rfl) rfl ?_
  refine JO_q (QE_mv rfl) rfl ?_
  refine JO_caseD (t := 7) rfl (fun c2 => ?_) (fun c2 => ?_)
  ·
   refine JO_gT rfl rfl ?_
   refine JO_q (QE_mv rfl) rfl ?_
   refine JO_gT rfl rfl ?_
   refine JO_q (QE_le rfl rfl) rfl ?_
   refine JO_q (QE_pickT rfl rfl) rfl ?_
   refine JO_q (QE_as rfl) rfl ?_
   refine JO_nil ?_
   refine thenQ_n (MidB.mk (Le.refl (D := D) _) (by repeat (first | exact Suf.refl | refine Suf.push rfl ?_)) rfl (decide_eq_decide.2 (by omega)))
  ·
   refine JO_gF rfl rfl rfl rfl ?_
   refine JO_gF rfl rfl rfl rfl ?_
   refine JO_q (QE_pickF rfl rfl) rfl ?_
   refine JO_q (QE_as rfl) rfl ?_
   refine JO_nil ?_
   refine thenQ_n (MidB.mk (Le.refl (D := D) _) (by repeat (first | exact Suf.refl | refine Suf.push rfl ?_)) rfl ((decide_eq_false (by omega)).symm))
 ·
  intro s1 h1
  refine JC_ifD rfl (fun c3 => ?_) (fun c3 => ?_)
  ·
   have ha := c3
   refine JC_seq ?_
   refine JC_region ?_
   refine JO_q (QE_mv rfl) rfl ?_
   refine JO_q (QE_sub' rfl rfl (show IntKind.u8.wrap ((c.toNat : Int) - 97) = (c.toNat : Int) - 97 by rw [IntKind.wrap_u8]; omega)) rfl ?_
   refine JO_q (QE_conv' rfl rfl rfl rfl rfl (w64 (by omega) (by omega))) rfl ?_
   refine JO_q (QE_add' rfl rfl (w64 (by omega) (by omega))) rfl ?_
   refine JO_q (QE_as rfl) rfl ?_
   refine JO_nil ?_
   refine thenQ_n ?_
   refine JC_ret ?_
   refine blockQ_r ?_
   refine thenQ_r ?_
   refine retQ_mk [] L (.inr rfl) (.tmp rfl (.nil)) rfl h1 (fun sR hS2 => ?_)
   refine ⟨?_, rfl⟩
   first
     | (have e : valC c = (c.toNat : Int) - 97 + 1 := by unfold valC; rw [if_pos (by omega)]; omega
        rw [e]; rfl)
     | (have e : valC c = (c.toNat : Int) - 65 + 27 := by unfold valC; rw [if_neg (by omega), if_pos (by omega)]; omega
        rw [e]; rfl)
     | (have e : valC c = (c.toNat : Int) - 48 + 53 := by unfold valC; rw [if_neg (by omega), if_neg (by omega), if_pos (by omega)]; omega
        rw [e]; rfl)
     | (have e : valC c = 0 := by unfold valC; rw [if_neg (by omega), if_neg (by omega), if_neg (by omega), if_pos (UInt8.toNat_inj.1 (by have : (32 : UInt8).toNat = 32 := rfl; omega))]
        rw [e]; rfl)
     | (rw [val_fnd (by omega) (by omega) (by omega) (by omega), if_pos hp]; rfl)
     | (rw [val_fnd (by omega) (by omega) (by omega) (by omega), if_neg hp]; rfl)
  ·
   have ha := c3
   refine JC_cutB 15 (65 ≤ (c.toNat : Int) ∧ (c.toNat : Int) ≤ 90) ?_ ?_
   ·
    refine JC_region ?_
    refine JO_q (QE_mv rfl) rfl ?_
    refine JO_q (QE_ge rfl rfl) rfl ?_
    refine JO_q (QE_mv rfl) rfl ?_
    refine JO_caseD (t := 18) rfl (fun c5 => ?_) (fun c5 => ?_)
    ·
     refine JO_gT rfl rfl ?_
     refine JO_q (QE_mv rfl) rfl ?_
     refine JO_gT rfl rfl ?_
     refine JO_q (QE_le rfl rfl) rfl ?_
     refine JO_q (QE_pickT rfl rfl) rfl ?_
     refine JO_q (QE_as rfl) rfl ?_
     refine JO_nil ?_
     refine thenQ_n (MidB.mk (Le.refl (D := D) _) (by repeat (first | exact Suf.refl | refine Suf.push rfl ?_)) rfl (decide_eq_decide.2 (by omega)))
    ·
     refine JO_gF rfl rfl rfl rfl ?_
     refine JO_gF rfl rfl rfl rfl ?_
     refine JO_q (QE_pickF rfl rfl) rfl ?_
     refine JO_q (QE_as rfl) rfl ?_
     refine JO_nil ?_
     refine thenQ_n (MidB.mk (Le.refl (D := D) _) (by repeat (first | exact Suf.refl | refine Suf.push rfl ?_)) rfl ((decide_eq_false (by omega)).symm))
   ·
    intro s4 h4
    refine JC_ifD rfl (fun c6 => ?_) (fun c6 => ?_)
    ·
     have hb := c6
     refine JC_seq ?_
     refine JC_region ?_
     refine JO_q (QE_mv rfl) rfl ?_
     refine JO_q (QE_sub' rfl rfl (show IntKind.u8.wrap ((c.toNat : Int) - 65) = (c.toNat : Int) - 65 by rw [IntKind.wrap_u8]; omega)) rfl ?_
     refine JO_q (QE_conv' rfl rfl rfl rfl rfl (w64 (by omega) (by omega))) rfl ?_
     refine JO_q (QE_add' rfl rfl (w64 (by omega) (by omega))) rfl ?_
     refine JO_q (QE_as rfl) rfl ?_
     refine JO_nil ?_
     refine thenQ_n ?_
     refine JC_ret ?_
     refine blockQ_r ?_
     refine thenQ_r ?_
     refine retQ_mk [] L (.inr rfl) (.tmp rfl (.nil)) rfl (Le.trans h1 h4) (fun sR hS2 => ?_)
     refine ⟨?_, rfl⟩
     first
       | (have e : valC c = (c.toNat : Int) - 97 + 1 := by unfold valC; rw [if_pos (by omega)]; omega
          rw [e]; rfl)
       | (have e : valC c = (c.toNat : Int) - 65 + 27 := by unfold valC; rw [if_neg (by omega), if_pos (by omega)]; omega
          rw [e]; rfl)
       | (have e : valC c = (c.toNat : Int) - 48 + 53 := by unfold valC; rw [if_neg (by omega), if_neg (by omega), if_pos (by omega)]; omega
          rw [e]; rfl)
       | (have e : valC c = 0 := by unfold valC; rw [if_neg (by omega), if_neg (by omega), if_neg (by omega), if_pos (UInt8.toNat_inj.1 (by have : (32 : UInt8).toNat = 32 := rfl; omega))]
          rw [e]; rfl)
       | (rw [val_fnd (by omega) (by omega) (by omega) (by omega), if_pos hp]; rfl)
       | (rw [val_fnd (by omega) (by omega) (by omega) (by omega), if_neg hp]; rfl)
    ·
     have hb := c6
     refine JC_cutB 26 (48 ≤ (c.toNat : Int) ∧ (c.toNat : Int) ≤ 57) ?_ ?_
     ·
      refine JC_region ?_
      refine JO_q (QE_mv rfl) rfl ?_
      refine JO_q (QE_ge rfl rfl) rfl ?_
      refine JO_q (QE_mv rfl) rfl ?_
      refine JO_caseD (t := 29) rfl (fun c8 => ?_) (fun c8 => ?_)
      ·
       refine JO_gT rfl rfl ?_
       refine JO_q (QE_mv rfl) rfl ?_
       refine JO_gT rfl rfl ?_
       refine JO_q (QE_le rfl rfl) rfl ?_
       refine JO_q (QE_pickT rfl rfl) rfl ?_
       refine JO_q (QE_as rfl) rfl ?_
       refine JO_nil ?_
       refine thenQ_n (MidB.mk (Le.refl (D := D) _) (by repeat (first | exact Suf.refl | refine Suf.push rfl ?_)) rfl (decide_eq_decide.2 (by omega)))
      ·
       refine JO_gF rfl rfl rfl rfl ?_
       refine JO_gF rfl rfl rfl rfl ?_
       refine JO_q (QE_pickF rfl rfl) rfl ?_
       refine JO_q (QE_as rfl) rfl ?_
       refine JO_nil ?_
       refine thenQ_n (MidB.mk (Le.refl (D := D) _) (by repeat (first | exact Suf.refl | refine Suf.push rfl ?_)) rfl ((decide_eq_false (by omega)).symm))
     ·
      intro s7 h7
      refine JC_ifD rfl (fun c9 => ?_) (fun c9 => ?_)
      ·
       have hd := c9
       refine JC_seq ?_
       refine JC_region ?_
       refine JO_q (QE_mv rfl) rfl ?_
       refine JO_q (QE_sub' rfl rfl (show IntKind.u8.wrap ((c.toNat : Int) - 48) = (c.toNat : Int) - 48 by rw [IntKind.wrap_u8]; omega)) rfl ?_
       refine JO_q (QE_conv' rfl rfl rfl rfl rfl (w64 (by omega) (by omega))) rfl ?_
       refine JO_q (QE_add' rfl rfl (w64 (by omega) (by omega))) rfl ?_
       refine JO_q (QE_as rfl) rfl ?_
       refine JO_nil ?_
       refine thenQ_n ?_
       refine JC_ret ?_
       refine blockQ_r ?_
       refine thenQ_r ?_
       refine retQ_mk [] L (.inr rfl) (.tmp rfl (.nil)) rfl (Le.trans (Le.trans h1 h4) h7) (fun sR hS2 => ?_)
       refine ⟨?_, rfl⟩
       first
         | (have e : valC c = (c.toNat : Int) - 97 + 1 := by unfold valC; rw [if_pos (by omega)]; omega
            rw [e]; rfl)
         | (have e : valC c = (c.toNat : Int) - 65 + 27 := by unfold valC; rw [if_neg (by omega), if_pos (by omega)]; omega
            rw [e]; rfl)
         | (have e : valC c = (c.toNat : Int) - 48 + 53 := by unfold valC; rw [if_neg (by omega), if_neg (by omega), if_pos (by omega)]; omega
            rw [e]; rfl)
         | (have e : valC c = 0 := by unfold valC; rw [if_neg (by omega), if_neg (by omega), if_neg (by omega), if_pos (UInt8.toNat_inj.1 (by have : (32 : UInt8).toNat = 32 := rfl; omega))]
            rw [e]; rfl)
         | (rw [val_fnd (by omega) (by omega) (by omega) (by omega), if_pos hp]; rfl)
         | (rw [val_fnd (by omega) (by omega) (by omega) (by omega), if_neg hp]; rfl)
      ·
       have hd := c9
       refine JC_seq ?_
       refine JC_region ?_
       refine JO_q (QE_mv rfl) rfl ?_
       refine JO_q (QE_eq rfl rfl) rfl ?_
       refine JO_q (QE_as rfl) rfl ?_
       refine JO_nil ?_
       refine thenQ_n ?_
       refine JC_ifD rfl (fun c10 => ?_) (fun c10 => ?_)
       ·
        have he : (c.toNat : Int) = 32 := c10
        refine JC_seq ?_
        refine JC_region ?_
        refine JO_q (QE_as rfl) rfl ?_
        refine JO_nil ?_
        refine thenQ_n ?_
        refine JC_ret ?_
        refine blockQ_r ?_
        refine thenQ_r ?_
        refine retQ_mk [] L (.inr rfl) (.tmp rfl (.nil)) rfl (Le.trans (Le.trans h1 h4) h7) (fun sR hS2 => ?_)
        refine ⟨?_, rfl⟩
        first
          | (have e : valC c = (c.toNat : Int) - 97 + 1 := by unfold valC; rw [if_pos (by omega)]; omega
             rw [e]; rfl)
          | (have e : valC c = (c.toNat : Int) - 65 + 27 := by unfold valC; rw [if_neg (by omega), if_pos (by omega)]; omega
             rw [e]; rfl)
          | (have e : valC c = (c.toNat : Int) - 48 + 53 := by unfold valC; rw [if_neg (by omega), if_neg (by omega), if_pos (by omega)]; omega
             rw [e]; rfl)
          | (have e : valC c = 0 := by unfold valC; rw [if_neg (by omega), if_neg (by omega), if_neg (by omega), if_pos (UInt8.toNat_inj.1 (by have : (32 : UInt8).toNat = 32 := rfl; omega))]
             rw [e]; rfl)
          | (rw [val_fnd (by omega) (by omega) (by omega) (by omega), if_pos hp]; rfl)
          | (rw [val_fnd (by omega) (by omega) (by omega) (by omega), if_neg hp]; rfl)
       ·
        have he : ¬ (c.toNat : Int) = 32 := c10
        refine JC_skip ?_
        refine blockQ_n ?_
        refine thenQ_n ?_
        refine JC_seq ?_
        refine JC_seq ?_
        refine JC_region ?_
        refine JO_q (QE_mv rfl) rfl ?_
        refine JO_call (first := []) (captured := []) rfl rfl rfl (ixByte_ac D _ _ [46, 44, 59, 58] c) ?_
        rintro _ _ s11 h11 ⟨rfl, rfl⟩
        refine JO_q (QE_as rfl) rfl ?_
        refine JO_nil ?_
        refine thenQ_n ?_
        refine JC_seq ?_
        refine JC_region ?_
        refine JO_q (QE_mv rfl) rfl ?_
        refine JO_q (QE_ge rfl rfl) rfl ?_
        refine JO_nil ?_
        refine thenQ_n ?_
        refine JC_ifD rfl (fun c12 => ?_) (fun c12 => ?_)
        ·
         have hp := c12
         refine JC_seq ?_
         refine JC_region ?_
         refine JO_q (QE_mv rfl) rfl ?_
         refine JO_q (QE_add' rfl rfl (w64 (by omega) (by omega))) rfl ?_
         refine JO_q (QE_as rfl) rfl ?_
         refine JO_nil ?_
         refine thenQ_n ?_
         refine JC_ret ?_
         refine thenQ_r ?_
         refine retQ_mk [] L (.inr rfl) (.tmp rfl (.nil)) rfl (Le.trans (Le.trans (Le.trans h1 h4) h7) h11) (fun sR hS2 => ?_)
         refine ⟨?_, rfl⟩
         first
           | (have e : valC c = (c.toNat : Int) - 97 + 1 := by unfold valC; rw [if_pos (by omega)]; omega
              rw [e]; rfl)
           | (have e : valC c = (c.toNat : Int) - 65 + 27 := by unfold valC; rw [if_neg (by omega), if_pos (by omega)]; omega
              rw [e]; rfl)
           | (have e : valC c = (c.toNat : Int) - 48 + 53 := by unfold valC; rw [if_neg (by omega), if_neg (by omega), if_pos (by omega)]; omega
              rw [e]; rfl)
           | (have e : valC c = 0 := by unfold valC; rw [if_neg (by omega), if_neg (by omega), if_neg (by omega), if_pos (UInt8.toNat_inj.1 (by have : (32 : UInt8).toNat = 32 := rfl; omega))]
              rw [e]; rfl)
           | (rw [val_fnd (by omega) (by omega) (by omega) (by omega), if_pos hp]; rfl)
           | (rw [val_fnd (by omega) (by omega) (by omega) (by omega), if_neg hp]; rfl)
        ·
         have hp := c12
         refine JC_skip ?_
         refine thenQ_n ?_
         refine JC_seq ?_
         refine JC_region ?_
         refine JO_q (QE_as rfl) rfl ?_
         refine JO_nil ?_
         refine thenQ_n ?_
         refine JC_ret ?_
         refine retQ_mk [] L (.inr rfl) (.tmp rfl (.nil)) rfl (Le.trans (Le.trans (Le.trans h1 h4) h7) h11) (fun sR hS2 => ?_)
         refine ⟨?_, rfl⟩
         first
           | (have e : valC c = (c.toNat : Int) - 97 + 1 := by unfold valC; rw [if_pos (by omega)]; omega
              rw [e]; rfl)
           | (have e : valC c = (c.toNat : Int) - 65 + 27 := by unfold valC; rw [if_neg (by omega), if_pos (by omega)]; omega
              rw [e]; rfl)
           | (have e : valC c = (c.toNat : Int) - 48 + 53 := by unfold valC; rw [if_neg (by omega), if_neg (by omega), if_pos (by omega)]; omega
              rw [e]; rfl)
           | (have e : valC c = 0 := by unfold valC; rw [if_neg (by omega), if_neg (by omega), if_neg (by omega), if_pos (UInt8.toNat_inj.1 (by have : (32 : UInt8).toNat = 32 := rfl; omega))]
              rw [e]; rfl)
           | (rw [val_fnd (by omega) (by omega) (by omega) (by omega), if_pos hp]; rfl)
           | (rw [val_fnd (by omega) (by omega) (by omega) (by omega), if_neg hp]; rfl)
end Go.Proofs.YtoeeblegplghmaaGreatDoor
namespace Go.FL
open Go Go.RowKit
def front (L : Hl) (i : Nat) : Hl := match L[i]? with
  | some x => x :: L.eraseIdx i
  | none => L
theorem front_perm (L : Hl) (i : Nat) : L.Perm (front L i) := by
  unfold front
  cases h : L[i]? with
  | none => exact List.Perm.refl _
  | some x =>
    induction L generalizing i with
    | nil => simp at h
    | cons y L ih =>
      cases i with
      | zero => simp at h; subst h; exact List.Perm.refl _
      | succ i =>
        simp at h
        simp only [List.eraseIdx_cons_succ]
        exact ((ih i h).cons y).trans (List.Perm.swap x y _)
theorem JC_front {P : Program} {TT : TyTab} {D n : Nat} {Q : APost} {fr : Fr} {L : Hl} {s : World} {c : Code} (i : Nat) (h : JC P TT D n Q c fr (front L i) s) : JC P TT D n Q c fr L s := fun ht a hr ho => by
  rw [fill_perm (front_perm L i) _ ho]
  exact h ht a hr (ho.perm (front_perm L i))
end Go.FL
namespace Go.FL
open Go Go.RowKit
section
variable {P : Program} {TT : TyTab} {D : Nat} {fr : Fr} {ty : Nat} {K : Hl} {s0 : World} {v : Value}
theorem QE_bldA {t e len : Nat} {ps : List (Nat × Operand)} {ti te : TI} (vals : List (Nat × Value)) (vs : List Value) (ht : tlook TT t = some ti) (hk : ti.kind = .ar len e) (he : tlook TT e = some te) (hv : lkp fr ps = some vals) (hp : vals.all (fun x => Nat.blt x.1 len) = true)
    (hb : bld (rowPl te.size 0 len) ti.zeros vals = some vs) : QE P TT D fr (.build t ps.toArray) ty K s0 (.agg vs.toArray) :=
  QE.pure fun hT dst pos af g ρ hρ w => by
    have hok := hT.at_ ht
    obtain ⟨h1, h2, _⟩ := hT.at_ ht
    rw [hk] at h2
    have h2' : ti.desc = .array len e := h2
    rw [h2'] at h1
    have hz : ti.zero.cells = ti.zeros.toArray := zero_cells hok
    have hm : (ps.toArray.map fun (x : Nat × Operand) => match x with | (i, x) => (i, ρ x)).toList = vals := by simpa using lkp_map hρ hv
    simp only [execOp, Instr.build, Sem.run_bind, run_zero' hok, Result.andThen_ok, run_underlying h1, hz, run_sizeOf' (hT.at_ he)]
    rw [hm, fill_row te.size len ti.zeros vals hp hb]
    rfl
theorem QE_ixA {t e len : Nat} {x y : Operand} {ti te : TI} {ik : IntKind} {j : Nat} {vs : List Value} (hx : lk fr x = some (.agg vs.toArray)) (hy : lk fr y = some (.int ik (j : Int))) (ht : tlook TT t = some ti) (hk : ti.kind = .ar len e) (he : tlook TT e = some te) (hk' : isOne te.kind = true) (hs : te.size = 1) (hj : j < len) (hv : vs[j]? = some v) : QE P TT D fr (.index t x y) ty K s0 v :=
  QE.pure fun hT dst pos af g ρ hρ w => by
    obtain ⟨h1, h2, _⟩ := hT.at_ ht
    rw [hk] at h2
    have h2' : ti.desc = .array len e := h2
    rw [h2'] at h1
    have hlt : (j : Int) < (len : Int) := by omega
    simp [execOp, hρ x _ hx, hρ y _ hy, Instr.index, asIntOf, run_underlying h1, run_sizeOf' (hT.at_ he), hs, part, run_isAgg' (hT.at_ he), hk', hv]
    intro h; omega
theorem JC_perm {n : Nat} {Q : APost} {c : Code} {L L' : Hl} {s : World} (hp : L.Perm L') (h : JC P TT D n Q c fr L' s) : JC P TT D n Q c fr L s := fun ht a hr ho => by
  rw [fill_perm hp _ ho]
  exact h ht a hr (ho.perm hp)
theorem JO_bsO {n d t e len : Nat} {Q : APost} {ops : Array Oper} {rest : List Oper} {pos : String} {af : Array Edge} {L : Hl} {s : World} {ti te : TI} {ps : List (Nat × Operand)} (vals : List (Nat × Value)) (vs : List Value) (ht : tlook TT t = some ti) (hk : ti.kind = .sl e) (he : tlook TT e = some te) (hv : lkp fr ps = some vals) (hsz : Nat.ble (len * te.size) 16777216 = true) (hpos : Nat.blt 0 len = true) (hp : vals.all (fun x => Nat.blt x.1 len) = true)
    (hb : bld (rowPl te.size 0 len) (List.replicate len te.zeros).flatten vals = some vs) (hd : Nat.blt d n = true) (k : ∀ β s', Le D s s' → JO P TT D n ops Q rest ((d, .slice (some ⟨β, 0, none⟩) len len) :: fr) ((β, cb vs e) :: L) s') :
    JO P TT D n ops Q (⟨some d, .buildSlice t len ps.toArray, ty, pos, af, none⟩ :: rest) fr L s := fun hT a hr ho =>
  JO_ev hd (Ev_bs vals vs ht hk he hv hsz hpos hp hb ho) (k _ _ (alloc_fill ho (cb vs e)).2.2) hT a hr ho
theorem nth_row {xs ys : List Value} {k : Nat} {v : Value} (h : xs[k]? = some v) : nth (xs ++ ys) (0 + k) = some v := by
  rw [nth_eq, Nat.zero_add, List.getElem?_append_left (List.getElem?_eq_some_iff.1 h).1, h]
theorem spl_row {xs ys : List Value} {k : Nat} (v : Value) (h : k < xs.length) : splice (xs ++ ys) (0 + k) [v] = xs.set k v ++ ys := by
  rw [Nat.zero_add]
  induction xs generalizing k with
  | nil => cases h
  | cons x xs ih =>
    cases k with
    | zero => simp [splice]
    | succ k =>
      have := ih (k := k) (by simpa using h)
      simp only [List.cons_append, splice, List.set_cons_succ] at this ⊢
      rw [this]
theorem ble_row {xs ys : List Value} {k : Nat} (h : k < xs.length) : Nat.ble (0 + k + 1) (xs ++ ys).length = true := Nat.ble_eq_true_of_le (by rw [List.length_append]; omega)
theorem own_blk {e : Nat} {A : Hl} {n : Nat} {xs : List Value} (h : FL.Own e 1 A v n xs) (h0 : 0 < n) : ∃ b cap ys, A = [(b, cb (xs ++ ys) e)] ∧ v = .slice (some ⟨b, 0, none⟩) n cap ∧ xs.length = n ∧ xs.length + ys.length = cap ∧ cap ≤ 9223372036854775807 := by
  cases h with
  | nil => cases h0
  | blk b cap n xs ys hn hc hnc hm => exact ⟨b, cap, ys, rfl, rfl, by simpa using hn, by simpa using hc, hm⟩
end
end Go.FL
namespace Go.FL
open Go Go.RowKit Go.Proofs.YtoeeblegplghmaaGreatDoor
theorem QE_cast {P : Program} {TT : TyTab} {D : Nat} {fr : Fr} {ty : Nat} {op : Op} {K : Hl} {s0 : World} {v v' : Value} (h : QE P TT D fr op ty K s0 v) (e : v = v') : QE P TT D fr op ty K s0 v' := e ▸ h
end Go.FL
namespace Go.Proofs.YtoeeblegplghmaaGreatDoor
open Go Go.FL
end Go.Proofs.YtoeeblegplghmaaGreatDoor
namespace Go.Proofs.YtoeeblegplghmaaGreatDoor
open Go.FL
attribute [local irreducible] JC JO JA JB thenQ blockQ retQ AC fill CellsAt QE Ev Mid
theorem bT {p : Prop} [Decidable p] (h : p) : Value.bool (decide p) = .bool true := by rw [decide_eq_true h]
theorem bF {p : Prop} [Decidable p] (h : p) : Value.bool (!decide p) = .bool false := by rw [decide_eq_true h]; rfl
theorem bZ {p : Prop} [Decidable p] (h : ¬ p) : Value.bool (decide p) = .bool false := by rw [decide_eq_false h]
theorem AC.isT {P : Program} {D : Nat} {f : FuncId} {args : List Value} {L : Hl} {s : World} {p : Prop} [Decidable p] (h : AC P D f args L s fun v L' _ => v = .bool (decide p) ∧ L = L') (hp : p) : AC P D f args L s fun v L' _ => v = .bool true ∧ L = L' :=
  h.mono fun v L' _ _ ⟨h1, h2⟩ => ⟨by rw [h1, decide_eq_true hp], h2⟩
def isDC (c : UInt8) : Bool := decide (c = 46) || decide (c = 44)
def trimDC (l : List UInt8) : List UInt8 := (l.reverse.dropWhile isDC).reverse
theorem trim_snoc (l : List UInt8) (c : UInt8) : trimDC (l ++ [c]) = if isDC c = true then trimDC l else l ++ [c] := by
  unfold trimDC
  rw [List.reverse_append, List.reverse_singleton, List.singleton_append, List.dropWhile_cons]
  split
  · rfl
  · simp
theorem trim_len (l : List UInt8) : (trimDC l).length ≤ l.length := by
  unfold trimDC; rw [List.length_reverse]
  exact Nat.le_trans (List.dropWhile_sublist _).length_le (by simp)
def dcSet : List Value := (Lib.setCells [46, 44]).toList
theorem dc_at (c : UInt8) : dcSet[c.toNat]? = some (.bool (isDC c)) := by
  have := Lib.setCells_at [46, 44] c
  unfold dcSet
  rw [Array.getElem?_toList, this]
  simp [isDC, List.contains_cons]
theorem fnok_set : FnOK Tryz.prog 116 := ⟨_, Tryz.func116, by kernel_rfl, by kernel_rfl⟩
theorem fnok_cont : FnOK Tryz.prog 132 := ⟨_, Tryz.func132, by kernel_rfl, by kernel_rfl⟩
set_option maxRecDepth 100000 in
theorem set_ac (D : Nat) (L : Hl) (s : World) : AC Tryz.prog D 116 [St [46, 44]] L s fun v L' _ => v = .tuple #[.agg dcSet.toArray, .bool true] ∧ L = L' :=
  AC.of_calls fnok_set fun _ => (Any.strings_makeASCIISet Tryz.lays227 (fun w => run_zero' ti161_ok w) (by kernel_rfl) ⟨#[46, 44]⟩ (fill L s) (by decide) (fun j b hj => by
    have hm : b ∈ ([46, 44] : List UInt8) := List.mem_of_getElem? hj
    simp only [List.mem_cons, List.not_mem_nil, or_false] at hm
    rcases hm with rfl | rfl <;> decide)).mono fun e w' ⟨he, hw⟩ => by
    refine ⟨_, he, ?_, fun s' _ _ _ => ⟨by rw [dcSet, Array.toArray_toList], rfl⟩⟩
    rw [hw]
    exact (below_refl _).alloc (Nat.le_refl _) _
theorem cont_ac (D : Nat) (L : Hl) (s : World) (b ty : Nat) (x : UInt8) : AC Tryz.prog D 132 [.pointer (some ⟨b, 0, none⟩), .int .u8 (x.toNat : Int)] ((b, cb dcSet ty) :: L) s fun v L' _ => v = .bool (isDC x) ∧ (b, cb dcSet ty) :: L = L' :=
  AC.of_calls fnok_cont fun ho => (Any.asciiSet_contains Tryz.lays228 b x (isDC x) (fill ((b, cb dcSet ty) :: L) s) (by rw [mem_cell ho (List.mem_cons_self ..)]; exact dc_at x)).mono fun e w' ⟨he, hw⟩ =>
    ⟨_, he, by rw [hw]; exact below_refl _, fun s' _ _ _ => ⟨rfl, rfl⟩⟩
set_option maxHeartbeats 1000000 in
set_option maxRecDepth 100000 in
theorem trimA_ac (D : Nat) (L : Hl) (s : World) (l : List UInt8) (hl : l.length ≤ 4000000) (b ty : Nat) : AC Tryz.prog D 117 [St l, .pointer (some ⟨b, 0, none⟩)] ((b, cb dcSet ty) :: L) s fun v L' _ => v = St (trimDC l) ∧ (b, cb dcSet ty) :: L = L' := by
 refine AC_enter (TT := TT) (fn := Tryz.f117) TT_ok Tryz.func117 (by kernel_rfl) rfl Tryz.ntmps117 rfl (rs := [.tmp 4]) rfl [(0, _), (1, _)] rfl ?_
 refine JC_seq ?_
 refine JC_region ?_
 refine JO_q (QE_as rfl) rfl ?_
 refine JO_nil ?_
 refine thenQ_n ?_
 refine JC_seq ?_
 refine JC_block ?_
 refine JC_loop (γ := Nat) (fun k => [(0, St (l.take k)), (1, _), (4, _)]) (fun _ => _) (fun k tw => Le D s tw ∧ (k ≤ l.length ∧ trimDC (l.take k) = trimDC l)) (fun k => k) (fun _ _ _ h hl => ⟨h.1.trans hl, h.2⟩) l.length (Keeps.cons (by rw [List.take_length]; rfl) (Keeps.cons rfl (Keeps.cons rfl (Keeps.nil _)))) rfl ⟨Le.refl _, ⟨Nat.le_refl _, by rw [List.take_length]⟩⟩ ?_
 intro k s1 I1
 have hk0 := I1.2.1
 have hT := I1.2.2
 have hlen : (l.take k).length = k := by rw [List.length_take]; omega
 refine JC_seq ?_
 refine JC_seq ?_
 refine JC_region ?_
 refine JO_q (QE_mv rfl) rfl ?_
 refine JO_q (QE_lenT rfl rfl rfl) rfl ?_
 refine JO_q (QE_gt rfl rfl) rfl ?_
 refine JO_nil ?_
 refine thenQ_n ?_
 refine JC_ifD rfl (fun c2 => ?_) (fun c2 => ?_)
 ·
  have hk : 0 < k := by omega
  obtain ⟨c, hc⟩ : ∃ c, l[k - 1]? = some c := ⟨_, List.getElem?_eq_getElem (show k - 1 < l.length by omega)⟩
  have hck : (l.take k)[k - 1]? = some c := by rw [List.getElem?_take, if_pos (by omega)]; exact hc
  have hsn : l.take k = l.take (k - 1) ++ [c] := by
    obtain ⟨h1, h2⟩ := List.getElem?_eq_some_iff.1 hc
    have := List.take_succ_eq_append_getElem h1
    rw [h2, show k - 1 + 1 = k by omega] at this
    exact this
  refine JC_skip ?_
  refine thenQ_n ?_
  refine JC_block ?_
  refine JC_seq ?_
  refine JC_seq ?_
  refine JC_region ?_
  refine JO_q (QE_mv rfl) rfl ?_
  refine JO_q (QE_mv rfl) rfl ?_
  refine JO_q (QE_mv rfl) rfl ?_
  refine JO_q (QE_lenT rfl rfl rfl) rfl ?_
  refine JO_q (QE_sub' (c := ((k - 1 : Nat) : Int)) rfl rfl (by rw [w64 (by omega) (by omega)]; omega)) rfl ?_
  refine JO_q (QE_ix rfl rfl rfl rfl hck) rfl ?_
  refine JO_call (first := []) (captured := []) rfl rfl rfl (cont_ac D _ _ b ty c) ?_
  rintro _ _ s3 h3 ⟨rfl, rfl⟩
  refine JO_q (QE_not rfl) rfl ?_
  refine JO_nil ?_
  refine thenQ_n ?_
  refine JC_ifM rfl (fun c4 => ?_) (fun c4 => ?_)
  ·
   have hd : isDC c = false := by simpa using c4
   refine JC_exit ?_
   refine thenQ_x ?_
   refine blockQ_xo rfl ?_
   refine thenQ_x ?_
   refine blockQ_x ?_
   refine thenQ_n ?_
   refine JC_seq ?_
   refine JC_region ?_
   refine JO_q (QE_mv rfl) rfl ?_
   refine JO_q (QE_as rfl) rfl ?_
   refine JO_nil ?_
   refine thenQ_n ?_
   refine JC_ret ?_
   refine retQ_mk [] _ (.inr rfl) (.tmp rfl (.nil)) rfl (Le.trans I1.1 h3) (fun sR hS2 => ?_)
   refine ⟨?_, rfl⟩
   first
     | (rw [List.take_zero] at hT ⊢; rw [← hT]; rfl)
     | (rw [← hT, hsn, trim_snoc, if_neg (by rw [hd]; decide)]; rfl)
  ·
   have hd : isDC c = true := by simpa using c4
   have hT2 : trimDC (l.take (k - 1)) = trimDC l := by rw [← hT, hsn, trim_snoc, if_pos hd]
   refine JC_skip ?_
   refine thenQ_n ?_
   refine JC_region ?_
   refine JO_q (QE_mv rfl) rfl ?_
   refine JO_q (QE_mv rfl) rfl ?_
   refine JO_q (QE_lenT rfl rfl rfl) rfl ?_
   refine JO_q (QE_sub' (c := ((k - 1 : Nat) : Int)) rfl rfl (by rw [w64 (by omega) (by omega)]; omega)) rfl ?_
   refine JO_q (QE_stH rfl rfl rfl rfl (by omega)) rfl ?_
   refine JO_q (QE_as rfl) rfl ?_
   refine JO_nil ?_
   refine blockQ_n ?_
   refine thenQ_n ⟨(k - 1), [], (Keeps.cons (by rw [List.take_take, Nat.min_eq_left (by omega)]; rfl) (Keeps.cons rfl (Keeps.cons rfl (Keeps.nil _)))), rfl, ⟨(Le.trans I1.1 h3), ⟨by omega, hT2⟩⟩, (by omega)⟩
 ·
  have hk : k = 0 := by omega
  subst hk
  refine JC_exit ?_
  refine thenQ_x ?_
  refine thenQ_x ?_
  refine blockQ_x ?_
  refine thenQ_n ?_
  refine JC_seq ?_
  refine JC_region ?_
  refine JO_q (QE_mv rfl) rfl ?_
  refine JO_q (QE_as rfl) rfl ?_
  refine JO_nil ?_
  refine thenQ_n ?_
  refine JC_ret ?_
  refine retQ_mk [] _ (.inr rfl) (.tmp rfl (.nil)) rfl I1.1 (fun sR hS2 => ?_)
  refine ⟨?_, rfl⟩
  first
    | (rw [List.take_zero] at hT ⊢; rw [← hT]; rfl)
    | (rw [← hT, hsn, trim_snoc, if_neg (by rw [hd]; decide)]; rfl)
set_option maxHeartbeats 2000000 in
set_option maxRecDepth 100000 in
theorem trimR_ac (D : Nat) (L : Hl) (s : World) (l : List UInt8) (hl : l.length ≤ 4000000) : AC Tryz.prog D 100 [St l, St [46, 44]] L s fun v L' _ => v = St (trimDC l) ∧ L = L' := by
 refine AC_enter (TT := TT) (fn := Tryz.f100) TT_ok Tryz.func100 (by kernel_rfl) rfl Tryz.ntmps100 rfl (rs := [.tmp 4]) rfl [(0, _), (1, _)] rfl ?_
 refine JC_seq ?_
 refine JC_region ?_
 refine JO_q (QE_as rfl) rfl ?_
 refine JO_nil ?_
 refine thenQ_n ?_
 refine JC_seq ?_
 refine JC_cutB 12 (l = []) ?_ ?_
 ·
  refine JC_region ?_
  refine JO_q (QE_mv rfl) rfl ?_
  refine JO_q (QE_seq rfl rfl) rfl ?_
  refine JO_q (QE_mv rfl) rfl ?_
  refine JO_caseD (t := 9) rfl (fun c2 => ?_) (fun c2 => ?_)
  ·
   refine JO_gF rfl rfl rfl rfl ?_
   refine JO_gF rfl rfl rfl rfl ?_
   refine JO_q (QE_pickT rfl rfl) rfl ?_
   refine JO_nil ?_
   refine thenQ_n (MidB.mk (Le.refl (D := D) _) (by repeat (first | exact Suf.refl | refine Suf.push rfl ?_)) rfl ((decide_eq_true (by assumption)).symm))
  ·
   refine JO_gT rfl rfl ?_
   refine JO_q (QE_mv rfl) rfl ?_
   refine JO_gT rfl rfl ?_
   refine JO_q (QE_seq rfl rfl) rfl ?_
   refine JO_q (QE_pickF rfl rfl) rfl ?_
   refine JO_nil ?_
   refine thenQ_n (MidB.mk (Le.refl (D := D) _) (by repeat (first | exact Suf.refl | refine Suf.push rfl ?_)) rfl (decide_eq_decide.2 (⟨(fun h => by cases h), (fun h => absurd h (by assumption))⟩)))
 ·
  intro s1 h1
  refine JC_ifD rfl (fun c3 => ?_) (fun c3 => ?_)
  ·
   have h0 : l = [] := c3
   subst h0
   refine JC_seq ?_
   refine JC_region ?_
   refine JO_q (QE_mv rfl) rfl ?_
   refine JO_q (QE_as rfl) rfl ?_
   refine JO_nil ?_
   refine thenQ_n ?_
   refine JC_ret ?_
   refine thenQ_r ?_
   refine retQ_mk [] L (.inr rfl) (.tmp rfl (.nil)) rfl h1 (fun sR hS2 => ?_)
   exact ⟨rfl, rfl⟩
  ·
   refine JC_skip ?_
   refine thenQ_n ?_
   refine JC_seq ?_
   refine JC_seq ?_
   refine JC_region ?_
   refine JO_q (QE_mv rfl) rfl ?_
   refine JO_q (QE_lenT rfl rfl rfl) rfl ?_
   refine JO_q (QE_cast (v' := .bool false) (QE_eq rfl rfl) (bZ (by decide))) rfl ?_
   refine JO_q (QE_mv rfl) rfl ?_
   refine JO_gF rfl rfl rfl rfl ?_
   refine JO_gF rfl rfl rfl rfl ?_
   refine JO_gF rfl rfl rfl rfl ?_
   refine JO_q (QE_pickF rfl rfl) rfl ?_
   refine JO_nil ?_
   refine thenQ_n ?_
   refine JC_ifF rfl ?_
   refine JC_skip ?_
   refine thenQ_n ?_
   refine JC_seq ?_
   refine JC_seq ?_
   refine JC_region ?_
   refine JO_q (QE_mv rfl) rfl ?_
   refine JO_call (first := []) (captured := []) rfl rfl rfl (set_ac D _ _) ?_
   rintro _ _ s4 h4 ⟨rfl, rfl⟩
   refine JO_q (QE_mv rfl) rfl ?_
   refine JO_q (QE_ext rfl rfl) rfl ?_
   refine JO_q (QE_ext rfl rfl) rfl ?_
   refine JO_allocZ rfl (List.replicate 256 (.bool false)) rfl rfl ?_
   intro βs s5 h5
   refine JO_st 0 dcSet rfl rfl rfl rfl (by kernel_rfl) (by kernel_rfl) (by kernel_rfl) (by kernel_rfl) rfl ?_
   refine JO_q (QE_as rfl) rfl ?_
   refine JO_nil ?_
   refine thenQ_n ?_
   refine JC_seq ?_
   refine JC_region ?_
   refine JO_q (QE_mv rfl) rfl ?_
   refine JO_nil ?_
   refine thenQ_n ?_
   refine JC_ifT rfl ?_
   refine JC_seq ?_
   refine JC_region ?_
   refine JO_q (QE_mv rfl) rfl ?_
   refine JO_call (first := []) (captured := []) rfl rfl rfl (trimA_ac D _ _ l hl βs _) ?_
   rintro _ _ s7 h7 ⟨rfl, rfl⟩
   refine JO_q (QE_as rfl) rfl ?_
   refine JO_nil ?_
   refine thenQ_n ?_
   refine JC_ret ?_
   refine thenQ_r ?_
   refine retQ_mk [_] L (.inr rfl) (.tmp rfl (.nil)) rfl (Le.trans (Le.trans (Le.trans h1 h4) h5) h7) (fun sR hS2 => ?_)
   exact ⟨rfl, rfl⟩
set_option maxHeartbeats 1000000 in
set_option maxRecDepth 100000 in
theorem part_ac (D : Nat) (L : Hl) (s : World) (l : List UInt8) (hl : l.length ≤ 4000000) : AC Tryz.prog D 82 [St l] L s fun v L' _ => v = .tuple #[St (trimDC l), St (l.drop (trimDC l).length)] ∧ L = L' := by
 refine AC_enter (TT := TT) (fn := Tryz.f82) TT_ok Tryz.func82 (by kernel_rfl) rfl Tryz.ntmps82 rfl (rs := [.tmp 2, .tmp 3]) rfl [(0, _)] rfl ?_
 refine JC_seq ?_
 refine JC_region ?_
 refine JO_q (QE_as rfl) rfl ?_
 refine JO_q (QE_as rfl) rfl ?_
 refine JO_nil ?_
 refine thenQ_n ?_
 refine JC_seq ?_
 refine JC_region ?_
 refine JO_q (QE_mv rfl) rfl ?_
 refine JO_call (first := []) (captured := []) rfl rfl rfl (trimR_ac D _ _ l hl) ?_
 rintro _ _ s1 h1 ⟨rfl, rfl⟩
 refine JO_q (QE_as rfl) rfl ?_
 refine JO_nil ?_
 refine thenQ_n ?_
 refine JC_seq ?_
 refine JC_draw drawsMixed 7 rfl _ (fun _ h => h) ?_
 intro s2 h2
 refine JA_q 0 rfl (by kernel_rfl) (by kernel_rfl) (by kernel_rfl) trivial (QE_mv rfl) rfl ?_
 refine JA_q 1 rfl (by kernel_rfl) (by kernel_rfl) (by kernel_rfl) trivial (QE_mv rfl) rfl ?_
 refine JA_q 2 rfl (by kernel_rfl) (by kernel_rfl) (by kernel_rfl) trivial (QE_mv rfl) rfl ?_
 refine JA_q 3 rfl (by kernel_rfl) (by kernel_rfl) (by kernel_rfl) trivial (QE_lenT rfl rfl rfl) rfl ?_
 refine JA_q 4 rfl (by kernel_rfl) (by kernel_rfl) (by kernel_rfl) trivial (QE_stL rfl rfl rfl rfl (by have := trim_len l; omega)) rfl ?_
 refine JA_q 5 rfl (by kernel_rfl) (by kernel_rfl) (by kernel_rfl) trivial (QE_as rfl) rfl ?_
 refine JA_q 6 rfl (by kernel_rfl) (by kernel_rfl) (by kernel_rfl) trivial (QE_as rfl) rfl ?_
 refine JA_done (by kernel_rfl) ?_
 refine thenQ_n ?_
 refine JC_ret ?_
 refine retQ_mk [] L (.inr rfl) (.tmp rfl (.tmp rfl (.nil))) rfl (Le.trans h1 h2) (fun sR hS2 => ?_)
 exact ⟨rfl, rfl⟩
def sents : List Str := [
  [80, 117, 116, 32, 120, 32, 105, 110, 116, 111, 32, 116, 46],
  [80, 117, 116, 32, 116, 104, 101, 32, 115, 117, 109, 32, 111, 102, 32, 120, 32, 97, 110, 100, 32, 121, 32, 105, 110, 116, 111, 32, 116, 46],
  [80, 117, 116, 32, 116, 104, 101, 32, 100, 105, 102, 102, 101, 114, 101, 110, 99, 101, 32, 111, 102, 32, 120, 32, 97, 110, 100, 32, 121, 32, 105, 110, 116, 111, 32, 116, 46],
  [80, 117, 116, 32, 116, 104, 101, 32, 112, 114, 111, 100, 117, 99, 116, 32, 111, 102, 32, 120, 32, 97, 110, 100, 32, 121, 32, 105, 110, 116, 111, 32, 116, 46],
  [80, 117, 116, 32, 116, 104, 101, 32, 113, 117, 111, 116, 105, 101, 110, 116, 32, 111, 102, 32, 120, 32, 97, 110, 100, 32, 121, 32, 105, 110, 116, 111, 32, 116, 46],
  [80, 117, 116, 32, 116, 104, 101, 32, 114, 101, 109, 97, 105, 110, 100, 101, 114, 32, 111, 102, 32, 120, 32, 97, 110, 100, 32, 121, 32, 105, 110, 116, 111, 32, 116, 46],
  [80, 117, 116, 32, 116, 104, 101, 32, 98, 105, 116, 115, 32, 116, 104, 97, 116, 32, 120, 32, 97, 110, 100, 32, 121, 32, 115, 104, 97, 114, 101, 32, 105, 110, 116, 111, 32, 116, 46],
  [80, 117, 116, 32, 116, 104, 101, 32, 98, 105, 116, 115, 32, 116, 104, 97, 116, 32, 120, 32, 111, 114, 32, 121, 32, 104, 97, 115, 32, 105, 110, 116, 111, 32, 116, 46],
  [80, 117, 116, 32, 116, 104, 101, 32, 98, 105, 116, 115, 32, 105, 110, 32, 119, 104, 105, 99, 104, 32, 120, 32, 97, 110, 100, 32, 121, 32, 100, 105, 102, 102, 101, 114, 32, 105, 110, 116, 111, 32, 116, 46],
  [80, 117, 116, 32, 120, 32, 109, 111, 118, 101, 100, 32, 116, 111, 32, 116, 104, 101, 32, 108, 101, 102, 116, 32, 98, 121, 32, 121, 32, 105, 110, 116, 111, 32, 116, 46],
  [80, 117, 116, 32, 120, 32, 109, 111, 118, 101, 100, 32, 116, 111, 32, 116, 104, 101, 32, 114, 105, 103, 104, 116, 32, 98, 121, 32, 121, 32, 105, 110, 116, 111, 32, 116, 46],
  [80, 117, 116, 32, 49, 32, 105, 110, 116, 111, 32, 116, 32, 105, 102, 32, 120, 32, 101, 113, 117, 97, 108, 115, 32, 121, 44, 32, 97, 110, 100, 32, 48, 32, 105, 102, 32, 110, 111, 116, 46],
  [80, 117, 116, 32, 49, 32, 105, 110, 116, 111, 32, 116, 32, 105, 102, 32, 120, 32, 105, 115, 32, 108, 101, 115, 115, 32, 116, 104, 97, 110, 32, 121, 44, 32, 97, 110, 100, 32, 48, 32, 105, 102, 32, 110, 111, 116, 46],
  [80, 117, 116, 32, 116, 104, 101, 32, 110, 117, 109, 98, 101, 114, 32, 105, 110, 32, 99, 101, 108, 108, 32, 120, 32, 105, 110, 116, 111, 32, 116, 46],
  [80, 117, 116, 32, 121, 32, 105, 110, 116, 111, 32, 99, 101, 108, 108, 32, 120, 46],
  [80, 117, 116, 32, 116, 104, 101, 32, 110, 101, 120, 116, 32, 105, 110, 112, 117, 116, 32, 105, 110, 116, 111, 32, 116, 46],
  [87, 114, 105, 116, 101, 32, 120, 46],
  [83, 116, 111, 112, 32, 119, 105, 116, 104, 32, 120, 46],
  [83, 116, 111, 112, 32, 119, 105, 116, 104, 32, 120, 32, 105, 102, 32, 121, 32, 105, 115, 32, 48, 46],
  [80, 117, 116, 32, 120, 32, 105, 110, 116, 111, 32, 116, 32, 105, 102, 32, 121, 32, 105, 115, 32, 48, 46]]
def sentS (k : Nat) : List UInt8 := sents.getD k []
theorem sents_at {k : Nat} (h : k < 20) : (sents.map fun x => St x)[k]? = some (St (sentS k)) := by
  rw [List.getElem?_map, sentS, List.getD_eq_getElem?_getD, List.getElem?_eq_getElem (show k < sents.length from h)]; rfl
set_option maxHeartbeats 2000000 in
set_option maxRecDepth 100000 in
theorem psent_ac (D : Nat) (L : Hl) (s : World) (k : Nat) (hk : k < 20) : AC Tryz.prog D 81 [.int .i64 (k : Int)] L s fun v L' _ => v = St (sentS k) ∧ L = L' := by
 refine AC_enter (TT := TT) (fn := Tryz.f81) TT_ok Tryz.func81 (by kernel_rfl) rfl Tryz.ntmps81 rfl (rs := [.tmp 2]) rfl [(0, _)] rfl ?_
 refine JC_seq ?_
 refine JC_region ?_
 refine JO_q (QE_as rfl) rfl ?_
 refine JO_nil ?_
 refine thenQ_n ?_
 refine JC_seq ?_
 refine JC_region ?_
 refine JO_q (QE_bldA [(_, _), (_, _), (_, _), (_, _), (_, _), (_, _), (_, _), (_, _), (_, _), (_, _), (_, _), (_, _), (_, _), (_, _), (_, _), (_, _), (_, _), (_, _), (_, _), (_, _)] (sents.map fun x => St x) rfl rfl rfl rfl rfl rfl) rfl ?_
 refine JO_q (QE_mv rfl) rfl ?_
 refine JO_q (QE_ixA (vs := sents.map fun x => St x) rfl rfl rfl rfl rfl rfl rfl hk (sents_at hk)) rfl ?_
 refine JO_q (QE_as rfl) rfl ?_
 refine JO_nil ?_
 refine thenQ_n ?_
 refine JC_ret ?_
 refine retQ_mk [] L (.inr rfl) (.tmp rfl (.nil)) rfl (Le.refl (D := D) _) (fun sR hS2 => ?_)
 exact ⟨rfl, rfl⟩
end Go.Proofs.YtoeeblegplghmaaGreatDoor
namespace Go.Proofs.YtoeeblegplghmaaGreatDoor
open Go.FL
attribute [local irreducible] JC JO JA JB thenQ blockQ retQ AC fill CellsAt QE Ev Mid
theorem own_row {e β : Nat} {ws : List (List UInt8)} (h : ws.length ≤ 9223372036854775807) : FL.Own e 1 [(β, cb (sb ws) e)] (.slice (some ⟨β, 0, none⟩) ws.length ws.length) ws.length (sb ws) := by
  have := Own.blk (e := e) (sz := 1) β ws.length ws.length (sb ws) [] (by simp [sb_len]) (by simp [sb_len]) (Nat.le_refl _) h
  rwa [List.append_nil] at this
theorem fieldsS_ac (D : Nat) (L : Hl) (s : World) (hG : GP s) (l : List UInt8) (hl : l.length ≤ 4000000) (hok : okT l = true) : AC Tryz.prog D 48 [St l] L s fun v L' s' => L = L' ∧ ∃ A n c, v = .slice A n c ∧ Strs s' A n c (flds l) :=
  AC.pubW ((fieldsO_ac D L s hG l hl hok).mono fun v L' s' _ ⟨β, h1, h2⟩ => ⟨[(β, cb (sb (flds l)) 9)], h1, fun s2 _ hp => ⟨_, _, _, h2, Own.strs (own_row (by have := flds_len l; omega)) (fun x hx => by have := flds_short l x hx; omega) hp rfl⟩⟩)
theorem Strs.row {s : World} {A : Option Addr} {n c : Nat} {l : List (List UInt8)} (h : Strs s A n c l) : Row s A n 1 (sb l) := by
  obtain ⟨hn, h2, h3, h4⟩ := h
  subst hn
  refine ⟨by simp [sb_len], by simp [sb, Value.oneCell'], fun j u hj => ?_⟩
  rw [sb, List.getElem?_map] at hj
  obtain ⟨y, hy, rfl⟩ := Option.map_eq_some_iff.1 hj
  obtain ⟨b', off', cs', hA', hc, _, rfl, _⟩ := h4 j y hy
  exact ⟨b', off', hA', by unfold CellsAt at hc; simpa using hc 0 (St y) rfl⟩
def itW (w : List UInt8) : It := if trimDC w = [116] then .tt (w.drop (trimDC w).length) else if trimDC w = [120] then .xx (w.drop (trimDC w).length) else if trimDC w = [121] then .yy (w.drop (trimDC w).length) else .lit w
def wordX (a : Ac) (w : List UInt8) : List UInt8 := genI a (itW w)
theorem sent_items : ∀ k, k < 20 → (flds (sentS k)).map itW = sentK k := by decide +kernel
theorem sent_okT : ∀ k, k < 20 → okT (sentS k) = true ∧ (sentS k).length ≤ 100 := by decide +kernel
theorem words_X {a : Ac} {k : Nat} (hk : k < 20) (h : a.kind = (k : Int)) : (flds (sentS k)).map (wordX a) = wordsA a := by
  have : wordX a = genI a ∘ itW := rfl
  rw [this, ← List.map_map, sent_items k hk, wordsA, h, Int.toNat_natCast]
theorem X_t {a : Ac} {w : List UInt8} (h : trimDC w = [116]) : wordX a w = regS a.tgt ++ w.drop (trimDC w).length := by rw [wordX, itW, if_pos h]; rfl
theorem X_x {a : Ac} {w : List UInt8} (h1 : ¬ trimDC w = [116]) (h : trimDC w = [120]) : wordX a w = termS a.x ++ w.drop (trimDC w).length := by rw [wordX, itW, if_neg h1, if_pos h]; rfl
theorem X_y {a : Ac} {w : List UInt8} (h1 : ¬ trimDC w = [116]) (h2 : ¬ trimDC w = [120]) (h : trimDC w = [121]) : wordX a w = termS a.y ++ w.drop (trimDC w).length := by rw [wordX, itW, if_neg h1, if_neg h2, if_pos h]; rfl
theorem X_n {a : Ac} {w : List UInt8} (h1 : ¬ trimDC w = [116]) (h2 : ¬ trimDC w = [120]) (h : ¬ trimDC w = [121]) : wordX a w = w := by rw [wordX, itW, if_neg h1, if_neg h2, if_neg h]; rfl
theorem X_len {a : Ac} (h : AcT a) (w : List UInt8) : (wordX a w).length ≤ w.length + 10 := by
  have h1 := trim_len w
  by_cases c1 : trimDC w = [116]
  · rw [X_t c1]; have := reg_short a.tgt; simp only [List.length_append, List.length_drop]; omega
  by_cases c2 : trimDC w = [120]
  · rw [X_x c1 c2]; have := (term_part h.2.1).2.1; simp only [List.length_append, List.length_drop]; omega
  by_cases c3 : trimDC w = [121]
  · rw [X_y c1 c2 c3]; have := (term_part h.2.2).2.1; simp only [List.length_append, List.length_drop]; omega
  · rw [X_n c1 c2 c3]; omega
theorem sb_take {l : List (List UInt8)} {j : Nat} {w : List UInt8} (a : Ac) (h : l[j]? = some w) : sb ((l.take (j + 1)).map (wordX a)) = sb ((l.take j).map (wordX a)) ++ [St (wordX a w)] := by
  obtain ⟨hj, rfl⟩ := List.getElem?_eq_some_iff.1 h
  rw [List.take_succ_eq_append_getElem hj, List.map_append]; simp [sb]
set_option maxHeartbeats 2000000 in
set_option maxRecDepth 100000 in
theorem wordsO_ac (D : Nat) (L : Hl) (s : World) (hG : GP s) (a : Ac) (ha : AcC a) : AC Tryz.prog D 51 [.agg #[.int .i64 a.kind, .int .i64 a.tgt, .int .i64 a.x.kind, .int .u32 a.x.val, .int .i64 a.y.kind, .int .u32 a.y.val]] L s fun v L' s' => ∃ M', L' = M' ++ L ∧ ∀ s2, Le D s' s2 → Pub M' s2 → ∃ A n c, v = .slice A n c ∧ Strs s2 A n c (wordsA a) := by
 obtain ⟨ak, ato, ax, ay⟩ := a
 obtain ⟨k, rfl⟩ := Int.eq_ofNat_of_zero_le ha.1.1
 obtain ⟨tn, rfl⟩ := Int.eq_ofNat_of_zero_le ha.2.1.1.1
 have hk : k < 20 := by have := ha.1.2; simp only at this; omega
 have htn : tn ≤ 4 := by have := ha.2.1.1.2; simp only at this; omega
 have hsk := sent_okT k hk
 have hfl := flds_len (sentS k)
 have hX0 := words_X (a := ⟨(k : Int), (tn : Int), ax, ay⟩) hk rfl
 have hXl := X_len ha.2.1
 have hkl := (term_part ha.2.1.2.1).2.1
 have hyl := (term_part ha.2.1.2.2).2.1
 simp only at hkl hyl
 refine AC_enter (TT := TT) (fn := Tryz.f51) TT_ok Tryz.func51 (by kernel_rfl) rfl Tryz.ntmps51 rfl (rs := [.tmp 2]) rfl [(0, _)] rfl ?_
 refine JC_seq ?_
 refine JC_region ?_
 refine JO_boxA rfl rfl ?_
 intro β1 s1 h1
 refine JO_q (QE_as rfl) rfl ?_
 refine JO_nil ?_
 refine thenQ_n ?_
 refine JC_seq ?_
 refine JC_region ?_
 refine JO_q (QE_as rfl) rfl ?_
 refine JO_nil ?_
 refine thenQ_n ?_
 refine JC_seq ?_
 refine JC_seq ?_
 refine JC_region ?_
 refine JO_q (QE_fa0 rfl rfl rfl rfl) rfl ?_
 refine JO_q (QE_ld1 0 rfl rfl rfl rfl rfl) rfl ?_
 refine JO_call (first := []) (captured := []) rfl rfl rfl (psent_ac D _ _ k hk) ?_
 rintro _ _ s2 h2 ⟨rfl, rfl⟩
 refine JO_call (first := []) (captured := []) rfl rfl rfl (fieldsS_ac D _ _ (hG.le (Le.trans h1 h2)) (sentS k) (by omega) hsk.1) ?_
 rintro _ _ s3 h3 ⟨rfl, A1, n1, c1, rfl, hS⟩
 have hn1 := hS.1
 refine JO_q (QE_lenS rfl rfl rfl) rfl ?_
 refine JO_q (QE_mv rfl) rfl ?_
 refine JO_nil ?_
 refine thenQ_n ?_
 refine JC_block ?_
 refine JC_loop (γ := Nat × Value × Hl) (fun g => [(1, _), (2, _), (3, g.2.1), (11, _), (12, _), (13, .int .i64 (g.1 : Int))]) (fun g => (β1, cb [.int .i64 (k : Int), .int .i64 (tn : Int), .int .i64 ax.kind, .int .u32 ax.val, .int .i64 ay.kind, .int .u32 ay.val] 68) :: (g.2.2 ++ L)) (fun g tw => Le D s3 tw ∧ (g.1 ≤ n1 ∧ FL.Own 9 1 g.2.2 g.2.1 g.1 (sb (((flds (sentS k)).take g.1).map (wordX ⟨(k : Int), (tn : Int), ax, ay⟩))))) (fun g => n1 - g.1) (fun _ _ _ h hl => ⟨h.1.trans hl, h.2⟩) (0, .slice none 0 0, []) (Keeps.cons rfl (Keeps.cons rfl (Keeps.cons rfl (Keeps.cons rfl (Keeps.cons rfl (Keeps.cons rfl (Keeps.nil _))))))) rfl ⟨Le.refl _, ⟨Nat.zero_le _, Own.nil⟩⟩ ?_
 intro g s4 I4
 obtain ⟨j, vo, Mo⟩ := g
 obtain ⟨hj0, hO⟩ := I4.2
 simp only at hj0 hO
 dsimp only
 refine JC_seq ?_
 refine JC_region ?_
 refine JO_q (QE_lt rfl rfl) rfl ?_
 refine JO_nil ?_
 refine thenQ_n ?_
 refine JC_seq ?_
 refine JC_ifD rfl (fun c5 => ?_) (fun c5 => ?_)
 ·
  have hj : j < n1 := by omega
  obtain ⟨b, off, w, rfl, hw, hcw, _⟩ := Strs.at_ (hS.le I4.1) hj
  have hwl := flds_short _ w (List.mem_of_getElem? hw)
  have htl := trim_len w
  refine JC_skip ?_
  refine thenQ_n ?_
  refine JC_seq ?_
  refine JC_block ?_
  refine JC_seq ?_
  refine JC_region ?_
  refine JO_q (QE_ia1 rfl rfl rfl rfl rfl rfl hj) rfl ?_
  refine JO_q (QE_ldsR0 rfl rfl rfl (hcw.le (Le.refl (D := D) _)) rfl) rfl ?_
  refine JO_q (QE_as rfl) rfl ?_
  refine JO_nil ?_
  refine thenQ_n ?_
  refine JC_seq ?_
  refine JC_seq ?_
  refine JC_region ?_
  refine JO_q (QE_mv rfl) rfl ?_
  refine JO_call (first := []) (captured := []) rfl rfl rfl (part_ac D _ _ w (by omega)) ?_
  rintro _ _ s6 h6 ⟨rfl, rfl⟩
  refine JO_q (QE_mv rfl) rfl ?_
  refine JO_q (QE_ext rfl rfl) rfl ?_
  refine JO_q (QE_ext rfl rfl) rfl ?_
  refine JO_q (QE_as rfl) rfl ?_
  refine JO_q (QE_as rfl) rfl ?_
  refine JO_nil ?_
  refine thenQ_n ?_
  refine JC_seq ?_
  refine JC_region ?_
  refine JO_q (QE_mv rfl) rfl ?_
  refine JO_nil ?_
  refine thenQ_n ?_
  refine JC_block ?_
  refine JC_seq ?_
  refine JC_region ?_
  refine JO_q (QE_seq rfl rfl) rfl ?_
  refine JO_q (QE_as rfl) rfl ?_
  refine JO_nil ?_
  refine thenQ_n ?_
  refine JC_ifD rfl (fun c7 => ?_) (fun c7 => ?_)
  ·
   have hX := X_t (a := ⟨(k : Int), (tn : Int), ax, ay⟩) c7
   rw [show (⟨(k : Int), (tn : Int), ax, ay⟩ : Ac).tgt = (tn : Int) from rfl, ← reg_cut htn] at hX
   refine JC_region ?_
   refine JO_q (QE_faB rfl rfl rfl rfl) rfl ?_
   refine JO_q (QE_ld1 0 rfl rfl rfl rfl rfl) rfl ?_
   refine JO_q (QE_faB rfl rfl rfl rfl) rfl ?_
   refine JO_q (QE_ld1 0 rfl rfl rfl rfl rfl) rfl ?_
   refine JO_q (QE_add' (c := ((tn + 1 : Nat) : Int)) rfl rfl (by rw [w64 (by omega) (by omega)]; omega)) rfl ?_
   refine JO_q (QE_stLH (l := abcB) rfl rfl rfl rfl rfl (by omega) (by show tn + 1 ≤ 5; omega)) rfl ?_
   refine JO_q (QE_mv rfl) rfl ?_
   refine JO_q (QE_sadd rfl rfl (by have := reg_short (tn : Int); rw [reg_cut htn]; simp only [List.length_drop]; omega)) rfl ?_
   refine JO_q (QE_as rfl) rfl ?_
   refine JO_nil ?_
   refine blockQ_n ?_
   refine thenQ_n ?_
   refine JC_region ?_
   refine JO_q (QE_mv rfl) rfl ?_
   refine JO_q (QE_mv rfl) rfl ?_
   refine JO_bs [(_, _)] [_] rfl rfl rfl rfl rfl rfl rfl rfl rfl ?_
   intro βn s8 h8 hcb
   refine JO_app (sz := 1) [_] Mo L rfl rfl rfl rfl rfl rfl rfl hO (Row.of_cells (hcb.le (Le.refl (D := D) _)) rfl rfl) ⟨by simp [ti9]; omega, by omega⟩ rfl ?_
   intro v2 A2x s9 h9 o2
   obtain ⟨Av2, cv2, rfl, _, _⟩ := Own.slice o2
   simp only [List.cons_append, List.nil_append]
   refine JO_q (QE_as rfl) rfl ?_
   refine JO_nil ?_
   refine blockQ_n ?_
   refine thenQ_n ?_
   refine JC_region ?_
   refine JO_q (QE_add' rfl rfl (w64 (by omega) (by omega))) rfl ?_
   refine JO_q (QE_mv rfl) rfl ?_
   refine JO_nil ?_
   refine thenQ_n ⟨(j + 1, .slice Av2 (j + 1) cv2, A2x), [], (Keeps.cons rfl (Keeps.cons rfl (Keeps.cons rfl (Keeps.cons rfl (Keeps.cons rfl (Keeps.cons rfl (Keeps.nil _))))))), rfl, ⟨(Le.trans (Le.trans (Le.trans I4.1 h6) h8) h9), ⟨by simp only; omega, by simp only; rw [sb_take _ hw, hX]; exact o2⟩⟩, (by simp only; omega)⟩
  ·
   have hq1 := c7
   refine JC_seq ?_
   refine JC_region ?_
   refine JO_q (QE_seq rfl rfl) rfl ?_
   refine JO_q (QE_as rfl) rfl ?_
   refine JO_nil ?_
   refine thenQ_n ?_
   refine JC_ifD rfl (fun c10 => ?_) (fun c10 => ?_)
   ·
    have hX := X_x (a := ⟨(k : Int), (tn : Int), ax, ay⟩) hq1 c10
    refine JC_region ?_
    refine JO_q (QE_faB rfl rfl rfl rfl) rfl ?_
    refine JO_q (QE_ldA 0 [_, _] rfl rfl rfl rfl rfl) rfl ?_
    refine JO_call (first := []) (captured := []) rfl rfl rfl (term_ac D _ _ (hG.le (Le.trans (Le.trans (Le.trans (Le.trans h1 h2) h3) I4.1) h6)) ax ha.2.1.2.1) ?_
    rintro _ _ s11 h11 ⟨rfl, rfl⟩
    refine JO_q (QE_mv rfl) rfl ?_
    refine JO_q (QE_sadd rfl rfl (by simp only [List.length_drop]; omega)) rfl ?_
    refine JO_q (QE_as rfl) rfl ?_
    refine JO_nil ?_
    refine blockQ_n ?_
    refine thenQ_n ?_
    refine JC_region ?_
    refine JO_q (QE_mv rfl) rfl ?_
    refine JO_q (QE_mv rfl) rfl ?_
    refine JO_bs [(_, _)] [_] rfl rfl rfl rfl rfl rfl rfl rfl rfl ?_
    intro βn s12 h12 hcb
    refine JO_app (sz := 1) [_] Mo L rfl rfl rfl rfl rfl rfl rfl hO (Row.of_cells (hcb.le (Le.refl (D := D) _)) rfl rfl) ⟨by simp [ti9]; omega, by omega⟩ rfl ?_
    intro v2 A2x s13 h13 o2
    obtain ⟨Av2, cv2, rfl, _, _⟩ := Own.slice o2
    simp only [List.cons_append, List.nil_append]
    refine JO_q (QE_as rfl) rfl ?_
    refine JO_nil ?_
    refine blockQ_n ?_
    refine thenQ_n ?_
    refine JC_region ?_
    refine JO_q (QE_add' rfl rfl (w64 (by omega) (by omega))) rfl ?_
    refine JO_q (QE_mv rfl) rfl ?_
    refine JO_nil ?_
    refine thenQ_n ⟨(j + 1, .slice Av2 (j + 1) cv2, A2x), [], (Keeps.cons rfl (Keeps.cons rfl (Keeps.cons rfl (Keeps.cons rfl (Keeps.cons rfl (Keeps.cons rfl (Keeps.nil _))))))), rfl, ⟨(Le.trans (Le.trans (Le.trans (Le.trans I4.1 h6) h11) h12) h13), ⟨by simp only; omega, by simp only; rw [sb_take _ hw, hX]; exact o2⟩⟩, (by simp only; omega)⟩
   ·
    have hq2 := c10
    refine JC_seq ?_
    refine JC_region ?_
    refine JO_q (QE_seq rfl rfl) rfl ?_
    refine JO_q (QE_as rfl) rfl ?_
    refine JO_nil ?_
    refine thenQ_n ?_
    refine JC_ifD rfl (fun c14 => ?_) (fun c14 => ?_)
    ·
     have hX := X_y (a := ⟨(k : Int), (tn : Int), ax, ay⟩) hq1 hq2 c14
     refine JC_region ?_
     refine JO_q (QE_faB rfl rfl rfl rfl) rfl ?_
     refine JO_q (QE_ldA 0 [_, _] rfl rfl rfl rfl rfl) rfl ?_
     refine JO_call (first := []) (captured := []) rfl rfl rfl (term_ac D _ _ (hG.le (Le.trans (Le.trans (Le.trans (Le.trans h1 h2) h3) I4.1) h6)) ay ha.2.1.2.2) ?_
     rintro _ _ s15 h15 ⟨rfl, rfl⟩
     refine JO_q (QE_mv rfl) rfl ?_
     refine JO_q (QE_sadd rfl rfl (by simp only [List.length_drop]; omega)) rfl ?_
     refine JO_q (QE_as rfl) rfl ?_
     refine JO_nil ?_
     refine blockQ_n ?_
     refine thenQ_n ?_
     refine JC_region ?_
     refine JO_q (QE_mv rfl) rfl ?_
     refine JO_q (QE_mv rfl) rfl ?_
     refine JO_bs [(_, _)] [_] rfl rfl rfl rfl rfl rfl rfl rfl rfl ?_
     intro βn s16 h16 hcb
     refine JO_app (sz := 1) [_] Mo L rfl rfl rfl rfl rfl rfl rfl hO (Row.of_cells (hcb.le (Le.refl (D := D) _)) rfl rfl) ⟨by simp [ti9]; omega, by omega⟩ rfl ?_
     intro v2 A2x s17 h17 o2
     obtain ⟨Av2, cv2, rfl, _, _⟩ := Own.slice o2
     simp only [List.cons_append, List.nil_append]
     refine JO_q (QE_as rfl) rfl ?_
     refine JO_nil ?_
     refine blockQ_n ?_
     refine thenQ_n ?_
     refine JC_region ?_
     refine JO_q (QE_add' rfl rfl (w64 (by omega) (by omega))) rfl ?_
     refine JO_q (QE_mv rfl) rfl ?_
     refine JO_nil ?_
     refine thenQ_n ⟨(j + 1, .slice Av2 (j + 1) cv2, A2x), [], (Keeps.cons rfl (Keeps.cons rfl (Keeps.cons rfl (Keeps.cons rfl (Keeps.cons rfl (Keeps.cons rfl (Keeps.nil _))))))), rfl, ⟨(Le.trans (Le.trans (Le.trans (Le.trans I4.1 h6) h15) h16) h17), ⟨by simp only; omega, by simp only; rw [sb_take _ hw, hX]; exact o2⟩⟩, (by simp only; omega)⟩
    ·
     have hX := X_n (a := ⟨(k : Int), (tn : Int), ax, ay⟩) hq1 hq2 c14
     refine JC_skip ?_
     refine blockQ_n ?_
     refine thenQ_n ?_
     refine JC_region ?_
     refine JO_q (QE_mv rfl) rfl ?_
     refine JO_q (QE_mv rfl) rfl ?_
     refine JO_bs [(_, _)] [_] rfl rfl rfl rfl rfl rfl rfl rfl rfl ?_
     intro βn s18 h18 hcb
     refine JO_app (sz := 1) [_] Mo L rfl rfl rfl rfl rfl rfl rfl hO (Row.of_cells (hcb.le (Le.refl (D := D) _)) rfl rfl) ⟨by simp [ti9]; omega, by omega⟩ rfl ?_
     intro v2 A2x s19 h19 o2
     obtain ⟨Av2, cv2, rfl, _, _⟩ := Own.slice o2
     simp only [List.cons_append, List.nil_append]
     refine JO_q (QE_as rfl) rfl ?_
     refine JO_nil ?_
     refine blockQ_n ?_
     refine thenQ_n ?_
     refine JC_region ?_
     refine JO_q (QE_add' rfl rfl (w64 (by omega) (by omega))) rfl ?_
     refine JO_q (QE_mv rfl) rfl ?_
     refine JO_nil ?_
     refine thenQ_n ⟨(j + 1, .slice Av2 (j + 1) cv2, A2x), [], (Keeps.cons rfl (Keeps.cons rfl (Keeps.cons rfl (Keeps.cons rfl (Keeps.cons rfl (Keeps.cons rfl (Keeps.nil _))))))), rfl, ⟨(Le.trans (Le.trans (Le.trans I4.1 h6) h18) h19), ⟨by simp only; omega, by simp only; rw [sb_take _ hw, hX]; exact o2⟩⟩, (by simp only; omega)⟩
 ·
  have hjE : j = n1 := by omega
  subst hjE
  rw [hn1, List.take_length, hX0] at hO
  obtain ⟨Ao, co, rfl, _, _⟩ := Own.slice hO
  refine JC_exit ?_
  refine thenQ_x ?_
  refine thenQ_x ?_
  refine blockQ_x ?_
  refine thenQ_n ?_
  refine JC_seq ?_
  refine JC_region ?_
  refine JO_q (QE_mv rfl) rfl ?_
  refine JO_q (QE_as rfl) rfl ?_
  refine JO_nil ?_
  refine thenQ_n ?_
  refine JC_ret ?_
  refine retQ_mk [_] _ (.inr rfl) (.tmp rfl (.nil)) rfl (Le.trans (Le.trans (Le.trans h1 h2) h3) I4.1) (fun sR hS2 => ?_)
  refine ⟨_, rfl, fun s2 hs2 hp => ⟨_, _, _, rfl, Own.strs hO (fun x hx => ?_) hp (by rw [← hX0, List.length_map])⟩⟩
  rw [← hX0] at hx
  obtain ⟨w, hw, rfl⟩ := List.mem_map.1 hx
  have h1 := hXl w
  have h2 := flds_short _ w hw
  omega
set_option maxHeartbeats 2000000 in
set_option maxRecDepth 100000 in
theorem begin_ac (D : Nat) (L : Hl) (s : World) (hG : GP s) (x : Ins) (A : Option Addr) (n c : Nat) (hu : U32 x.code) (hnm : x.name.length ≤ 1000000) : AC Tryz.prog D 50 [.agg #[St x.name, .int .u32 x.code, .bool x.operand, .slice A n c]] L s fun v L' _ => v = St (joinW (headW x.code x.name x.operand)) ∧ L = L' := by
 have hcl := dec_len10 hu.2
 refine AC_enter (TT := TT) (fn := Tryz.f50) TT_ok Tryz.func50 (by kernel_rfl) rfl Tryz.ntmps50 rfl (rs := [.tmp 2]) rfl [(0, _)] rfl ?_
 refine JC_seq ?_
 refine JC_region ?_
 refine JO_boxA rfl rfl ?_
 intro β1 s1 h1
 refine JO_q (QE_as rfl) rfl ?_
 refine JO_nil ?_
 refine thenQ_n ?_
 refine JC_seq ?_
 refine JC_region ?_
 refine JO_q (QE_as rfl) rfl ?_
 refine JO_nil ?_
 refine thenQ_n ?_
 refine JC_seq ?_
 refine JC_seq ?_
 refine JC_region ?_
 refine JO_q (QE_faB rfl rfl rfl rfl) rfl ?_
 refine JO_q (QE_ld1 0 rfl rfl rfl rfl rfl) rfl ?_
 refine JO_nil ?_
 refine thenQ_n ?_
 refine JC_if rfl (fun c2 => ?_) (fun c2 => ?_)
 ·
  have ho : x.operand = true := c2
  refine JC_region ?_
  refine JO_q (QE_as rfl) rfl ?_
  refine JO_nil ?_
  refine thenQ_n ?_
  refine JC_seq ?_
  refine JC_draw drawsMixed 13 rfl _ (fun _ h => h) ?_
  intro s3 h3
  refine JA_q 0 rfl (by kernel_rfl) (by kernel_rfl) (by kernel_rfl) trivial (QE_faB rfl rfl rfl rfl) rfl ?_
  refine JA_q 1 rfl (by kernel_rfl) (by kernel_rfl) (by kernel_rfl) trivial (QE_ld1 0 rfl rfl rfl rfl rfl) rfl ?_
  refine JA_q 5 rfl (by kernel_rfl) (by kernel_rfl) (by kernel_rfl) trivial (QE_fa0 rfl rfl rfl rfl) rfl ?_
  refine JA_q 6 rfl (by kernel_rfl) (by kernel_rfl) (by kernel_rfl) trivial (QE_ld1 0 rfl rfl rfl rfl rfl) rfl ?_
  refine JA_q 9 rfl (by kernel_rfl) (by kernel_rfl) (by kernel_rfl) trivial (QE_mv rfl) rfl ?_
  refine JA_1 2 (by kernel_rfl) ?_
  refine JB_call rfl trivial (first := []) (captured := []) rfl rfl rfl (number_ac D _ _ (hG.le (Le.trans h1 h3)) x.code hu) ?_
  rintro _ _ s4 h4 ⟨rfl, rfl⟩
  refine ⟨fun _ _ h => h, ?_⟩
  refine JA_q 3 rfl (by kernel_rfl) (by kernel_rfl) (by kernel_rfl) trivial (QE_sadd rfl rfl (by simp only [List.length_append, List.length_cons, List.length_nil]; omega)) rfl ?_
  refine JA_q 4 rfl (by kernel_rfl) (by kernel_rfl) (by kernel_rfl) trivial (QE_sadd rfl rfl (by simp only [List.length_append, List.length_cons, List.length_nil]; omega)) rfl ?_
  refine JA_q 7 rfl (by kernel_rfl) (by kernel_rfl) (by kernel_rfl) trivial (QE_sadd rfl rfl (by simp only [List.length_append, List.length_cons, List.length_nil]; omega)) rfl ?_
  refine JA_q 8 rfl (by kernel_rfl) (by kernel_rfl) (by kernel_rfl) trivial (QE_sadd rfl rfl (by simp only [List.length_append, List.length_cons, List.length_nil]; omega)) rfl ?_
  refine JA_q 10 rfl (by kernel_rfl) (by kernel_rfl) (by kernel_rfl) trivial (QE_sadd rfl rfl (by simp only [List.length_append, List.length_cons, List.length_nil]; omega)) rfl ?_
  refine JA_q 11 rfl (by kernel_rfl) (by kernel_rfl) (by kernel_rfl) trivial (QE_sadd rfl rfl (by simp only [List.length_append, List.length_cons, List.length_nil]; omega)) rfl ?_
  refine JA_q 12 rfl (by kernel_rfl) (by kernel_rfl) (by kernel_rfl) trivial (QE_as rfl) rfl ?_
  refine JA_done (by kernel_rfl) ?_
  refine thenQ_n ?_
  refine JC_ret ?_
  refine retQ_mk [_] L (.inr rfl) (.tmp rfl (.nil)) rfl (Le.trans (Le.trans h1 h3) h4) (fun sR hS2 => ?_)
  exact ⟨by rw [join_head, ho]; rfl, rfl⟩
 ·
  have ho : x.operand = false := c2
  refine JC_skip ?_
  refine thenQ_n ?_
  refine JC_seq ?_
  refine JC_draw drawsMixed 13 rfl _ (fun _ h => h) ?_
  intro s5 h5
  refine JA_q 0 rfl (by kernel_rfl) (by kernel_rfl) (by kernel_rfl) trivial (QE_faB rfl rfl rfl rfl) rfl ?_
  refine JA_q 1 rfl (by kernel_rfl) (by kernel_rfl) (by kernel_rfl) trivial (QE_ld1 0 rfl rfl rfl rfl rfl) rfl ?_
  refine JA_q 5 rfl (by kernel_rfl) (by kernel_rfl) (by kernel_rfl) trivial (QE_fa0 rfl rfl rfl rfl) rfl ?_
  refine JA_q 6 rfl (by kernel_rfl) (by kernel_rfl) (by kernel_rfl) trivial (QE_ld1 0 rfl rfl rfl rfl rfl) rfl ?_
  refine JA_q 9 rfl (by kernel_rfl) (by kernel_rfl) (by kernel_rfl) trivial (QE_mv rfl) rfl ?_
  refine JA_1 2 (by kernel_rfl) ?_
  refine JB_call rfl trivial (first := []) (captured := []) rfl rfl rfl (number_ac D _ _ (hG.le (Le.trans h1 h5)) x.code hu) ?_
  rintro _ _ s6 h6 ⟨rfl, rfl⟩
  refine ⟨fun _ _ h => h, ?_⟩
  refine JA_q 3 rfl (by kernel_rfl) (by kernel_rfl) (by kernel_rfl) trivial (QE_sadd rfl rfl (by simp only [List.length_append, List.length_cons, List.length_nil]; omega)) rfl ?_
  refine JA_q 4 rfl (by kernel_rfl) (by kernel_rfl) (by kernel_rfl) trivial (QE_sadd rfl rfl (by simp only [List.length_append, List.length_cons, List.length_nil]; omega)) rfl ?_
  refine JA_q 7 rfl (by kernel_rfl) (by kernel_rfl) (by kernel_rfl) trivial (QE_sadd rfl rfl (by simp only [List.length_append, List.length_cons, List.length_nil]; omega)) rfl ?_
  refine JA_q 8 rfl (by kernel_rfl) (by kernel_rfl) (by kernel_rfl) trivial (QE_sadd rfl rfl (by simp only [List.length_append, List.length_cons, List.length_nil]; omega)) rfl ?_
  refine JA_q 10 rfl (by kernel_rfl) (by kernel_rfl) (by kernel_rfl) trivial (QE_sadd rfl rfl (by simp only [List.length_append, List.length_cons, List.length_nil]; omega)) rfl ?_
  refine JA_q 11 rfl (by kernel_rfl) (by kernel_rfl) (by kernel_rfl) trivial (QE_sadd rfl rfl (by simp only [List.length_append, List.length_cons, List.length_nil]; omega)) rfl ?_
  refine JA_q 12 rfl (by kernel_rfl) (by kernel_rfl) (by kernel_rfl) trivial (QE_as rfl) rfl ?_
  refine JA_done (by kernel_rfl) ?_
  refine thenQ_n ?_
  refine JC_ret ?_
  refine retQ_mk [_] L (.inr rfl) (.tmp rfl (.nil)) rfl (Le.trans (Le.trans h1 h5) h6) (fun sR hS2 => ?_)
  exact ⟨by rw [join_head, ho]; rfl, rfl⟩
theorem val_le {c : UInt8} (h : okC c = true) : 0 ≤ valC c ∧ valC c ≤ 66 := ⟨val_nn h, (chr_val h).2⟩
theorem mul_bound {v : Int} {k : Nat} (h : 0 ≤ v ∧ v ≤ 66) (hk : k + 1 ≤ 4000000) : 0 ≤ v * ((k : Int) + 1) ∧ v * ((k : Int) + 1) ≤ 264000000 := by
  refine ⟨Int.mul_nonneg h.1 (by omega), ?_⟩
  have h1 : v * ((k : Int) + 1) ≤ 66 * ((k : Int) + 1) := Int.mul_le_mul_of_nonneg_right h.2 (by omega)
  omega
theorem sumF_take {l : List UInt8} {k : Nat} {c : UInt8} (h : l[k]? = some c) : sumF 0 (l.take (k + 1)) = sumF 0 (l.take k) + valC c * ((k : Int) + 1) := by
  obtain ⟨hk, rfl⟩ := List.getElem?_eq_some_iff.1 h
  rw [List.take_succ_eq_append_getElem hk, sumF_app, List.length_take, Nat.min_eq_left (by omega)]
  simp [sumF]
theorem okT_all {l : List UInt8} (h : ∀ i c, i < l.length → l[i]? = some c → okC c = true) : okT l = true := by
  rw [okT, List.all_eq_true]
  intro c hc
  obtain ⟨i, hi⟩ := List.getElem?_of_mem hc
  exact h i c (List.getElem?_eq_some_iff.1 hi).1 hi
theorem okT_bad {l : List UInt8} {k : Nat} {c : UInt8} (h : l[k]? = some c) (hc : okC c = false) : okT l = false := by
  rw [Bool.eq_false_iff]; intro e
  have := List.all_eq_true.1 e c (List.mem_of_getElem? h)
  rw [hc] at this; cases this
set_option maxHeartbeats 2000000 in
set_option maxRecDepth 100000 in
theorem sumJ_ac (D : Nat) (L : Hl) (s : World) (A : Option Addr) (n c : Nat) (ws : List (List UInt8)) (hJ : ∀ s', Le D s s' → AC Tryz.prog D 28 [.slice A n c, St [32]] L s' fun v L' _ => v = St (joinW ws) ∧ L = L') (hl : (joinW ws).length ≤ 4000000) : AC Tryz.prog D 52 [.slice A n c] L s fun v L' _ => v = .tuple #[.int .i64 (if okT (joinW ws) = true then chkS (joinW ws) else 0), .bool (okT (joinW ws))] ∧ L = L' := by
 refine AC_enter (TT := TT) (fn := Tryz.f52) TT_ok Tryz.func52 (by kernel_rfl) rfl Tryz.ntmps52 rfl (rs := [.tmp 2, .tmp 3]) rfl [(0, _)] rfl ?_
 refine JC_seq ?_
 refine JC_region ?_
 refine JO_q (QE_as rfl) rfl ?_
 refine JO_q (QE_as rfl) rfl ?_
 refine JO_nil ?_
 refine thenQ_n ?_
 refine JC_seq ?_
 refine JC_region ?_
 refine JO_q (QE_as rfl) rfl ?_
 refine JO_nil ?_
 refine thenQ_n ?_
 refine JC_seq ?_
 refine JC_seq ?_
 refine JC_region ?_
 refine JO_q (QE_mv rfl) rfl ?_
 refine JO_call (first := []) (captured := []) rfl rfl rfl (hJ _ (Le.refl (D := D) _)) ?_
 rintro _ _ s1 h1 ⟨rfl, rfl⟩
 refine JO_s2b rfl rfl rfl rfl rfl rfl rfl (by omega) rfl ?_
 intro Ab cb1 s2 h2 hbt
 refine JO_q (QE_lenS rfl rfl rfl) rfl ?_
 refine JO_q (QE_mv rfl) rfl ?_
 refine JO_nil ?_
 refine thenQ_n ?_
 refine JC_block ?_
 refine JC_loop (γ := Nat) (fun k => [(2, _), (3, _), (4, .int .i64 (sumF 0 ((joinW ws).take k))), (10, _), (11, _), (12, .int .i64 (k : Int))]) (fun _ => _) (fun k tw => Le D s2 tw ∧ (k ≤ (joinW ws).length ∧ (∀ i c, i < k → (joinW ws)[i]? = some c → okC c = true) ∧ 0 ≤ sumF 0 ((joinW ws).take k) ∧ sumF 0 ((joinW ws).take k) ≤ 264000000 * (k : Int))) (fun k => (joinW ws).length - k) (fun _ _ _ h hl => ⟨h.1.trans hl, h.2⟩) 0 (Keeps.cons rfl (Keeps.cons rfl (Keeps.cons rfl (Keeps.cons rfl (Keeps.cons rfl (Keeps.cons rfl (Keeps.nil _))))))) rfl ⟨Le.refl _, ⟨Nat.zero_le _, fun i c hi => by omega, by simp [sumF], by simp [sumF]⟩⟩ ?_
 intro k s3 I3
 obtain ⟨hk0, hI, hs1, hs2⟩ := I3.2
 refine JC_seq ?_
 refine JC_region ?_
 refine JO_q (QE_lt rfl rfl) rfl ?_
 refine JO_nil ?_
 refine thenQ_n ?_
 refine JC_seq ?_
 refine JC_ifD rfl (fun c4 => ?_) (fun c4 => ?_)
 ·
  have hk : k < (joinW ws).length := by omega
  obtain ⟨b, off, ch, hEb, hch, hcc⟩ := Bts.at_ (hbt.le I3.1) hk
  subst hEb
  refine JC_skip ?_
  refine thenQ_n ?_
  refine JC_seq ?_
  refine JC_block ?_
  refine JC_seq ?_
  refine JC_region ?_
  refine JO_q (QE_mv rfl) rfl ?_
  refine JO_q (QE_ia1 rfl rfl rfl rfl rfl rfl hk) rfl ?_
  refine JO_q (QE_ldsR0 rfl rfl rfl (hcc.le (Le.refl (D := D) _)) rfl) rfl ?_
  refine JO_q (QE_as rfl) rfl ?_
  refine JO_q (QE_as rfl) rfl ?_
  refine JO_nil ?_
  refine thenQ_n ?_
  refine JC_seq ?_
  refine JC_region ?_
  refine JO_q (QE_mv rfl) rfl ?_
  refine JO_call (first := []) (captured := []) rfl rfl rfl (value_ac D _ _ ch) ?_
  rintro _ _ s5 h5 ⟨rfl, rfl⟩
  refine JO_q (QE_as rfl) rfl ?_
  refine JO_nil ?_
  refine thenQ_n ?_
  refine JC_seq ?_
  refine JC_seq ?_
  refine JC_region ?_
  refine JO_q (QE_mv rfl) rfl ?_
  refine JO_q (QE_lt rfl rfl) rfl ?_
  refine JO_nil ?_
  refine thenQ_n ?_
  refine JC_ifD rfl (fun c6 => ?_) (fun c6 => ?_)
  ·
   have hbad : okC ch = false := decide_eq_false (by omega)
   refine JC_seq ?_
   refine JC_region ?_
   refine JO_q (QE_as rfl) rfl ?_
   refine JO_q (QE_as rfl) rfl ?_
   refine JO_nil ?_
   refine thenQ_n ?_
   refine JC_ret ?_
   refine thenQ_r ?_
   refine blockQ_r ?_
   refine thenQ_r ?_
   refine thenQ_r ?_
   refine blockQ_r ?_
   refine thenQ_r ?_
   refine retQ_mk [] L (.inr rfl) (.tmp rfl (.tmp rfl (.nil))) rfl (Le.trans (Le.trans (Le.trans h1 h2) I3.1) h5) (fun sR hS2 => ?_)
   refine ⟨?_, rfl⟩
   first
     | (rw [okT_bad hch hbad]; rfl)
     | (have hokT := okT_all (fun i c hi hc => hI i c hi hc)
        have e : (sumF 0 (joinW ws)).tmod 9973 = chkS (joinW ws) := Int.tmod_eq_emod_of_nonneg hs1
        simp only [resV, hokT, if_true, e])
  ·
   have hok : okC ch = true := decide_eq_true (by omega)
   have hmb := mul_bound (val_le hok) (show k + 1 ≤ 4000000 by omega)
   refine JC_skip ?_
   refine thenQ_n ?_
   refine JC_region ?_
   refine JO_q (QE_mv rfl) rfl ?_
   refine JO_q (QE_mv rfl) rfl ?_
   refine JO_q (QE_mv rfl) rfl ?_
   refine JO_q (QE_add' rfl rfl (w64 (by omega) (by omega))) rfl ?_
   refine JO_q (QE_mul' rfl rfl (w64 (by omega) (by omega))) rfl ?_
   refine JO_q (QE_add' rfl rfl (w64 (by omega) (by omega))) rfl ?_
   refine JO_q (QE_as rfl) rfl ?_
   refine JO_nil ?_
   refine blockQ_n ?_
   refine thenQ_n ?_
   refine JC_region ?_
   refine JO_q (QE_add' rfl rfl (w64 (by omega) (by omega))) rfl ?_
   refine JO_q (QE_mv rfl) rfl ?_
   refine JO_nil ?_
   refine thenQ_n ⟨(k + 1), [], (Keeps.cons rfl (Keeps.cons rfl (Keeps.cons (by rw [sumF_take hch]; rfl) (Keeps.cons rfl (Keeps.cons rfl (Keeps.cons rfl (Keeps.nil _))))))), rfl, ⟨(Le.trans I3.1 h5), ⟨by omega, below_succ hI hch hok, by rw [sumF_take hch]; omega, by rw [sumF_take hch]; omega⟩⟩, (by omega)⟩
 ·
  have hkE : k = (joinW ws).length := by omega
  subst hkE
  rw [List.take_length] at *
  refine JC_exit ?_
  refine thenQ_x ?_
  refine thenQ_x ?_
  refine blockQ_x ?_
  refine thenQ_n ?_
  refine JC_seq ?_
  refine JC_region ?_
  refine JO_q (QE_mv rfl) rfl ?_
  refine JO_q (QE_rem rfl rfl (by omega)) rfl ?_
  refine JO_q (QE_as rfl) rfl ?_
  refine JO_q (QE_as rfl) rfl ?_
  refine JO_nil ?_
  refine thenQ_n ?_
  refine JC_ret ?_
  refine retQ_mk [] L (.inr rfl) (.tmp rfl (.tmp rfl (.nil))) rfl (Le.trans (Le.trans h1 h2) I3.1) (fun sR hS2 => ?_)
  refine ⟨?_, rfl⟩
  first
    | (rw [okT_bad hch hbad]; rfl)
    | (have hokT := okT_all (fun i c hi hc => hI i c hi hc)
       have e : (sumF 0 (joinW ws)).tmod 9973 = chkS (joinW ws) := Int.tmod_eq_emod_of_nonneg hs1
       simp only [resV, hokT, if_true, e])
theorem joinS_ac (D : Nat) (L : Hl) (s : World) (A : Option Addr) (n c : Nat) (ws : List (List UInt8)) (hS : Strs s A n c ws) (hl : (joinW ws).length ≤ 4000000) (hn : ws.length ≤ 4000000) : AC Tryz.prog D 28 [.slice A n c, St [32]] L s fun v L' _ => v = St (joinW ws) ∧ L = L' := by
  have := join1_ac D L s A n c ws hS 32 (by rw [join_lib]; omega) (by omega)
  rwa [join_lib] at this
theorem sum_ac (D : Nat) (L : Hl) (s : World) (A : Option Addr) (n c : Nat) (ws : List (List UInt8)) (hS : Strs s A n c ws) (hl : (joinW ws).length ≤ 4000000) (hn : ws.length ≤ 4000000) : AC Tryz.prog D 52 [.slice A n c] L s fun v L' _ => v = .tuple #[.int .i64 (if okT (joinW ws) = true then chkS (joinW ws) else 0), .bool (okT (joinW ws))] ∧ L = L' :=
  sumJ_ac D L s A n c ws (fun s' hl' => joinS_ac D L s' A n c ws (hS.le hl') hl hn) hl
theorem drop_at {α : Type} {l : List α} {k : Nat} {x : α} (h : l[k]? = some x) : l.drop k = x :: l.drop (k + 1) := by
  obtain ⟨hk, rfl⟩ := List.getElem?_eq_some_iff.1 h
  exact List.drop_eq_getElem_cons hk
set_option maxHeartbeats 2000000 in
set_option maxRecDepth 100000 in
theorem lines_ac (D : Nat) (L : Hl) (s : World) (A : Option Addr) (n c : Nat) (ws : List (List UInt8)) (hS : Strs s A n c ws) (hl : sizeW ws ≤ 4000000) : AC Tryz.prog D 27 [.slice A n c] L s fun v L' _ => v = St (linesW ws) ∧ L = L' := by
 have hn := hS.1
 have hc1 := hS.2.1
 have hc2 := hS.2.2.1
 refine AC_enter (TT := TT) (fn := Tryz.f27) TT_ok Tryz.func27 (by kernel_rfl) rfl Tryz.ntmps27 rfl (rs := [.tmp 2]) rfl [(0, _)] rfl ?_
 refine JC_seq ?_
 refine JC_region ?_
 refine JO_q (QE_as rfl) rfl ?_
 refine JO_nil ?_
 refine thenQ_n ?_
 refine JC_seq ?_
 refine JC_region ?_
 refine JO_q (QE_as rfl) rfl ?_
 refine JO_q (QE_as rfl) rfl ?_
 refine JO_nil ?_
 refine thenQ_n ?_
 refine JC_seq ?_
 refine JC_seq ?_
 refine JC_region ?_
 refine JO_q (QE_mv rfl) rfl ?_
 refine JO_q (QE_lenS rfl rfl rfl) rfl ?_
 refine JO_q (QE_mv rfl) rfl ?_
 refine JO_nil ?_
 refine thenQ_n ?_
 refine JC_block ?_
 refine JC_loop (γ := Nat × List UInt8 × List UInt8) (fun g => [(2, _), (3, St g.2.1), (4, St g.2.2), (7, _), (8, _), (9, .int .i64 (g.1 : Int))]) (fun _ => _) (fun g tw => Le D s tw ∧ (g.1 ≤ n ∧ g.2.1.length + g.2.2.length + 1 + sizeW (ws.drop g.1) ≤ 1 + sizeW ws ∧ lnF g.2.1 g.2.2 (ws.drop g.1) = linesW ws)) (fun g => n - g.1) (fun _ _ _ h hl => ⟨h.1.trans hl, h.2⟩) (0, [], []) (Keeps.cons rfl (Keeps.cons rfl (Keeps.cons rfl (Keeps.cons rfl (Keeps.cons rfl (Keeps.cons rfl (Keeps.nil _))))))) rfl ⟨Le.refl _, ⟨Nat.zero_le _, by simp, rfl⟩⟩ ?_
 intro g s1 I1
 obtain ⟨k, tx, ln⟩ := g
 obtain ⟨hk0, hz, hS1⟩ := I1.2
 simp only at hk0 hz hS1
 dsimp only
 refine JC_seq ?_
 refine JC_region ?_
 refine JO_q (QE_lt rfl rfl) rfl ?_
 refine JO_nil ?_
 refine thenQ_n ?_
 refine JC_seq ?_
 refine JC_ifD rfl (fun c2 => ?_) (fun c2 => ?_)
 ·
  have hk : k < n := by omega
  obtain ⟨b, off, w, rfl, hw, hcw, _⟩ := Strs.at_ (hS.le I1.1) hk
  rw [drop_at hw] at hz hS1
  rw [sizeW_cons] at hz
  refine JC_skip ?_
  refine thenQ_n ?_
  refine JC_seq ?_
  refine JC_block ?_
  refine JC_seq ?_
  refine JC_region ?_
  refine JO_q (QE_ia1 rfl rfl rfl rfl rfl rfl hk) rfl ?_
  refine JO_q (QE_ldsR0 rfl rfl rfl (hcw.le (Le.refl (D := D) _)) rfl) rfl ?_
  refine JO_q (QE_as rfl) rfl ?_
  refine JO_nil ?_
  refine thenQ_n ?_
  refine JC_block ?_
  refine JC_seq ?_
  refine JC_region ?_
  refine JO_q (QE_mv rfl) rfl ?_
  refine JO_q (QE_seq rfl rfl) rfl ?_
  refine JO_q (QE_as rfl) rfl ?_
  refine JO_nil ?_
  refine thenQ_n ?_
  refine JC_ifD rfl (fun c3 => ?_) (fun c3 => ?_)
  ·
   have hq1 : ln = [] := c3
   refine JC_region ?_
   refine JO_q (QE_mv rfl) rfl ?_
   refine JO_q (QE_as rfl) rfl ?_
   refine JO_nil ?_
   refine blockQ_n ?_
   refine blockQ_n ?_
   refine thenQ_n ?_
   refine JC_region ?_
   refine JO_q (QE_add' rfl rfl (w64 (by omega) (by omega))) rfl ?_
   refine JO_q (QE_mv rfl) rfl ?_
   refine JO_nil ?_
   refine thenQ_n ⟨(k + 1, tx, w), [], (Keeps.cons rfl (Keeps.cons rfl (Keeps.cons rfl (Keeps.cons rfl (Keeps.cons rfl (Keeps.cons rfl (Keeps.nil _))))))), rfl, ⟨I1.1, by first | exact ⟨by simp only; omega, by simp only [List.length_append, List.length_cons, List.length_nil]; omega, by simp only; rw [← hS1, lnF, if_pos hq1]⟩ | exact ⟨by simp only; omega, by simp only [List.length_append, List.length_cons, List.length_nil]; omega, by simp only; rw [← hS1, lnF, if_neg hq1, if_pos hq2]⟩ | exact ⟨by simp only; omega, by simp only [List.length_append, List.length_cons, List.length_nil]; omega, by simp only; rw [← hS1, lnF, if_neg hq1, if_neg hq2]⟩⟩, (by simp only; omega)⟩
  ·
   have hq1 : ¬ ln = [] := c3
   refine JC_seq ?_
   refine JC_region ?_
   refine JO_q (QE_mv rfl) rfl ?_
   refine JO_q (QE_lenT rfl rfl rfl) rfl ?_
   refine JO_q (QE_add' rfl rfl (w64 (by omega) (by omega))) rfl ?_
   refine JO_q (QE_mv rfl) rfl ?_
   refine JO_q (QE_lenT rfl rfl rfl) rfl ?_
   refine JO_q (QE_add' rfl rfl (w64 (by omega) (by omega))) rfl ?_
   refine JO_q (QE_gt rfl rfl) rfl ?_
   refine JO_q (QE_as rfl) rfl ?_
   refine JO_nil ?_
   refine thenQ_n ?_
   refine JC_ifD rfl (fun c4 => ?_) (fun c4 => ?_)
   ·
    have hq2 : 72 < ln.length + 1 + w.length := by omega
    refine JC_region ?_
    refine JO_q (QE_mv rfl) rfl ?_
    refine JO_q (QE_mv rfl) rfl ?_
    refine JO_q (QE_sadd rfl rfl (by first | omega | (simp only [List.length_append, List.length_cons, List.length_nil]; omega))) rfl ?_
    refine JO_q (QE_sadd rfl rfl (by first | omega | (simp only [List.length_append, List.length_cons, List.length_nil]; omega))) rfl ?_
    refine JO_q (QE_mv rfl) rfl ?_
    refine JO_q (QE_as rfl) rfl ?_
    refine JO_q (QE_as rfl) rfl ?_
    refine JO_nil ?_
    refine blockQ_n ?_
    refine blockQ_n ?_
    refine thenQ_n ?_
    refine JC_region ?_
    refine JO_q (QE_add' rfl rfl (w64 (by omega) (by omega))) rfl ?_
    refine JO_q (QE_mv rfl) rfl ?_
    refine JO_nil ?_
    refine thenQ_n ⟨(k + 1, tx ++ ln ++ [10], w), [], (Keeps.cons rfl (Keeps.cons rfl (Keeps.cons rfl (Keeps.cons rfl (Keeps.cons rfl (Keeps.cons rfl (Keeps.nil _))))))), rfl, ⟨I1.1, by first | exact ⟨by simp only; omega, by simp only [List.length_append, List.length_cons, List.length_nil]; omega, by simp only; rw [← hS1, lnF, if_pos hq1]⟩ | exact ⟨by simp only; omega, by simp only [List.length_append, List.length_cons, List.length_nil]; omega, by simp only; rw [← hS1, lnF, if_neg hq1, if_pos hq2]⟩ | exact ⟨by simp only; omega, by simp only [List.length_append, List.length_cons, List.length_nil]; omega, by simp only; rw [← hS1, lnF, if_neg hq1, if_neg hq2]⟩⟩, (by simp only; omega)⟩
   ·
    have hq2 : ¬ 72 < ln.length + 1 + w.length := by omega
    refine JC_region ?_
    refine JO_q (QE_mv rfl) rfl ?_
    refine JO_q (QE_mv rfl) rfl ?_
    refine JO_q (QE_sadd rfl rfl (by first | omega | (simp only [List.length_append, List.length_cons, List.length_nil]; omega))) rfl ?_
    refine JO_q (QE_sadd rfl rfl (by first | omega | (simp only [List.length_append, List.length_cons, List.length_nil]; omega))) rfl ?_
    refine JO_q (QE_as rfl) rfl ?_
    refine JO_nil ?_
    refine blockQ_n ?_
    refine blockQ_n ?_
    refine thenQ_n ?_
    refine JC_region ?_
    refine JO_q (QE_add' rfl rfl (w64 (by omega) (by omega))) rfl ?_
    refine JO_q (QE_mv rfl) rfl ?_
    refine JO_nil ?_
    refine thenQ_n ⟨(k + 1, tx, ln ++ 32 :: w), [], (Keeps.cons rfl (Keeps.cons rfl (Keeps.cons rfl (Keeps.cons rfl (Keeps.cons rfl (Keeps.cons rfl (Keeps.nil _))))))), rfl, ⟨I1.1, by first | exact ⟨by simp only; omega, by simp only [List.length_append, List.length_cons, List.length_nil]; omega, by simp only; rw [← hS1, lnF, if_pos hq1]⟩ | exact ⟨by simp only; omega, by simp only [List.length_append, List.length_cons, List.length_nil]; omega, by simp only; rw [← hS1, lnF, if_neg hq1, if_pos hq2]⟩ | exact ⟨by simp only; omega, by simp only [List.length_append, List.length_cons, List.length_nil]; omega, by simp only; rw [← hS1, lnF, if_neg hq1, if_neg hq2]⟩⟩, (by simp only; omega)⟩
 ·
  have hkE : k = n := by omega
  subst hkE
  rw [hn, List.drop_length, lnF] at hS1
  rw [hn, List.drop_length, sizeW_nil] at hz
  refine JC_exit ?_
  refine thenQ_x ?_
  refine thenQ_x ?_
  refine blockQ_x ?_
  refine thenQ_n ?_
  refine JC_seq ?_
  refine JC_region ?_
  refine JO_q (QE_mv rfl) rfl ?_
  refine JO_q (QE_mv rfl) rfl ?_
  refine JO_q (QE_sadd rfl rfl (by first | omega | (simp only [List.length_append, List.length_cons, List.length_nil]; omega))) rfl ?_
  refine JO_q (QE_sadd rfl rfl (by first | omega | (simp only [List.length_append, List.length_cons, List.length_nil]; omega))) rfl ?_
  refine JO_q (QE_as rfl) rfl ?_
  refine JO_nil ?_
  refine thenQ_n ?_
  refine JC_ret ?_
  refine retQ_mk [] L (.inr rfl) (.tmp rfl (.nil)) rfl I1.1 (fun sR hS2 => ?_)
  refine ⟨?_, rfl⟩
  rw [← hS1]; rfl
end Go.Proofs.YtoeeblegplghmaaGreatDoor
namespace Go.Proofs.YtoeeblegplghmaaGreatDoor
open Go.FL
attribute [local irreducible] JC JO JA JB thenQ blockQ retQ AC fill CellsAt QE Ev Mid
theorem itoaD_ac (D : Nat) (L : Hl) (s : World) (hG : GP s) (n : Int) (h0 : 0 ≤ n) (h1 : n ≤ 9223372036854775807) : AC Tryz.prog D 49 [.int .i64 n] L s fun v L' _ => v = St (decS n) ∧ L = L' := by
  have h := itoa_ac D L s hG.gw n (by omega) h1
  rwa [show Lib.itoa n = decS n by unfold Lib.itoa; rw [if_neg (by omega)]; rfl] at h
abbrev PR := Hl × Value × List (List UInt8)
def rowsL : List PR → Hl → Hl
  | [], T => T
  | x :: R, T => x.1 ++ rowsL R T
theorem rowsL_app (R : List PR) (T : Hl) : rowsL R T = rowsL R [] ++ T := by
  induction R with
  | nil => rfl
  | cons x R ih => rw [rowsL, rowsL, ih, List.append_assoc]
theorem rowsL_split (Q1 Q2 : List PR) (x : PR) (T : Hl) : rowsL (Q1 ++ x :: Q2) T = rowsL Q1 [] ++ (x.1 ++ rowsL Q2 T) := by
  induction Q1 with
  | nil => rfl
  | cons y Q1 ih => rw [List.cons_append, rowsL, rowsL, ih, List.append_assoc]
theorem rowsL_rev (R : List PR) (T : Hl) : (rowsL R T).Perm (rowsL R.reverse T) := by
  induction R generalizing T with
  | nil => exact List.Perm.refl _
  | cons x R ih =>
    rw [List.reverse_cons, rowsL_split, rowsL, rowsL]
    have h1 := ih T
    rw [rowsL_app R.reverse T] at h1
    refine (h1.append_left x.1).trans ?_
    rw [← List.append_assoc, ← List.append_assoc]
    exact List.perm_append_comm.append_right T
def RowsOK (e : Nat) (R : List PR) : Prop := ∀ x ∈ R, FL.Own e 1 x.1 x.2.1 x.2.2.length (sb x.2.2)
def Slss (s : World) (A : Option Addr) (n c : Nat) (l : List (List (List UInt8))) : Prop := Sl 1 (fun s ws cs => ∃ A' n' c', cs = [.slice A' n' c'] ∧ Strs s A' n' c' ws) s A n c l
theorem Slss.le {D : Nat} {s s' : World} {A : Option Addr} {n c : Nat} {l : List (List (List UInt8))} (h : Slss s A n c l) (hl : Le D s s') : Slss s' A n c l :=
  Sl.le (fun _ _ ⟨A', n', c', h1, h2⟩ => ⟨A', n', c', h1, h2.le hl⟩) h hl
theorem Slss.at_ {s : World} {A : Option Addr} {n c k : Nat} {l : List (List (List UInt8))} (h : Slss s A n c l) (hk : k < n) : ∃ b off ws A' n' c', A = some ⟨b, off, none⟩ ∧ l[k]? = some ws ∧ CellsAt s b (off + k) [.slice A' n' c'] ∧ Strs s A' n' c' ws := by
  have hl : k < l.length := by rw [← h.1]; exact hk
  obtain ⟨b, off, cs, h1, h2, _, A', n', c', rfl, h5⟩ := h.2.2.2 k l[k] (List.getElem?_eq_getElem hl)
  exact ⟨b, off, l[k], A', n', c', h1, List.getElem?_eq_getElem hl, by simpa using h2, h5⟩
theorem mem_rowsL {R : List PR} {x : PR} (h : x ∈ R) (T : Hl) : ∀ y ∈ x.1, y ∈ rowsL R T := by
  induction R with
  | nil => cases h
  | cons z R ih =>
    intro y hy
    rw [rowsL]
    rcases List.mem_cons.1 h with rfl | h
    · exact List.mem_append_left _ hy
    · exact List.mem_append_right _ (ih h y hy)
theorem slss_pub {e eo bo cap : Nat} {Q : List PR} {ys : List Value} {s : World} {M : Hl} (hR : RowsOK e Q) (hu : ∀ x ∈ Q, ∀ w ∈ x.2.2, w.length ≤ 9223372036854775807) (hp : Pub M s) (hbo : (bo, cb (Q.map (·.2.1) ++ ys) eo) ∈ M) (hrows : ∀ x ∈ Q, ∀ y ∈ x.1, y ∈ M) (hc : Q.length ≤ cap) (hm : cap ≤ 9223372036854775807) :
    Slss s (some ⟨bo, 0, none⟩) Q.length cap (Q.map (·.2.2)) := by
  refine ⟨by simp, hc, hm, fun i ws hi => ?_⟩
  rw [List.getElem?_map] at hi
  obtain ⟨x, hx, rfl⟩ := Option.map_eq_some_iff.1 hi
  have hxm := List.mem_of_getElem? hx
  obtain ⟨Ad, c, hv, _, _⟩ := Own.slice (hR x hxm)
  refine ⟨bo, 0, [x.2.1], rfl, ?_, rfl, Ad, x.2.2.length, c, by rw [hv], ?_⟩
  · have := hp bo _ eo hbo
    refine CellsAt.one ?_
    unfold CellsAt at this
    have h2 := this i x.2.1 (by rw [List.getElem?_append_left (by rw [List.length_map]; exact (List.getElem?_eq_some_iff.1 hx).1), List.getElem?_map, hx]; rfl)
    simpa using h2
  · have ho := hR x hxm
    rw [hv] at ho
    exact Own.strs ho (hu x hxm) (fun b zs t hm => hp b zs t (hrows x hxm _ hm)) rfl
theorem joinO_ac (D : Nat) (L : Hl) (s : World) {e : Nat} {M : Hl} {A : Option Addr} {n c : Nat} {ws : List (List UInt8)} (hO : FL.Own e 1 M (.slice A n c) n (sb ws)) (hM : ∀ y ∈ M, y ∈ L) (hn : n = ws.length) (hl : (joinW ws).length ≤ 4000000) (hw : ws.length ≤ 4000000) : AC Tryz.prog D 28 [.slice A n c, St [32]] L s fun v L' _ => v = St (joinW ws) ∧ L = L' := by
  subst hn
  by_cases h0 : ws = []
  · subst h0
    refine AC.of_calls fnok_join fun _ => (Any.strings_Join_none Tryz.lays156 Tryz.Builder_Extra_156 A c ⟨#[32]⟩ (fill L s)).mono fun e w' ⟨he, hw⟩ => ?_
    exact ⟨_, he, by rw [hw]; exact below_refl _, fun s' _ _ _ => ⟨rfl, rfl⟩⟩
  · have hpos : 0 < ws.length := List.length_pos_iff.2 h0
    obtain ⟨b, cap, ys, rfl, hv, h1, h2, h3⟩ := own_blk hO hpos
    injection hv with e1 e2 e3
    subst e1; subst e3
    have hmap : (ws.map fun x => (⟨x.toArray⟩ : ByteArray)).map (·.data.toList) = ws := by
      rw [List.map_map]; exact List.map_id'' (fun _ => rfl) _
    refine AC.of_calls fnok_join fun ho => ?_
    have hmem := hM _ (List.mem_cons_self ..)
    have hbk : b < (fill L s).heap.size := by rw [fill_size]; exact ho.lt hmem
    have := Any.strings_Join Tryz.lays156 Tryz.Builder_Extra_156 b 0 c (ws.map fun x => (⟨x.toArray⟩ : ByteArray)) ⟨#[32]⟩ (fill L s) (fun j x hj => by
      rw [mem_cell ho hmem, Nat.zero_add]
      rw [List.getElem?_map] at hj
      obtain ⟨y, hy, rfl⟩ := Option.map_eq_some_iff.1 hj
      rw [List.getElem?_append_left (by rw [sb_len]; exact (List.getElem?_eq_some_iff.1 hy).1), sb, List.getElem?_map, hy]; rfl) hbk (by rw [List.length_map]; omega) (by rw [List.length_map]; rw [sb_len] at h2; omega) (by rw [hmap]; show (Lib.join ws [32]).length ≤ _; rw [join_lib]; omega)
    rw [List.length_map, hmap] at this
    refine this.mono fun e w' ⟨he, hb⟩ => ⟨_, he, hb, fun s' _ _ _ => ⟨?_, rfl⟩⟩
    show St (Lib.join ws [32]) = _
    rw [join_lib]
theorem mach_join : okT machS = true ∧ machS.length ≤ 2000 := by decide +kernel
theorem sb_set (l : List (List UInt8)) (k : Nat) (w : List UInt8) : (sb l).set k (St w) = sb (l.set k w) := by rw [sb, sb, List.map_set]
theorem wordsS_ac (D : Nat) (L : Hl) (s : World) (hG : GP s) (a : Ac) (ha : AcC a) : AC Tryz.prog D 51 [.agg #[.int .i64 a.kind, .int .i64 a.tgt, .int .i64 a.x.kind, .int .u32 a.x.val, .int .i64 a.y.kind, .int .u32 a.y.val]] L s fun v L' s' => L = L' ∧ ∃ A n c, v = .slice A n c ∧ Strs s' A n c (wordsA a) := AC.pubW (wordsO_ac D L s hG a ha)
theorem size_len (ws : List (List UInt8)) : ws.length ≤ sizeW ws := by
  induction ws with
  | nil => exact Nat.le_refl _
  | cons w ws ih => rw [sizeW_cons, List.length_cons]; omega
theorem mem_size {ws : List (List UInt8)} {w : List UInt8} (h : w ∈ ws) : w.length ≤ sizeW ws := by
  induction ws with
  | nil => cases h
  | cons x ws ih =>
    rw [sizeW_cons]
    rcases List.mem_cons.1 h with rfl | h
    · omega
    · have := ih h; omega
end Go.Proofs.YtoeeblegplghmaaGreatDoor
namespace Go.Proofs.YtoeeblegplghmaaGreatDoor
open Go.FL
attribute [local irreducible] JC JO JA JB thenQ blockQ retQ AC fill CellsAt QE Ev Mid
def insP (t : Tab) (i : Nat) : List (List (List UInt8)) := cellW t.cells :: (t.ins.take i).map insW
theorem insP_next {t : Tab} {i : Nat} {x : Ins} (h : t.ins[i]? = some x) : insP t (i + 1) = insP t i ++ [insW x] := by
  obtain ⟨hi, rfl⟩ := List.getElem?_eq_some_iff.1 h
  rw [insP, insP, List.take_succ_eq_append_getElem hi, List.map_append]; rfl
theorem ins_take {x : Ins} {j : Nat} {a : Ac} (h : x.acts[j]? = some a) (p : List (List UInt8)) : p ++ ((x.acts.take (j + 1)).map wordsA).flatten = (p ++ ((x.acts.take j).map wordsA).flatten) ++ wordsA a := by
  obtain ⟨hj, rfl⟩ := List.getElem?_eq_some_iff.1 h
  rw [List.take_succ_eq_append_getElem hj, List.map_append, List.flatten_append, ← List.append_assoc]
  simp only [List.map_cons, List.map_nil, List.flatten_cons, List.flatten_nil, List.append_nil]
theorem sb_app (a b : List (List UInt8)) : sb (a ++ b) = sb a ++ sb b := by simp [sb]
theorem part_size {x : Ins} (h : InsP x) (j : Nat) : sizeW (headW x.code x.name x.operand ++ ((x.acts.take j).map wordsA).flatten) ≤ 700 := by
  have h1 := ins_size h
  have h2 : insW x = (headW x.code x.name x.operand ++ ((x.acts.take j).map wordsA).flatten) ++ ((x.acts.drop j).map wordsA).flatten := by
    rw [insW, List.append_assoc, ← List.flatten_append, ← List.map_append, List.take_append_drop]
  rw [h2, sizeW_app] at h1
  omega
theorem head_flds {x : Ins} (h : InsP x) : flds (joinW (headW x.code x.name x.operand)) = headW x.code x.name x.operand := flds_join _ (fun w hw => (head_ok h.nm w hw).1)
theorem split_at {Q : List PR} {k : Nat} {x : PR} (h : Q[k]? = some x) : Q = Q.take k ++ x :: Q.drop (k + 1) := by
  obtain ⟨hk, rfl⟩ := List.getElem?_eq_some_iff.1 h
  conv => lhs; rw [← List.take_append_drop k Q, List.drop_eq_getElem_cons hk]
theorem set_split {Q : List PR} {k : Nat} {x : PR} (h : k < Q.length) : Q.set k x = Q.take k ++ x :: Q.drop (k + 1) := List.set_eq_take_append_cons_drop.trans (if_pos h)
def upto (ps : List (List (List UInt8))) (k : Nat) : List (List (List UInt8)) := (ps.take k).map withC ++ ps.drop k
theorem upto_at {ps : List (List (List UInt8))} {k : Nat} {p : List (List UInt8)} (h : ps[k]? = some p) : (upto ps k)[k]? = some p ∧ upto ps (k + 1) = (upto ps k).set k (withC p) := by
  obtain ⟨hk, rfl⟩ := List.getElem?_eq_some_iff.1 h
  have hl : ((ps.take k).map withC).length = k := by rw [List.length_map, List.length_take]; omega
  refine ⟨?_, ?_⟩
  · rw [upto, List.getElem?_append_right (by omega), hl, Nat.sub_self, List.getElem?_drop, Nat.add_zero, List.getElem?_eq_getElem hk]
  · rw [upto, upto, List.set_append_right _ _ (by omega), hl, Nat.sub_self, List.drop_eq_getElem_cons hk, List.set_cons_zero, List.take_succ_eq_append_getElem hk, List.map_append]
    simp
theorem upto_all (ps : List (List (List UInt8))) : upto ps ps.length = ps.map withC := by rw [upto, List.take_length, List.drop_length, List.append_nil]
theorem upto_len (ps : List (List (List UInt8))) (k : Nat) : (upto ps k).length = ps.length := by
  rw [upto, List.length_append, List.length_map, ← List.length_append, List.take_append_drop]
set_option maxHeartbeats 4000000 in
set_option maxRecDepth 100000 in
theorem parasO_ac (D : Nat) (L : Hl) (s : World) (hG : GP s) (t : Tab) (A : Option Addr) (n c : Nat) (hA : Inss s A n c t.ins) (hT : TabP t) : AC Tryz.prog D 26 [.agg #[.int .i64 t.cells, .slice A n c]] L s fun v L' s' => ∃ M', L' = M' ++ L ∧ ∀ s2, Le D s' s2 → Pub M' s2 → ∃ A2 n2 c2, v = .slice A2 n2 c2 ∧ Slss s2 A2 n2 c2 ((parasT t).map withC) := by
 have hn := hA.1
 have hcl := hT.cells
 have hfew := hT.len
 have hmj := mach_join
 have hml : (flds machS).length = 320 := mach_len
 refine AC_enter (TT := TT) (fn := Tryz.f26) TT_ok Tryz.func26 (by kernel_rfl) rfl Tryz.ntmps26 rfl (rs := [.tmp 2]) rfl [(0, _)] rfl ?_
 refine JC_seq ?_
 refine JC_region ?_
 refine JO_boxA rfl rfl ?_
 intro β1 s1 h1
 refine JO_q (QE_as rfl) rfl ?_
 refine JO_nil ?_
 refine thenQ_n ?_
 refine JC_seq ?_
 refine JC_region ?_
 refine JO_call (first := []) (captured := []) rfl rfl rfl (fieldsO_ac D _ _ (hG.le h1) machS (by omega) hmj.1) ?_
 rintro _ _ s2 h2 ⟨βf, rfl, rfl⟩
 refine JO_q (QE_as rfl) rfl ?_
 refine JO_nil ?_
 refine thenQ_n ?_
 refine JC_seq ?_
 refine JC_region ?_
 refine JO_q (QE_mv rfl) rfl ?_
 refine JO_q (QE_fa0 rfl rfl rfl rfl) rfl ?_
 refine JO_q (QE_ld1 1 rfl rfl rfl rfl rfl) rfl ?_
 refine JO_call (first := []) (captured := []) rfl rfl rfl (itoaD_ac D _ _ (hG.le (Le.trans h1 h2)) t.cells (by omega) (by omega)) ?_
 rintro _ _ s3 h3 ⟨rfl, rfl⟩
 refine JO_q (QE_ia1 (j := 3) rfl rfl rfl rfl rfl rfl (by rw [hml]; decide)) rfl ?_
 refine JO_st 0 (sb (cellW t.cells)) rfl rfl rfl rfl rfl (by show Nat.ble (0 + 3 + 1) (sb machL).length = true; rw [sb_len, mach_len]; rfl) rfl (by have := spl_row (xs := sb machL) (ys := []) (k := 3) (St (decS t.cells)) (by rw [sb_len, mach_len]; decide); rw [List.append_nil, List.append_nil, sb_set] at this; exact this) rfl ?_
 refine JO_nil ?_
 refine thenQ_n ?_
 refine JC_seq ?_
 refine JC_region ?_
 refine JO_q (QE_mv rfl) rfl ?_
 refine JO_bsO [(_, _)] [_] rfl rfl rfl rfl rfl rfl rfl rfl rfl ?_
 intro βo s5 h5
 refine JO_q (QE_as rfl) rfl ?_
 refine JO_nil ?_
 refine thenQ_n ?_
 refine JC_seq ?_
 refine JC_seq ?_
 refine JC_front 1 ?_
 refine JC_front 2 ?_
 refine JC_region ?_
 refine JO_q (QE_faB rfl rfl rfl rfl) rfl ?_
 refine JO_q (QE_ld1 0 rfl rfl rfl rfl rfl) rfl ?_
 refine JO_q (QE_lenS rfl rfl rfl) rfl ?_
 refine JO_q (QE_mv rfl) rfl ?_
 refine JO_nil ?_
 refine thenQ_n ?_
 refine JC_block ?_
 
 refine JC_loop (γ := Nat × Value × Hl × List PR) (fun g => [(2, _), (4, g.2.1), (23, _), (24, _), (25, .int .i64 (g.1 : Int))]) (fun g => (β1, cb [.int .i64 t.cells, .slice A n c] 24) :: rowsL g.2.2.2 (g.2.2.1 ++ L)) (fun g tw => Le D s5 tw ∧ (g.1 ≤ n ∧ FL.Own 42 1 g.2.2.1 g.2.1 g.2.2.2.length ((g.2.2.2.map (·.2.1)).reverse) ∧ RowsOK 9 g.2.2.2 ∧ (g.2.2.2.map (·.2.2)).reverse = insP t g.1 ∧ g.2.2.2.length = g.1 + 1)) (fun g => n - g.1) (fun _ _ _ h hl => ⟨h.1.trans hl, h.2⟩) (0, .slice (some ⟨βo, 0, none⟩) 1 1, [(βo, cb [.slice (some ⟨βf, 0, none⟩) (flds machS).length (flds machS).length] 42)], [([(βf, cb (sb (cellW t.cells)) 9)], .slice (some ⟨βf, 0, none⟩) (flds machS).length (flds machS).length, cellW t.cells)]) (Keeps.cons rfl (Keeps.cons rfl (Keeps.cons rfl (Keeps.cons rfl (Keeps.cons rfl (Keeps.nil _)))))) rfl ⟨Le.refl _, ⟨Nat.zero_le _, Own.blk (e := 42) (sz := 1) βo 1 1 [_] [] rfl rfl (Nat.le_refl _) (by omega), (fun x hx => by
   simp only [List.mem_singleton] at hx
   subst hx
   have := own_row (e := 9) (β := βf) (ws := cellW t.cells) (by simp only [cellW, List.length_set, mach_len]; omega)
   have e : (cellW t.cells).length = (flds machS).length := by simp only [cellW, List.length_set]; rfl
   rw [e] at this; simp only; rw [e]; exact this), rfl, rfl⟩⟩ ?_
 intro g s6 I6
 obtain ⟨i, vo, Mo, R⟩ := g
 obtain ⟨hi0, hO, hR, hRw, hRl⟩ := I6.2
 simp only at hi0 hO hR hRw hRl
 dsimp only
 refine JC_seq ?_
 refine JC_region ?_
 refine JO_q (QE_lt rfl rfl) rfl ?_
 refine JO_nil ?_
 refine thenQ_n ?_
 refine JC_seq ?_
 refine JC_ifD rfl (fun c7 => ?_) (fun c7 => ?_)
 ·
  have hk : i < n := by omega
  obtain ⟨b, off, x, A', n', c', rfl, hx, hcx, hax, _, _⟩ := Inss.at_ (hA.le (Le.trans (Le.trans (Le.trans (Le.trans h1 h2) h3) h5) I6.1)) hk
  have hxp := hT.ins x (List.mem_of_getElem? hx)
  have hn' := hax.1
  have hx8 := hxp.few
  refine JC_skip ?_
  refine thenQ_n ?_
  refine JC_seq ?_
  refine JC_block ?_
  refine JC_seq ?_
  refine JC_region ?_
  refine JO_q (QE_iaN rfl rfl rfl rfl rfl rfl hk) rfl ?_
  refine JO_q (QE_ldsA rfl rfl rfl (hcx.le (Le.refl (D := D) _)) rfl) rfl ?_
  refine JO_allocZ rfl [_, _, _, _] rfl rfl ?_
  intro β8 s8 h8
  refine JO_st 0 [_, _, _, _] rfl rfl rfl rfl rfl rfl rfl rfl rfl ?_
  refine JO_nil ?_
  refine thenQ_n ?_
  refine JC_seq ?_
  refine JC_region ?_
  refine JO_q (QE_ldA 0 [_, _, _, _] rfl rfl rfl rfl rfl) rfl ?_
  refine JO_call (first := []) (captured := []) rfl rfl rfl (begin_ac D _ _ (hG.le (Le.trans (Le.trans (Le.trans (Le.trans (Le.trans h1 h2) h3) h5) I6.1) h8)) x A' n' c' hxp.code (by have := hxp.nm; simp only [labelB, Bool.and_eq_true, decide_eq_true_eq] at this; omega)) ?_
  rintro _ _ s9 h9 ⟨rfl, rfl⟩
  refine JO_call (first := []) (captured := []) rfl rfl rfl (fieldsO_ac D _ _ (hG.le (Le.trans (Le.trans (Le.trans (Le.trans (Le.trans (Le.trans h1 h2) h3) h5) I6.1) h8) h9)) (joinW (headW x.code x.name x.operand)) (by have := join_len (headW x.code x.name x.operand); have := part_size hxp 0; simp only [List.take_zero, List.map_nil, List.flatten_nil, List.append_nil] at this; omega) (join_ok fun w hw => (head_ok hxp.nm w hw).2.1)) ?_
  rintro _ _ s10 h10 ⟨βl, rfl, rfl⟩
  rw [head_flds hxp]
  refine JO_q (QE_as rfl) rfl ?_
  refine JO_nil ?_
  refine thenQ_n ?_
  refine JC_seq ?_
  refine JC_seq ?_
  refine JC_front 2 ?_
  refine JC_front 2 ?_
  refine JC_region ?_
  refine JO_q (QE_faB rfl rfl rfl rfl) rfl ?_
  refine JO_q (QE_ld1 0 rfl rfl rfl rfl rfl) rfl ?_
  refine JO_q (QE_lenS rfl rfl rfl) rfl ?_
  refine JO_q (QE_mv rfl) rfl ?_
  refine JO_nil ?_
  refine thenQ_n ?_
  refine JC_block ?_
  
  refine JC_loop (γ := Nat × Value × Hl) (fun g => [(2, _), (4, _), (7, g.2.1), (23, _), (24, _), (25, _), (33, _), (34, _), (35, .int .i64 (g.1 : Int))]) (fun g => (β8, cb [St x.name, .int .u32 x.code, .bool x.operand, .slice A' n' c'] 63) :: (β1, cb [.int .i64 t.cells, .slice (some ⟨b, off, none⟩) n c] 24) :: (g.2.2 ++ rowsL R (Mo ++ L))) (fun g tw => Le D s10 tw ∧ (g.1 ≤ n' ∧ FL.Own 9 1 g.2.2 g.2.1 (headW x.code x.name x.operand ++ ((x.acts.take g.1).map wordsA).flatten).length (sb (headW x.code x.name x.operand ++ ((x.acts.take g.1).map wordsA).flatten)))) (fun g => n' - g.1) (fun _ _ _ h hl => ⟨h.1.trans hl, h.2⟩) (0, _, [(βl, cb (sb (headW x.code x.name x.operand)) 9)]) (Keeps.cons rfl (Keeps.cons rfl (Keeps.cons rfl (Keeps.cons rfl (Keeps.cons rfl (Keeps.cons rfl (Keeps.cons rfl (Keeps.cons rfl (Keeps.cons rfl (Keeps.nil _)))))))))) rfl ⟨Le.refl _, ⟨Nat.zero_le _, by simp only [List.take_zero, List.map_nil, List.flatten_nil, List.append_nil]; exact own_row (by simp [headW])⟩⟩ ?_
  intro g s11 I11
  obtain ⟨j, vl, Ml⟩ := g
  obtain ⟨hj0, hOl⟩ := I11.2
  simp only at hj0 hOl
  dsimp only
  have hpz := part_size hxp j
  have hpl := size_len (headW x.code x.name x.operand ++ ((x.acts.take j).map wordsA).flatten)
  obtain ⟨lw, hlw⟩ : ∃ lw, lw = (headW x.code x.name x.operand ++ ((x.acts.take j).map wordsA).flatten).length := ⟨_, rfl⟩
  rw [← hlw] at hOl hpl
  refine JC_seq ?_
  refine JC_region ?_
  refine JO_q (QE_lt rfl rfl) rfl ?_
  refine JO_nil ?_
  refine thenQ_n ?_
  refine JC_seq ?_
  refine JC_ifD rfl (fun c12 => ?_) (fun c12 => ?_)
  ·
   have hj : j < n' := by omega
   obtain ⟨b5, off5, a, hE5, ha, hca, _⟩ := Acs.at_ (hax.le (Le.trans (Le.trans (Le.trans h8 h9) h10) I11.1)) hj
   subst hE5
   refine JC_skip ?_
   refine thenQ_n ?_
   refine JC_seq ?_
   refine JC_block ?_
   refine JC_seq ?_
   refine JC_region ?_
   refine JO_q (QE_iaN rfl rfl rfl rfl rfl rfl hj) rfl ?_
   refine JO_q (QE_ldsA rfl rfl rfl (hca.le (Le.refl (D := D) _)) rfl) rfl ?_
   refine JO_allocZ rfl [_, _, _, _, _, _] rfl rfl ?_
   intro β13 s13 h13
   refine JO_st 0 [_, _, _, _, _, _] rfl rfl rfl rfl rfl rfl rfl rfl rfl ?_
   refine JO_nil ?_
   refine thenQ_n ?_
   refine JC_region ?_
   refine JO_q (QE_mv rfl) rfl ?_
   refine JO_q (QE_ldA 0 [_, _, _, _, _, _] rfl rfl rfl rfl rfl) rfl ?_
   refine JO_call (first := []) (captured := []) rfl rfl rfl (wordsS_ac D _ _ (hG.le (Le.trans (Le.trans (Le.trans (Le.trans (Le.trans (Le.trans (Le.trans (Le.trans (Le.trans h1 h2) h3) h5) I6.1) h8) h9) h10) I11.1) h13)) a (hxp.acts a (List.mem_of_getElem? ha))) ?_
   rintro _ _ s14 h14 ⟨rfl, Aw, nw, cw, rfl, hSw⟩
   have hnw := hSw.1
   have hwz := size_len (wordsA a)
   have hws := words_size (hxp.acts a (List.mem_of_getElem? ha))
   refine JO_app (sz := 1) [_, _, _] Ml (rowsL R (Mo ++ L)) rfl rfl rfl rfl rfl rfl rfl hOl (hSw.row.le (Le.refl (D := D) _)) ⟨by simp [ti9]; omega, by omega⟩ rfl ?_
   intro vq Mq s15 h15 oq
   obtain ⟨Avq, cvq, rfl, _, _⟩ := Own.slice oq
   refine JO_q (QE_as rfl) rfl ?_
   refine JO_nil ?_
   refine blockQ_n ?_
   refine thenQ_n ?_
   refine JC_region ?_
   refine JO_q (QE_add' rfl rfl (w64 (by omega) (by omega))) rfl ?_
   refine JO_q (QE_mv rfl) rfl ?_
   refine JO_nil ?_
   refine thenQ_n ⟨(j + 1, .slice Avq (lw + nw) cvq, Mq), [_], (Keeps.cons rfl (Keeps.cons rfl (Keeps.cons rfl (Keeps.cons rfl (Keeps.cons rfl (Keeps.cons rfl (Keeps.cons rfl (Keeps.cons rfl (Keeps.cons rfl (Keeps.nil _)))))))))), rfl, ⟨(Le.trans (Le.trans (Le.trans I11.1 h13) h14) h15), ⟨by simp only; omega, by
     have e : (headW x.code x.name x.operand ++ ((x.acts.take j).map wordsA).flatten ++ wordsA a).length = lw + nw := by rw [List.length_append, ← hlw, ← hnw]
     simp only; rw [ins_take ha, sb_app, e]; exact oq⟩⟩, (by simp only; omega)⟩
  ·
   have hjE : j = n' := by omega
   subst hjE
   rw [hn', List.take_length] at hlw hOl
   have hlw2 : lw = (insW x).length := hlw
   obtain ⟨Avl, cvl, hvl, _, _⟩ := Own.slice hOl
   subst hvl
   have hLo : ∀ y z : Nat × Obj, y :: z :: (Ml ++ rowsL R (Mo ++ L)) = (y :: z :: (Ml ++ rowsL R [])) ++ (Mo ++ L) := fun y z => by rw [rowsL_app R (Mo ++ L)]; simp
   refine JC_exit ?_
   refine thenQ_x ?_
   refine thenQ_x ?_
   refine blockQ_x ?_
   refine thenQ_n ?_
   refine JC_region ?_
   refine JO_q (QE_mv rfl) rfl ?_
   refine JO_q (QE_mv rfl) rfl ?_
   refine JO_bs [(_, _)] [_] rfl rfl rfl rfl rfl rfl rfl rfl rfl ?_
   intro βn s16 h16 hcb
   refine JO_app (sz := 1) (_ :: _ :: (Ml ++ rowsL R [])) Mo L (hLo _ _) rfl rfl rfl rfl rfl rfl hO (Row.of_cells (hcb.le (Le.refl (D := D) _)) rfl rfl) ⟨by simp [ti42]; omega, by omega⟩ rfl ?_
   intro vz Mz s17 h17 oz
   obtain ⟨Avz, cvz, rfl, _, _⟩ := Own.slice oz
   have hLL : ∀ (y z : Nat × Obj) (T : Hl), (y :: z :: (Ml ++ rowsL R [])) ++ T = y :: z :: (Ml ++ rowsL R T) := fun y z T => by rw [rowsL_app R T]; simp
   rw [hLL]
   refine JO_q (QE_as rfl) rfl ?_
   refine JO_nil ?_
   refine blockQ_n ?_
   refine thenQ_n ?_
   refine JC_region ?_
   refine JO_q (QE_add' rfl rfl (w64 (by omega) (by omega))) rfl ?_
   refine JO_q (QE_mv rfl) rfl ?_
   refine JO_nil ?_
   refine thenQ_n ⟨(i + 1, .slice Avz (R.length + 1) cvz, Mz, (Ml, .slice Avl lw cvl, insW x) :: R), [_], (Keeps.cons rfl (Keeps.cons rfl (Keeps.cons rfl (Keeps.cons rfl (Keeps.cons rfl (Keeps.nil _)))))), rfl, ⟨(Le.trans (Le.trans (Le.trans (Le.trans (Le.trans (Le.trans I6.1 h8) h9) h10) I11.1) h16) h17), ⟨by simp only; omega, by simp only [List.map_cons, List.reverse_cons, List.length_cons]; exact oz, (fun y hy => by
     rcases List.mem_cons.1 hy with rfl | hy
     · simp only; rw [← hlw2]; exact hOl
     · exact hR y hy), by simp only [List.map_cons, List.reverse_cons]; rw [hRw, insP_next hx], by simp only [List.length_cons]; omega⟩⟩, (by simp only; omega)⟩
 ·
  refine JC_exit ?_
  refine thenQ_x ?_
  refine thenQ_x ?_
  refine blockQ_x ?_
  refine thenQ_n ?_
  refine JC_seq ?_
  refine JC_seq ?_
  have hiE : n = i := by omega
  subst hiE
  rw [hn, insP, List.take_length] at hRw
  obtain ⟨bo, cap, ys, hMo, hvo, hx1, hx2, hx3⟩ := own_blk hO (by omega)
  subst hMo
  subst hvo
  refine JC_perm (L' := (bo, cb (R.reverse.map (·.2.1) ++ ys) 42) :: (β1, cb [.int .i64 t.cells, .slice A n c] 24) :: rowsL R.reverse L) ?hperm ?_
  case hperm =>
    rw [List.map_reverse]
    have h1 := rowsL_rev R ([(bo, cb ((R.map (·.2.1)).reverse ++ ys) 42)] ++ L)
    refine (h1.cons _).trans ?_
    rw [rowsL_app R.reverse, rowsL_app R.reverse L]
    refine (List.Perm.cons _ (List.perm_middle (l₁ := rowsL R.reverse []))).trans ?_
    exact List.Perm.swap _ _ _
  refine JC_region ?_
  refine JO_q (QE_mv rfl) rfl ?_
  refine JO_q (QE_lenS rfl rfl rfl) rfl ?_
  refine JO_q (QE_mv rfl) rfl ?_
  refine JO_nil ?_
  refine thenQ_n ?_
  refine JC_block ?_
  refine JC_loop (γ := Nat × List PR) (fun g => [(2, _), (4, _), (49, _), (50, _), (51, .int .i64 (g.1 : Int))]) (fun g => (bo, cb (g.2.map (·.2.1) ++ ys) 42) :: (β1, cb [.int .i64 t.cells, .slice A n c] 24) :: rowsL g.2 L) (fun g tw => Le D s6 tw ∧ (g.1 ≤ R.length ∧ g.2.length = R.length ∧ RowsOK 9 g.2 ∧ g.2.map (·.2.2) = upto (parasT t) g.1)) (fun g => R.length - g.1) (fun _ _ _ h hl => ⟨h.1.trans hl, h.2⟩) (0, R.reverse) (Keeps.cons rfl (Keeps.cons rfl (Keeps.cons rfl (Keeps.cons rfl (Keeps.cons rfl (Keeps.nil _)))))) rfl ⟨Le.refl _, ⟨Nat.zero_le _, by simp, (fun x hx => hR x (List.mem_reverse.1 hx)), by rw [List.map_reverse, hRw]; rfl⟩⟩ ?_
  intro g s18 I18
  obtain ⟨k, Q⟩ := g
  obtain ⟨hk0, hQl, hQR, hQw⟩ := I18.2
  simp only at hk0 hQl hQR hQw
  dsimp only
  refine JC_seq ?_
  refine JC_region ?_
  refine JO_q (QE_lt rfl rfl) rfl ?_
  refine JO_nil ?_
  refine thenQ_n ?_
  refine JC_seq ?_
  refine JC_ifD rfl (fun c19 => ?_) (fun c19 => ?_)
  ·
   have hkN : k < R.length := by omega
   have hkQ : k < Q.length := by omega
   obtain ⟨⟨Mk, vk, wk⟩, hQk⟩ : ∃ x, Q[k]? = some x := ⟨_, List.getElem?_eq_getElem hkQ⟩
   obtain ⟨p, hp⟩ : ∃ p, (parasT t)[k]? = some p := ⟨_, List.getElem?_eq_getElem (show k < (parasT t).length by have := congrArg List.length hQw; rw [List.length_map, upto_len] at this; omega)⟩
   obtain rfl : p = wk := by
     have h := congrArg (fun l => l[k]?) hQw
     rw [(upto_at hp).1, List.getElem?_map, hQk] at h
     simpa using h.symm
   have hOk := hQR _ (List.mem_of_getElem? hQk)
   simp only at hOk
   obtain ⟨Ak, ck, hvE, _, _⟩ := Own.slice hOk
   subst hvE
   have hLs : ∀ y z : Nat × Obj, y :: z :: rowsL Q L = (y :: z :: rowsL (Q.take k) []) ++ (Mk ++ rowsL (Q.drop (k + 1)) L) := fun y z => by
     have h := rowsL_split (Q.take k) (Q.drop (k + 1)) (Mk, .slice Ak p.length ck, p) L
     rw [← split_at hQk] at h
     rw [h]; rfl
   have hvk : (Q.map (·.2.1))[k]? = some (.slice Ak p.length ck) := by rw [List.getElem?_map, hQk]; rfl
   have hpm := List.mem_of_getElem? hp
   have hpz := para_size hT p hpm
   have hpj := join_len p
   have hpl := size_len p
   have hokp : okT (joinW p) = true := join_ok fun w hw => (paras_ok hT p hpm w hw).2.1
   have hchk := chk_lt (joinW p)
   have hdl := dec_len10 (n := chkS (joinW p)) (by omega)
   refine JC_skip ?_
   refine thenQ_n ?_
   refine JC_seq ?_
   refine JC_block ?_
   refine JC_seq ?_
   refine JC_region ?_
   refine JO_q (QE_mv rfl) rfl ?_
   refine JO_q (QE_ia1 rfl rfl rfl rfl rfl rfl hkN) rfl ?_
   refine JO_q (QE_ld1 0 rfl rfl rfl rfl (nth_row hvk)) rfl ?_
   refine JO_q (QE_as rfl) rfl ?_
   refine JO_q (QE_as rfl) rfl ?_
   refine JO_nil ?_
   refine thenQ_n ?_
   refine JC_seq ?_
   refine JC_region ?_
   refine JO_q (QE_mv rfl) rfl ?_
   refine JO_call (first := []) (captured := []) rfl rfl rfl (sumJ_ac D _ _ Ak _ ck p (fun s' _ => joinO_ac D _ s' hOk (fun y hy => List.mem_cons_of_mem _ (List.mem_cons_of_mem _ (mem_rowsL (List.mem_of_getElem? hQk) L y hy))) rfl (by omega) (by omega)) (by omega)) ?_
   rintro _ _ s20 h20 ⟨rfl, rfl⟩
   rw [hokp, if_pos rfl]
   refine JO_q (QE_mv rfl) rfl ?_
   refine JO_q (QE_ext rfl rfl) rfl ?_
   refine JO_q (QE_ext rfl rfl) rfl ?_
   refine JO_q (QE_as rfl) rfl ?_
   refine JO_q (QE_as rfl) rfl ?_
   refine JO_nil ?_
   refine thenQ_n ?_
   refine JC_region ?_
   refine JO_q (QE_mv rfl) rfl ?_
   refine JO_q (QE_mv rfl) rfl ?_
   refine JO_q (QE_mv rfl) rfl ?_
   refine JO_q (QE_mv rfl) rfl ?_
   refine JO_call (first := []) (captured := []) rfl rfl rfl (itoaD_ac D _ _ (hG.le (Le.trans (Le.trans (Le.trans (Le.trans (Le.trans (Le.trans h1 h2) h3) h5) I6.1) I18.1) h20)) (chkS (joinW p)) hchk.1 (by omega)) ?_
   rintro _ _ s21 h21 ⟨rfl, rfl⟩
   refine JO_q (QE_sadd rfl rfl (by simp only [List.length_append, List.length_cons, List.length_nil]; omega)) rfl ?_
   refine JO_bs [(_, _), (_, _)] [_, _] rfl rfl rfl rfl rfl rfl rfl rfl rfl ?_
   intro βn s22 h22 hcb
   refine JO_app (sz := 1) (_ :: _ :: rowsL (Q.take k) []) Mk (rowsL (Q.drop (k + 1)) L) (hLs _ _) rfl rfl rfl rfl rfl rfl hOk (Row.of_cells (hcb.le (Le.refl (D := D) _)) rfl rfl) ⟨by simp [ti9]; omega, by omega⟩ rfl ?_
   intro vw Mw s23 h23 ow
   obtain ⟨Avw, cvw, rfl, _, _⟩ := Own.slice ow
   have hLL : ∀ (y z : Nat × Obj), (y :: z :: rowsL (Q.take k) []) ++ (Mw ++ rowsL (Q.drop (k + 1)) L) = y :: z :: rowsL (Q.set k (Mw, .slice Avw (p.length + 2) cvw, withC p)) L := fun y z => by rw [set_split hkQ, rowsL_split]; simp
   rw [hLL]
   refine JO_q (QE_ia1 rfl rfl rfl rfl rfl rfl hkN) rfl ?_
   refine JO_st 0 ((Q.set k (Mw, .slice Avw (p.length + 2) cvw, withC p)).map (·.2.1) ++ ys) rfl rfl rfl rfl rfl (ble_row (by rw [List.length_map]; exact hkQ)) rfl (by rw [List.map_set]; exact spl_row _ (by rw [List.length_map]; exact hkQ)) rfl ?_
   refine JO_nil ?_
   refine blockQ_n ?_
   refine thenQ_n ?_
   refine JC_region ?_
   refine JO_q (QE_add' rfl rfl (w64 (by omega) (by omega))) rfl ?_
   refine JO_q (QE_mv rfl) rfl ?_
   refine JO_nil ?_
   refine thenQ_n ⟨(k + 1, Q.set k (Mw, .slice Avw (p.length + 2) cvw, withC p)), [], (Keeps.cons rfl (Keeps.cons rfl (Keeps.cons rfl (Keeps.cons rfl (Keeps.cons rfl (Keeps.nil _)))))), rfl, ⟨(Le.trans (Le.trans (Le.trans (Le.trans I18.1 h20) h21) h22) h23), ⟨by simp only; omega, by simp only [List.length_set]; omega, (fun x hx => by
     rcases List.mem_or_eq_of_mem_set hx with hx | rfl
     · exact hQR x hx
     · simp only [withC, List.length_append, List.length_cons, List.length_nil, sb_app]; exact ow), by simp only [List.map_set]; rw [hQw, (upto_at hp).2]⟩⟩, (by simp only; omega)⟩
  ·
   refine JC_exit ?_
   refine thenQ_x ?_
   refine thenQ_x ?_
   refine blockQ_x ?_
   refine thenQ_n ?_
   refine JC_seq ?_
   refine JC_region ?_
   refine JO_q (QE_mv rfl) rfl ?_
   refine JO_q (QE_as rfl) rfl ?_
   refine JO_nil ?_
   refine thenQ_n ?_
   refine JC_ret ?_
   refine retQ_mk [] _ (.inr rfl) (.tmp rfl (.nil)) rfl (Le.trans (Le.trans (Le.trans (Le.trans (Le.trans h1 h2) h3) h5) I6.1) I18.1) (fun sR hS2 => ?_)
   have hkE : k = R.length := by omega
   subst hkE
   have hRp : (parasT t).length = R.length := by have := congrArg List.length hQw; rw [List.length_map, upto_len] at this; omega
   rw [← hRp, upto_all] at hQw
   refine ⟨(bo, _) :: _ :: rowsL Q [], by rw [rowsL_app Q L]; rfl, fun s2 hs2 hp => ⟨some ⟨bo, 0, none⟩, R.length, cap, rfl, ?_⟩⟩
   rw [← hQw, ← hQl]
   exact slss_pub hQR (fun x hx w hw => by
     have h1 : x.2.2 ∈ (parasT t).map withC := by rw [← hQw]; exact List.mem_map.2 ⟨x, hx, rfl⟩
     obtain ⟨q, hq, he⟩ := List.mem_map.1 h1
     rw [← he] at hw
     have h2 := mem_size hw
     have h3 := withC_size q
     have h4 := para_size hT q hq
     omega) hp (List.mem_cons_self ..) (fun x hx y hy => List.mem_cons_of_mem _ (List.mem_cons_of_mem _ (mem_rowsL hx [] y hy))) (by rw [List.length_reverse, List.length_map] at hx1 hx2; omega) hx3
end Go.Proofs.YtoeeblegplghmaaGreatDoor
namespace Go.Proofs.YtoeeblegplghmaaGreatDoor
open Go.FL
attribute [local irreducible] JC JO JA JB thenQ blockQ retQ AC fill CellsAt QE Ev Mid
theorem parasS_ac (D : Nat) (L : Hl) (s : World) (hG : GP s) (t : Tab) (A : Option Addr) (n c : Nat) (hA : Inss s A n c t.ins) (hT : TabP t) : AC Tryz.prog D 26 [.agg #[.int .i64 t.cells, .slice A n c]] L s fun v L' s' => L = L' ∧ ∃ A2 n2 c2, v = .slice A2 n2 c2 ∧ Slss s' A2 n2 c2 ((parasT t).map withC) := AC.pubW (parasO_ac D L s hG t A n c hA hT)
def textR (t : Tab) : List UInt8 := if (tabFault t).1 ≠ 0 then [] else pageT t
def linesT (t : Tab) : List (List UInt8) := (parasT t).map fun p => linesW (withC p)
theorem lines_take {t : Tab} {k : Nat} {ws : List (List UInt8)} (h : ((parasT t).map withC)[k]? = some ws) : sb ((linesT t).take (k + 1)) = sb ((linesT t).take k) ++ [St (linesW ws)] := by
  rw [List.getElem?_map] at h
  obtain ⟨p, hp, rfl⟩ := Option.map_eq_some_iff.1 h
  have hl : (linesT t)[k]? = some (linesW (withC p)) := by rw [linesT, List.getElem?_map, hp]; rfl
  obtain ⟨hk, he⟩ := List.getElem?_eq_some_iff.1 hl
  rw [List.take_succ_eq_append_getElem hk, he, sb_app]; rfl
theorem paraC_size {t : Tab} (hT : TabP t) {ws : List (List UInt8)} (h : ws ∈ (parasT t).map withC) : sizeW ws ≤ 2000 := by
  obtain ⟨p, hp, rfl⟩ := List.mem_map.1 h
  have h1 := withC_size p
  have h2 := para_size hT p hp
  omega
theorem linesT_len {t : Tab} (hT : TabP t) {w : List UInt8} (h : w ∈ linesT t) : w.length ≤ 2001 := by
  obtain ⟨p, hp, rfl⟩ := List.mem_map.1 h
  have h1 := lines_len (withC p)
  have h2 := paraC_size hT (List.mem_map.2 ⟨p, hp, rfl⟩)
  omega
set_option maxHeartbeats 2000000 in
set_option maxRecDepth 100000 in
theorem text_ac (D : Nat) (L : Hl) (s : World) (hG : GP s) (t : Tab) (A : Option Addr) (n c : Nat) (hA : Inss s A n c t.ins) : AC Tryz.prog D 9 [.agg #[.int .i64 t.cells, .slice A n c]] L s fun v L' _ => v = .tuple #[St (textR t), .agg #[.int .i64 (tabFault t).1, .int .i64 (tabFault t).2]] ∧ L = L' := by
 have hF := tab_zero t
 refine AC_enter (TT := TT) (fn := Tryz.f9) TT_ok Tryz.func9 (by kernel_rfl) rfl Tryz.ntmps9 rfl (rs := [.tmp 2, .cell 3 26]) rfl [(0, _)] rfl ?_
 refine JC_seq ?_
 refine JC_region ?_
 refine JO_boxA rfl rfl ?_
 intro β1 s1 h1
 refine JO_q (QE_as rfl) rfl ?_
 refine JO_allocZ rfl [_, _] rfl rfl ?_
 intro β2 s2 h2
 refine JO_nil ?_
 refine thenQ_n ?_
 refine JC_seq ?_
 refine JC_seq ?_
 refine JC_region ?_
 refine JO_q (QE_ldA 1 [_, _] rfl rfl rfl rfl rfl) rfl ?_
 refine JO_call (first := []) (captured := []) rfl rfl rfl (validate_ac D _ _ _ _ _ _ (hA.le (Le.trans h1 h2))) ?_
 rintro _ _ s3 h3 ⟨rfl, rfl⟩
 refine JO_allocZ rfl [_, _] rfl rfl ?_
 intro β4 s4 h4
 refine JO_st 0 [_, _] rfl rfl rfl rfl rfl rfl rfl rfl rfl ?_
 refine JO_nil ?_
 refine thenQ_n ?_
 refine JC_seq ?_
 refine JC_region ?_
 refine JO_q (QE_ldA 0 [_, _] rfl rfl rfl rfl rfl) rfl ?_
 refine JO_q (QE_build [] [_, _] rfl rfl rfl rfl rfl rfl) rfl ?_
 refine JO_q (QE_ane rfl rfl (eqFault _ _ _ _)) rfl ?_
 refine JO_nil ?_
 refine thenQ_n ?_
 refine JC_ifN rfl (fun c5 => ?_) (fun c5 => ?_)
 ·
  have hbad : (tabFault t).1 ≠ 0 := fun h => c5 ⟨h, hF h⟩
  refine JC_seq ?_
  refine JC_drawE drawsMixed 3 rfl [1] (by intro x hx; exact eraseAll_mem hx) ?_
  intro s6 h6
  refine JA_q 0 rfl (by kernel_rfl) (by kernel_rfl) (by kernel_rfl) trivial (QE_ldA 0 [_, _] rfl rfl rfl rfl rfl) rfl ?_
  refine JA_q 1 rfl (by kernel_rfl) (by kernel_rfl) (by kernel_rfl) trivial (QE_as rfl) rfl ?_
  refine JA_1 2 (by kernel_rfl) ?_
  refine JB_st rfl trivial 1 [_, _] rfl rfl rfl rfl rfl rfl rfl rfl rfl (fun _ hx => sub_mem (sbY (sbY (sbE _))) hx) ?_
  refine JA_done (by kernel_rfl) ?_
  refine thenQ_n ?_
  refine JC_ret ?_
  refine thenQ_r ?_
  refine retQ_mk [_, _, _] L (.inr rfl) (.tmp rfl (.agg (us := [_, _]) 1 rfl rfl rfl rfl rfl (.nil))) rfl (Le.trans (Le.trans (Le.trans (Le.trans h1 h2) h3) h4) h6) (fun sR hS2 => ?_)
  refine ⟨?_, rfl⟩
  first
    | (rw [show textR t = [] by rw [textR, if_pos hbad]]; rfl)
    | (rw [show textR t = joinN (linesT t) by rw [textR, if_neg (by rw [h0]; decide)]; rfl, h0, h0b]; rfl)
 ·
  have h0 : (tabFault t).1 = 0 := c5.1
  have h0b := hF h0
  have hT := tabP (Inss.tabU hA) h0
  have hpl : (parasT t).length ≤ 65 := by rw [parasT, List.length_cons, List.length_map]; have := hT.len; omega
  refine JC_skip ?_
  refine thenQ_n ?_
  refine JC_seq ?_
  refine JC_region ?_
  refine JO_q (QE_as rfl) rfl ?_
  refine JO_nil ?_
  refine thenQ_n ?_
  refine JC_seq ?_
  refine JC_seq ?_
  refine JC_region ?_
  refine JO_q (QE_ldA 2 [_, _] rfl rfl rfl rfl rfl) rfl ?_
  refine JO_call (first := []) (captured := []) rfl rfl rfl (parasS_ac D _ _ (hG.le (Le.trans (Le.trans (Le.trans h1 h2) h3) h4)) t _ _ _ (hA.le (Le.trans (Le.trans (Le.trans h1 h2) h3) h4)) hT) ?_
  rintro _ _ s7 h7 ⟨rfl, A2, n2, c2, rfl, hP⟩
  have hn2 := hP.1
  rw [List.length_map] at hn2
  refine JO_q (QE_lenS rfl rfl rfl) rfl ?_
  refine JO_q (QE_mv rfl) rfl ?_
  refine JO_nil ?_
  refine thenQ_n ?_
  refine JC_block ?_
  refine JC_loop (γ := Nat × Value × Hl) (fun g => [(2, _), (3, _), (5, g.2.1), (15, _), (16, _), (17, .int .i64 (g.1 : Int))]) (fun g => (β4, cb [.int .i64 (tabFault t).1, .int .i64 (tabFault t).2] 26) :: (β2, cb [.int .i64 0, .int .i64 0] 26) :: (β1, cb [.int .i64 t.cells, .slice A n c] 24) :: (g.2.2 ++ L)) (fun g tw => Le D s7 tw ∧ (g.1 ≤ n2 ∧ FL.Own 9 1 g.2.2 g.2.1 g.1 (sb ((linesT t).take g.1)))) (fun g => n2 - g.1) (fun _ _ _ h hl => ⟨h.1.trans hl, h.2⟩) (0, .slice none 0 0, []) (Keeps.cons rfl (Keeps.cons rfl (Keeps.cons rfl (Keeps.cons rfl (Keeps.cons rfl (Keeps.cons rfl (Keeps.nil _))))))) rfl ⟨Le.refl _, ⟨Nat.zero_le _, Own.nil⟩⟩ ?_
  intro g s8 I8
  obtain ⟨k, vo, Mo⟩ := g
  obtain ⟨hk0, hO⟩ := I8.2
  simp only at hk0 hO
  dsimp only
  refine JC_seq ?_
  refine JC_region ?_
  refine JO_q (QE_lt rfl rfl) rfl ?_
  refine JO_nil ?_
  refine thenQ_n ?_
  refine JC_seq ?_
  refine JC_ifD rfl (fun c9 => ?_) (fun c9 => ?_)
  ·
   have hk : k < n2 := by omega
   obtain ⟨b, off, ws, A', n', c', rfl, hwk, hcw, hws⟩ := Slss.at_ (hP.le I8.1) hk
   have hwz := paraC_size hT (List.mem_of_getElem? hwk)
   refine JC_skip ?_
   refine thenQ_n ?_
   refine JC_seq ?_
   refine JC_block ?_
   refine JC_seq ?_
   refine JC_region ?_
   refine JO_q (QE_ia1 rfl rfl rfl rfl rfl rfl hk) rfl ?_
   refine JO_q (QE_ldsR0 rfl rfl rfl (hcw.le (Le.refl (D := D) _)) rfl) rfl ?_
   refine JO_q (QE_as rfl) rfl ?_
   refine JO_nil ?_
   refine thenQ_n ?_
   refine JC_region ?_
   refine JO_q (QE_mv rfl) rfl ?_
   refine JO_q (QE_mv rfl) rfl ?_
   refine JO_call (first := []) (captured := []) rfl rfl rfl (lines_ac D _ _ _ _ _ ws (hws.le (Le.refl (D := D) _)) (by omega)) ?_
   rintro _ _ s10 h10 ⟨rfl, rfl⟩
   refine JO_bs [(_, _)] [_] rfl rfl rfl rfl rfl rfl rfl rfl rfl ?_
   intro βn s11 h11 hcb
   refine JO_app (sz := 1) [_, _, _] Mo L rfl rfl rfl rfl rfl rfl rfl hO (Row.of_cells (hcb.le (Le.refl (D := D) _)) rfl rfl) ⟨by simp [ti9]; omega, by omega⟩ rfl ?_
   intro vq Mq s12 h12 oq
   obtain ⟨Avq, cvq, rfl, _, _⟩ := Own.slice oq
   refine JO_q (QE_as rfl) rfl ?_
   refine JO_nil ?_
   refine blockQ_n ?_
   refine thenQ_n ?_
   refine JC_region ?_
   refine JO_q (QE_add' rfl rfl (w64 (by omega) (by omega))) rfl ?_
   refine JO_q (QE_mv rfl) rfl ?_
   refine JO_nil ?_
   refine thenQ_n ⟨(k + 1, .slice Avq (k + 1) cvq, Mq), [], (Keeps.cons rfl (Keeps.cons rfl (Keeps.cons rfl (Keeps.cons rfl (Keeps.cons rfl (Keeps.cons rfl (Keeps.nil _))))))), rfl, ⟨(Le.trans (Le.trans (Le.trans I8.1 h10) h11) h12), ⟨by simp only; omega, by simp only; rw [lines_take hwk]; exact oq⟩⟩, (by simp only; omega)⟩
  ·
   have hkE : n2 = k := by omega
   subst hkE
   have hfull : (linesT t).take n2 = linesT t := List.take_of_length_le (by rw [linesT, List.length_map]; omega)
   rw [hfull] at hO
   obtain ⟨Ao, co, rfl, _, _⟩ := Own.slice hO
   refine JC_exit ?_
   refine thenQ_x ?_
   refine thenQ_x ?_
   refine blockQ_x ?_
   refine thenQ_n ?_
   refine JC_seq ?_
   refine JC_pubX [_, _, _] Mo _ ?_
   intro s13 h13 hpub13
   simp only [List.cons_append, List.nil_append]
   have hSt := Own.strs hO (fun w hw => by have := linesT_len hT hw; omega) hpub13 (by rw [linesT, List.length_map]; omega)
   refine JC_region ?_
   refine JO_q (QE_mv rfl) rfl ?_
   refine JO_call (first := []) (captured := []) rfl rfl rfl (join1_ac D _ _ _ _ _ (linesT t) (hSt.le (Le.refl (D := D) _)) 10 (by rw [joinN_lib]; have := page_len hT; exact Nat.le_trans this (by decide)) (by rw [linesT, List.length_map]; omega)) ?_
   rintro _ _ s14 h14 ⟨rfl, rfl⟩
   rw [joinN_lib]
   refine JO_q (QE_build [] [_, _] rfl rfl rfl rfl rfl rfl) rfl ?_
   refine JO_q (QE_as rfl) rfl ?_
   refine JO_st 1 [_, _] rfl rfl rfl rfl rfl rfl rfl rfl rfl ?_
   refine JO_nil ?_
   refine thenQ_n ?_
   refine JC_ret ?_
   refine retQ_mk [_, _, _] L (.inr rfl) (.tmp rfl (.agg (us := [_, _]) 1 rfl rfl rfl rfl rfl (.nil))) rfl (Le.trans (Le.trans (Le.trans (Le.trans (Le.trans (Le.trans (Le.trans h1 h2) h3) h4) h7) I8.1) h13) h14) (fun sR hS2 => ?_)
   refine ⟨?_, rfl⟩
   first
     | (rw [show textR t = [] by rw [textR, if_pos hbad]]; rfl)
     | (rw [show textR t = joinN (linesT t) by rw [textR, if_neg (by rw [h0]; decide)]; rfl, h0, h0b]; rfl)
end Go.Proofs.YtoeeblegplghmaaGreatDoor
namespace Go.Proofs.YtoeeblegplghmaaGreatDoor
open Go.FL
attribute [local irreducible] JC JO JA JB thenQ blockQ retQ AC fill CellsAt QE Ev Mid
theorem reg_fnd0 : ∀ n, n < 256 → fndI (fnd (UInt8.ofNat n) [65, 66, 67, 68, 80]) = regN [UInt8.ofNat n] := by decide +kernel
theorem reg_fnd (c : UInt8) : fndI (fnd c [65, 66, 67, 68, 80]) = regN [c] := by
  have := reg_fnd0 c.toNat c.toNat_lt
  rwa [UInt8.ofNat_toNat] at this
theorem regN_long {w : List UInt8} (h : w.length ≠ 1) : regN w = -1 := by
  unfold regN
  rw [if_neg (fun e => h (by rw [e]; rfl)), if_neg (fun e => h (by rw [e]; rfl)), if_neg (fun e => h (by rw [e]; rfl)), if_neg (fun e => h (by rw [e]; rfl)), if_neg (fun e => h (by rw [e]; rfl))]
theorem regN_le (w : List UInt8) : -1 ≤ regN w ∧ regN w ≤ 4 := by
  unfold regN
  repeat' split
  all_goals (constructor <;> decide)
theorem trm_N : trmO [78] = some ⟨2, 0⟩ := rfl
theorem trm_reg {w : List UInt8} (h1 : ¬ w = [78]) (h2 : 0 ≤ regN w) : trmO w = some ⟨1, regN w⟩ := by rw [trmO, if_neg h1, if_pos h2]
theorem trm_num {w : List UInt8} (h1 : ¬ w = [78]) (h2 : ¬ 0 ≤ regN w) : trmO w = (numL w).map fun (n : Nat) => ⟨0, (n : Int)⟩ := by rw [trmO, if_neg h1, if_neg h2]
set_option maxHeartbeats 1000000 in
set_option maxRecDepth 100000 in
theorem register_ac (D : Nat) (L : Hl) (s : World) (w : List UInt8) : AC Tryz.prog D 92 [St w] L s fun v L' _ => v = .int .i64 (regN w) ∧ L = L' := by
 refine AC_enter (TT := TT) (fn := Tryz.f92) TT_ok Tryz.func92 (by kernel_rfl) rfl Tryz.ntmps92 rfl (rs := [.tmp 2]) rfl [(0, _)] rfl ?_
 refine JC_seq ?_
 refine JC_region ?_
 refine JO_q (QE_as rfl) rfl ?_
 refine JO_nil ?_
 refine thenQ_n ?_
 refine JC_seq ?_
 refine JC_seq ?_
 refine JC_region ?_
 refine JO_q (QE_mv rfl) rfl ?_
 refine JO_q (QE_lenT rfl rfl rfl) rfl ?_
 refine JO_q (QE_ne rfl rfl) rfl ?_
 refine JO_nil ?_
 refine thenQ_n ?_
 refine JC_ifN rfl (fun c1 => ?_) (fun c1 => ?_)
 ·
  have hw : w.length ≠ 1 := fun h => c1 (by rw [h]; rfl)
  refine JC_seq ?_
  refine JC_region ?_
  refine JO_q (QE_as rfl) rfl ?_
  refine JO_nil ?_
  refine thenQ_n ?_
  refine JC_ret ?_
  refine thenQ_r ?_
  refine retQ_mk [] L (.inr rfl) (.tmp rfl (.nil)) rfl (Le.refl (D := D) _) (fun sR hS2 => ?_)
  refine ⟨?_, rfl⟩
  first
    | (rw [regN_long hw]; rfl)
    | (rw [← reg_fnd]; rfl)
 ·
  have hw : w.length = 1 := by have := c1; omega
  obtain ⟨ch, rfl⟩ := List.length_eq_one_iff.1 hw
  refine JC_skip ?_
  refine thenQ_n ?_
  refine JC_seq ?_
  refine JC_region ?_
  refine JO_q (QE_mv rfl) rfl ?_
  refine JO_call (first := []) (captured := []) rfl rfl rfl (sindex_ac D _ _ [65, 66, 67, 68, 80] ch) ?_
  rintro _ _ s2 h2 ⟨rfl, rfl⟩
  refine JO_q (QE_as rfl) rfl ?_
  refine JO_nil ?_
  refine thenQ_n ?_
  refine JC_ret ?_
  refine retQ_mk [] L (.inr rfl) (.tmp rfl (.nil)) rfl h2 (fun sR hS2 => ?_)
  refine ⟨?_, rfl⟩
  first
    | (rw [regN_long hw]; rfl)
    | (rw [← reg_fnd]; rfl)
set_option maxHeartbeats 1000000 in
set_option maxRecDepth 100000 in
theorem readTerm_ac (D : Nat) (L : Hl) (s : World) (hG : GP s) (w : List UInt8) (hl : w.length ≤ 4000000) : AC Tryz.prog D 93 [St w] L s fun v L' _ => L = L' ∧ ∃ x : Tm, v = .tuple #[.agg #[.int .i64 x.kind, .int .u32 x.val], .bool (trmO w).isSome] ∧ U32 x.val ∧ ∀ y, trmO w = some y → x = y := by
 have hrl := regN_le w
 refine AC_enter (TT := TT) (fn := Tryz.f93) TT_ok Tryz.func93 (by kernel_rfl) rfl Tryz.ntmps93 rfl (rs := [.cell 2 66, .tmp 3]) rfl [(0, _)] rfl ?_
 refine JC_seq ?_
 refine JC_region ?_
 refine JO_allocZ rfl [_, _] rfl rfl ?_
 intro β1 s1 h1
 refine JO_q (QE_as rfl) rfl ?_
 refine JO_nil ?_
 refine thenQ_n ?_
 refine JC_seq ?_
 refine JC_seq ?_
 refine JC_region ?_
 refine JO_q (QE_mv rfl) rfl ?_
 refine JO_q (QE_seq rfl rfl) rfl ?_
 refine JO_nil ?_
 refine thenQ_n ?_
 refine JC_ifD rfl (fun c2 => ?_) (fun c2 => ?_)
 ·
  have h78 : w = [78] := c2
  subst h78
  refine JC_seq ?_
  refine JC_region ?_
  refine JO_q (QE_build [(_, _)] [_, _] rfl rfl rfl rfl rfl rfl) rfl ?_
  refine JO_st 0 [_, _] rfl rfl rfl rfl rfl rfl rfl rfl rfl ?_
  refine JO_q (QE_as rfl) rfl ?_
  refine JO_nil ?_
  refine thenQ_n ?_
  refine JC_ret ?_
  refine thenQ_r ?_
  refine retQ_mk [_] L (.inr rfl) (.agg (us := [_, _]) 0 rfl rfl rfl rfl rfl (.tmp rfl (.nil))) rfl h1 (fun sR hS2 => ?_)
  refine ⟨rfl, ?_⟩
  first
    | exact ⟨⟨2, 0⟩, rfl, ⟨by decide, by decide⟩, fun y hy => by rw [trm_N] at hy; injection hy⟩
    | exact ⟨⟨1, regN w⟩, by rw [trm_reg h78 hr]; rfl, ⟨hr, by simp only; omega⟩, fun y hy => by rw [trm_reg h78 hr] at hy; injection hy⟩
    | exact ⟨⟨0, kn⟩, by rw [trm_num h78 hr, Option.isSome_map]; rfl, hku, fun y hy => by
        rw [trm_num h78 hr] at hy
        obtain ⟨u, hu, rfl⟩ := Option.map_eq_some_iff.1 hy
        rw [hkv u hu]⟩
 ·
  have h78 : ¬ w = [78] := c2
  refine JC_skip ?_
  refine thenQ_n ?_
  refine JC_seq ?_
  refine JC_seq ?_
  refine JC_region ?_
  refine JO_q (QE_mv rfl) rfl ?_
  refine JO_call (first := []) (captured := []) rfl rfl rfl (register_ac D _ _ w) ?_
  rintro _ _ s3 h3 ⟨rfl, rfl⟩
  refine JO_q (QE_as rfl) rfl ?_
  refine JO_nil ?_
  refine thenQ_n ?_
  refine JC_seq ?_
  refine JC_region ?_
  refine JO_q (QE_mv rfl) rfl ?_
  refine JO_q (QE_ge rfl rfl) rfl ?_
  refine JO_nil ?_
  refine thenQ_n ?_
  refine JC_ifD rfl (fun c4 => ?_) (fun c4 => ?_)
  ·
   have hr : 0 ≤ regN w := c4
   refine JC_seq ?_
   refine JC_region ?_
   refine JO_q (QE_mv rfl) rfl ?_
   refine JO_q (QE_conv' rfl rfl rfl rfl rfl (show IntKind.u32.wrap (regN w) = regN w by rw [IntKind.wrap_u32]; omega)) rfl ?_
   refine JO_q (QE_build [(_, _), (_, _)] [_, _] rfl rfl rfl rfl rfl rfl) rfl ?_
   refine JO_st 0 [_, _] rfl rfl rfl rfl rfl rfl rfl rfl rfl ?_
   refine JO_q (QE_as rfl) rfl ?_
   refine JO_nil ?_
   refine thenQ_n ?_
   refine JC_ret ?_
   refine thenQ_r ?_
   refine retQ_mk [_] L (.inr rfl) (.agg (us := [_, _]) 0 rfl rfl rfl rfl rfl (.tmp rfl (.nil))) rfl (Le.trans h1 h3) (fun sR hS2 => ?_)
   refine ⟨rfl, ?_⟩
   first
     | exact ⟨⟨2, 0⟩, rfl, ⟨by decide, by decide⟩, fun y hy => by rw [trm_N] at hy; injection hy⟩
     | exact ⟨⟨1, regN w⟩, by rw [trm_reg h78 hr]; rfl, ⟨hr, by simp only; omega⟩, fun y hy => by rw [trm_reg h78 hr] at hy; injection hy⟩
     | exact ⟨⟨0, kn⟩, by rw [trm_num h78 hr, Option.isSome_map]; rfl, hku, fun y hy => by
         rw [trm_num h78 hr] at hy
         obtain ⟨u, hu, rfl⟩ := Option.map_eq_some_iff.1 hy
         rw [hkv u hu]⟩
  ·
   have hr : ¬ 0 ≤ regN w := c4
   refine JC_skip ?_
   refine thenQ_n ?_
   refine JC_seq ?_
   refine JC_region ?_
   refine JO_q (QE_mv rfl) rfl ?_
   refine JO_call (first := []) (captured := []) rfl rfl rfl (readNum_ac D _ _ (hG.gw.le (Le.trans h1 h3)) w (by omega)) ?_
   rintro _ _ s5 h5 ⟨rfl, kn, rfl, hku, hkv⟩
   refine JO_q (QE_mv rfl) rfl ?_
   refine JO_q (QE_ext rfl rfl) rfl ?_
   refine JO_q (QE_ext rfl rfl) rfl ?_
   refine JO_q (QE_as rfl) rfl ?_
   refine JO_q (QE_as rfl) rfl ?_
   refine JO_nil ?_
   refine thenQ_n ?_
   refine JC_seq ?_
   refine JC_region ?_
   refine JO_q (QE_mv rfl) rfl ?_
   refine JO_q (QE_build [(_, _)] [_, _] rfl rfl rfl rfl rfl rfl) rfl ?_
   refine JO_q (QE_mv rfl) rfl ?_
   refine JO_st 0 [_, _] rfl rfl rfl rfl rfl rfl rfl rfl rfl ?_
   refine JO_q (QE_as rfl) rfl ?_
   refine JO_nil ?_
   refine thenQ_n ?_
   refine JC_ret ?_
   refine retQ_mk [_] L (.inr rfl) (.agg (us := [_, _]) 0 rfl rfl rfl rfl rfl (.tmp rfl (.nil))) rfl (Le.trans (Le.trans h1 h3) h5) (fun sR hS2 => ?_)
   refine ⟨rfl, ?_⟩
   first
     | exact ⟨⟨2, 0⟩, rfl, ⟨by decide, by decide⟩, fun y hy => by rw [trm_N] at hy; injection hy⟩
     | exact ⟨⟨1, regN w⟩, by rw [trm_reg h78 hr]; rfl, ⟨hr, by simp only; omega⟩, fun y hy => by rw [trm_reg h78 hr] at hy; injection hy⟩
     | exact ⟨⟨0, kn⟩, by rw [trm_num h78 hr, Option.isSome_map]; rfl, hku, fun y hy => by
         rw [trm_num h78 hr] at hy
         obtain ⟨u, hu, rfl⟩ := Option.map_eq_some_iff.1 hy
         rw [hkv u hu]⟩
set_option maxHeartbeats 1000000 in
set_option maxRecDepth 100000 in
theorem sidx_ac (D : Nat) (L : Hl) (s : World) (A : Option Addr) (n c : Nat) (l : List (List UInt8)) (hA : Strs s A n c l) (w : List UInt8) : AC Tryz.prog D 65 [.slice A n c, St w] L s fun v L' _ => v = .int .i64 (idxOf (fun x => decide (w = x)) l 0) ∧ L = L' := by
 have hn := hA.1
 have hc1 := hA.2.1
 have hc2 := hA.2.2.1
 refine AC_enter (TT := TT) (fn := Tryz.f65) TT_ok Tryz.func65 (by kernel_rfl) rfl Tryz.ntmps65 rfl (rs := [.tmp 4]) rfl [(0, _), (1, _)] rfl ?_
 refine JC_seq ?_
 refine JC_region ?_
 refine JO_q (QE_as rfl) rfl ?_
 refine JO_nil ?_
 refine thenQ_n ?_
 refine JC_seq ?_
 refine JC_seq ?_
 refine JC_region ?_
 refine JO_q (QE_mv rfl) rfl ?_
 refine JO_q (QE_lenS rfl rfl rfl) rfl ?_
 refine JO_q (QE_mv rfl) rfl ?_
 refine JO_nil ?_
 refine thenQ_n ?_
 refine JC_block ?_
 refine JC_loop (γ := Nat) (fun k => [(0, _), (1, _), (4, _), (7, _), (8, .int .i64 (k : Int))]) (fun _ => _) (fun k tw => Le D s tw ∧ (k ≤ n ∧ ∀ i x, i < k → l[i]? = some x → decide (w = x) = false)) (fun k => n - k) (fun _ _ _ h hl => ⟨h.1.trans hl, h.2⟩) 0 (Keeps.cons rfl (Keeps.cons rfl (Keeps.cons rfl (Keeps.cons rfl (Keeps.cons rfl (Keeps.nil _)))))) rfl ⟨Le.refl _, ⟨Nat.zero_le _, fun i x hi => by omega⟩⟩ ?_
 intro k s1 I1
 have hk0 := I1.2.1
 have hI := I1.2.2
 refine JC_seq ?_
 refine JC_region ?_
 refine JO_q (QE_lt rfl rfl) rfl ?_
 refine JO_nil ?_
 refine thenQ_n ?_
 refine JC_seq ?_
 refine JC_ifD rfl (fun c2 => ?_) (fun c2 => ?_)
 ·
  have hk : k < n := by omega
  obtain ⟨b, off, x, rfl, hx, hcx, _⟩ := Strs.at_ (hA.le I1.1) hk
  refine JC_skip ?_
  refine thenQ_n ?_
  refine JC_seq ?_
  refine JC_block ?_
  refine JC_seq ?_
  refine JC_region ?_
  refine JO_q (QE_mv rfl) rfl ?_
  refine JO_q (QE_as rfl) rfl ?_
  refine JO_nil ?_
  refine thenQ_n ?_
  refine JC_seq ?_
  refine JC_region ?_
  refine JO_q (QE_mv rfl) rfl ?_
  refine JO_q (QE_mv rfl) rfl ?_
  refine JO_q (QE_mv rfl) rfl ?_
  refine JO_q (QE_ia1 rfl rfl rfl rfl rfl rfl hk) rfl ?_
  refine JO_q (QE_ldsR0 rfl rfl rfl hcx rfl) rfl ?_
  refine JO_q (QE_seq rfl rfl) rfl ?_
  refine JO_nil ?_
  refine thenQ_n ?_
  refine JC_ifD rfl (fun c3 => ?_) (fun c3 => ?_)
  ·
   have hz := decide_eq_true c3
   refine JC_seq ?_
   refine JC_region ?_
   refine JO_q (QE_mv rfl) rfl ?_
   refine JO_q (QE_as rfl) rfl ?_
   refine JO_nil ?_
   refine thenQ_n ?_
   refine JC_ret ?_
   refine blockQ_r ?_
   refine thenQ_r ?_
   refine thenQ_r ?_
   refine blockQ_r ?_
   refine thenQ_r ?_
   refine retQ_mk [] L (.inr rfl) (.tmp rfl (.nil)) rfl I1.1 (fun sR hS2 => ?_)
   refine ⟨?_, rfl⟩
   first
     | (simp only [resV]; rw [idxOf_hit hI hx hz, Nat.zero_add])
     | (simp only [resV]; rw [idxOf_none (fun i a hi h => hI i a (by omega) h)])
  ·
   have hz := decide_eq_false c3
   refine JC_skip ?_
   refine blockQ_n ?_
   refine thenQ_n ?_
   refine JC_region ?_
   refine JO_q (QE_add' rfl rfl (w64 (by omega) (by omega))) rfl ?_
   refine JO_q (QE_mv rfl) rfl ?_
   refine JO_nil ?_
   refine thenQ_n ⟨(k + 1), [], (Keeps.cons rfl (Keeps.cons rfl (Keeps.cons rfl (Keeps.cons rfl (Keeps.cons rfl (Keeps.nil _)))))), rfl, ⟨I1.1, ⟨by omega, below_succ hI hx hz⟩⟩, (by omega)⟩
 ·
  refine JC_exit ?_
  refine thenQ_x ?_
  refine thenQ_x ?_
  refine blockQ_x ?_
  refine thenQ_n ?_
  refine JC_seq ?_
  refine JC_region ?_
  refine JO_q (QE_as rfl) rfl ?_
  refine JO_nil ?_
  refine thenQ_n ?_
  refine JC_ret ?_
  refine retQ_mk [] L (.inr rfl) (.tmp rfl (.nil)) rfl I1.1 (fun sR hS2 => ?_)
  refine ⟨?_, rfl⟩
  first
    | (simp only [resV]; rw [idxOf_hit hI hx hz, Nat.zero_add])
    | (simp only [resV]; rw [idxOf_none (fun i a hi h => hI i a (by omega) h)])
set_option maxHeartbeats 1000000 in
set_option maxRecDepth 100000 in
theorem sidxF_ac (D : Nat) (L : Hl) (s : World) (A : Option Addr) (n c : Nat) (l : List (List UInt8)) (hA : Strs s A n c l) (f : FuncId) (cap : List Value) (p : List UInt8 → Bool) (hp : ∀ s' x, x ∈ l → AC Tryz.prog D f ([St x] ++ cap) L s' fun v L' _ => v = .bool (p x) ∧ L = L') : AC Tryz.prog D 69 [.slice A n c, .func (.func f) #[] cap.toArray] L s fun v L' _ => v = .int .i64 (idxOf p l 0) ∧ L = L' := by
 have hn := hA.1
 have hc1 := hA.2.1
 have hc2 := hA.2.2.1
 refine AC_enter (TT := TT) (fn := Tryz.f69) TT_ok Tryz.func69 (by kernel_rfl) rfl Tryz.ntmps69 rfl (rs := [.tmp 4]) rfl [(0, _), (1, _)] rfl ?_
 refine JC_seq ?_
 refine JC_region ?_
 refine JO_q (QE_as rfl) rfl ?_
 refine JO_nil ?_
 refine thenQ_n ?_
 refine JC_seq ?_
 refine JC_seq ?_
 refine JC_region ?_
 refine JO_q (QE_mv rfl) rfl ?_
 refine JO_q (QE_lenS rfl rfl rfl) rfl ?_
 refine JO_q (QE_mv rfl) rfl ?_
 refine JO_nil ?_
 refine thenQ_n ?_
 refine JC_block ?_
 refine JC_loop (γ := Nat) (fun k => [(0, _), (1, _), (4, _), (7, _), (8, .int .i64 (k : Int))]) (fun _ => _) (fun k tw => Le D s tw ∧ (k ≤ n ∧ ∀ i x, i < k → l[i]? = some x → p x = false)) (fun k => n - k) (fun _ _ _ h hl => ⟨h.1.trans hl, h.2⟩) 0 (Keeps.cons rfl (Keeps.cons rfl (Keeps.cons rfl (Keeps.cons rfl (Keeps.cons rfl (Keeps.nil _)))))) rfl ⟨Le.refl _, ⟨Nat.zero_le _, fun i x hi => by omega⟩⟩ ?_
 intro k s1 I1
 have hk0 := I1.2.1
 have hI := I1.2.2
 refine JC_seq ?_
 refine JC_region ?_
 refine JO_q (QE_lt rfl rfl) rfl ?_
 refine JO_nil ?_
 refine thenQ_n ?_
 refine JC_seq ?_
 refine JC_ifD rfl (fun c2 => ?_) (fun c2 => ?_)
 ·
  have hk : k < n := by omega
  obtain ⟨b, off, x, rfl, hx, hcx, _⟩ := Strs.at_ (hA.le I1.1) hk
  refine JC_skip ?_
  refine thenQ_n ?_
  refine JC_seq ?_
  refine JC_block ?_
  refine JC_seq ?_
  refine JC_region ?_
  refine JO_q (QE_mv rfl) rfl ?_
  refine JO_q (QE_as rfl) rfl ?_
  refine JO_nil ?_
  refine thenQ_n ?_
  refine JC_seq ?_
  refine JC_region ?_
  refine JO_q (QE_mv rfl) rfl ?_
  refine JO_q (QE_mv rfl) rfl ?_
  refine JO_q (QE_mv rfl) rfl ?_
  refine JO_q (QE_ia1 rfl rfl rfl rfl rfl rfl hk) rfl ?_
  refine JO_q (QE_ldsR0 rfl rfl rfl hcx rfl) rfl ?_
  refine JO_call (first := []) (captured := cap) rfl rfl rfl (hp _ x (List.mem_of_getElem? hx)) ?_
  rintro _ _ s3 h3 ⟨rfl, rfl⟩
  refine JO_nil ?_
  refine thenQ_n ?_
  refine JC_if rfl (fun c4 => ?_) (fun c4 => ?_)
  ·
   have hz := c4
   refine JC_seq ?_
   refine JC_region ?_
   refine JO_q (QE_mv rfl) rfl ?_
   refine JO_q (QE_as rfl) rfl ?_
   refine JO_nil ?_
   refine thenQ_n ?_
   refine JC_ret ?_
   refine blockQ_r ?_
   refine thenQ_r ?_
   refine thenQ_r ?_
   refine blockQ_r ?_
   refine thenQ_r ?_
   refine retQ_mk [] L (.inr rfl) (.tmp rfl (.nil)) rfl (Le.trans I1.1 h3) (fun sR hS2 => ?_)
   refine ⟨?_, rfl⟩
   first
     | (simp only [resV]; rw [idxOf_hit hI hx hz, Nat.zero_add])
     | (simp only [resV]; rw [idxOf_none (fun i a hi h => hI i a (by omega) h)])
  ·
   have hz := c4
   refine JC_skip ?_
   refine blockQ_n ?_
   refine thenQ_n ?_
   refine JC_region ?_
   refine JO_q (QE_add' rfl rfl (w64 (by omega) (by omega))) rfl ?_
   refine JO_q (QE_mv rfl) rfl ?_
   refine JO_nil ?_
   refine thenQ_n ⟨(k + 1), [], (Keeps.cons rfl (Keeps.cons rfl (Keeps.cons rfl (Keeps.cons rfl (Keeps.cons rfl (Keeps.nil _)))))), rfl, ⟨(Le.trans I1.1 h3), ⟨by omega, below_succ hI hx hz⟩⟩, (by omega)⟩
 ·
  refine JC_exit ?_
  refine thenQ_x ?_
  refine thenQ_x ?_
  refine blockQ_x ?_
  refine thenQ_n ?_
  refine JC_seq ?_
  refine JC_region ?_
  refine JO_q (QE_as rfl) rfl ?_
  refine JO_nil ?_
  refine thenQ_n ?_
  refine JC_ret ?_
  refine retQ_mk [] L (.inr rfl) (.tmp rfl (.nil)) rfl I1.1 (fun sR hS2 => ?_)
  refine ⟨?_, rfl⟩
  first
    | (simp only [resV]; rw [idxOf_hit hI hx hz, Nat.zero_add])
    | (simp only [resV]; rw [idxOf_none (fun i a hi h => hI i a (by omega) h)])
set_option maxHeartbeats 1000000 in
set_option maxRecDepth 100000 in
theorem dot_ac (D : Nat) (L : Hl) (s : World) (w : List UInt8) (hl : w.length ≤ 9223372036854775807) : AC Tryz.prog D 70 [St w] L s fun v L' _ => v = .bool (dotB w) ∧ L = L' := by
 refine AC_enter (TT := TT) (fn := Tryz.f70) TT_ok Tryz.func70 (by kernel_rfl) rfl Tryz.ntmps70 rfl (rs := [.tmp 2]) rfl [(0, _)] rfl ?_
 refine JC_seq ?_
 refine JC_region ?_
 refine JO_q (QE_as rfl) rfl ?_
 refine JO_nil ?_
 refine thenQ_n ?_
 refine JC_seq ?_
 refine JC_region ?_
 refine JO_q (QE_mv rfl) rfl ?_
 refine JO_call (first := []) (captured := []) rfl rfl rfl (hasSuffix_ac D _ _ w 46 hl) ?_
 rintro _ _ s1 h1 ⟨rfl, rfl⟩
 refine JO_q (QE_as rfl) rfl ?_
 refine JO_nil ?_
 refine thenQ_n ?_
 refine JC_ret ?_
 refine retQ_mk [] L (.inr rfl) (.tmp rfl (.nil)) rfl h1 (fun sR hS2 => ?_)
 exact ⟨rfl, rfl⟩
def pw (p : List (List UInt8) × Option (List UInt8)) : List (List UInt8) := match p.2 with
  | none => p.1
  | some l => p.1 ++ [checkB, l]
theorem Strs.take {s : World} {A : Option Addr} {n c : Nat} {l : List (List UInt8)} (h : Strs s A n c l) {k : Nat} (hk : k ≤ n) : Strs s A k c (l.take k) :=
  ⟨by have := h.1; rw [List.length_take]; omega, by have := h.2.1; omega, h.2.2.1, fun i x hi => h.2.2.2 i x (by
    rw [List.getElem?_take] at hi
    split at hi
    · exact hi
    · cases hi)⟩
theorem Strs.drop {s : World} {A : Option Addr} {n c : Nat} {l : List (List UInt8)} (h : Strs s A n c l) {k : Nat} (hk : k ≤ n) : ∃ A1 c1, (Value.slice (if c = k then A else A.map (·.add (k * 1))) (n - k) (c - k)) = Value.slice A1 (n - k) c1 ∧ Strs s A1 (n - k) c1 (l.drop k) := by
  obtain ⟨h1, h2, h3, h4⟩ := h
  refine ⟨_, _, rfl, by rw [List.length_drop]; omega, by omega, by omega, fun i x hi => ?_⟩
  rw [List.getElem?_drop] at hi
  obtain ⟨b, off, cs, hA, hc, hl, hr⟩ := h4 (k + i) x hi
  have hlt := (List.getElem?_eq_some_iff.1 hi).1
  refine ⟨b, off + k, cs, ?_, ?_, hl, hr⟩
  · rw [if_neg (by omega), hA]
    simp [add_lit]
  · rw [show off + k + i * 1 = off + (k + i) * 1 by omega]; exact hc
theorem cut_dot (l : List UInt8) (h : dotB l = true) : (if endsB 46 l = true then l.dropLast else l) = l.dropLast := if_pos h
theorem code_none {p : List (List UInt8) × Option (List UInt8)} (h : p.2.isSome = false) : codeP p = 1 := by
  obtain ⟨ws, o⟩ := p
  cases o with
  | none => rfl
  | some l => cases h
theorem code_syn {ws : List (List UInt8)} {l : List UInt8} (h : dotB l = false ∨ numL l.dropLast = none ∨ okT (joinW ws) = false) : codeP (ws, some l) = 1 := if_pos h
theorem code_cor {ws : List (List UInt8)} {l : List UInt8} (h : ¬ (dotB l = false ∨ numL l.dropLast = none ∨ okT (joinW ws) = false)) (h2 : numL l.dropLast ≠ some (chkS (joinW ws)).toNat) : codeP (ws, some l) = 16 := (if_neg h).trans (if_pos h2)
theorem code_fine {ws : List (List UInt8)} {l : List UInt8} (h : ¬ (dotB l = false ∨ numL l.dropLast = none ∨ okT (joinW ws) = false)) (h2 : ¬ numL l.dropLast ≠ some (chkS (joinW ws)).toNat) : codeP (ws, some l) = 0 := (if_neg h).trans (if_neg h2)
set_option maxHeartbeats 2000000 in
set_option maxRecDepth 100000 in
theorem check_ac (D : Nat) (L : Hl) (s : World) (hG : GP s) (p : List (List UInt8) × Option (List UInt8)) (A : Option Addr) (n c : Nat) (hS : Strs s A n c (pw p)) (hz : sizeW (pw p) ≤ 1000000) : AC Tryz.prog D 36 [.slice A n c, .bool p.2.isSome] L s fun v L' _ => v = .int .i64 (codeP p) ∧ L = L' := by
 have hn := hS.1
 have hc1 := hS.2.1
 refine AC_enter (TT := TT) (fn := Tryz.f36) TT_ok Tryz.func36 (by kernel_rfl) rfl Tryz.ntmps36 rfl (rs := [.tmp 4]) rfl [(0, _), (1, _)] rfl ?_
 refine JC_seq ?_
 refine JC_region ?_
 refine JO_q (QE_as rfl) rfl ?_
 refine JO_nil ?_
 refine thenQ_n ?_
 refine JC_seq ?_
 refine JC_seq ?_
 refine JC_region ?_
 refine JO_q (QE_mv rfl) rfl ?_
 refine JO_q (QE_not rfl) rfl ?_
 refine JO_nil ?_
 refine thenQ_n ?_
 refine JC_ifM rfl (fun c1 => ?_) (fun c1 => ?_)
 ·
  have hp := c1
  refine JC_seq ?_
  refine JC_region ?_
  refine JO_q (QE_as rfl) rfl ?_
  refine JO_nil ?_
  refine thenQ_n ?_
  refine JC_ret ?_
  refine thenQ_r ?_
  refine retQ_mk [] L (.inr rfl) (.tmp rfl (.nil)) rfl (Le.refl (D := D) _) (fun sR hS2 => ?_)
  refine ⟨?_, rfl⟩
  first
    | (rw [code_none hp]; rfl)
    | (rw [code_syn (.inl (by assumption))]; rfl)
    | (have hd : dotB lx = true := by assumption
       have hnum : (numL lx.dropLast).isSome = false := by rw [← cut_dot lx hd]; assumption
       rw [code_syn (.inr (.inl (by simpa using hnum)))]; rfl)
    | (rw [code_syn (.inr (.inr (by assumption)))]; rfl)
    | (have hd : dotB lx = true := by assumption
       rw [cut_dot lx hd] at *
       have hnum : (numL lx.dropLast).isSome = true := by assumption
       have hok : okT (joinW ws) = true := by assumption
       obtain ⟨u, hu⟩ := Option.isSome_iff_exists.1 hnum
       have hk := hkv u hu
       rw [hok, if_pos rfl] at hne
       have hch := chk_lt (joinW ws)
       have hno : ¬ (dotB lx = false ∨ numL lx.dropLast = none ∨ okT (joinW ws) = false) := by rw [hd, hu, hok]; simp
       first
         | (rw [code_cor hno (by rw [hu]; intro e; injection e with e; exact hne (by omega))]; rfl)
         | (rw [code_fine hno (by rw [hu]; intro e; exact e (by congr 1; omega))]; rfl))
 ·
  obtain ⟨ws, o⟩ := p
  obtain ⟨l, hl⟩ := Option.isSome_iff_exists.1 c1
  simp only at hl
  subst hl
  have hpw : pw (ws, some l) = ws ++ [checkB, l] := rfl
  rw [hpw] at hS hn hz
  rw [sizeW_app] at hz
  simp only [sizeW_cons, sizeW_nil] at hz
  have hn2 : n = ws.length + 2 := by rw [hn]; simp
  obtain ⟨bl, offl, lx, hEl, hlx, hcl, _⟩ := Strs.at_ (hS.le (Le.refl (D := D) _)) (show ws.length + 1 < n by omega)
  subst hEl
  obtain rfl : lx = l := by rw [List.getElem?_append_right (by omega)] at hlx; simpa using hlx.symm
  have hSw := Strs.take hS (show ws.length ≤ n by omega)
  rw [List.take_left] at hSw
  have hwl := size_len ws
  have hwj := join_len ws
  have hdl : (if endsB 46 lx = true then lx.dropLast else lx).length ≤ lx.length := by split <;> simp
  refine JC_skip ?_
  refine thenQ_n ?_
  refine JC_seq ?_
  refine JC_region ?_
  refine JO_q (QE_mv rfl) rfl ?_
  refine JO_q (QE_lenS rfl rfl rfl) rfl ?_
  refine JO_q (QE_sub' (c := ((ws.length + 1 : Nat) : Int)) rfl rfl (by rw [w64 (by omega) (by omega)]; omega)) rfl ?_
  refine JO_q (QE_as rfl) rfl ?_
  refine JO_nil ?_
  refine thenQ_n ?_
  refine JC_seq ?_
  refine JC_region ?_
  refine JO_q (QE_mv rfl) rfl ?_
  refine JO_q (QE_mv rfl) rfl ?_
  refine JO_q (QE_ia1 rfl rfl rfl rfl rfl rfl (show ws.length + 1 < n by omega)) rfl ?_
  refine JO_q (QE_ldsR0 rfl rfl rfl (hcl.le (Le.refl (D := D) _)) rfl) rfl ?_
  refine JO_call (first := []) (captured := []) rfl rfl rfl (cutSuffix_ac D _ _ lx 46 (by omega)) ?_
  rintro _ _ s2 h2 ⟨rfl, rfl⟩
  refine JO_q (QE_mv rfl) rfl ?_
  refine JO_q (QE_ext rfl rfl) rfl ?_
  refine JO_q (QE_ext rfl rfl) rfl ?_
  refine JO_q (QE_as rfl) rfl ?_
  refine JO_q (QE_as rfl) rfl ?_
  refine JO_nil ?_
  refine thenQ_n ?_
  refine JC_seq ?_
  refine JC_region ?_
  refine JO_q (QE_mv rfl) rfl ?_
  refine JO_call (first := []) (captured := []) rfl rfl rfl (readNum_ac D _ _ (hG.gw.le h2) _ (by omega)) ?_
  rintro _ _ s3 h3 ⟨rfl, kn, rfl, hku, hkv⟩
  refine JO_q (QE_mv rfl) rfl ?_
  refine JO_q (QE_ext rfl rfl) rfl ?_
  refine JO_q (QE_ext rfl rfl) rfl ?_
  refine JO_q (QE_as rfl) rfl ?_
  refine JO_q (QE_as rfl) rfl ?_
  refine JO_nil ?_
  refine thenQ_n ?_
  refine JC_seq ?_
  refine JC_region ?_
  refine JO_q (QE_mv rfl) rfl ?_
  refine JO_q (QE_mv rfl) rfl ?_
  refine JO_q (QE_sub' (c := ((ws.length : Nat) : Int)) rfl rfl (by rw [w64 (by omega) (by omega)]; omega)) rfl ?_
  refine JO_q (QE_slH rfl rfl rfl rfl rfl (by omega)) rfl ?_
  refine JO_call (first := []) (captured := []) rfl rfl rfl (sum_ac D _ _ _ _ _ ws (hSw.le (Le.trans h2 h3)) (by omega) (by omega)) ?_
  rintro _ _ s4 h4 ⟨rfl, rfl⟩
  refine JO_q (QE_mv rfl) rfl ?_
  refine JO_q (QE_ext rfl rfl) rfl ?_
  refine JO_q (QE_ext rfl rfl) rfl ?_
  refine JO_q (QE_as rfl) rfl ?_
  refine JO_q (QE_as rfl) rfl ?_
  refine JO_nil ?_
  refine thenQ_n ?_
  refine JC_seq ?_
  refine JC_block ?_
  refine JC_seq ?_
  refine JC_region ?_
  refine JO_q (QE_mv rfl) rfl ?_
  refine JO_q (QE_not rfl) rfl ?_
  refine JO_q (QE_mv rfl) rfl ?_
  refine JO_caseM (t := 41) rfl (fun c5 => ?_) (fun c5 => ?_)
  ·
   refine JO_gF rfl rfl rfl rfl ?_
   refine JO_gF rfl rfl rfl rfl ?_
   refine JO_q (QE_pickT rfl rfl) rfl ?_
   refine JO_q (QE_mv rfl) rfl ?_
   refine JO_gF rfl rfl rfl rfl ?_
   refine JO_gF rfl rfl rfl rfl ?_
   refine JO_q (QE_pickT rfl rfl) rfl ?_
   refine JO_q (QE_as rfl) rfl ?_
   refine JO_nil ?_
   refine thenQ_n ?_
   refine JC_ifT rfl ?_
   refine JC_seq ?_
   refine JC_region ?_
   refine JO_q (QE_as rfl) rfl ?_
   refine JO_nil ?_
   refine thenQ_n ?_
   refine JC_ret ?_
   refine blockQ_r ?_
   refine thenQ_r ?_
   refine retQ_mk [] L (.inr rfl) (.tmp rfl (.nil)) rfl (Le.trans (Le.trans h2 h3) h4) (fun sR hS2 => ?_)
   refine ⟨?_, rfl⟩
   first
     | (rw [code_none hp]; rfl)
     | (rw [code_syn (.inl (by assumption))]; rfl)
     | (have hd : dotB lx = true := by assumption
        have hnum : (numL lx.dropLast).isSome = false := by rw [← cut_dot lx hd]; assumption
        rw [code_syn (.inr (.inl (by simpa using hnum)))]; rfl)
     | (rw [code_syn (.inr (.inr (by assumption)))]; rfl)
     | (have hd : dotB lx = true := by assumption
        rw [cut_dot lx hd] at *
        have hnum : (numL lx.dropLast).isSome = true := by assumption
        have hok : okT (joinW ws) = true := by assumption
        obtain ⟨u, hu⟩ := Option.isSome_iff_exists.1 hnum
        have hk := hkv u hu
        rw [hok, if_pos rfl] at hne
        have hch := chk_lt (joinW ws)
        have hno : ¬ (dotB lx = false ∨ numL lx.dropLast = none ∨ okT (joinW ws) = false) := by rw [hd, hu, hok]; simp
        first
          | (rw [code_cor hno (by rw [hu]; intro e; injection e with e; exact hne (by omega))]; rfl)
          | (rw [code_fine hno (by rw [hu]; intro e; exact e (by congr 1; omega))]; rfl))
  ·
   refine JO_gT rfl rfl ?_
   refine JO_q (QE_mv rfl) rfl ?_
   refine JO_gT rfl rfl ?_
   refine JO_q (QE_not rfl) rfl ?_
   refine JO_q (QE_pickF rfl rfl) rfl ?_
   refine JO_q (QE_mv rfl) rfl ?_
   refine JO_caseM (t := 45) rfl (fun c6 => ?_) (fun c6 => ?_)
   ·
    refine JO_gF rfl rfl rfl rfl ?_
    refine JO_gF rfl rfl rfl rfl ?_
    refine JO_q (QE_pickT rfl rfl) rfl ?_
    refine JO_q (QE_as rfl) rfl ?_
    refine JO_nil ?_
    refine thenQ_n ?_
    refine JC_ifT rfl ?_
    refine JC_seq ?_
    refine JC_region ?_
    refine JO_q (QE_as rfl) rfl ?_
    refine JO_nil ?_
    refine thenQ_n ?_
    refine JC_ret ?_
    refine blockQ_r ?_
    refine thenQ_r ?_
    refine retQ_mk [] L (.inr rfl) (.tmp rfl (.nil)) rfl (Le.trans (Le.trans h2 h3) h4) (fun sR hS2 => ?_)
    refine ⟨?_, rfl⟩
    first
      | (rw [code_none hp]; rfl)
      | (rw [code_syn (.inl (by assumption))]; rfl)
      | (have hd : dotB lx = true := by assumption
         have hnum : (numL lx.dropLast).isSome = false := by rw [← cut_dot lx hd]; assumption
         rw [code_syn (.inr (.inl (by simpa using hnum)))]; rfl)
      | (rw [code_syn (.inr (.inr (by assumption)))]; rfl)
      | (have hd : dotB lx = true := by assumption
         rw [cut_dot lx hd] at *
         have hnum : (numL lx.dropLast).isSome = true := by assumption
         have hok : okT (joinW ws) = true := by assumption
         obtain ⟨u, hu⟩ := Option.isSome_iff_exists.1 hnum
         have hk := hkv u hu
         rw [hok, if_pos rfl] at hne
         have hch := chk_lt (joinW ws)
         have hno : ¬ (dotB lx = false ∨ numL lx.dropLast = none ∨ okT (joinW ws) = false) := by rw [hd, hu, hok]; simp
         first
           | (rw [code_cor hno (by rw [hu]; intro e; injection e with e; exact hne (by omega))]; rfl)
           | (rw [code_fine hno (by rw [hu]; intro e; exact e (by congr 1; omega))]; rfl))
   ·
    refine JO_gT rfl rfl ?_
    refine JO_q (QE_mv rfl) rfl ?_
    refine JO_gT rfl rfl ?_
    refine JO_q (QE_not rfl) rfl ?_
    refine JO_q (QE_pickF rfl rfl) rfl ?_
    refine JO_q (QE_as rfl) rfl ?_
    refine JO_nil ?_
    refine thenQ_n ?_
    refine JC_ifM rfl (fun c7 => ?_) (fun c7 => ?_)
    ·
     refine JC_seq ?_
     refine JC_region ?_
     refine JO_q (QE_as rfl) rfl ?_
     refine JO_nil ?_
     refine thenQ_n ?_
     refine JC_ret ?_
     refine blockQ_r ?_
     refine thenQ_r ?_
     refine retQ_mk [] L (.inr rfl) (.tmp rfl (.nil)) rfl (Le.trans (Le.trans h2 h3) h4) (fun sR hS2 => ?_)
     refine ⟨?_, rfl⟩
     first
       | (rw [code_none hp]; rfl)
       | (rw [code_syn (.inl (by assumption))]; rfl)
       | (have hd : dotB lx = true := by assumption
          have hnum : (numL lx.dropLast).isSome = false := by rw [← cut_dot lx hd]; assumption
          rw [code_syn (.inr (.inl (by simpa using hnum)))]; rfl)
       | (rw [code_syn (.inr (.inr (by assumption)))]; rfl)
       | (have hd : dotB lx = true := by assumption
          rw [cut_dot lx hd] at *
          have hnum : (numL lx.dropLast).isSome = true := by assumption
          have hok : okT (joinW ws) = true := by assumption
          obtain ⟨u, hu⟩ := Option.isSome_iff_exists.1 hnum
          have hk := hkv u hu
          rw [hok, if_pos rfl] at hne
          have hch := chk_lt (joinW ws)
          have hno : ¬ (dotB lx = false ∨ numL lx.dropLast = none ∨ okT (joinW ws) = false) := by rw [hd, hu, hok]; simp
          first
            | (rw [code_cor hno (by rw [hu]; intro e; injection e with e; exact hne (by omega))]; rfl)
            | (rw [code_fine hno (by rw [hu]; intro e; exact e (by congr 1; omega))]; rfl))
    ·
     refine JC_seq ?_
     refine JC_region ?_
     refine JO_q (QE_mv rfl) rfl ?_
     refine JO_q (QE_conv' rfl rfl rfl rfl rfl (w64 (by have := hku.1; omega) (by have := hku.2; omega))) rfl ?_
     refine JO_q (QE_mv rfl) rfl ?_
     refine JO_q (QE_ne rfl rfl) rfl ?_
     refine JO_q (QE_as rfl) rfl ?_
     refine JO_nil ?_
     refine thenQ_n ?_
     refine JC_ifN rfl (fun c8 => ?_) (fun c8 => ?_)
     ·
      have hne := c8
      refine JC_seq ?_
      refine JC_region ?_
      refine JO_q (QE_as rfl) rfl ?_
      refine JO_nil ?_
      refine thenQ_n ?_
      refine JC_ret ?_
      refine blockQ_r ?_
      refine thenQ_r ?_
      refine retQ_mk [] L (.inr rfl) (.tmp rfl (.nil)) rfl (Le.trans (Le.trans h2 h3) h4) (fun sR hS2 => ?_)
      refine ⟨?_, rfl⟩
      first
        | (rw [code_none hp]; rfl)
        | (rw [code_syn (.inl (by assumption))]; rfl)
        | (have hd : dotB lx = true := by assumption
           have hnum : (numL lx.dropLast).isSome = false := by rw [← cut_dot lx hd]; assumption
           rw [code_syn (.inr (.inl (by simpa using hnum)))]; rfl)
        | (rw [code_syn (.inr (.inr (by assumption)))]; rfl)
        | (have hd : dotB lx = true := by assumption
           rw [cut_dot lx hd] at *
           have hnum : (numL lx.dropLast).isSome = true := by assumption
           have hok : okT (joinW ws) = true := by assumption
           obtain ⟨u, hu⟩ := Option.isSome_iff_exists.1 hnum
           have hk := hkv u hu
           rw [hok, if_pos rfl] at hne
           have hch := chk_lt (joinW ws)
           have hno : ¬ (dotB lx = false ∨ numL lx.dropLast = none ∨ okT (joinW ws) = false) := by rw [hd, hu, hok]; simp
           first
             | (rw [code_cor hno (by rw [hu]; intro e; injection e with e; exact hne (by omega))]; rfl)
             | (rw [code_fine hno (by rw [hu]; intro e; exact e (by congr 1; omega))]; rfl))
     ·
      have hne := c8
      refine JC_skip ?_
      refine blockQ_n ?_
      refine thenQ_n ?_
      refine JC_seq ?_
      refine JC_region ?_
      refine JO_q (QE_as rfl) rfl ?_
      refine JO_nil ?_
      refine thenQ_n ?_
      refine JC_ret ?_
      refine retQ_mk [] L (.inr rfl) (.tmp rfl (.nil)) rfl (Le.trans (Le.trans h2 h3) h4) (fun sR hS2 => ?_)
      refine ⟨?_, rfl⟩
      first
        | (rw [code_none hp]; rfl)
        | (rw [code_syn (.inl (by assumption))]; rfl)
        | (have hd : dotB lx = true := by assumption
           have hnum : (numL lx.dropLast).isSome = false := by rw [← cut_dot lx hd]; assumption
           rw [code_syn (.inr (.inl (by simpa using hnum)))]; rfl)
        | (rw [code_syn (.inr (.inr (by assumption)))]; rfl)
        | (have hd : dotB lx = true := by assumption
           rw [cut_dot lx hd] at *
           have hnum : (numL lx.dropLast).isSome = true := by assumption
           have hok : okT (joinW ws) = true := by assumption
           obtain ⟨u, hu⟩ := Option.isSome_iff_exists.1 hnum
           have hk := hkv u hu
           rw [hok, if_pos rfl] at hne
           have hch := chk_lt (joinW ws)
           have hno : ¬ (dotB lx = false ∨ numL lx.dropLast = none ∨ okT (joinW ws) = false) := by rw [hd, hu, hok]; simp
           first
             | (rw [code_cor hno (by rw [hu]; intro e; injection e with e; exact hne (by omega))]; rfl)
             | (rw [code_fine hno (by rw [hu]; intro e; exact e (by congr 1; omega))]; rfl))
end Go.Proofs.YtoeeblegplghmaaGreatDoor
namespace Go.Proofs.YtoeeblegplghmaaGreatDoor
open Go.FL
attribute [local irreducible] JC JO JA JB thenQ blockQ retQ AC fill CellsAt QE Ev Mid
theorem set_get3 {l : List (List UInt8)} (h : 3 < l.length) : l[3]? = some (l.getD 3 []) := by rw [List.getD_eq_getElem?_getD, List.getElem?_eq_getElem h]; rfl
theorem rdC_len {ws : List (List UInt8)} (h : ¬ ws.length = machL.length) : rdCells ws = none := if_neg (fun e => h e.1)
theorem rdC_is {ws : List (List UInt8)} (h : ws.length = machL.length) : (rdCells ws).isSome = ((numL (ws.getD 3 [])).isSome && decide (ws = machL.set 3 (ws.getD 3 []))) ∧ ∀ c, rdCells ws = some c → ∃ u : Nat, numL (ws.getD 3 []) = some u ∧ c = (u : Int) := by
  unfold rdCells
  by_cases he : ws = machL.set 3 (ws.getD 3 [])
  · rw [if_pos ⟨h, he⟩, Option.isSome_map, decide_eq_true he, Bool.and_true]
    refine ⟨rfl, fun c hc => ?_⟩
    obtain ⟨u, hu, rfl⟩ := Option.map_eq_some_iff.1 hc
    exact ⟨u, hu, rfl⟩
  · rw [if_neg (fun e => he e.2), decide_eq_false he, Bool.and_false]
    exact ⟨rfl, fun c hc => by cases hc⟩
set_option maxHeartbeats 2000000 in
set_option maxRecDepth 100000 in
theorem readCells_ac (D : Nat) (L : Hl) (s : World) (hG : GP s) (A : Option Addr) (n c : Nat) (ws : List (List UInt8)) (hS : Strs s A n c ws) (hz : sizeW ws ≤ 1000000) : AC Tryz.prog D 37 [.slice A n c] L s fun v L' _ => L = L' ∧ ∃ k, v = .tuple #[.int .i64 k, .bool (rdCells ws).isSome] ∧ ∀ y, rdCells ws = some y → k = y := by
 have hn := hS.1
 have hc1 := hS.2.1
 have hc2 := hS.2.2.1
 have hmj := mach_join
 have hml : (flds machS).length = 320 := mach_len
 refine AC_enter (TT := TT) (fn := Tryz.f37) TT_ok Tryz.func37 (by kernel_rfl) rfl Tryz.ntmps37 rfl (rs := [.tmp 2, .tmp 3]) rfl [(0, _)] rfl ?_
 refine JC_seq ?_
 refine JC_region ?_
 refine JO_q (QE_as rfl) rfl ?_
 refine JO_q (QE_as rfl) rfl ?_
 refine JO_nil ?_
 refine thenQ_n ?_
 refine JC_seq ?_
 refine JC_region ?_
 refine JO_call (first := []) (captured := []) rfl rfl rfl (fieldsO_ac D _ _ (hG.le (Le.refl (D := D) _)) machS (by omega) hmj.1) ?_
 rintro _ _ s1 h1 ⟨βf, rfl, rfl⟩
 refine JO_q (QE_as rfl) rfl ?_
 refine JO_nil ?_
 refine thenQ_n ?_
 refine JC_seq ?_
 refine JC_seq ?_
 refine JC_region ?_
 refine JO_q (QE_mv rfl) rfl ?_
 refine JO_q (QE_lenS rfl rfl rfl) rfl ?_
 refine JO_q (QE_mv rfl) rfl ?_
 refine JO_q (QE_lenS rfl rfl rfl) rfl ?_
 refine JO_q (QE_ne rfl rfl) rfl ?_
 refine JO_nil ?_
 refine thenQ_n ?_
 refine JC_ifN rfl (fun c2 => ?_) (fun c2 => ?_)
 ·
  have hlen : ¬ ws.length = machL.length := by have := c2; rw [mach_len]; omega
  refine JC_seq ?_
  refine JC_region ?_
  refine JO_q (QE_as rfl) rfl ?_
  refine JO_q (QE_as rfl) rfl ?_
  refine JO_nil ?_
  refine thenQ_n ?_
  refine JC_ret ?_
  refine thenQ_r ?_
  refine retQ_mk [_] L (.inr rfl) (.tmp rfl (.tmp rfl (.nil))) rfl h1 (fun sR hS2 => ?_)
  refine ⟨rfl, ?_⟩
  first
    | exact ⟨0, by rw [rdC_len hlen]; rfl, fun y hy => by rw [rdC_len hlen] at hy; cases hy⟩
    | (refine ⟨kn, ?_, fun y hy => ?_⟩
       · rw [hq1]
         first
           | (rw [show (numL (ws.getD 3 [])).isSome = false by assumption]; rfl)
           | (rw [show (numL (ws.getD 3 [])).isSome = true by assumption, Bool.true_and]; rfl)
       · obtain ⟨u, hu, rfl⟩ := hq2 y hy
         exact hkv u hu)
 ·
  have hlen : ws.length = machL.length := by have := c2; rw [mach_len]; omega
  have h3 : 3 < ws.length := by rw [hlen, mach_len]; decide
  obtain ⟨b3, off3, x3, hE3, hx3, hc3, _⟩ := Strs.at_ (hS.le h1) (show 3 < n by omega)
  subst hE3
  obtain rfl : ws.getD 3 [] = x3 := by rw [set_get3 h3] at hx3; injection hx3
  have hx3l := mem_size (List.mem_of_getElem? hx3)
  obtain ⟨hq1, hq2⟩ := rdC_is hlen
  refine JC_skip ?_
  refine thenQ_n ?_
  refine JC_seq ?_
  refine JC_region ?_
  refine JO_q (QE_mv rfl) rfl ?_
  refine JO_q (QE_ia1 rfl rfl rfl rfl rfl rfl (show 3 < n by omega)) rfl ?_
  refine JO_q (QE_ldsR0 rfl rfl rfl (hc3.le (Le.refl (D := D) _)) rfl) rfl ?_
  refine JO_call (first := []) (captured := []) rfl rfl rfl (readNum_ac D _ _ (hG.gw.le h1) _ (by omega)) ?_
  rintro _ _ s3 h3 ⟨rfl, kn, rfl, hku, hkv⟩
  refine JO_q (QE_mv rfl) rfl ?_
  refine JO_q (QE_ext rfl rfl) rfl ?_
  refine JO_q (QE_ext rfl rfl) rfl ?_
  refine JO_q (QE_as rfl) rfl ?_
  refine JO_q (QE_as rfl) rfl ?_
  refine JO_nil ?_
  refine thenQ_n ?_
  refine JC_seq ?_
  refine JC_region ?_
  refine JO_q (QE_mv rfl) rfl ?_
  refine JO_q (QE_mv rfl) rfl ?_
  refine JO_q (QE_ia1 rfl rfl rfl rfl rfl rfl (show 3 < n by omega)) rfl ?_
  refine JO_q (QE_ldsR0 rfl rfl rfl (hc3.le h3) rfl) rfl ?_
  refine JO_q (QE_ia1 (j := 3) rfl rfl rfl rfl rfl rfl (by rw [hml]; decide)) rfl ?_
  refine JO_st 0 (sb (machL.set 3 (ws.getD 3 []))) rfl rfl rfl rfl rfl (by show Nat.ble (0 + 3 + 1) (sb machL).length = true; rw [sb_len, mach_len]; rfl) rfl (by have := spl_row (xs := sb machL) (ys := []) (k := 3) (St (ws.getD 3 [])) (by rw [sb_len, mach_len]; decide); rw [List.append_nil, List.append_nil, sb_set] at this; exact this) rfl ?_
  refine JO_nil ?_
  refine thenQ_n ?_
  refine JC_seq ?_
  refine JC_pubX [] [_] _ ?_
  intro s5 h5 hpub5
  simp only [List.cons_append, List.nil_append]
  have hW : Strs s5 (some ⟨βf, 0, none⟩) (flds machS).length (flds machS).length (machL.set 3 (ws.getD 3 [])) := by
    have ho := own_row (e := 9) (β := βf) (ws := machL.set 3 (ws.getD 3 [])) (by rw [List.length_set, mach_len]; omega)
    rw [List.length_set] at ho
    refine Own.strs ho (fun w hw => ?_) hpub5 (by rw [List.length_set]; rfl)
    rcases List.mem_or_eq_of_mem_set hw with h | rfl
    · have := flds_short machS w h; omega
    · omega
  refine JC_region ?_
  refine JO_q (QE_mv rfl) rfl ?_
  refine JO_q (QE_conv' rfl rfl rfl rfl rfl (w64 (by have := hku.1; omega) (by have := hku.2; omega))) rfl ?_
  refine JO_q (QE_mv rfl) rfl ?_
  refine JO_q (QE_mv rfl) rfl ?_
  refine JO_case (t := 28) rfl (fun c6 => ?_) (fun c6 => ?_)
  ·
   refine JO_gT rfl rfl ?_
   refine JO_q (QE_mv rfl) rfl ?_
   refine JO_gT rfl rfl ?_
   refine JO_q (QE_mv rfl) rfl ?_
   refine JO_gT rfl rfl ?_
   refine JO_call (first := []) (captured := []) rfl rfl rfl (sequal_ac D _ _ _ _ _ ws (hS.le (Le.trans (Le.trans h1 h3) h5)) _ _ _ _ (hW.le (Le.refl (D := D) _))) ?_
   rintro _ _ s7 h7 ⟨rfl, rfl⟩
   refine JO_q (QE_pickT rfl rfl) rfl ?_
   refine JO_q (QE_as rfl) rfl ?_
   refine JO_q (QE_as rfl) rfl ?_
   refine JO_nil ?_
   refine thenQ_n ?_
   refine JC_ret ?_
   refine retQ_mk [] L (.inr rfl) (.tmp rfl (.tmp rfl (.nil))) rfl (Le.trans (Le.trans (Le.trans h1 h3) h5) h7) (fun sR hS2 => ?_)
   refine ⟨rfl, ?_⟩
   first
     | exact ⟨0, by rw [rdC_len hlen]; rfl, fun y hy => by rw [rdC_len hlen] at hy; cases hy⟩
     | (refine ⟨kn, ?_, fun y hy => ?_⟩
        · rw [hq1]
          first
            | (rw [show (numL (ws.getD 3 [])).isSome = false by assumption]; rfl)
            | (rw [show (numL (ws.getD 3 [])).isSome = true by assumption, Bool.true_and]; rfl)
        · obtain ⟨u, hu, rfl⟩ := hq2 y hy
          exact hkv u hu)
  ·
   refine JO_gF rfl rfl rfl rfl ?_
   refine JO_gF rfl rfl rfl rfl ?_
   refine JO_gF rfl rfl rfl rfl ?_
   refine JO_q (QE_pickF rfl rfl) rfl ?_
   refine JO_q (QE_as rfl) rfl ?_
   refine JO_q (QE_as rfl) rfl ?_
   refine JO_nil ?_
   refine thenQ_n ?_
   refine JC_ret ?_
   refine retQ_mk [] L (.inr rfl) (.tmp rfl (.tmp rfl (.nil))) rfl (Le.trans (Le.trans h1 h3) h5) (fun sR hS2 => ?_)
   refine ⟨rfl, ?_⟩
   first
     | exact ⟨0, by rw [rdC_len hlen]; rfl, fun y hy => by rw [rdC_len hlen] at hy; cases hy⟩
     | (refine ⟨kn, ?_, fun y hy => ?_⟩
        · rw [hq1]
          first
            | (rw [show (numL (ws.getD 3 [])).isSome = false by assumption]; rfl)
            | (rw [show (numL (ws.getD 3 [])).isSome = true by assumption, Bool.true_and]; rfl)
        · obtain ⟨u, hu, rfl⟩ := hq2 y hy
          exact hkv u hu)
end Go.Proofs.YtoeeblegplghmaaGreatDoor
namespace Go.Proofs.YtoeeblegplghmaaGreatDoor
open Go.FL
attribute [local irreducible] JC JO JA JB thenQ blockQ retQ AC fill CellsAt QE Ev Mid
set_option maxHeartbeats 1000000 in
set_option maxRecDepth 100000 in
theorem blank1_ac (D : Nat) (L : Hl) (s : World) (x : Nat) : AC Tryz.prog D 63 [.int .i32 (x : Int)] L s fun v L' _ => v = .bool (blkR x) ∧ L = L' := by
 refine AC_enter (TT := TT) (fn := Tryz.f63) TT_ok Tryz.func63 (by kernel_rfl) rfl Tryz.ntmps63 rfl (rs := [.tmp 2]) rfl [(0, _)] rfl ?_
 refine JC_seq ?_
 refine JC_region ?_
 refine JO_q (QE_as rfl) rfl ?_
 refine JO_nil ?_
 refine thenQ_n ?_
 refine JC_seq ?_
 refine JC_region ?_
 refine JO_q (QE_mv rfl) rfl ?_
 refine JO_q (QE_eq rfl rfl) rfl ?_
 refine JO_q (QE_mv rfl) rfl ?_
 refine JO_caseD (t := 5) rfl (fun c1 => ?_) (fun c1 => ?_)
 ·
  refine JO_gF rfl rfl rfl rfl ?_
  refine JO_gF rfl rfl rfl rfl ?_
  refine JO_q (QE_pickT rfl rfl) rfl ?_
  refine JO_q (QE_as rfl) rfl ?_
  refine JO_nil ?_
  refine thenQ_n ?_
  refine JC_ret ?_
  refine retQ_mk [] L (.inr rfl) (.tmp rfl (.nil)) rfl (Le.refl (D := D) _) (fun sR hS2 => ?_)
  exact ⟨by simp_all [resV, blkR], rfl⟩
 ·
  refine JO_gT rfl rfl ?_
  refine JO_q (QE_mv rfl) rfl ?_
  refine JO_gT rfl rfl ?_
  refine JO_q (QE_eq rfl rfl) rfl ?_
  refine JO_q (QE_pickF rfl rfl) rfl ?_
  refine JO_q (QE_as rfl) rfl ?_
  refine JO_nil ?_
  refine thenQ_n ?_
  refine JC_ret ?_
  refine retQ_mk [] L (.inr rfl) (.tmp rfl (.nil)) rfl (Le.refl (D := D) _) (fun sR hS2 => ?_)
  exact ⟨by simp_all [resV, blkR], rfl⟩
theorem enters_blank : ∀ args w, (callFunc 63 args).run Tryz.prog w = .ok (.enter 63 args) w := enters_of Tryz.func63 (by kernel_rfl) rfl
theorem fieldsF_ac (D : Nat) (L : Hl) (s : World) (l : List UInt8) (hl : l.length ≤ 4000000) : AC Tryz.prog D 62 [St l, .func (.func 63) #[] #[]] L s fun v L' s' => L = L' ∧ ∃ A n c', v = .slice A n c' ∧ Strs s' A n c' (flds l) :=
  AC.of_calls fnok_fields fun _ => by
    have hsz : (⟨l.toArray⟩ : ByteArray).size = l.length := by simp [Lib.size_eq]
    refine (Any.strings_FieldsFunc_grows Tryz.lays229 63 #[] enters_blank blkR ⟨l.toArray⟩ (fill L s) (by omega) (fun W x _ _ => ?_) (by kernel_rfl) (by kernel_rfl)).mono ?_
    · exact calls_of_AC (args := [.int .i32 (x : Int)]) fun D => blank1_ac D [] W x
    · rintro e w' ⟨A, he, hA, hown, hb⟩
      refine ⟨_, he, hb, fun s' _ _ hnew => ⟨rfl, _, _, _, rfl, ?_⟩⟩
      rw [goFields, List.length_map] at hown ⊢
      rcases hown.2 with ⟨h0, _⟩ | ⟨g, cap, cur, h1, h2, h3, h4, h5, h6, h7⟩
      · cases h0
      · injection h1 with h1 _ hcap
        injection h1 with h1
        injection h1 with h1
        subst h1; subst hcap
        rw [← hnew A (by rw [fill_size] at hA; exact hA)] at h3
        have hcur : cur = (((flds l).map fun x => (⟨x.toArray⟩ : ByteArray)).map Value.string).toArray := by
          have e1 : cur.toList = ((flds l).map fun x => (⟨x.toArray⟩ : ByteArray)).map Value.string := by
            rw [← h7, List.take_of_length_le (by rw [Array.length_toList, h6]; exact Nat.le_refl _)]
          rw [← e1, Array.toArray_toList]
        rw [hcur] at h3
        exact cells_strs h3 (fun x hx => by have := flds_short l x hx; omega) (by have := flds_len l; omega)
set_option maxHeartbeats 1000000 in
set_option maxRecDepth 100000 in
theorem divideO_ac (D : Nat) (L : Hl) (s : World) (l : List UInt8) (hl : l.length ≤ 4000000) : AC Tryz.prog D 35 [St l] L s fun v L' s' => ∃ M', L' = M' ++ L ∧ ∀ s2, Le D s' s2 → Pub M' s2 → ∃ b A n c, v = .func (.func 64) #[] #[.pointer (some ⟨b, 0, none⟩)] ∧ CellsAt s2 b 0 [.slice A n c] ∧ Strs s2 A n c (flds l) := by
 refine AC_enter (TT := TT) (fn := Tryz.f35) TT_ok Tryz.func35 (by kernel_rfl) rfl Tryz.ntmps35 rfl (rs := [.tmp 2]) rfl [(0, _)] rfl ?_
 refine JC_seq ?_
 refine JC_region ?_
 refine JO_q (QE_as rfl) rfl ?_
 refine JO_nil ?_
 refine thenQ_n ?_
 refine JC_seq ?_
 refine JC_region ?_
 refine JO_q (QE_mv rfl) rfl ?_
 refine JO_call (first := []) (captured := []) rfl rfl rfl (fieldsF_ac D _ _ l hl) ?_
 rintro _ _ s1 h1 ⟨rfl, Aw, nw, cw, rfl, hSw⟩
 refine JO_allocZ rfl [_] rfl rfl ?_
 intro β2 s2 h2
 refine JO_st 0 [_] rfl rfl rfl rfl rfl rfl rfl rfl rfl ?_
 refine JO_nil ?_
 refine thenQ_n ?_
 refine JC_seq ?_
 refine JC_region ?_
 refine JO_q (QE_func rfl) rfl ?_
 refine JO_q (QE_as rfl) rfl ?_
 refine JO_nil ?_
 refine thenQ_n ?_
 refine JC_ret ?_
 refine retQ_mk [] _ (.inr rfl) (.tmp rfl (.nil)) rfl (Le.trans h1 h2) (fun sR hS2 => ?_)
 exact ⟨[_], rfl, fun s2 hs2 hp => ⟨_, _, _, _, rfl, hp _ _ _ (List.mem_cons_self ..), hSw.le (Le.trans h2 (Le.trans hS2 hs2))⟩⟩
theorem divide_ac (D : Nat) (L : Hl) (s : World) (l : List UInt8) (hl : l.length ≤ 4000000) : AC Tryz.prog D 35 [St l] L s fun v L' s' => L = L' ∧ ∃ b A n c, v = .func (.func 64) #[] #[.pointer (some ⟨b, 0, none⟩)] ∧ CellsAt s' b 0 [.slice A n c] ∧ Strs s' A n c (flds l) := AC.pubW (divideO_ac D L s l hl)
end Go.Proofs.YtoeeblegplghmaaGreatDoor
