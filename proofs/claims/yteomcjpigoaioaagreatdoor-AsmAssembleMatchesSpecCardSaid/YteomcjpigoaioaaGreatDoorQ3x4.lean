/- Part 4 of the proof of asmAssembleMatchesSpec_holds: texts W3, W4, As, W5, W6, W7, At. -/
import Derived.Test.YteomcjpigoaioaaGreatDoorQ3x3
set_option linter.unusedVariables false
set_option linter.unusedSimpArgs false
set_option linter.unnecessarySimpa false
namespace Go.Proofs.YteomcjpigoaioaaGreatDoor
open Go.FL
attribute [local irreducible] JC JO JA JB thenQ blockQ retQ AC fill CellsAt QE Ev Mid
set_option maxHeartbeats 1000000 in
set_option maxRecDepth 100000 in
theorem fmtU0_ac (D : Nat) (L : Hl) (s : World) (hG : GW s) (u : Nat) (hu : u < 4294967296) : AC Tryz.prog D 163 [.int .u64 (u : Int), .int .i64 10] L s fun v L' _ => v = St (Lib.decDigits u) ∧ L = L' := by
 refine AC_enter (TT := TT) (fn := Tryz.f163) TT_ok Tryz.func163 (by kernel_rfl) rfl Tryz.ntmps163 rfl (rs := [.tmp 4]) rfl [(0, _), (1, _)] rfl ?_
 refine JC_seq ?_
 refine JC_region ?_
 refine JO_q (QE_as rfl) rfl ?_
 refine JO_nil ?_
 refine thenQ_n ?_
 refine JC_seq ?_
 refine JC_seq ?_
 refine JC_region ?_
 refine JO_q (QE_mv rfl) rfl ?_
 refine JO_q (QE_eq rfl rfl) rfl ?_
 refine JO_nil ?_
 refine thenQ_n ?_
 refine JC_ifD rfl (fun c1 => ?_) (fun c1 => ?_)
 ·
  refine JC_seq ?_
  refine JC_seq ?_
  refine JC_region ?_
  refine JO_q (QE_mv rfl) rfl ?_
  refine JO_q (QE_lt rfl rfl) rfl ?_
  refine JO_nil ?_
  refine thenQ_n ?_
  refine JC_ifD rfl (fun c2 => ?_) (fun c2 => ?_)
  ·
   refine JC_seq ?_
   refine JC_region ?_
   refine JO_q (QE_mv rfl) rfl ?_
   refine JO_q (QE_conv' rfl rfl rfl rfl rfl (w64 (by omega) (by omega))) rfl ?_
   refine JO_call (first := []) (captured := []) rfl rfl rfl (small_ac D _ _ u (by omega)) ?_
   rintro _ _ s3 h3 ⟨rfl, rfl⟩
   refine JO_q (QE_as rfl) rfl ?_
   refine JO_nil ?_
   refine thenQ_n ?_
   refine JC_ret ?_
   refine thenQ_r ?_
   refine thenQ_r ?_
   refine retQ_mk [] L (.inr rfl) (.tmp rfl (.nil)) rfl h3 (fun sR hS2 => ?_)
   exact ⟨rfl, rfl⟩
  ·
   refine JC_skip ?_
   refine thenQ_n ?_
   refine JC_seq ?_
   refine JC_region ?_
   refine JO_allocZ rfl [_, _, _, _, _, _, _, _, _, _, _, _, _, _, _, _, _, _, _, _, _, _, _, _] rfl rfl ?_
   intro β4 s4 h4
   refine JO_nil ?_
   refine thenQ_n ?_
   refine JC_seq ?_
   refine JC_region ?_
   refine JO_q (QE_mv rfl) rfl ?_
   refine JO_call (first := []) (captured := []) rfl rfl rfl (nd_ac D _ _ (hG.le h4) u (by omega) hu) ?_
   rintro _ _ s5 h5 ⟨rfl, rfl⟩
   refine JO_q (QE_as rfl) rfl ?_
   refine JO_nil ?_
   refine thenQ_n ?_
   refine JC_seq ?_
   refine JC_region ?_
   refine JO_q (QE_mv rfl) rfl ?_
   refine JO_q (QE_slA rfl rfl rfl rfl rfl (by have := nd_le hu; omega)) rfl ?_
   refine JO_q (QE_mv rfl) rfl ?_
   refine JO_call (first := []) (captured := []) rfl rfl rfl (format_ac D _ _ u hu _ _) ?_
   rintro _ _ s6 h6 ⟨rfl, ys, rfl, hys⟩
   refine JO_nil ?_
   refine thenQ_n ?_
   refine JC_seq ?_
   refine JC_pubX [] [_] _ ?_
   intro s7 h7 hpub7
   simp only [List.cons_append, List.nil_append]
   have hbt := bts_pub (l := Lib.decDigits u) (hpub7 _ _ _ (List.mem_cons_self ..)) hys (by omega)
   rw [Lib.decDigits_length] at hbt
   refine JC_region ?_
   refine JO_q (QE_mv rfl) rfl ?_
   refine JO_q (QE_slA rfl rfl rfl rfl rfl (by have := nd_le hu; omega)) rfl ?_
   refine JO_q (QE_b2s rfl rfl rfl rfl rfl rfl rfl (hbt.le (Le.refl (D := D) _))) rfl ?_
   refine JO_q (QE_as rfl) rfl ?_
   refine JO_nil ?_
   refine thenQ_n ?_
   refine JC_ret ?_
   refine thenQ_r ?_
   refine retQ_mk [] L (.inr rfl) (.tmp rfl (.nil)) rfl (Le.trans (Le.trans (Le.trans h4 h5) h6) h7) (fun sR hS2 => ?_)
   exact ⟨rfl, rfl⟩
 ·
  exact absurd rfl c1 --end
set_option maxHeartbeats 1000000 in
set_option maxRecDepth 100000 in
theorem fmtU_ac (D : Nat) (L : Hl) (s : World) (hG : GW s) (u : Nat) (hu : u < 4294967296) : AC Tryz.prog D 156 [.int .u64 (u : Int), .int .i64 10] L s fun v L' _ => v = St (Lib.decDigits u) ∧ L = L' := by
 refine AC_enter (TT := TT) (fn := Tryz.f156) TT_ok Tryz.func156 (by kernel_rfl) rfl Tryz.ntmps156 rfl (rs := [.tmp 4]) rfl [(0, _), (1, _)] rfl ?_
 refine JC_seq ?_
 refine JC_region ?_
 refine JO_q (QE_as rfl) rfl ?_
 refine JO_nil ?_
 refine thenQ_n ?_
 refine JC_seq ?_
 refine JC_region ?_
 refine JO_q (QE_mv rfl) rfl ?_
 refine JO_q (QE_mv rfl) rfl ?_
 refine JO_call (first := []) (captured := []) rfl rfl rfl (fmtU0_ac D _ _ (hG.le (Le.refl (D := D) _)) u hu) ?_
 rintro _ _ s1 h1 ⟨rfl, rfl⟩
 refine JO_q (QE_as rfl) rfl ?_
 refine JO_nil ?_
 refine thenQ_n ?_
 refine JC_ret ?_
 refine retQ_mk [] L (.inr rfl) (.tmp rfl (.nil)) rfl h1 (fun sR hS2 => ?_)
 exact ⟨rfl, rfl⟩
theorem errT : Tryz.prog.underlying 106 = some (.interface (Tryz.prog.methodsAt 106)) := by kernel_rfl
theorem parseE_ac (D : Nat) (L : Hl) (s : World) (hG : GW s) (l : List UInt8) (hl : l.length ≤ 281474976710656) : AC Tryz.prog D 155 [St l, .int .i64 10, .int .i64 32] L s fun v L' _ => L = L' ∧ ∃ n e b, v = .tuple #[.int .u64 n, e] ∧ EqNil e b ∧ (b = true → ∃ u : Nat, n = (u : Int) ∧ Lib.parseUintB 32 l = .ok u) ∧ (b = false → ∀ u, Lib.parseUintB 32 l ≠ .ok u) :=
  (parse_ac D L s hG l hl).mono fun v L' s' _ ⟨hv, hL⟩ => by
    refine ⟨hL, ?_⟩
    cases hv with
    | ok u h => exact ⟨_, _, true, rfl, .inl ⟨rfl, rfl⟩, fun _ => ⟨u, rfl, h⟩, fun h => by cases h⟩
    | bad h n t p => exact ⟨_, _, false, rfl, .inr ⟨_, _, rfl, rfl⟩, (fun h => by cases h), fun _ => h⟩
set_option maxHeartbeats 1000000 in
set_option maxRecDepth 100000 in
theorem readNum_ac (D : Nat) (L : Hl) (s : World) (hG : GW s) (l : List UInt8) (hl : l.length ≤ 281474976710656) : AC Tryz.prog D 142 [St l] L s fun v L' _ => L = L' ∧ ∃ k, v = .tuple #[.int .u32 k, .bool (numL l).isSome] ∧ U32 k ∧ ∀ u, numL l = some u → k = (u : Int) := by
 refine AC_enter (TT := TT) (fn := Tryz.f142) TT_ok Tryz.func142 (by kernel_rfl) rfl Tryz.ntmps142 rfl (rs := [.tmp 2, .tmp 3]) rfl [(0, _)] rfl ?_
 refine JC_seq ?_
 refine JC_region ?_
 refine JO_q (QE_as rfl) rfl ?_
 refine JO_q (QE_as rfl) rfl ?_
 refine JO_nil ?_
 refine thenQ_n ?_
 refine JC_seq ?_
 refine JC_region ?_
 refine JO_q (QE_mv rfl) rfl ?_
 refine JO_call (first := []) (captured := []) rfl rfl rfl (parseE_ac D _ _ (hG.le (Le.refl (D := D) _)) l hl) ?_
 rintro _ _ s1 h1 ⟨rfl, n, e, b, rfl, hE, hT, hF⟩
 refine JO_q (QE_mv rfl) rfl ?_
 refine JO_q (QE_ext rfl rfl) rfl ?_
 refine JO_q (QE_ext rfl rfl) rfl ?_
 refine JO_q (QE_as rfl) rfl ?_
 refine JO_q (QE_as rfl) rfl ?_
 refine JO_nil ?_
 refine thenQ_n ?_
 refine JC_seq ?_
 refine JC_region ?_
 refine JO_q (QE_mv rfl) rfl ?_
 refine JO_q (QE_conv rfl rfl rfl rfl rfl) rfl ?_
 refine JO_q (QE_mv rfl) rfl ?_
 refine JO_q (QE_inil errT rfl hE) rfl ?_
 refine JO_q (QE_mv rfl) rfl ?_
 refine JO_case (t := 15) rfl (fun c2 => ?_) (fun c2 => ?_)
 ·
  refine JO_gT rfl rfl ?_
  obtain ⟨u, rfl, hu⟩ := hT (by assumption)
  refine JO_q (QE_mv rfl) rfl ?_
  refine JO_gT rfl rfl ?_
  refine JO_call (first := []) (captured := []) rfl rfl rfl (fmtU_ac D _ _ (hG.le h1) u (by have := Lib.parseUintB_le hu; omega)) ?_
  rintro _ _ s3 h3 ⟨rfl, rfl⟩
  refine JO_gT rfl rfl ?_
  refine JO_q (QE_mv rfl) rfl ?_
  refine JO_gT rfl rfl ?_
  refine JO_q (QE_seq rfl rfl) rfl ?_
  refine JO_q (QE_pickT rfl rfl) rfl ?_
  refine JO_q (QE_as rfl) rfl ?_
  refine JO_q (QE_as rfl) rfl ?_
  refine JO_nil ?_
  refine thenQ_n ?_
  refine JC_ret ?_
  refine retQ_mk [] L (.inr rfl) (.tmp rfl (.tmp rfl (.nil))) rfl (Le.trans h1 h3) (fun sR hS2 => ?_)
  first
    | (refine ⟨rfl, IntKind.u32.wrap (u : Int), ?_, wrapU32 _, fun v hv => ?_⟩
       · rw [← num_dec hu]; rfl
       · have := num_val hu hv; subst this; exact wrap_small (by have := Lib.parseUintB_le hu; omega))
    | (refine ⟨rfl, IntKind.u32.wrap n, ?_, wrapU32 _, fun v hv => ?_⟩
       · rw [num_not (hF (by assumption))]; rfl
       · rw [num_not (hF (by assumption))] at hv; cases hv)
 ·
  refine JO_gF rfl rfl rfl rfl ?_
  refine JO_gF rfl rfl rfl rfl ?_
  refine JO_gF rfl rfl rfl rfl ?_
  refine JO_gF rfl rfl rfl rfl ?_
  refine JO_q (QE_pickF rfl rfl) rfl ?_
  refine JO_q (QE_as rfl) rfl ?_
  refine JO_q (QE_as rfl) rfl ?_
  refine JO_nil ?_
  refine thenQ_n ?_
  refine JC_ret ?_
  refine retQ_mk [] L (.inr rfl) (.tmp rfl (.tmp rfl (.nil))) rfl h1 (fun sR hS2 => ?_)
  first
    | (refine ⟨rfl, IntKind.u32.wrap (u : Int), ?_, wrapU32 _, fun v hv => ?_⟩
       · rw [← num_dec hu]; rfl
       · have := num_val hu hv; subst this; exact wrap_small (by have := Lib.parseUintB_le hu; omega))
    | (refine ⟨rfl, IntKind.u32.wrap n, ?_, wrapU32 _, fun v hv => ?_⟩
       · rw [num_not (hF (by assumption))]; rfl
       · rw [num_not (hF (by assumption))] at hv; cases hv)
set_option maxHeartbeats 1000000 in
set_option maxRecDepth 100000 in
theorem readOpd_ac (D : Nat) (L : Hl) (s : World) (hG : GW s) (l : List UInt8) (hl : l.length ≤ 281474976710656) : AC Tryz.prog D 121 [St l] L s fun v L' _ => L = L' ∧ ∃ nm k, v = .tuple #[.agg #[St nm, .int .u32 k], .bool (opdL l).isSome] ∧ U32 k ∧ ∀ x, opdL l = some x → (nm, k) = x := by
 have hl1 := (cut_len 43 l).2
 refine AC_enter (TT := TT) (fn := Tryz.f121) TT_ok Tryz.func121 (by kernel_rfl) rfl Tryz.ntmps121 rfl (rs := [.cell 2 140, .tmp 3]) rfl [(0, _)] rfl ?_
 refine JC_seq ?_
 refine JC_region ?_
 refine JO_allocZ rfl [_, _] rfl rfl ?_
 intro β1 s1 h1
 refine JO_q (QE_as rfl) rfl ?_
 refine JO_nil ?_
 refine thenQ_n ?_
 refine JC_seq ?_
 refine JC_region ?_
 refine JO_q (QE_mv rfl) rfl ?_
 refine JO_call (first := []) (captured := []) rfl rfl rfl (cut_ac D _ _ l 43 (by omega)) ?_
 rintro _ _ s2 h2 ⟨rfl, rfl⟩
 refine JO_q (QE_mv rfl) rfl ?_
 refine JO_q (QE_ext rfl rfl) rfl ?_
 refine JO_q (QE_ext rfl rfl) rfl ?_
 refine JO_q (QE_ext rfl rfl) rfl ?_
 refine JO_q (QE_as rfl) rfl ?_
 refine JO_q (QE_as rfl) rfl ?_
 refine JO_q (QE_as rfl) rfl ?_
 refine JO_nil ?_
 refine thenQ_n ?_
 refine JC_seq ?_
 refine JC_seq ?_
 refine JC_region ?_
 refine JO_q (QE_mv rfl) rfl ?_
 refine JO_call (first := []) (captured := []) rfl rfl rfl (aName_ac D _ _ _) ?_
 rintro _ _ s3 h3 ⟨rfl, rfl⟩
 refine JO_nil ?_
 refine thenQ_n ?_
 refine JC_if rfl (fun c4 => ?_) (fun c4 => ?_)
 ·
  have hlb := c4
  refine JC_seq ?_
  refine JC_seq ?_
  refine JC_region ?_
  refine JO_q (QE_mv rfl) rfl ?_
  refine JO_q (QE_not rfl) rfl ?_
  refine JO_nil ?_
  refine thenQ_n ?_
  refine JC_ifM rfl (fun c5 => ?_) (fun c5 => ?_)
  ·
   have hpl := c5
   refine JC_seq ?_
   refine JC_region ?_
   refine JO_q (QE_mv rfl) rfl ?_
   refine JO_q (QE_build [(_, _)] [_, _] rfl rfl rfl rfl rfl rfl) rfl ?_
   refine JO_st 0 [_, _] rfl rfl rfl rfl rfl rfl rfl rfl rfl ?_
   refine JO_q (QE_as rfl) rfl ?_
   refine JO_nil ?_
   refine thenQ_n ?_
   refine JC_ret ?_
   refine thenQ_r ?_
   refine thenQ_r ?_
   refine retQ_mk [_] L (.inr rfl) (.agg (us := [_, _]) 0 rfl rfl rfl rfl rfl (.tmp rfl (.nil))) rfl (Le.trans (Le.trans h1 h2) h3) (fun sR hS2 => ?_)
   first
     | (refine ⟨rfl, (cutB 43 l).1, 0, ?_, U32_zero, fun x hx => ?_⟩
        · rw [show opdL l = some ((cutB 43 l).1, 0) by rw [opdL, if_pos hlb, if_neg (by rw [hpl]; decide)]]; rfl
        · rw [show opdL l = some ((cutB 43 l).1, 0) by rw [opdL, if_pos hlb, if_neg (by rw [hpl]; decide)]] at hx; injection hx)
     | (have he : opdL l = (numL (cutB 43 l).2.1).map (fun (n : Nat) => ((cutB 43 l).1, (n : Int))) := by rw [opdL, if_pos hlb, if_pos hpl]
        refine ⟨rfl, (cutB 43 l).1, k, ?_, hku, fun x hx => ?_⟩
        · rw [he, Option.isSome_map]; rfl
        · rw [he] at hx
          obtain ⟨u, hu, rfl⟩ := Option.map_eq_some_iff.1 hx
          rw [hkv u hu])
     | (have he : opdL l = (numL l).map (fun (n : Nat) => ([], (n : Int))) := by rw [opdL, if_neg (by rw [hlb]; decide)]
        refine ⟨rfl, [], k, ?_, hku, fun x hx => ?_⟩
        · rw [he, Option.isSome_map]; rfl
        · rw [he] at hx
          obtain ⟨u, hu, rfl⟩ := Option.map_eq_some_iff.1 hx
          rw [hkv u hu])
  ·
   have hpl := c5
   refine JC_skip ?_
   refine thenQ_n ?_
   refine JC_seq ?_
   refine JC_region ?_
   refine JO_q (QE_mv rfl) rfl ?_
   refine JO_call (first := []) (captured := []) rfl rfl rfl (readNum_ac D _ _ (hG.le (Le.trans (Le.trans h1 h2) h3)) _ (by omega)) ?_
   rintro _ _ s6 h6 ⟨rfl, k, rfl, hku, hkv⟩
   refine JO_q (QE_mv rfl) rfl ?_
   refine JO_q (QE_ext rfl rfl) rfl ?_
   refine JO_q (QE_ext rfl rfl) rfl ?_
   refine JO_q (QE_as rfl) rfl ?_
   refine JO_q (QE_as rfl) rfl ?_
   refine JO_nil ?_
   refine thenQ_n ?_
   refine JC_seq ?_
   refine JC_region ?_
   refine JO_q (QE_mv rfl) rfl ?_
   refine JO_q (QE_mv rfl) rfl ?_
   refine JO_q (QE_build [(_, _), (_, _)] [_, _] rfl rfl rfl rfl rfl rfl) rfl ?_
   refine JO_q (QE_mv rfl) rfl ?_
   refine JO_st 0 [_, _] rfl rfl rfl rfl rfl rfl rfl rfl rfl ?_
   refine JO_q (QE_as rfl) rfl ?_
   refine JO_nil ?_
   refine thenQ_n ?_
   refine JC_ret ?_
   refine thenQ_r ?_
   refine retQ_mk [_] L (.inr rfl) (.agg (us := [_, _]) 0 rfl rfl rfl rfl rfl (.tmp rfl (.nil))) rfl (Le.trans (Le.trans (Le.trans h1 h2) h3) h6) (fun sR hS2 => ?_)
   first
     | (refine ⟨rfl, (cutB 43 l).1, 0, ?_, U32_zero, fun x hx => ?_⟩
        · rw [show opdL l = some ((cutB 43 l).1, 0) by rw [opdL, if_pos hlb, if_neg (by rw [hpl]; decide)]]; rfl
        · rw [show opdL l = some ((cutB 43 l).1, 0) by rw [opdL, if_pos hlb, if_neg (by rw [hpl]; decide)]] at hx; injection hx)
     | (have he : opdL l = (numL (cutB 43 l).2.1).map (fun (n : Nat) => ((cutB 43 l).1, (n : Int))) := by rw [opdL, if_pos hlb, if_pos hpl]
        refine ⟨rfl, (cutB 43 l).1, k, ?_, hku, fun x hx => ?_⟩
        · rw [he, Option.isSome_map]; rfl
        · rw [he] at hx
          obtain ⟨u, hu, rfl⟩ := Option.map_eq_some_iff.1 hx
          rw [hkv u hu])
     | (have he : opdL l = (numL l).map (fun (n : Nat) => ([], (n : Int))) := by rw [opdL, if_neg (by rw [hlb]; decide)]
        refine ⟨rfl, [], k, ?_, hku, fun x hx => ?_⟩
        · rw [he, Option.isSome_map]; rfl
        · rw [he] at hx
          obtain ⟨u, hu, rfl⟩ := Option.map_eq_some_iff.1 hx
          rw [hkv u hu])
 ·
  have hlb := c4
  refine JC_skip ?_
  refine thenQ_n ?_
  refine JC_seq ?_
  refine JC_region ?_
  refine JO_q (QE_mv rfl) rfl ?_
  refine JO_call (first := []) (captured := []) rfl rfl rfl (readNum_ac D _ _ (hG.le (Le.trans (Le.trans h1 h2) h3)) _ hl) ?_
  rintro _ _ s7 h7 ⟨rfl, k, rfl, hku, hkv⟩
  refine JO_q (QE_mv rfl) rfl ?_
  refine JO_q (QE_ext rfl rfl) rfl ?_
  refine JO_q (QE_ext rfl rfl) rfl ?_
  refine JO_q (QE_as rfl) rfl ?_
  refine JO_q (QE_as rfl) rfl ?_
  refine JO_nil ?_
  refine thenQ_n ?_
  refine JC_seq ?_
  refine JC_region ?_
  refine JO_q (QE_mv rfl) rfl ?_
  refine JO_q (QE_build [(_, _)] [_, _] rfl rfl rfl rfl rfl rfl) rfl ?_
  refine JO_q (QE_mv rfl) rfl ?_
  refine JO_st 0 [_, _] rfl rfl rfl rfl rfl rfl rfl rfl rfl ?_
  refine JO_q (QE_as rfl) rfl ?_
  refine JO_nil ?_
  refine thenQ_n ?_
  refine JC_ret ?_
  refine retQ_mk [_] L (.inr rfl) (.agg (us := [_, _]) 0 rfl rfl rfl rfl rfl (.tmp rfl (.nil))) rfl (Le.trans (Le.trans (Le.trans h1 h2) h3) h7) (fun sR hS2 => ?_)
  first
    | (refine ⟨rfl, (cutB 43 l).1, 0, ?_, U32_zero, fun x hx => ?_⟩
       · rw [show opdL l = some ((cutB 43 l).1, 0) by rw [opdL, if_pos hlb, if_neg (by rw [hpl]; decide)]]; rfl
       · rw [show opdL l = some ((cutB 43 l).1, 0) by rw [opdL, if_pos hlb, if_neg (by rw [hpl]; decide)]] at hx; injection hx)
    | (have he : opdL l = (numL (cutB 43 l).2.1).map (fun (n : Nat) => ((cutB 43 l).1, (n : Int))) := by rw [opdL, if_pos hlb, if_pos hpl]
       refine ⟨rfl, (cutB 43 l).1, k, ?_, hku, fun x hx => ?_⟩
       · rw [he, Option.isSome_map]; rfl
       · rw [he] at hx
         obtain ⟨u, hu, rfl⟩ := Option.map_eq_some_iff.1 hx
         rw [hkv u hu])
    | (have he : opdL l = (numL l).map (fun (n : Nat) => ([], (n : Int))) := by rw [opdL, if_neg (by rw [hlb]; decide)]
       refine ⟨rfl, [], k, ?_, hku, fun x hx => ?_⟩
       · rw [he, Option.isSome_map]; rfl
       · rw [he] at hx
         obtain ⟨u, hu, rfl⟩ := Option.map_eq_some_iff.1 hx
         rw [hkv u hu])
end Go.Proofs.YteomcjpigoaioaaGreatDoor
namespace Go.Proofs.YteomcjpigoaioaaGreatDoor
open Go.FL
attribute [local irreducible] JC JO JA JB thenQ blockQ retQ AC fill CellsAt QE Ev Mid
set_option maxHeartbeats 2000000 in
set_option maxRecDepth 100000 in
theorem readLine_ac (D : Nat) (L : Hl) (s : World) (hG : GW s) (l : List UInt8) (hl : l.length ≤ 400000) : AC Tryz.prog D 100 [St l] L s fun v L' _ => L = L' ∧ ∃ x : Ln, v = .tuple #[.agg x.cs.toArray, .bool (lineL l).isSome] ∧ U32 x.num ∧ ∀ y, lineL l = some y → x = y := by
 have hl1 := (cut_len 59 l).1
 refine AC_enter (TT := TT) (fn := Tryz.f100) TT_ok Tryz.func100 (by kernel_rfl) rfl Tryz.ntmps100 rfl (rs := [.cell 2 173, .tmp 3]) rfl [(0, _)] rfl ?_
 refine JC_seq ?_
 refine JC_region ?_
 refine JO_allocZ rfl [_, _, _, _, _] rfl rfl ?_
 intro β1 s1 h1
 refine JO_q (QE_as rfl) rfl ?_
 refine JO_nil ?_
 refine thenQ_n ?_
 refine JC_seq ?_
 refine JC_region ?_
 refine JO_q (QE_mv rfl) rfl ?_
 refine JO_call (first := []) (captured := []) rfl rfl rfl (cut_ac D _ _ l 59 (by omega)) ?_
 rintro _ _ s2 h2 ⟨rfl, rfl⟩
 refine JO_q (QE_mv rfl) rfl ?_
 refine JO_q (QE_ext rfl rfl) rfl ?_
 refine JO_q (QE_ext rfl rfl) rfl ?_
 refine JO_q (QE_ext rfl rfl) rfl ?_
 refine JO_q (QE_as rfl) rfl ?_
 refine JO_nil ?_
 refine thenQ_n ?_
 refine JC_seq ?_
 refine JC_region ?_
 refine JO_q (QE_mv rfl) rfl ?_
 refine JO_call (first := []) (captured := []) rfl rfl rfl (fields_ac D _ _ _ (by omega)) ?_
 rintro _ _ s3 h3 ⟨rfl, Aw, nw, cw, rfl, hW⟩
 have hn := hW.1
 have hmem : ∀ x ∈ fldB (cutB 59 l).1, x.length ≤ 400000 := fun x hx => by have := (fld_mem hx).2; omega
 generalize hWW : fldB (cutB 59 l).1 = W at hW hmem hn
 refine JO_q (QE_as rfl) rfl ?_
 refine JO_nil ?_
 refine thenQ_n ?_
 refine JC_seq ?_
 refine JC_region ?_
 refine JO_allocZ rfl [_, _, _, _, _] rfl rfl ?_
 intro β4 s4 h4
 refine JO_nil ?_
 refine thenQ_n ?_
 refine JC_seq ?_
 refine JC_seq ?_
 refine JC_region ?_
 refine JO_q (QE_mv rfl) rfl ?_
 refine JO_q (QE_lenS rfl rfl rfl) rfl ?_
 refine JO_q (QE_gt rfl rfl) rfl ?_
 refine JO_nil ?_
 refine thenQ_n ?_
 refine JC_ifD rfl (fun c5 => ?_) (fun c5 => ?_)
 ·
  obtain ⟨b0, off0, w0, R, rfl, hWc, hc0, hlw0⟩ := Strs.head (hW.le h4) (show 0 < nw by omega)
  subst hWc
  refine JC_seq ?_
  refine JC_region ?_
  refine JO_q (QE_mv rfl) rfl ?_
  refine JO_q (QE_ia1 (j := 0) rfl rfl rfl rfl rfl rfl (show 0 < nw by omega)) rfl ?_
  refine JO_q (QE_ldsR0 rfl rfl rfl (hc0.le (Le.refl (D := D) _)) rfl) rfl ?_
  refine JO_call (first := []) (captured := []) rfl rfl rfl (cutSuffix_ac D _ _ _ 58 hlw0) ?_
  rintro _ _ s6 h6 ⟨rfl, rfl⟩
  refine JO_q (QE_mv rfl) rfl ?_
  refine JO_q (QE_ext rfl rfl) rfl ?_
  refine JO_q (QE_ext rfl rfl) rfl ?_
  refine JO_q (QE_as rfl) rfl ?_
  refine JO_q (QE_as rfl) rfl ?_
  refine JO_nil ?_
  refine thenQ_n ?_
  refine JC_seq ?_
  refine JC_region ?_
  refine JO_q (QE_mv rfl) rfl ?_
  refine JO_nil ?_
  refine thenQ_n ?_
  refine JC_if rfl (fun c7 => ?_) (fun c7 => ?_)
  ·
   have he := c7
   rw [if_pos he]
   refine JC_seq ?_
   refine JC_seq ?_
   refine JC_region ?_
   refine JO_q (QE_mv rfl) rfl ?_
   refine JO_call (first := []) (captured := []) rfl rfl rfl (aName_ac D _ _ _) ?_
   rintro _ _ s8 h8 ⟨rfl, rfl⟩
   refine JO_q (QE_not rfl) rfl ?_
   refine JO_nil ?_
   refine thenQ_n ?_
   refine JC_ifM rfl (fun c9 => ?_) (fun c9 => ?_)
   ·
    have hlb := c9
    refine JC_seq ?_
    refine JC_region ?_
    refine JO_q (QE_build [] [_, _, _, _, _] rfl rfl rfl rfl rfl rfl) rfl ?_
    refine JO_st 1 [_, _, _, _, _] rfl rfl rfl rfl rfl rfl rfl rfl rfl ?_
    refine JO_q (QE_as rfl) rfl ?_
    refine JO_nil ?_
    refine thenQ_n ?_
    refine JC_ret ?_
    refine thenQ_r ?_
    refine thenQ_r ?_
    refine retQ_mk [_, _] L (.inr rfl) (.agg (us := [_, _, _, _, _]) 1 rfl rfl rfl rfl rfl (.tmp rfl (.nil))) rfl (Le.trans (Le.trans (Le.trans (Le.trans (Le.trans h1 h2) h3) h4) h6) h8) (fun sR hS2 => ?_)
    first
      | (have hN : lineL l = none := by
           first
           | exact lineL_no hWW (by rw [labW, if_pos he, if_neg (by rw [hlb]; decide)])
           | (rw [hlab]; exact bodyW_bad (by assumption))
           | (rw [hlab]; exact bodyW_long (by simp only [List.length_cons]; omega))
         rw [hN]
         exact ⟨rfl, ⟨[], [], false, [], 0⟩, rfl, U32_zero, fun y hy => by cases hy⟩)
      | (rw [hlab, bodyW_two (by assumption), Option.isSome_map]
         first
         | exact ⟨rfl, ⟨[], w1, true, nm, kk⟩, rfl, hku, fun y hy => by
             obtain ⟨x, hx, rfl⟩ := Option.map_eq_some_iff.1 hy
             have := hkv x hx; subst this; rfl⟩
         | exact ⟨rfl, ⟨w0.dropLast, w1, true, nm, kk⟩, rfl, hku, fun y hy => by
             obtain ⟨x, hx, rfl⟩ := Option.map_eq_some_iff.1 hy
             have := hkv x hx; subst this; rfl⟩)
      | (obtain rfl : R1 = [] := List.eq_nil_of_length_eq_zero (by omega)
         rw [hlab, bodyW_one (by assumption)]
         first
         | exact ⟨rfl, ⟨[], w1, false, [], 0⟩, rfl, U32_zero, fun y hy => by injection hy⟩
         | exact ⟨rfl, ⟨w0.dropLast, w1, false, [], 0⟩, rfl, U32_zero, fun y hy => by injection hy⟩)
      | (have hR : R = [] := List.eq_nil_of_length_eq_zero (by omega)
         subst hR
         rw [hlab]
         exact ⟨rfl, ⟨w0.dropLast, [], false, [], 0⟩, rfl, U32_zero, fun y hy => by injection hy⟩)
      | (rw [hlab]
         exact ⟨rfl, ⟨[], [], false, [], 0⟩, rfl, U32_zero, fun y hy => by injection hy⟩)
      | (exfalso; simp only [List.length_cons] at hn; omega)
   ·
    have hlb := c9
    obtain ⟨A1, n1, c1, hsl, hW1⟩ := Strs.tail (hW.le (Le.trans (Le.trans h4 h6) h8))
    have hlab : lineL l = bodyW w0.dropLast R := lineL_of hWW (by rw [labW, if_pos he, if_pos hlb])
    have hn1 := hW1.1
    refine JC_skip ?_
    refine thenQ_n ?_
    refine JC_drawE drawsMixed 6 rfl [0] (by intro x hx; exact eraseAll_mem hx) ?_
    intro s10 h10
    refine JA_q 0 rfl (by kernel_rfl) (by kernel_rfl) (by kernel_rfl) trivial (QE_mv rfl) rfl ?_
    refine JA_q 1 rfl (by kernel_rfl) (by kernel_rfl) (by kernel_rfl) trivial (QE_mv rfl) rfl ?_
    refine JA_q 2 rfl (by kernel_rfl) (by kernel_rfl) (by kernel_rfl) trivial (QE_cast (QE_slL (j := 1) rfl rfl rfl rfl rfl (by omega)) hsl) rfl ?_
    refine JA_q 3 rfl (by kernel_rfl) (by kernel_rfl) (by kernel_rfl) trivial (QE_fa0 rfl rfl rfl rfl) rfl ?_
    refine JA_1 4 (by kernel_rfl) ?_
    refine JB_st rfl trivial 0 [_, _, _, _, _] rfl rfl rfl rfl rfl rfl rfl rfl rfl (fun _ hx => sub_mem (sbY (sbE _)) hx) ?_
    refine JA_q 5 rfl (by kernel_rfl) (by kernel_rfl) (by kernel_rfl) trivial (QE_as rfl) rfl ?_
    refine JA_done (by kernel_rfl) ?_
    refine thenQ_n ?_
    refine JC_seq ?_
    refine JC_seq ?_
    refine JC_region ?_
    refine JO_q (QE_mv rfl) rfl ?_
    refine JO_q (QE_lenS rfl rfl rfl) rfl ?_
    refine JO_q (QE_eq rfl rfl) rfl ?_
    refine JO_nil ?_
    refine thenQ_n ?_
    refine JC_ifD rfl (fun c11 => ?_) (fun c11 => ?_)
    ·
     have hz1 := c11
     refine JC_seq ?_
     refine JC_region ?_
     refine JO_q (QE_ldA 0 [_, _, _, _, _] rfl rfl rfl rfl rfl) rfl ?_
     refine JO_st 1 [_, _, _, _, _] rfl rfl rfl rfl rfl rfl rfl rfl rfl ?_
     refine JO_q (QE_as rfl) rfl ?_
     refine JO_nil ?_
     refine thenQ_n ?_
     refine JC_ret ?_
     refine thenQ_r ?_
     refine retQ_mk [_, _] L (.inr rfl) (.agg (us := [_, _, _, _, _]) 1 rfl rfl rfl rfl rfl (.tmp rfl (.nil))) rfl (Le.trans (Le.trans (Le.trans (Le.trans (Le.trans (Le.trans h1 h2) h3) h4) h6) h8) h10) (fun sR hS2 => ?_)
     first
       | (have hN : lineL l = none := by
            first
            | exact lineL_no hWW (by rw [labW, if_pos he, if_neg (by rw [hlb]; decide)])
            | (rw [hlab]; exact bodyW_bad (by assumption))
            | (rw [hlab]; exact bodyW_long (by simp only [List.length_cons]; omega))
          rw [hN]
          exact ⟨rfl, ⟨[], [], false, [], 0⟩, rfl, U32_zero, fun y hy => by cases hy⟩)
       | (rw [hlab, bodyW_two (by assumption), Option.isSome_map]
          first
          | exact ⟨rfl, ⟨[], w1, true, nm, kk⟩, rfl, hku, fun y hy => by
              obtain ⟨x, hx, rfl⟩ := Option.map_eq_some_iff.1 hy
              have := hkv x hx; subst this; rfl⟩
          | exact ⟨rfl, ⟨w0.dropLast, w1, true, nm, kk⟩, rfl, hku, fun y hy => by
              obtain ⟨x, hx, rfl⟩ := Option.map_eq_some_iff.1 hy
              have := hkv x hx; subst this; rfl⟩)
       | (obtain rfl : R1 = [] := List.eq_nil_of_length_eq_zero (by omega)
          rw [hlab, bodyW_one (by assumption)]
          first
          | exact ⟨rfl, ⟨[], w1, false, [], 0⟩, rfl, U32_zero, fun y hy => by injection hy⟩
          | exact ⟨rfl, ⟨w0.dropLast, w1, false, [], 0⟩, rfl, U32_zero, fun y hy => by injection hy⟩)
       | (have hR : R = [] := List.eq_nil_of_length_eq_zero (by omega)
          subst hR
          rw [hlab]
          exact ⟨rfl, ⟨w0.dropLast, [], false, [], 0⟩, rfl, U32_zero, fun y hy => by injection hy⟩)
       | (rw [hlab]
          exact ⟨rfl, ⟨[], [], false, [], 0⟩, rfl, U32_zero, fun y hy => by injection hy⟩)
       | (exfalso; simp only [List.length_cons] at hn; omega)
    ·
     obtain ⟨b1, off1, w1, R1, rfl, hR1, hc1, hlw1⟩ := Strs.head (hW1.le h10) (by omega)
     subst hR1
     simp only [List.length_cons] at hn1
     refine JC_skip ?_
     refine thenQ_n ?_
     refine JC_seq ?_
     refine JC_seq ?_
     refine JC_region ?_
     refine JO_q (QE_mv rfl) rfl ?_
     refine JO_q (QE_ia1 (j := 0) rfl rfl rfl rfl rfl rfl (by omega)) rfl ?_
     refine JO_q (QE_ldsR0 rfl rfl rfl (hc1.le (Le.refl (D := D) _)) rfl) rfl ?_
     refine JO_call (first := []) (captured := []) rfl rfl rfl (aName_ac D _ _ _) ?_
     rintro _ _ s12 h12 ⟨rfl, rfl⟩
     refine JO_q (QE_not rfl) rfl ?_
     refine JO_q (QE_mv rfl) rfl ?_
     refine JO_caseM (t := 45) rfl (fun c13 => ?_) (fun c13 => ?_)
     ·
      refine JO_gF rfl rfl rfl rfl ?_
      refine JO_gF rfl rfl rfl rfl ?_
      refine JO_gF rfl rfl rfl rfl ?_
      refine JO_q (QE_pickT rfl rfl) rfl ?_
      refine JO_nil ?_
      refine thenQ_n ?_
      refine JC_ifT rfl ?_
      refine JC_seq ?_
      refine JC_region ?_
      refine JO_q (QE_build [] [_, _, _, _, _] rfl rfl rfl rfl rfl rfl) rfl ?_
      refine JO_st 1 [_, _, _, _, _] rfl rfl rfl rfl rfl rfl rfl rfl rfl ?_
      refine JO_q (QE_as rfl) rfl ?_
      refine JO_nil ?_
      refine thenQ_n ?_
      refine JC_ret ?_
      refine thenQ_r ?_
      refine retQ_mk [_, _] L (.inr rfl) (.agg (us := [_, _, _, _, _]) 1 rfl rfl rfl rfl rfl (.tmp rfl (.nil))) rfl (Le.trans (Le.trans (Le.trans (Le.trans (Le.trans (Le.trans (Le.trans h1 h2) h3) h4) h6) h8) h10) h12) (fun sR hS2 => ?_)
      first
        | (have hN : lineL l = none := by
             first
             | exact lineL_no hWW (by rw [labW, if_pos he, if_neg (by rw [hlb]; decide)])
             | (rw [hlab]; exact bodyW_bad (by assumption))
             | (rw [hlab]; exact bodyW_long (by simp only [List.length_cons]; omega))
           rw [hN]
           exact ⟨rfl, ⟨[], [], false, [], 0⟩, rfl, U32_zero, fun y hy => by cases hy⟩)
        | (rw [hlab, bodyW_two (by assumption), Option.isSome_map]
           first
           | exact ⟨rfl, ⟨[], w1, true, nm, kk⟩, rfl, hku, fun y hy => by
               obtain ⟨x, hx, rfl⟩ := Option.map_eq_some_iff.1 hy
               have := hkv x hx; subst this; rfl⟩
           | exact ⟨rfl, ⟨w0.dropLast, w1, true, nm, kk⟩, rfl, hku, fun y hy => by
               obtain ⟨x, hx, rfl⟩ := Option.map_eq_some_iff.1 hy
               have := hkv x hx; subst this; rfl⟩)
        | (obtain rfl : R1 = [] := List.eq_nil_of_length_eq_zero (by omega)
           rw [hlab, bodyW_one (by assumption)]
           first
           | exact ⟨rfl, ⟨[], w1, false, [], 0⟩, rfl, U32_zero, fun y hy => by injection hy⟩
           | exact ⟨rfl, ⟨w0.dropLast, w1, false, [], 0⟩, rfl, U32_zero, fun y hy => by injection hy⟩)
        | (have hR : R = [] := List.eq_nil_of_length_eq_zero (by omega)
           subst hR
           rw [hlab]
           exact ⟨rfl, ⟨w0.dropLast, [], false, [], 0⟩, rfl, U32_zero, fun y hy => by injection hy⟩)
        | (rw [hlab]
           exact ⟨rfl, ⟨[], [], false, [], 0⟩, rfl, U32_zero, fun y hy => by injection hy⟩)
        | (exfalso; simp only [List.length_cons] at hn; omega)
     ·
      refine JO_gT rfl rfl ?_
      refine JO_q (QE_mv rfl) rfl ?_
      refine JO_gT rfl rfl ?_
      refine JO_q (QE_lenS rfl rfl rfl) rfl ?_
      refine JO_gT rfl rfl ?_
      refine JO_q (QE_gt rfl rfl) rfl ?_
      refine JO_q (QE_pickF rfl rfl) rfl ?_
      refine JO_nil ?_
      refine thenQ_n ?_
      refine JC_ifD rfl (fun c14 => ?_) (fun c14 => ?_)
      ·
       refine JC_seq ?_
       refine JC_region ?_
       refine JO_q (QE_build [] [_, _, _, _, _] rfl rfl rfl rfl rfl rfl) rfl ?_
       refine JO_st 1 [_, _, _, _, _] rfl rfl rfl rfl rfl rfl rfl rfl rfl ?_
       refine JO_q (QE_as rfl) rfl ?_
       refine JO_nil ?_
       refine thenQ_n ?_
       refine JC_ret ?_
       refine thenQ_r ?_
       refine retQ_mk [_, _] L (.inr rfl) (.agg (us := [_, _, _, _, _]) 1 rfl rfl rfl rfl rfl (.tmp rfl (.nil))) rfl (Le.trans (Le.trans (Le.trans (Le.trans (Le.trans (Le.trans (Le.trans h1 h2) h3) h4) h6) h8) h10) h12) (fun sR hS2 => ?_)
       first
         | (have hN : lineL l = none := by
              first
              | exact lineL_no hWW (by rw [labW, if_pos he, if_neg (by rw [hlb]; decide)])
              | (rw [hlab]; exact bodyW_bad (by assumption))
              | (rw [hlab]; exact bodyW_long (by simp only [List.length_cons]; omega))
            rw [hN]
            exact ⟨rfl, ⟨[], [], false, [], 0⟩, rfl, U32_zero, fun y hy => by cases hy⟩)
         | (rw [hlab, bodyW_two (by assumption), Option.isSome_map]
            first
            | exact ⟨rfl, ⟨[], w1, true, nm, kk⟩, rfl, hku, fun y hy => by
                obtain ⟨x, hx, rfl⟩ := Option.map_eq_some_iff.1 hy
                have := hkv x hx; subst this; rfl⟩
            | exact ⟨rfl, ⟨w0.dropLast, w1, true, nm, kk⟩, rfl, hku, fun y hy => by
                obtain ⟨x, hx, rfl⟩ := Option.map_eq_some_iff.1 hy
                have := hkv x hx; subst this; rfl⟩)
         | (obtain rfl : R1 = [] := List.eq_nil_of_length_eq_zero (by omega)
            rw [hlab, bodyW_one (by assumption)]
            first
            | exact ⟨rfl, ⟨[], w1, false, [], 0⟩, rfl, U32_zero, fun y hy => by injection hy⟩
            | exact ⟨rfl, ⟨w0.dropLast, w1, false, [], 0⟩, rfl, U32_zero, fun y hy => by injection hy⟩)
         | (have hR : R = [] := List.eq_nil_of_length_eq_zero (by omega)
            subst hR
            rw [hlab]
            exact ⟨rfl, ⟨w0.dropLast, [], false, [], 0⟩, rfl, U32_zero, fun y hy => by injection hy⟩)
         | (rw [hlab]
            exact ⟨rfl, ⟨[], [], false, [], 0⟩, rfl, U32_zero, fun y hy => by injection hy⟩)
         | (exfalso; simp only [List.length_cons] at hn; omega)
      ·
       refine JC_skip ?_
       refine thenQ_n ?_
       refine JC_seq ?_
       refine JC_region ?_
       refine JO_q (QE_mv rfl) rfl ?_
       refine JO_q (QE_ia1 (j := 0) rfl rfl rfl rfl rfl rfl (by omega)) rfl ?_
       refine JO_q (QE_ldsR0 rfl rfl rfl (hc1.le h12) rfl) rfl ?_
       refine JO_q (QE_faB rfl rfl rfl rfl) rfl ?_
       refine JO_st 0 [_, _, _, _, _] rfl rfl rfl rfl rfl rfl rfl rfl rfl ?_
       refine JO_nil ?_
       refine thenQ_n ?_
       refine JC_seq ?_
       refine JC_region ?_
       refine JO_q (QE_as rfl) rfl ?_
       refine JO_nil ?_
       refine thenQ_n ?_
       refine JC_seq ?_
       refine JC_seq ?_
       refine JC_region ?_
       refine JO_q (QE_mv rfl) rfl ?_
       refine JO_q (QE_lenS rfl rfl rfl) rfl ?_
       refine JO_q (QE_eq rfl rfl) rfl ?_
       refine JO_nil ?_
       refine thenQ_n ?_
       refine JC_ifD rfl (fun c15 => ?_) (fun c15 => ?_)
       ·
        obtain ⟨b2, off2, w2, hA2, hw2, hc2, hlw2⟩ := Strs.at_ (hW1.le (Le.trans h10 h12)) (show 1 < _ by omega)
        injection hA2 with hA2
        injection hA2 with e1 e2
        subst e1
        subst e2
        have hl2 : w2.length ≤ 400000 := hmem _ (by first | exact List.mem_cons_of_mem _ (List.mem_of_getElem? hw2) | exact List.mem_of_getElem? hw2)
        obtain rfl : R1 = [w2] := by
          match R1, hw2, hn1 with
          | [], h, _ => cases h
          | [y], h, _ => simp at h; rw [h]
          | _ :: _ :: _, _, h => simp at h; omega
        refine JC_seq ?_
        refine JC_region ?_
        refine JO_q (QE_faB rfl rfl rfl rfl) rfl ?_
        refine JO_st 0 [_, _, _, _, _] rfl rfl rfl rfl rfl rfl rfl rfl rfl ?_
        refine JO_nil ?_
        refine thenQ_n ?_
        refine JC_region ?_
        refine JO_q (QE_mv rfl) rfl ?_
        refine JO_q (QE_ia1 (j := 1) rfl rfl rfl rfl rfl rfl (by omega)) rfl ?_
        refine JO_q (QE_ldsR0 rfl rfl rfl (hc2.le (Le.refl (D := D) _)) rfl) rfl ?_
        refine JO_call (first := []) (captured := []) rfl rfl rfl (readOpd_ac D _ _ (hG.le (Le.trans (Le.trans (Le.trans (Le.trans (Le.trans (Le.trans (Le.trans h1 h2) h3) h4) h6) h8) h10) h12)) w2 (by omega)) ?_
        rintro _ _ s16 h16 ⟨rfl, nm, kk, rfl, hku, hkv⟩
        refine JO_q (QE_mv rfl) rfl ?_
        refine JO_q (QE_ext rfl rfl) rfl ?_
        refine JO_q (QE_ext rfl rfl) rfl ?_
        refine JO_q (QE_faB rfl rfl rfl rfl) rfl ?_
        refine JO_st 0 [_, _, _, _, _] rfl rfl rfl rfl rfl rfl rfl rfl rfl ?_
        refine JO_q (QE_as rfl) rfl ?_
        refine JO_nil ?_
        refine thenQ_n ?_
        refine JC_seq ?_
        refine JC_region ?_
        refine JO_q (QE_ldA 0 [_, _, _, _, _] rfl rfl rfl rfl rfl) rfl ?_
        refine JO_q (QE_mv rfl) rfl ?_
        refine JO_st 1 [_, _, _, _, _] rfl rfl rfl rfl rfl rfl rfl rfl rfl ?_
        refine JO_q (QE_as rfl) rfl ?_
        refine JO_nil ?_
        refine thenQ_n ?_
        refine JC_ret ?_
        refine retQ_mk [_, _] L (.inr rfl) (.agg (us := [_, _, _, _, _]) 1 rfl rfl rfl rfl rfl (.tmp rfl (.nil))) rfl (Le.trans (Le.trans (Le.trans (Le.trans (Le.trans (Le.trans (Le.trans (Le.trans h1 h2) h3) h4) h6) h8) h10) h12) h16) (fun sR hS2 => ?_)
        first
          | (have hN : lineL l = none := by
               first
               | exact lineL_no hWW (by rw [labW, if_pos he, if_neg (by rw [hlb]; decide)])
               | (rw [hlab]; exact bodyW_bad (by assumption))
               | (rw [hlab]; exact bodyW_long (by simp only [List.length_cons]; omega))
             rw [hN]
             exact ⟨rfl, ⟨[], [], false, [], 0⟩, rfl, U32_zero, fun y hy => by cases hy⟩)
          | (rw [hlab, bodyW_two (by assumption), Option.isSome_map]
             first
             | exact ⟨rfl, ⟨[], w1, true, nm, kk⟩, rfl, hku, fun y hy => by
                 obtain ⟨x, hx, rfl⟩ := Option.map_eq_some_iff.1 hy
                 have := hkv x hx; subst this; rfl⟩
             | exact ⟨rfl, ⟨w0.dropLast, w1, true, nm, kk⟩, rfl, hku, fun y hy => by
                 obtain ⟨x, hx, rfl⟩ := Option.map_eq_some_iff.1 hy
                 have := hkv x hx; subst this; rfl⟩)
          | (obtain rfl : R1 = [] := List.eq_nil_of_length_eq_zero (by omega)
             rw [hlab, bodyW_one (by assumption)]
             first
             | exact ⟨rfl, ⟨[], w1, false, [], 0⟩, rfl, U32_zero, fun y hy => by injection hy⟩
             | exact ⟨rfl, ⟨w0.dropLast, w1, false, [], 0⟩, rfl, U32_zero, fun y hy => by injection hy⟩)
          | (have hR : R = [] := List.eq_nil_of_length_eq_zero (by omega)
             subst hR
             rw [hlab]
             exact ⟨rfl, ⟨w0.dropLast, [], false, [], 0⟩, rfl, U32_zero, fun y hy => by injection hy⟩)
          | (rw [hlab]
             exact ⟨rfl, ⟨[], [], false, [], 0⟩, rfl, U32_zero, fun y hy => by injection hy⟩)
          | (exfalso; simp only [List.length_cons] at hn; omega)
       ·
        refine JC_skip ?_
        refine thenQ_n ?_
        refine JC_seq ?_
        refine JC_region ?_
        refine JO_q (QE_ldA 0 [_, _, _, _, _] rfl rfl rfl rfl rfl) rfl ?_
        refine JO_q (QE_mv rfl) rfl ?_
        refine JO_st 1 [_, _, _, _, _] rfl rfl rfl rfl rfl rfl rfl rfl rfl ?_
        refine JO_q (QE_as rfl) rfl ?_
        refine JO_nil ?_
        refine thenQ_n ?_
        refine JC_ret ?_
        refine retQ_mk [_, _] L (.inr rfl) (.agg (us := [_, _, _, _, _]) 1 rfl rfl rfl rfl rfl (.tmp rfl (.nil))) rfl (Le.trans (Le.trans (Le.trans (Le.trans (Le.trans (Le.trans (Le.trans h1 h2) h3) h4) h6) h8) h10) h12) (fun sR hS2 => ?_)
        first
          | (have hN : lineL l = none := by
               first
               | exact lineL_no hWW (by rw [labW, if_pos he, if_neg (by rw [hlb]; decide)])
               | (rw [hlab]; exact bodyW_bad (by assumption))
               | (rw [hlab]; exact bodyW_long (by simp only [List.length_cons]; omega))
             rw [hN]
             exact ⟨rfl, ⟨[], [], false, [], 0⟩, rfl, U32_zero, fun y hy => by cases hy⟩)
          | (rw [hlab, bodyW_two (by assumption), Option.isSome_map]
             first
             | exact ⟨rfl, ⟨[], w1, true, nm, kk⟩, rfl, hku, fun y hy => by
                 obtain ⟨x, hx, rfl⟩ := Option.map_eq_some_iff.1 hy
                 have := hkv x hx; subst this; rfl⟩
             | exact ⟨rfl, ⟨w0.dropLast, w1, true, nm, kk⟩, rfl, hku, fun y hy => by
                 obtain ⟨x, hx, rfl⟩ := Option.map_eq_some_iff.1 hy
                 have := hkv x hx; subst this; rfl⟩)
          | (obtain rfl : R1 = [] := List.eq_nil_of_length_eq_zero (by omega)
             rw [hlab, bodyW_one (by assumption)]
             first
             | exact ⟨rfl, ⟨[], w1, false, [], 0⟩, rfl, U32_zero, fun y hy => by injection hy⟩
             | exact ⟨rfl, ⟨w0.dropLast, w1, false, [], 0⟩, rfl, U32_zero, fun y hy => by injection hy⟩)
          | (have hR : R = [] := List.eq_nil_of_length_eq_zero (by omega)
             subst hR
             rw [hlab]
             exact ⟨rfl, ⟨w0.dropLast, [], false, [], 0⟩, rfl, U32_zero, fun y hy => by injection hy⟩)
          | (rw [hlab]
             exact ⟨rfl, ⟨[], [], false, [], 0⟩, rfl, U32_zero, fun y hy => by injection hy⟩)
          | (exfalso; simp only [List.length_cons] at hn; omega)
  ·
   have he := c7
   have hlab : lineL l = bodyW [] (w0 :: R) := lineL_of hWW (by rw [labW, if_neg (by rw [he]; decide)])
   have hW1 := hW.le (Le.trans h4 h6)
   refine JC_skip ?_
   refine thenQ_n ?_
   refine JC_seq ?_
   refine JC_seq ?_
   refine JC_region ?_
   refine JO_q (QE_mv rfl) rfl ?_
   refine JO_q (QE_lenS rfl rfl rfl) rfl ?_
   refine JO_q (QE_eq rfl rfl) rfl ?_
   refine JO_nil ?_
   refine thenQ_n ?_
   refine JC_ifD rfl (fun c17 => ?_) (fun c17 => ?_)
   ·
    have hz1 := c17
    refine JC_seq ?_
    refine JC_region ?_
    refine JO_q (QE_ldA 0 [_, _, _, _, _] rfl rfl rfl rfl rfl) rfl ?_
    refine JO_st 1 [_, _, _, _, _] rfl rfl rfl rfl rfl rfl rfl rfl rfl ?_
    refine JO_q (QE_as rfl) rfl ?_
    refine JO_nil ?_
    refine thenQ_n ?_
    refine JC_ret ?_
    refine thenQ_r ?_
    refine retQ_mk [_, _] L (.inr rfl) (.agg (us := [_, _, _, _, _]) 1 rfl rfl rfl rfl rfl (.tmp rfl (.nil))) rfl (Le.trans (Le.trans (Le.trans (Le.trans h1 h2) h3) h4) h6) (fun sR hS2 => ?_)
    first
      | (have hN : lineL l = none := by
           first
           | exact lineL_no hWW (by rw [labW, if_pos he, if_neg (by rw [hlb]; decide)])
           | (rw [hlab]; exact bodyW_bad (by assumption))
           | (rw [hlab]; exact bodyW_long (by simp only [List.length_cons]; omega))
         rw [hN]
         exact ⟨rfl, ⟨[], [], false, [], 0⟩, rfl, U32_zero, fun y hy => by cases hy⟩)
      | (rw [hlab, bodyW_two (by assumption), Option.isSome_map]
         first
         | exact ⟨rfl, ⟨[], w1, true, nm, kk⟩, rfl, hku, fun y hy => by
             obtain ⟨x, hx, rfl⟩ := Option.map_eq_some_iff.1 hy
             have := hkv x hx; subst this; rfl⟩
         | exact ⟨rfl, ⟨w0.dropLast, w1, true, nm, kk⟩, rfl, hku, fun y hy => by
             obtain ⟨x, hx, rfl⟩ := Option.map_eq_some_iff.1 hy
             have := hkv x hx; subst this; rfl⟩)
      | (obtain rfl : R1 = [] := List.eq_nil_of_length_eq_zero (by omega)
         rw [hlab, bodyW_one (by assumption)]
         first
         | exact ⟨rfl, ⟨[], w1, false, [], 0⟩, rfl, U32_zero, fun y hy => by injection hy⟩
         | exact ⟨rfl, ⟨w0.dropLast, w1, false, [], 0⟩, rfl, U32_zero, fun y hy => by injection hy⟩)
      | (have hR : R = [] := List.eq_nil_of_length_eq_zero (by omega)
         subst hR
         rw [hlab]
         exact ⟨rfl, ⟨w0.dropLast, [], false, [], 0⟩, rfl, U32_zero, fun y hy => by injection hy⟩)
      | (rw [hlab]
         exact ⟨rfl, ⟨[], [], false, [], 0⟩, rfl, U32_zero, fun y hy => by injection hy⟩)
      | (exfalso; simp only [List.length_cons] at hn; omega)
   ·
    have hc1 := hc0.le h6
    have hlw1 := hlw0
    obtain ⟨w1, R1, e1, e2⟩ : ∃ a b, a = w0 ∧ b = R := ⟨_, _, rfl, rfl⟩
    subst e1
    subst e2
    have hn1 := hn
    simp only [List.length_cons] at hn1
    refine JC_skip ?_
    refine thenQ_n ?_
    refine JC_seq ?_
    refine JC_seq ?_
    refine JC_region ?_
    refine JO_q (QE_mv rfl) rfl ?_
    refine JO_q (QE_ia1 (j := 0) rfl rfl rfl rfl rfl rfl (by omega)) rfl ?_
    refine JO_q (QE_ldsR0 rfl rfl rfl (hc1.le (Le.refl (D := D) _)) rfl) rfl ?_
    refine JO_call (first := []) (captured := []) rfl rfl rfl (aName_ac D _ _ _) ?_
    rintro _ _ s18 h18 ⟨rfl, rfl⟩
    refine JO_q (QE_not rfl) rfl ?_
    refine JO_q (QE_mv rfl) rfl ?_
    refine JO_caseM (t := 45) rfl (fun c19 => ?_) (fun c19 => ?_)
    ·
     refine JO_gF rfl rfl rfl rfl ?_
     refine JO_gF rfl rfl rfl rfl ?_
     refine JO_gF rfl rfl rfl rfl ?_
     refine JO_q (QE_pickT rfl rfl) rfl ?_
     refine JO_nil ?_
     refine thenQ_n ?_
     refine JC_ifT rfl ?_
     refine JC_seq ?_
     refine JC_region ?_
     refine JO_q (QE_build [] [_, _, _, _, _] rfl rfl rfl rfl rfl rfl) rfl ?_
     refine JO_st 1 [_, _, _, _, _] rfl rfl rfl rfl rfl rfl rfl rfl rfl ?_
     refine JO_q (QE_as rfl) rfl ?_
     refine JO_nil ?_
     refine thenQ_n ?_
     refine JC_ret ?_
     refine thenQ_r ?_
     refine retQ_mk [_, _] L (.inr rfl) (.agg (us := [_, _, _, _, _]) 1 rfl rfl rfl rfl rfl (.tmp rfl (.nil))) rfl (Le.trans (Le.trans (Le.trans (Le.trans (Le.trans h1 h2) h3) h4) h6) h18) (fun sR hS2 => ?_)
     first
       | (have hN : lineL l = none := by
            first
            | exact lineL_no hWW (by rw [labW, if_pos he, if_neg (by rw [hlb]; decide)])
            | (rw [hlab]; exact bodyW_bad (by assumption))
            | (rw [hlab]; exact bodyW_long (by simp only [List.length_cons]; omega))
          rw [hN]
          exact ⟨rfl, ⟨[], [], false, [], 0⟩, rfl, U32_zero, fun y hy => by cases hy⟩)
       | (rw [hlab, bodyW_two (by assumption), Option.isSome_map]
          first
          | exact ⟨rfl, ⟨[], w1, true, nm, kk⟩, rfl, hku, fun y hy => by
              obtain ⟨x, hx, rfl⟩ := Option.map_eq_some_iff.1 hy
              have := hkv x hx; subst this; rfl⟩
          | exact ⟨rfl, ⟨w0.dropLast, w1, true, nm, kk⟩, rfl, hku, fun y hy => by
              obtain ⟨x, hx, rfl⟩ := Option.map_eq_some_iff.1 hy
              have := hkv x hx; subst this; rfl⟩)
       | (obtain rfl : R1 = [] := List.eq_nil_of_length_eq_zero (by omega)
          rw [hlab, bodyW_one (by assumption)]
          first
          | exact ⟨rfl, ⟨[], w1, false, [], 0⟩, rfl, U32_zero, fun y hy => by injection hy⟩
          | exact ⟨rfl, ⟨w0.dropLast, w1, false, [], 0⟩, rfl, U32_zero, fun y hy => by injection hy⟩)
       | (have hR : R = [] := List.eq_nil_of_length_eq_zero (by omega)
          subst hR
          rw [hlab]
          exact ⟨rfl, ⟨w0.dropLast, [], false, [], 0⟩, rfl, U32_zero, fun y hy => by injection hy⟩)
       | (rw [hlab]
          exact ⟨rfl, ⟨[], [], false, [], 0⟩, rfl, U32_zero, fun y hy => by injection hy⟩)
       | (exfalso; simp only [List.length_cons] at hn; omega)
    ·
     refine JO_gT rfl rfl ?_
     refine JO_q (QE_mv rfl) rfl ?_
     refine JO_gT rfl rfl ?_
     refine JO_q (QE_lenS rfl rfl rfl) rfl ?_
     refine JO_gT rfl rfl ?_
     refine JO_q (QE_gt rfl rfl) rfl ?_
     refine JO_q (QE_pickF rfl rfl) rfl ?_
     refine JO_nil ?_
     refine thenQ_n ?_
     refine JC_ifD rfl (fun c20 => ?_) (fun c20 => ?_)
     ·
      refine JC_seq ?_
      refine JC_region ?_
      refine JO_q (QE_build [] [_, _, _, _, _] rfl rfl rfl rfl rfl rfl) rfl ?_
      refine JO_st 1 [_, _, _, _, _] rfl rfl rfl rfl rfl rfl rfl rfl rfl ?_
      refine JO_q (QE_as rfl) rfl ?_
      refine JO_nil ?_
      refine thenQ_n ?_
      refine JC_ret ?_
      refine thenQ_r ?_
      refine retQ_mk [_, _] L (.inr rfl) (.agg (us := [_, _, _, _, _]) 1 rfl rfl rfl rfl rfl (.tmp rfl (.nil))) rfl (Le.trans (Le.trans (Le.trans (Le.trans (Le.trans h1 h2) h3) h4) h6) h18) (fun sR hS2 => ?_)
      first
        | (have hN : lineL l = none := by
             first
             | exact lineL_no hWW (by rw [labW, if_pos he, if_neg (by rw [hlb]; decide)])
             | (rw [hlab]; exact bodyW_bad (by assumption))
             | (rw [hlab]; exact bodyW_long (by simp only [List.length_cons]; omega))
           rw [hN]
           exact ⟨rfl, ⟨[], [], false, [], 0⟩, rfl, U32_zero, fun y hy => by cases hy⟩)
        | (rw [hlab, bodyW_two (by assumption), Option.isSome_map]
           first
           | exact ⟨rfl, ⟨[], w1, true, nm, kk⟩, rfl, hku, fun y hy => by
               obtain ⟨x, hx, rfl⟩ := Option.map_eq_some_iff.1 hy
               have := hkv x hx; subst this; rfl⟩
           | exact ⟨rfl, ⟨w0.dropLast, w1, true, nm, kk⟩, rfl, hku, fun y hy => by
               obtain ⟨x, hx, rfl⟩ := Option.map_eq_some_iff.1 hy
               have := hkv x hx; subst this; rfl⟩)
        | (obtain rfl : R1 = [] := List.eq_nil_of_length_eq_zero (by omega)
           rw [hlab, bodyW_one (by assumption)]
           first
           | exact ⟨rfl, ⟨[], w1, false, [], 0⟩, rfl, U32_zero, fun y hy => by injection hy⟩
           | exact ⟨rfl, ⟨w0.dropLast, w1, false, [], 0⟩, rfl, U32_zero, fun y hy => by injection hy⟩)
        | (have hR : R = [] := List.eq_nil_of_length_eq_zero (by omega)
           subst hR
           rw [hlab]
           exact ⟨rfl, ⟨w0.dropLast, [], false, [], 0⟩, rfl, U32_zero, fun y hy => by injection hy⟩)
        | (rw [hlab]
           exact ⟨rfl, ⟨[], [], false, [], 0⟩, rfl, U32_zero, fun y hy => by injection hy⟩)
        | (exfalso; simp only [List.length_cons] at hn; omega)
     ·
      refine JC_skip ?_
      refine thenQ_n ?_
      refine JC_seq ?_
      refine JC_region ?_
      refine JO_q (QE_mv rfl) rfl ?_
      refine JO_q (QE_ia1 (j := 0) rfl rfl rfl rfl rfl rfl (by omega)) rfl ?_
      refine JO_q (QE_ldsR0 rfl rfl rfl (hc1.le h18) rfl) rfl ?_
      refine JO_q (QE_faB rfl rfl rfl rfl) rfl ?_
      refine JO_st 0 [_, _, _, _, _] rfl rfl rfl rfl rfl rfl rfl rfl rfl ?_
      refine JO_nil ?_
      refine thenQ_n ?_
      refine JC_seq ?_
      refine JC_region ?_
      refine JO_q (QE_as rfl) rfl ?_
      refine JO_nil ?_
      refine thenQ_n ?_
      refine JC_seq ?_
      refine JC_seq ?_
      refine JC_region ?_
      refine JO_q (QE_mv rfl) rfl ?_
      refine JO_q (QE_lenS rfl rfl rfl) rfl ?_
      refine JO_q (QE_eq rfl rfl) rfl ?_
      refine JO_nil ?_
      refine thenQ_n ?_
      refine JC_ifD rfl (fun c21 => ?_) (fun c21 => ?_)
      ·
       obtain ⟨b2, off2, w2, hA2, hw2, hc2, hlw2⟩ := Strs.at_ (hW1.le h18) (show 1 < _ by omega)
       injection hA2 with hA2
       injection hA2 with e1 e2
       subst e1
       subst e2
       have hl2 : w2.length ≤ 400000 := hmem _ (by first | exact List.mem_cons_of_mem _ (List.mem_of_getElem? hw2) | exact List.mem_of_getElem? hw2)
       obtain rfl : R1 = [w2] := by
         match R1, hw2, hn1 with
         | [], h, _ => cases h
         | [y], h, _ => simp at h; rw [h]
         | _ :: _ :: _, _, h => simp at h; omega
       refine JC_seq ?_
       refine JC_region ?_
       refine JO_q (QE_faB rfl rfl rfl rfl) rfl ?_
       refine JO_st 0 [_, _, _, _, _] rfl rfl rfl rfl rfl rfl rfl rfl rfl ?_
       refine JO_nil ?_
       refine thenQ_n ?_
       refine JC_region ?_
       refine JO_q (QE_mv rfl) rfl ?_
       refine JO_q (QE_ia1 (j := 1) rfl rfl rfl rfl rfl rfl (by omega)) rfl ?_
       refine JO_q (QE_ldsR0 rfl rfl rfl (hc2.le (Le.refl (D := D) _)) rfl) rfl ?_
       refine JO_call (first := []) (captured := []) rfl rfl rfl (readOpd_ac D _ _ (hG.le (Le.trans (Le.trans (Le.trans (Le.trans (Le.trans h1 h2) h3) h4) h6) h18)) w2 (by omega)) ?_
       rintro _ _ s22 h22 ⟨rfl, nm, kk, rfl, hku, hkv⟩
       refine JO_q (QE_mv rfl) rfl ?_
       refine JO_q (QE_ext rfl rfl) rfl ?_
       refine JO_q (QE_ext rfl rfl) rfl ?_
       refine JO_q (QE_faB rfl rfl rfl rfl) rfl ?_
       refine JO_st 0 [_, _, _, _, _] rfl rfl rfl rfl rfl rfl rfl rfl rfl ?_
       refine JO_q (QE_as rfl) rfl ?_
       refine JO_nil ?_
       refine thenQ_n ?_
       refine JC_seq ?_
       refine JC_region ?_
       refine JO_q (QE_ldA 0 [_, _, _, _, _] rfl rfl rfl rfl rfl) rfl ?_
       refine JO_q (QE_mv rfl) rfl ?_
       refine JO_st 1 [_, _, _, _, _] rfl rfl rfl rfl rfl rfl rfl rfl rfl ?_
       refine JO_q (QE_as rfl) rfl ?_
       refine JO_nil ?_
       refine thenQ_n ?_
       refine JC_ret ?_
       refine retQ_mk [_, _] L (.inr rfl) (.agg (us := [_, _, _, _, _]) 1 rfl rfl rfl rfl rfl (.tmp rfl (.nil))) rfl (Le.trans (Le.trans (Le.trans (Le.trans (Le.trans (Le.trans h1 h2) h3) h4) h6) h18) h22) (fun sR hS2 => ?_)
       first
         | (have hN : lineL l = none := by
              first
              | exact lineL_no hWW (by rw [labW, if_pos he, if_neg (by rw [hlb]; decide)])
              | (rw [hlab]; exact bodyW_bad (by assumption))
              | (rw [hlab]; exact bodyW_long (by simp only [List.length_cons]; omega))
            rw [hN]
            exact ⟨rfl, ⟨[], [], false, [], 0⟩, rfl, U32_zero, fun y hy => by cases hy⟩)
         | (rw [hlab, bodyW_two (by assumption), Option.isSome_map]
            first
            | exact ⟨rfl, ⟨[], w1, true, nm, kk⟩, rfl, hku, fun y hy => by
                obtain ⟨x, hx, rfl⟩ := Option.map_eq_some_iff.1 hy
                have := hkv x hx; subst this; rfl⟩
            | exact ⟨rfl, ⟨w0.dropLast, w1, true, nm, kk⟩, rfl, hku, fun y hy => by
                obtain ⟨x, hx, rfl⟩ := Option.map_eq_some_iff.1 hy
                have := hkv x hx; subst this; rfl⟩)
         | (obtain rfl : R1 = [] := List.eq_nil_of_length_eq_zero (by omega)
            rw [hlab, bodyW_one (by assumption)]
            first
            | exact ⟨rfl, ⟨[], w1, false, [], 0⟩, rfl, U32_zero, fun y hy => by injection hy⟩
            | exact ⟨rfl, ⟨w0.dropLast, w1, false, [], 0⟩, rfl, U32_zero, fun y hy => by injection hy⟩)
         | (have hR : R = [] := List.eq_nil_of_length_eq_zero (by omega)
            subst hR
            rw [hlab]
            exact ⟨rfl, ⟨w0.dropLast, [], false, [], 0⟩, rfl, U32_zero, fun y hy => by injection hy⟩)
         | (rw [hlab]
            exact ⟨rfl, ⟨[], [], false, [], 0⟩, rfl, U32_zero, fun y hy => by injection hy⟩)
         | (exfalso; simp only [List.length_cons] at hn; omega)
      ·
       refine JC_skip ?_
       refine thenQ_n ?_
       refine JC_seq ?_
       refine JC_region ?_
       refine JO_q (QE_ldA 0 [_, _, _, _, _] rfl rfl rfl rfl rfl) rfl ?_
       refine JO_q (QE_mv rfl) rfl ?_
       refine JO_st 1 [_, _, _, _, _] rfl rfl rfl rfl rfl rfl rfl rfl rfl ?_
       refine JO_q (QE_as rfl) rfl ?_
       refine JO_nil ?_
       refine thenQ_n ?_
       refine JC_ret ?_
       refine retQ_mk [_, _] L (.inr rfl) (.agg (us := [_, _, _, _, _]) 1 rfl rfl rfl rfl rfl (.tmp rfl (.nil))) rfl (Le.trans (Le.trans (Le.trans (Le.trans (Le.trans h1 h2) h3) h4) h6) h18) (fun sR hS2 => ?_)
       first
         | (have hN : lineL l = none := by
              first
              | exact lineL_no hWW (by rw [labW, if_pos he, if_neg (by rw [hlb]; decide)])
              | (rw [hlab]; exact bodyW_bad (by assumption))
              | (rw [hlab]; exact bodyW_long (by simp only [List.length_cons]; omega))
            rw [hN]
            exact ⟨rfl, ⟨[], [], false, [], 0⟩, rfl, U32_zero, fun y hy => by cases hy⟩)
         | (rw [hlab, bodyW_two (by assumption), Option.isSome_map]
            first
            | exact ⟨rfl, ⟨[], w1, true, nm, kk⟩, rfl, hku, fun y hy => by
                obtain ⟨x, hx, rfl⟩ := Option.map_eq_some_iff.1 hy
                have := hkv x hx; subst this; rfl⟩
            | exact ⟨rfl, ⟨w0.dropLast, w1, true, nm, kk⟩, rfl, hku, fun y hy => by
                obtain ⟨x, hx, rfl⟩ := Option.map_eq_some_iff.1 hy
                have := hkv x hx; subst this; rfl⟩)
         | (obtain rfl : R1 = [] := List.eq_nil_of_length_eq_zero (by omega)
            rw [hlab, bodyW_one (by assumption)]
            first
            | exact ⟨rfl, ⟨[], w1, false, [], 0⟩, rfl, U32_zero, fun y hy => by injection hy⟩
            | exact ⟨rfl, ⟨w0.dropLast, w1, false, [], 0⟩, rfl, U32_zero, fun y hy => by injection hy⟩)
         | (have hR : R = [] := List.eq_nil_of_length_eq_zero (by omega)
            subst hR
            rw [hlab]
            exact ⟨rfl, ⟨w0.dropLast, [], false, [], 0⟩, rfl, U32_zero, fun y hy => by injection hy⟩)
         | (rw [hlab]
            exact ⟨rfl, ⟨[], [], false, [], 0⟩, rfl, U32_zero, fun y hy => by injection hy⟩)
         | (exfalso; simp only [List.length_cons] at hn; omega)
 ·
  have hW0 : W = [] := List.eq_nil_of_length_eq_zero (by omega)
  subst hW0
  have hlab : lineL l = bodyW [] [] := lineL_of hWW rfl
  have hW1 := hW
  refine JC_skip ?_
  refine thenQ_n ?_
  refine JC_seq ?_
  refine JC_seq ?_
  refine JC_region ?_
  refine JO_q (QE_mv rfl) rfl ?_
  refine JO_q (QE_lenS rfl rfl rfl) rfl ?_
  refine JO_q (QE_eq rfl rfl) rfl ?_
  refine JO_nil ?_
  refine thenQ_n ?_
  refine JC_ifD rfl (fun c23 => ?_) (fun c23 => ?_)
  ·
   have hz1 := c23
   refine JC_seq ?_
   refine JC_region ?_
   refine JO_q (QE_ldA 0 [_, _, _, _, _] rfl rfl rfl rfl rfl) rfl ?_
   refine JO_st 1 [_, _, _, _, _] rfl rfl rfl rfl rfl rfl rfl rfl rfl ?_
   refine JO_q (QE_as rfl) rfl ?_
   refine JO_nil ?_
   refine thenQ_n ?_
   refine JC_ret ?_
   refine thenQ_r ?_
   refine retQ_mk [_, _] L (.inr rfl) (.agg (us := [_, _, _, _, _]) 1 rfl rfl rfl rfl rfl (.tmp rfl (.nil))) rfl (Le.trans (Le.trans (Le.trans h1 h2) h3) h4) (fun sR hS2 => ?_)
   first
     | (have hN : lineL l = none := by
          first
          | exact lineL_no hWW (by rw [labW, if_pos he, if_neg (by rw [hlb]; decide)])
          | (rw [hlab]; exact bodyW_bad (by assumption))
          | (rw [hlab]; exact bodyW_long (by simp only [List.length_cons]; omega))
        rw [hN]
        exact ⟨rfl, ⟨[], [], false, [], 0⟩, rfl, U32_zero, fun y hy => by cases hy⟩)
     | (rw [hlab, bodyW_two (by assumption), Option.isSome_map]
        first
        | exact ⟨rfl, ⟨[], w1, true, nm, kk⟩, rfl, hku, fun y hy => by
            obtain ⟨x, hx, rfl⟩ := Option.map_eq_some_iff.1 hy
            have := hkv x hx; subst this; rfl⟩
        | exact ⟨rfl, ⟨w0.dropLast, w1, true, nm, kk⟩, rfl, hku, fun y hy => by
            obtain ⟨x, hx, rfl⟩ := Option.map_eq_some_iff.1 hy
            have := hkv x hx; subst this; rfl⟩)
     | (obtain rfl : R1 = [] := List.eq_nil_of_length_eq_zero (by omega)
        rw [hlab, bodyW_one (by assumption)]
        first
        | exact ⟨rfl, ⟨[], w1, false, [], 0⟩, rfl, U32_zero, fun y hy => by injection hy⟩
        | exact ⟨rfl, ⟨w0.dropLast, w1, false, [], 0⟩, rfl, U32_zero, fun y hy => by injection hy⟩)
     | (have hR : R = [] := List.eq_nil_of_length_eq_zero (by omega)
        subst hR
        rw [hlab]
        exact ⟨rfl, ⟨w0.dropLast, [], false, [], 0⟩, rfl, U32_zero, fun y hy => by injection hy⟩)
     | (rw [hlab]
        exact ⟨rfl, ⟨[], [], false, [], 0⟩, rfl, U32_zero, fun y hy => by injection hy⟩)
     | (exfalso; simp only [List.length_cons] at hn; omega)
  ·
   exact absurd (by simp at hn; omega) c23 --end
end Go.Proofs.YteomcjpigoaioaaGreatDoor
namespace Go.Proofs.YteomcjpigoaioaaGreatDoor
open Go Go.FL Go.RowKit
structure AG where
  vw : Value
  Mw : Hl
  vl : Value
  Ml : Hl
  vr : Value
  Mr : Hl
  es : List (List UInt8 × Value × Nat)
  ck : Nat
  w : List Int
  l : List (List UInt8 × Int)
  r : List (Int × Nat × List UInt8 × Int)
def lbv (l : List (List UInt8 × Int)) : List Value := (l.map fun x => [St x.1, Value.int .u32 x.2]).flatten
def rfv (r : List (Int × Nat × List UInt8 × Int)) : List Value := (r.map fun x => [Value.int .i64 x.1, Value.int .i64 (x.2.1 : Int), St x.2.2.1, Value.int .u32 x.2.2.2]).flatten
def labAt : List (List UInt8 × Int) → List UInt8 → Option Int
  | [], _ => none
  | x :: l, k => if x.1 = k then some x.2 else labAt l k
structure AGok (g : AG) : Prop where
  hw : Own 52 1 g.Mw g.vw g.w.length (wv g.w)
  hl : Own 94 2 g.Ml g.vl g.l.length (lbv g.l)
  hr : Own 142 4 g.Mr g.vr g.r.length (rfv g.r)
  he : ∀ k, assoc g.es k = (labAt g.l k).map (Value.int .u32)
  uw : ∀ x ∈ g.w, U32 x
  ul : ∀ x ∈ g.l, U32 x.2
  ur : ∀ x ∈ g.r, U32 x.2.2.2
def HA (ba bm : Nat) (tc : Int) (A : Option Addr) (n c : Nat) (g : AG) (L : Hl) : Hl :=
  (ba, cb [.int .i64 tc, .slice A n c, g.vw, g.vl, .map (some bm), g.vr] 86) :: (bm, mp (fun l => St l) g.es g.ck) :: (g.Mw ++ (g.Ml ++ (g.Mr ++ L)))
theorem lbv_snoc (l : List (List UInt8 × Int)) (k : List UInt8) (a : Int) : lbv (l ++ [(k, a)]) = lbv l ++ [St k, .int .u32 a] := by simp [lbv]
theorem rfv_snoc (r : List (Int × Nat × List UInt8 × Int)) (i : Int) (p : Nat) (k : List UInt8) (a : Int) : rfv (r ++ [(i, p, k, a)]) = rfv r ++ [.int .i64 i, .int .i64 (p : Int), St k, .int .u32 a] := by simp [rfv]
theorem wv_snoc (w : List Int) (x : Int) : wv (w ++ [x]) = wv w ++ [.int .u32 x] := by simp [wv]
theorem wv_zeros (w : List Int) (m : Nat) : wv (w ++ List.replicate m 0) = wv w ++ List.replicate m (.int .u32 0) := by simp [wv]
theorem labAt_snoc (l : List (List UInt8 × Int)) (k j : List UInt8) (a : Int) (h : labAt l k = none) : labAt (l ++ [(k, a)]) j = if j = k then some a else labAt l j := by
  induction l with
  | nil => simp only [List.nil_append, labAt]; by_cases h' : k = j <;> simp [h', eq_comm]
  | cons x l ih =>
    simp only [labAt] at h
    split at h
    · cases h
    · rename_i hx
      simp only [List.cons_append, labAt, ih h]
      by_cases hj : x.1 = j
      · subst hj; simp [hx]
      · simp [hj]
def spaceB : List UInt8 := [115, 112, 97, 99, 101]
def wordB : List UInt8 := [119, 111, 114, 100]
def emitW (w : List Int) (x : Ln) (code : Int) (own : Bool) : List Int :=
  if x.op = spaceB then w ++ List.replicate x.num.toNat 0 else if x.has then (if own then w else w ++ [code]) ++ [x.num] else (if own then w else w ++ [code])
def emitR (r : List (Int × Nat × List UInt8 × Int)) (w : List Int) (i : Int) (x : Ln) (code : Int) (own : Bool) : List (Int × Nat × List UInt8 × Int) :=
  if x.op = spaceB then r else if x.has = true ∧ x.name ≠ [] then r ++ [(i, (if own then w else w ++ [code]).length, x.name, x.num)] else r
theorem emitW_space {w : List Int} {x : Ln} {code : Int} {own : Bool} (h : x.op = spaceB) : emitW w x code own = w ++ List.replicate x.num.toNat 0 := by rw [emitW, if_pos h]
theorem emitR_space {r : List (Int × Nat × List UInt8 × Int)} {w : List Int} {i : Int} {x : Ln} {code : Int} {own : Bool} (h : x.op = spaceB) : emitR r w i x code own = r := by rw [emitR, if_pos h]
theorem HA_one (ba bm : Nat) (tc : Int) (A : Option Addr) (n c : Nat) (g : AG) (x : Nat × Obj) (L : Hl) : (HA ba bm tc A n c g (x :: L)).Perm (x :: HA ba bm tc A n c g L) := by
  unfold HA
  refine List.Perm.trans ?_ (List.Perm.trans (List.Perm.cons _ (List.Perm.swap _ _ _)) (List.Perm.swap _ _ _))
  refine List.Perm.cons _ (List.Perm.cons _ ?_)
  refine List.Perm.trans ?_ (List.perm_middle)
  refine List.Perm.append_left _ ?_
  refine List.Perm.trans ?_ (List.perm_middle)
  exact List.Perm.append_left _ List.perm_middle
theorem HA_two (ba bm : Nat) (tc : Int) (A : Option Addr) (n c : Nat) (g : AG) (x y : Nat × Obj) (L : Hl) : (HA ba bm tc A n c g (x :: y :: L)).Perm (x :: y :: HA ba bm tc A n c g L) :=
  (HA_one ..).trans (List.Perm.cons _ (HA_one ..))
def isOwn (o : List UInt8) : Bool := decide (o = [119, 111, 114, 100] ∨ o = [115, 112, 97, 99, 101])
def findN (l : List Ins) (nm : List UInt8) : Option Ins := l.find? fun y => decide (y.name = nm)
def codeOf (t : Tab) (o : List UInt8) : Int := match findN t.ins o with
  | some z => z.code
  | none => 0
def opOf (t : Tab) (o : List UInt8) : Bool := match findN t.ins o with
  | some z => z.operand
  | none => false
def addW (t : Tab) (w : List Int) (x : Ln) : List Int := if x.op = [] then w else emitW w x (codeOf t x.op) (isOwn x.op)
def addL (w : List Int) (l : List (List UInt8 × Int)) (x : Ln) : List (List UInt8 × Int) := if x.label = [] then l else l ++ [(x.label, (w.length : Int))]
def addR (t : Tab) (w : List Int) (r : List (Int × Nat × List UInt8 × Int)) (i : Int) (x : Ln) : List (Int × Nat × List UInt8 × Int) := if x.op = [] then r else emitR r w i x (codeOf t x.op) (isOwn x.op)
def addE (t : Tab) (w : List Int) (l : List (List UInt8 × Int)) : Option Ln → Int
  | none => 1
  | some x => if x.label ≠ [] ∧ (labAt l x.label).isSome = true then 8 else if x.op = [] then 0
    else if (findN t.ins x.op).isSome = false ∧ isOwn x.op = false then 12
    else if x.has ≠ (isOwn x.op || opOf t x.op) then 9
    else if x.op = [115, 112, 97, 99, 101] ∧ x.name ≠ [] then 6
    else if t.cells < ((addW t w x).length : Int) then 14 else 0
section
variable {t : Tab} {w : List Int} {l : List (List UInt8 × Int)} {x : Ln} {yo : Bool} (h8 : ¬ (x.label ≠ [] ∧ (labAt l x.label).isSome = true)) (ho : ¬ x.op = [])
include h8 ho
theorem addE_12 (h : (findN t.ins x.op).isSome = false ∧ ¬ (x.op = [119, 111, 114, 100] ∨ x.op = [115, 112, 97, 99, 101])) : addE t w l (some x) = 12 := by
  rw [addE, if_neg h8, if_neg ho, if_pos ⟨h.1, decide_eq_false h.2⟩]
variable (h83 : ¬ ((findN t.ins x.op).isSome = false ∧ ¬ (x.op = [119, 111, 114, 100] ∨ x.op = [115, 112, 97, 99, 101]))) (hoo : opOf t x.op = yo)
include h83 hoo
theorem addE_9 (h90 : ¬ x.has = (decide (x.op = [119, 111, 114, 100] ∨ x.op = [115, 112, 97, 99, 101]) || yo)) : addE t w l (some x) = 9 := by
  rw [addE, if_neg h8, if_neg ho, if_neg (fun h => h83 ⟨h.1, of_decide_eq_false h.2⟩), hoo]
  exact if_pos h90
variable (h90 : ¬ ¬ x.has = (decide (x.op = [119, 111, 114, 100] ∨ x.op = [115, 112, 97, 99, 101]) || yo))
include h90
theorem addE_6 (h99 : x.op = [115, 112, 97, 99, 101] ∧ ¬ x.name = []) : addE t w l (some x) = 6 := by
  rw [addE, if_neg h8, if_neg ho, if_neg (fun h => h83 ⟨h.1, of_decide_eq_false h.2⟩), hoo]
  exact (if_neg h90).trans (if_pos h99)
theorem addE_0 (h99 : ¬ (x.op = [115, 112, 97, 99, 101] ∧ ¬ x.name = [])) : addE t w l (some x) = if t.cells < ((addW t w x).length : Int) then 14 else 0 := by
  rw [addE, if_neg h8, if_neg ho, if_neg (fun h => h83 ⟨h.1, of_decide_eq_false h.2⟩), hoo]
  exact (if_neg h90).trans (if_neg h99)
end
theorem emitW_own (w : List Int) (x : Ln) (c d : Int) : emitW w x c true = emitW w x d true := by simp [emitW]
theorem emitR_own (r : List (Int × Nat × List UInt8 × Int)) (w : List Int) (i : Int) (x : Ln) (c d : Int) : emitR r w i x c true = emitR r w i x d true := by simp [emitR]
end Go.Proofs.YteomcjpigoaioaaGreatDoor
namespace Go.Proofs.YteomcjpigoaioaaGreatDoor
open Go.FL
attribute [local irreducible] JC JO JA JB thenQ blockQ retQ AC fill CellsAt QE Ev Mid
set_option maxHeartbeats 1000000 in
set_option maxRecDepth 100000 in
theorem find1_ac (D : Nat) (L : Hl) (s : World) (nm : List UInt8) (y : Ins) (A' : Option Addr) (n' c' β : Nat) (x0 : Nat × Obj) : AC Tryz.prog D 122 [.agg #[St y.name, .int .u32 y.code, .bool y.operand, .slice A' n' c'], .pointer (some ⟨β, 0, none⟩)] (x0 :: (β, cb [St nm] 9) :: L) s fun v L' _ => v = .bool (decide (y.name = nm)) ∧ x0 :: (β, cb [St nm] 9) :: L = L' := by
 refine AC_enter (TT := TT) (fn := Tryz.f122) TT_ok Tryz.func122 (by kernel_rfl) rfl Tryz.ntmps122 rfl (rs := [.tmp 3]) rfl [(0, _), (1, _)] rfl ?_
 refine JC_seq ?_
 refine JC_region ?_
 refine JO_boxA rfl rfl ?_
 intro β1 s1 h1
 refine JO_q (QE_as rfl) rfl ?_
 refine JO_nil ?_
 refine thenQ_n ?_
 refine JC_seq ?_
 refine JC_region ?_
 refine JO_q (QE_fa0 rfl rfl rfl rfl) rfl ?_
 refine JO_q (QE_ld1 0 rfl rfl rfl rfl rfl) rfl ?_
 refine JO_q (QE_ld1 2 rfl rfl rfl rfl rfl) rfl ?_
 refine JO_q (QE_seq rfl rfl) rfl ?_
 refine JO_q (QE_as rfl) rfl ?_
 refine JO_nil ?_
 refine thenQ_n ?_
 refine JC_ret ?_
 refine retQ_mk [_] (x0 :: (β, cb [St nm] 9) :: L) (.inr rfl) (.tmp rfl (.nil)) rfl h1 (fun sR hS2 => ?_)
 exact ⟨rfl, rfl⟩
theorem idx_find {α : Type} (p : α → Bool) (l : List α) (j : Nat) : (idxOf p l j = -1 ∧ l.find? p = none) ∨ ∃ i x, idxOf p l j = ((j + i : Nat) : Int) ∧ l[i]? = some x ∧ l.find? p = some x := by
  induction l generalizing j with
  | nil => exact .inl ⟨rfl, rfl⟩
  | cons y l ih =>
    simp only [idxOf, List.find?]
    cases h : p y with
    | true => exact .inr ⟨0, y, by simp, rfl, rfl⟩
    | false =>
      rcases ih (j + 1) with ⟨h1, h2⟩ | ⟨i, x, h1, h2, h3⟩
      · exact .inl ⟨by simpa using h1, h2⟩
      · exact .inr ⟨i + 1, x, by simp only [Bool.false_eq_true, if_false]; rw [h1]; congr 1; omega, h2, h3⟩
set_option maxHeartbeats 2000000 in
set_option maxRecDepth 100000 in
theorem findA_ac (D : Nat) (L : Hl) (s : World) (ba bm : Nat) (t : Tab) (A : Option Addr) (n c : Nat) (hA : Inss s A n c t.ins) (g : AG) (nm : List UInt8) : AC Tryz.prog D 101 [.pointer (some ⟨ba, 0, none⟩), St nm] (HA ba bm t.cells A n c g L) s fun v L' _ => L' = HA ba bm t.cells A n c g L ∧ ∃ (y : Ins) (Ay : Option Addr) (ny cy : Nat), v = .tuple #[.agg #[St y.name, .int .u32 y.code, .bool y.operand, .slice Ay ny cy], .bool (findN t.ins nm).isSome] ∧ U32 y.code ∧ (∀ z, findN t.ins nm = some z → y = z) ∧ (findN t.ins nm = none → y.operand = false) := by
 have hn := hA.1
 simp only [HA]
 refine AC_enter (TT := TT) (fn := Tryz.f101) TT_ok Tryz.func101 (by kernel_rfl) rfl Tryz.ntmps101 rfl (rs := [.cell 4 97, .tmp 5]) rfl [(0, _), (1, _)] rfl ?_
 refine JC_seq ?_
 refine JC_region ?_
 refine JO_box rfl rfl rfl ?_
 intro β1 s1 h1
 refine JO_allocZ rfl [_, _, _, _] rfl rfl ?_
 intro β2 s2 h2
 refine JO_q (QE_as rfl) rfl ?_
 refine JO_nil ?_
 refine thenQ_n ?_
 refine JC_seq ?_
 refine JC_region ?_
 refine JO_q (QE_mv rfl) rfl ?_
 refine JO_q (QE_nil rfl) rfl ?_
 refine JO_q (QE_fa0 rfl rfl rfl rfl) rfl ?_
 refine JO_q (QE_faB rfl rfl rfl rfl) rfl ?_
 refine JO_q (QE_ld1 2 rfl rfl rfl rfl rfl) rfl ?_
 refine JO_q (QE_func rfl) rfl ?_
 refine JO_call (first := []) (captured := []) rfl rfl rfl (indexFunc_ac D _ _ _ _ _ _ (hA.le (Le.trans h1 h2)) _ _ (fun (y : Ins) => decide (y.name = nm)) (fun s2 x A2 n2 c2 => find1_ac D _ s2 nm x A2 n2 c2 _ _)) ?_
 rintro _ _ s3 h3 ⟨rfl, rfl⟩
 refine JO_q (QE_as rfl) rfl ?_
 refine JO_nil ?_
 refine thenQ_n ?_
 refine JC_seq ?_
 refine JC_seq ?_
 refine JC_region ?_
 refine JO_q (QE_mv rfl) rfl ?_
 refine JO_q (QE_lt rfl rfl) rfl ?_
 refine JO_nil ?_
 refine thenQ_n ?_
 refine JC_ifD rfl (fun c4 => ?_) (fun c4 => ?_)
 ·
  have hneg := c4
  obtain ⟨hi, hf⟩ | ⟨i, y, hi, hy, hf⟩ := idx_find (fun (y : Ins) => decide (y.name = nm)) t.ins 0
  rotate_left
  · exact absurd hneg (by omega)
  refine JC_seq ?_
  refine JC_region ?_
  refine JO_q (QE_build [] [_, _, _, _] rfl rfl rfl rfl rfl rfl) rfl ?_
  refine JO_st 0 [_, _, _, _] rfl rfl rfl rfl rfl rfl rfl rfl rfl ?_
  refine JO_q (QE_as rfl) rfl ?_
  refine JO_nil ?_
  refine thenQ_n ?_
  refine JC_ret ?_
  refine thenQ_r ?_
  refine retQ_mk [_, _] _ (.inr rfl) (.agg (us := [_, _, _, _]) 0 rfl rfl rfl rfl rfl (.tmp rfl (.nil))) rfl (Le.trans (Le.trans h1 h2) h3) (fun sR hS2 => ?_)
  first
    | (refine ⟨rfl, y, A', n', c', ?_, hcd, fun z hz => ?_, fun hz => ?_⟩
       · rw [findN, hf]; rfl
       · rw [findN, hf] at hz; injection hz
       · rw [findN, hf] at hz; cases hz)
    | (refine ⟨rfl, ⟨[], 0, false, []⟩, none, 0, 0, ?_, U32_zero, fun z hz => ?_, fun _ => rfl⟩
       · rw [findN, hf]; rfl
       · rw [findN, hf] at hz; cases hz)
 ·
  have hneg := c4
  obtain ⟨hi, hf⟩ | ⟨i, y, hi, hy, hf⟩ := idx_find (fun (y : Ins) => decide (y.name = nm)) t.ins 0
  · exact absurd (by omega) hneg
  rw [hi, Nat.zero_add]
  obtain ⟨b, off, y', A', n', c', rfl, hy', hcy, hay, hnl, hcd⟩ := Inss.at_ (hA.le (Le.trans (Le.trans h1 h2) h3)) (show i < n by rw [hn]; exact (List.getElem?_eq_some_iff.1 hy).1)
  rw [hy] at hy'
  injection hy' with hy'
  subst hy'
  refine JC_skip ?_
  refine thenQ_n ?_
  refine JC_seq ?_
  refine JC_region ?_
  refine JO_q (QE_mv rfl) rfl ?_
  refine JO_q (QE_nil rfl) rfl ?_
  refine JO_q (QE_fa0 rfl rfl rfl rfl) rfl ?_
  refine JO_q (QE_faB rfl rfl rfl rfl) rfl ?_
  refine JO_q (QE_ld1 2 rfl rfl rfl rfl rfl) rfl ?_
  refine JO_q (QE_mv rfl) rfl ?_
  refine JO_q (QE_iaN rfl rfl rfl rfl rfl rfl (show i < n by rw [hn]; exact (List.getElem?_eq_some_iff.1 hy).1)) rfl ?_
  refine JO_q (QE_ldsA rfl rfl rfl (hcy.le (Le.refl (D := D) _)) rfl) rfl ?_
  refine JO_st 0 [_, _, _, _] rfl rfl rfl rfl rfl rfl rfl rfl rfl ?_
  refine JO_q (QE_as rfl) rfl ?_
  refine JO_nil ?_
  refine thenQ_n ?_
  refine JC_ret ?_
  refine retQ_mk [_, _] _ (.inr rfl) (.agg (us := [_, _, _, _]) 0 rfl rfl rfl rfl rfl (.tmp rfl (.nil))) rfl (Le.trans (Le.trans h1 h2) h3) (fun sR hS2 => ?_)
  first
    | (refine ⟨rfl, y, A', n', c', ?_, hcd, fun z hz => ?_, fun hz => ?_⟩
       · rw [findN, hf]; rfl
       · rw [findN, hf] at hz; injection hz
       · rw [findN, hf] at hz; cases hz)
    | (refine ⟨rfl, ⟨[], 0, false, []⟩, none, 0, 0, ?_, U32_zero, fun z hz => ?_, fun _ => rfl⟩
       · rw [findN, hf]; rfl
       · rw [findN, hf] at hz; cases hz)
end Go.Proofs.YteomcjpigoaioaaGreatDoor
namespace Go.Proofs.YteomcjpigoaioaaGreatDoor
open Go.FL
attribute [local irreducible] JC JO JA JB thenQ blockQ retQ AC fill CellsAt QE Ev Mid
theorem ag_word {g : AG} {vw : Value} {M : Hl} {x : Int} (hg : AGok g) (o : Own 52 1 M vw (g.w.length + 1) (wv g.w ++ [.int .u32 x])) (hx : U32 x) : AGok ⟨vw, M, g.vl, g.Ml, g.vr, g.Mr, g.es, g.ck, g.w ++ [x], g.l, g.r⟩ :=
  ⟨by simp only [List.length_append, List.length_cons, List.length_nil, wv_snoc]; exact o, hg.hl, hg.hr, hg.he, fun y hy => by
    rcases List.mem_append.1 hy with h | h
    · exact hg.uw y h
    · rw [List.mem_singleton.1 h]; exact hx, hg.ul, hg.ur⟩
theorem ag_ref {g : AG} {vr : Value} {M : Hl} {i : Int} {p : Nat} {k : List UInt8} {x : Int} (hg : AGok g) (o : Own 142 4 M vr (g.r.length + 1) (rfv g.r ++ [.int .i64 i, .int .i64 (p : Int), St k, .int .u32 x])) (hx : U32 x) : AGok ⟨g.vw, g.Mw, g.vl, g.Ml, vr, M, g.es, g.ck, g.w, g.l, g.r ++ [(i, p, k, x)]⟩ :=
  ⟨hg.hw, hg.hl, by simp only [List.length_append, List.length_cons, List.length_nil, rfv_snoc]; exact o, hg.he, hg.uw, hg.ul, fun y hy => by
    rcases List.mem_append.1 hy with h | h
    · exact hg.ur y h
    · rw [List.mem_singleton.1 h]; exact hx⟩
theorem ag_zeros {g : AG} {vw : Value} {M : Hl} {m : Nat} (hg : AGok g) (o : Own 52 1 M vw (g.w.length + m) (wv g.w ++ List.replicate m (.int .u32 0))) : AGok ⟨vw, M, g.vl, g.Ml, g.vr, g.Mr, g.es, g.ck, g.w ++ List.replicate m 0, g.l, g.r⟩ :=
  ⟨by simp only [List.length_append, List.length_replicate, wv_zeros]; exact o, hg.hl, hg.hr, hg.he, fun y hy => by
    rcases List.mem_append.1 hy with h | h
    · exact hg.uw y h
    · rw [(List.mem_replicate.1 h).2]; exact U32_zero, hg.ul, hg.ur⟩
theorem em_has {w w1 : List Int} {xl xo xn : List UInt8} {xh own : Bool} {xk yc : Int} (h : w1 = if own = true then w else w ++ [yc]) (hs : ¬ xo = spaceB) (hh : xh = true) : w1 ++ [xk] = emitW w ⟨xl, xo, xh, xn, xk⟩ yc own := by
  subst h; subst hh; simp [emitW, hs]
theorem em_no {w w1 : List Int} {xl xo xn : List UInt8} {xh own : Bool} {xk yc : Int} (h : w1 = if own = true then w else w ++ [yc]) (hs : ¬ xo = spaceB) (hh : xh = false) : w1 = emitW w ⟨xl, xo, xh, xn, xk⟩ yc own := by
  subst h; subst hh; simp [emitW, hs]
theorem em_ref {r : List (Int × Nat × List UInt8 × Int)} {w w1 : List Int} {i : Int} {xl xo xn : List UInt8} {xh own : Bool} {xk yc : Int} (h : w1 = if own = true then w else w ++ [yc]) (hs : ¬ xo = spaceB) (hh : xh = true) (hn : ¬ xn = []) : r ++ [(i, w1.length, xn, xk)] = emitR r w i ⟨xl, xo, xh, xn, xk⟩ yc own := by
  subst h; subst hh; simp [emitR, hs, hn]
theorem em_noref {r : List (Int × Nat × List UInt8 × Int)} {w : List Int} {i : Int} {xl xo xn : List UInt8} {xh own : Bool} {xk yc : Int} (hn : xn = []) : r = emitR r w i ⟨xl, xo, xh, xn, xk⟩ yc own := by
  subst hn; simp [emitR]
theorem em_nohas {r : List (Int × Nat × List UInt8 × Int)} {w : List Int} {i : Int} {xl xo xn : List UInt8} {xh own : Bool} {xk yc : Int} (hh : xh = false) : r = emitR r w i ⟨xl, xo, xh, xn, xk⟩ yc own := by
  subst hh; simp [emitR]
theorem assoc4 {x1 x2 x3 x4 : Nat × Obj} {M1 M2 R : Hl} : x1 :: x2 :: x3 :: x4 :: (M1 ++ (M2 ++ R)) = (x1 :: x2 :: x3 :: x4 :: (M1 ++ M2)) ++ R := by simp
theorem memK2 {x a b : Nat × Obj} {R R' : Hl} (hx : x ∈ (a :: b :: R).take 2) : x ∈ a :: b :: R' := by
  simp only [List.take_succ_cons, List.take_zero, List.mem_cons, List.not_mem_nil, or_false] at hx
  rcases hx with rfl | rfl
  · exact List.mem_cons_self ..
  · exact List.mem_cons_of_mem _ (List.mem_cons_self ..)
theorem u32N {k : Nat} (h : k < 4294967296) : U32 (k : Int) := ⟨by omega, by omega⟩
set_option maxHeartbeats 4000000 in
set_option maxRecDepth 100000 in
theorem emit_ac (D : Nat) (L : Hl) (s : World) (ba bm : Nat) (tc : Int) (A : Option Addr) (n c : Nat) (g : AG) (hg : AGok g) (num : Int) (xl xo : List UInt8) (xh : Bool) (xn : List UInt8) (xk : Nat) (hxk : xk < 4294967296) (yn : List UInt8) (yc : Int) (yo : Bool) (Ay : Option Addr) (ny cy : Nat) (hyc : U32 yc) (own : Bool) (htc : 0 ≤ tc ∧ tc ≤ 65536) (hwl : (g.w.length : Int) ≤ tc) (hrl : g.r.length ≤ 1000000) : AC Tryz.prog D 102 [.pointer (some ⟨ba, 0, none⟩), .int .i64 num, .agg #[St xl, St xo, .bool xh, St xn, .int .u32 (xk : Int)], .agg #[St yn, .int .u32 yc, .bool yo, .slice Ay ny cy], .bool own] (HA ba bm tc A n c g L) s fun v L' _ => ∃ g', L' = HA ba bm tc A n c g' L ∧ ∃ e, v = .int .i64 e ∧ ((e = 14 ∧ tc < ((emitW g.w ⟨xl, xo, xh, xn, (xk : Int)⟩ yc own).length : Int)) ∨ (e = 0 ∧ ((emitW g.w ⟨xl, xo, xh, xn, (xk : Int)⟩ yc own).length : Int) ≤ tc ∧ AGok g' ∧ g'.w = emitW g.w ⟨xl, xo, xh, xn, (xk : Int)⟩ yc own ∧ g'.l = g.l ∧ g'.es = g.es ∧ g'.r = emitR g.r g.w num ⟨xl, xo, xh, xn, (xk : Int)⟩ yc own)) := by
 have hg0 := hg
 obtain ⟨vw, Mw, vl, Ml, vr, Mr, es, ck, w, l, r⟩ := g
 obtain ⟨hOw, hOl, hOr, hE, huw, hul, hur⟩ := hg
 simp only at hOw hOl hOr hE huw hul hur
 obtain ⟨Aw, cw, rfl, kw, kx⟩ := Own.slice hOw
 obtain ⟨Al, cl, rfl, kl, km⟩ := Own.slice hOl
 obtain ⟨Ar, cr, rfl, kr, ks⟩ := Own.slice hOr
 simp only [HA]
 simp only at hwl hrl
 refine AC_enter (TT := TT) (fn := Tryz.f102) TT_ok Tryz.func102 (by kernel_rfl) rfl Tryz.ntmps102 rfl (rs := [.tmp 10]) rfl [(0, _), (1, _), (2, _), (3, _), (4, _)] rfl ?_
 refine JC_seq ?_
 refine JC_region ?_
 refine JO_boxA rfl rfl ?_
 intro β1 s1 h1
 refine JO_boxA rfl rfl ?_
 intro β2 s2 h2
 refine JO_q (QE_as rfl) rfl ?_
 refine JO_nil ?_
 refine thenQ_n ?_
 refine JC_seq ?_
 refine JC_draw drawsMixed 12 rfl _ (fun _ h => h) ?_
 intro s3 h3
 refine JA_q 0 rfl (by kernel_rfl) (by kernel_rfl) (by kernel_rfl) trivial (QE_mv rfl) rfl ?_
 refine JA_q 1 rfl (by kernel_rfl) (by kernel_rfl) (by kernel_rfl) trivial (QE_nil rfl) rfl ?_
 refine JA_q 2 rfl (by kernel_rfl) (by kernel_rfl) (by kernel_rfl) trivial (QE_fa0 rfl rfl rfl rfl) rfl ?_
 refine JA_q 3 rfl (by kernel_rfl) (by kernel_rfl) (by kernel_rfl) trivial (QE_fa0 rfl rfl rfl rfl) rfl ?_
 refine JA_q 4 rfl (by kernel_rfl) (by kernel_rfl) (by kernel_rfl) trivial (QE_ld1 2 rfl rfl rfl rfl rfl) rfl ?_
 refine JA_q 5 rfl (by kernel_rfl) (by kernel_rfl) (by kernel_rfl) trivial (QE_mv rfl) rfl ?_
 refine JA_q 6 rfl (by kernel_rfl) (by kernel_rfl) (by kernel_rfl) trivial (QE_nil rfl) rfl ?_
 refine JA_q 7 rfl (by kernel_rfl) (by kernel_rfl) (by kernel_rfl) trivial (QE_faB rfl rfl rfl rfl) rfl ?_
 refine JA_q 8 rfl (by kernel_rfl) (by kernel_rfl) (by kernel_rfl) trivial (QE_ld1 2 rfl rfl rfl rfl rfl) rfl ?_
 refine JA_q 9 rfl (by kernel_rfl) (by kernel_rfl) (by kernel_rfl) trivial (QE_lenS rfl rfl rfl) rfl ?_
 refine JA_q 10 rfl (by kernel_rfl) (by kernel_rfl) (by kernel_rfl) trivial (QE_sub' rfl rfl (w64 (by omega) (by omega))) rfl ?_
 refine JA_q 11 rfl (by kernel_rfl) (by kernel_rfl) (by kernel_rfl) trivial (QE_as rfl) rfl ?_
 refine JA_done (by kernel_rfl) ?_
 refine thenQ_n ?_
 refine JC_seq ?_
 refine JC_seq ?_
 refine JC_region ?_
 refine JO_q (QE_faB rfl rfl rfl rfl) rfl ?_
 refine JO_q (QE_ld1 1 rfl rfl rfl rfl rfl) rfl ?_
 refine JO_q (QE_seq rfl rfl) rfl ?_
 refine JO_nil ?_
 refine thenQ_n ?_
 refine JC_ifD rfl (fun c4 => ?_) (fun c4 => ?_)
 ·
  have hsp : xo = spaceB := c4
  refine JC_seq ?_
  refine JC_seq ?_
  refine JC_region ?_
  refine JO_q (QE_faB rfl rfl rfl rfl) rfl ?_
  refine JO_q (QE_fa rfl rfl rfl rfl) rfl ?_
  refine JO_q (QE_ld1 1 rfl rfl rfl rfl rfl) rfl ?_
  refine JO_q (QE_conv' rfl rfl rfl rfl rfl (w64 (by omega) (by omega))) rfl ?_
  refine JO_q (QE_mv rfl) rfl ?_
  refine JO_q (QE_gt rfl rfl) rfl ?_
  refine JO_nil ?_
  refine thenQ_n ?_
  refine JC_ifD rfl (fun c5 => ?_) (fun c5 => ?_)
  ·
   refine JC_seq ?_
   refine JC_region ?_
   refine JO_q (QE_as rfl) rfl ?_
   refine JO_nil ?_
   refine thenQ_n ?_
   refine JC_ret ?_
   refine thenQ_r ?_
   refine thenQ_r ?_
   refine retQ_mk [_, _] _ (.inr rfl) (.tmp rfl (.nil)) rfl (Le.trans (Le.trans h1 h2) h3) (fun sR hS2 => ?_)
   first
     | (refine ⟨(⟨.slice Aw w.length cw, Mw, .slice Al l.length cl, Ml, .slice Ar r.length cr, Mr, es, ck, w, l, r⟩ : AG), rfl, 14, rfl, .inl ⟨rfl, ?_⟩⟩
        simp only [emitW_space (x := ⟨xl, xo, xh, xn, (xk : Int)⟩) hsp, List.length_append, List.length_replicate, Int.toNat_natCast]; omega)
     | (refine ⟨⟨_, M1, _, Ml, _, Mr, es, ck, w ++ List.replicate xk 0, l, r⟩, rfl, 0, rfl, .inr ⟨rfl, ?_, ag_zeros hg0 o1, ?_, rfl, rfl, ?_⟩⟩
        · simp only [emitW_space (x := ⟨xl, xo, xh, xn, (xk : Int)⟩) hsp, List.length_append, List.length_replicate, Int.toNat_natCast]; omega
        · simp only [emitW_space (x := ⟨xl, xo, xh, xn, (xk : Int)⟩) hsp, Int.toNat_natCast]
        · exact (emitR_space (x := ⟨xl, xo, xh, xn, (xk : Int)⟩) hsp).symm)
     | (refine ⟨g, rfl, 14, rfl, .inl ⟨rfl, ?_⟩⟩
        rw [← ew3]; omega)
     | (refine ⟨g, rfl, 0, rfl, .inr ⟨rfl, ?_, hg3, ew3, el3, ee3, er3⟩⟩
        rw [← ew3]; omega)
  ·
   refine JC_skip ?_
   refine thenQ_n ?_
   refine JC_seq ?_
   refine JC_drawT drawsMixed 12 rfl 2 ?_
   intro s6 h6
   refine JA_q 0 rfl (by kernel_rfl) (by kernel_rfl) (by kernel_rfl) trivial (QE_mv rfl) rfl ?_
   refine JA_q 1 rfl (by kernel_rfl) (by kernel_rfl) (by kernel_rfl) trivial (QE_mv rfl) rfl ?_
   refine JA_q 2 rfl (by kernel_rfl) (by kernel_rfl) (by kernel_rfl) trivial (QE_nil rfl) rfl ?_
   refine JA_q 3 rfl (by kernel_rfl) (by kernel_rfl) (by kernel_rfl) trivial (QE_faB rfl rfl rfl rfl) rfl ?_
   refine JA_q 5 rfl (by kernel_rfl) (by kernel_rfl) (by kernel_rfl) trivial (QE_faB rfl rfl rfl rfl) rfl ?_
   refine JA_q 6 rfl (by kernel_rfl) (by kernel_rfl) (by kernel_rfl) trivial (QE_fa rfl rfl rfl rfl) rfl ?_
   refine JA_q 7 rfl (by kernel_rfl) (by kernel_rfl) (by kernel_rfl) trivial (QE_ld1 1 rfl rfl rfl rfl rfl) rfl ?_
   refine JA_1 4 (by kernel_rfl) ?_
   refine JB_q rfl trivial (QE_ld1 2 rfl rfl rfl rfl rfl) rfl ?_
   refine JA_1 8 (by kernel_rfl) ?_
   refine JB_appG (sz := 1) (m := xk) (news := List.replicate xk (.int .u32 0)) rfl trivial [_, _, _, _] Mw _ rfl rfl rfl rfl rfl rfl rfl hOw (by simp) (fun hT w i k1 i1 i2 i3 i4 => apps_zero xk k1 Tryz.underlying52 i1 i2 i4 rfl rfl (by omega) (by rw [i3]; simp [ti52]; omega)) ⟨by simp [ti52]; omega, by omega⟩ rfl (fun A2 x hx _ => memK2 hx) ?_
   intro v1 M1 s7 h7 o1
   obtain ⟨Av1, cv1, rfl, kv1, kv2⟩ := Own.slice o1
   simp only [List.cons_append, List.nil_append, List.append_assoc]
   refine JA_q 9 rfl (by kernel_rfl) (by kernel_rfl) (by kernel_rfl) trivial (QE_nil rfl) rfl ?_
   refine JA_q 10 rfl (by kernel_rfl) (by kernel_rfl) (by kernel_rfl) trivial (QE_faB rfl rfl rfl rfl) rfl ?_
   refine JA_1 11 (by kernel_rfl) ?_
   refine JB_st rfl trivial 2 [_, _, _, _, _, _] rfl rfl rfl rfl rfl rfl rfl rfl rfl (fun _ hx => sub_mem (sbY (sbY (sb0 _))) hx) ?_
   refine JA_done (by kernel_rfl) ?_
   refine thenQ_n ?_
   refine JC_seq ?_
   refine JC_region ?_
   refine JO_q (QE_as rfl) rfl ?_
   refine JO_nil ?_
   refine thenQ_n ?_
   refine JC_ret ?_
   refine thenQ_r ?_
   refine retQ_mk [_, _] _ (.inr rfl) (.tmp rfl (.nil)) rfl (Le.trans (Le.trans (Le.trans (Le.trans h1 h2) h3) h6) h7) (fun sR hS2 => ?_)
   first
     | (refine ⟨(⟨.slice Aw w.length cw, Mw, .slice Al l.length cl, Ml, .slice Ar r.length cr, Mr, es, ck, w, l, r⟩ : AG), rfl, 14, rfl, .inl ⟨rfl, ?_⟩⟩
        simp only [emitW_space (x := ⟨xl, xo, xh, xn, (xk : Int)⟩) hsp, List.length_append, List.length_replicate, Int.toNat_natCast]; omega)
     | (refine ⟨⟨_, M1, _, Ml, _, Mr, es, ck, w ++ List.replicate xk 0, l, r⟩, rfl, 0, rfl, .inr ⟨rfl, ?_, ag_zeros hg0 o1, ?_, rfl, rfl, ?_⟩⟩
        · simp only [emitW_space (x := ⟨xl, xo, xh, xn, (xk : Int)⟩) hsp, List.length_append, List.length_replicate, Int.toNat_natCast]; omega
        · simp only [emitW_space (x := ⟨xl, xo, xh, xn, (xk : Int)⟩) hsp, Int.toNat_natCast]
        · exact (emitR_space (x := ⟨xl, xo, xh, xn, (xk : Int)⟩) hsp).symm)
     | (refine ⟨g, rfl, 14, rfl, .inl ⟨rfl, ?_⟩⟩
        rw [← ew3]; omega)
     | (refine ⟨g, rfl, 0, rfl, .inr ⟨rfl, ?_, hg3, ew3, el3, ee3, er3⟩⟩
        rw [← ew3]; omega)
 ·
  have hsp : ¬ xo = spaceB := c4
  refine JC_skip ?_
  refine thenQ_n ?_
  refine JC_cutG (γ := AG) (fun g => [(11, .int .i64 (tc - (g.w.length : Int)))]) [_, _] rfl (fun g => HA ba bm tc A n c g L) (fun g tw => AGok g ∧ g.w = (if own = true then w else w ++ [yc]) ∧ g.l = l ∧ g.r = r ∧ g.es = es) (fun _ _ _ h hl => h) ?_ ?_
  ·
   refine JC_seq ?_
   refine JC_region ?_
   refine JO_q (QE_mv rfl) rfl ?_
   refine JO_q (QE_not rfl) rfl ?_
   refine JO_nil ?_
   refine thenQ_n ?_
   refine JC_ifM rfl (fun c9 => ?_) (fun c9 => ?_)
   ·
    have hown := c9
    refine JC_seq ?_
    refine JC_drawT drawsMixed 12 rfl 2 ?_
    intro s10 h10
    refine JA_q 0 rfl (by kernel_rfl) (by kernel_rfl) (by kernel_rfl) trivial (QE_mv rfl) rfl ?_
    refine JA_q 1 rfl (by kernel_rfl) (by kernel_rfl) (by kernel_rfl) trivial (QE_mv rfl) rfl ?_
    refine JA_q 2 rfl (by kernel_rfl) (by kernel_rfl) (by kernel_rfl) trivial (QE_nil rfl) rfl ?_
    refine JA_q 3 rfl (by kernel_rfl) (by kernel_rfl) (by kernel_rfl) trivial (QE_faB rfl rfl rfl rfl) rfl ?_
    refine JA_q 5 rfl (by kernel_rfl) (by kernel_rfl) (by kernel_rfl) trivial (QE_faB rfl rfl rfl rfl) rfl ?_
    refine JA_q 6 rfl (by kernel_rfl) (by kernel_rfl) (by kernel_rfl) trivial (QE_ld1 0 rfl rfl rfl rfl rfl) rfl ?_
    refine JA_2 4 7 (by kernel_rfl) ?_ ?_
    ·
     refine JB_q rfl trivial (QE_ld1 2 rfl rfl rfl rfl rfl) rfl ?_
     refine JA_1 7 (by kernel_rfl) ?_
     refine JB_bs rfl trivial [(_, _)] [_] rfl rfl rfl rfl rfl rfl rfl rfl rfl ?_
     intro βn s11 h11 hcb
     refine JA_1 8 (by kernel_rfl) ?_
     refine JB_app (sz := 1) rfl trivial [_, _, _, _] Mw _ rfl rfl rfl rfl rfl rfl rfl hOw (Row.of_cells (hcb.le (Le.refl (D := D) _)) rfl rfl) ⟨by simp [ti52]; omega, by omega⟩ rfl (fun A2 x hx _ => memK2 hx) ?_
     intro v1 M1 s12 h12 o1
     obtain ⟨Av1, cv1, rfl, kv1, kv12⟩ := Own.slice o1
     simp only [List.cons_append, List.nil_append, List.append_assoc]
     refine JA_q 9 rfl (by kernel_rfl) (by kernel_rfl) (by kernel_rfl) trivial (QE_nil rfl) rfl ?_
     refine JA_q 10 rfl (by kernel_rfl) (by kernel_rfl) (by kernel_rfl) trivial (QE_faB rfl rfl rfl rfl) rfl ?_
     refine JA_1 11 (by kernel_rfl) ?_
     refine JB_st rfl trivial 2 [_, _, _, _, _, _] rfl rfl rfl rfl rfl rfl rfl rfl rfl (fun _ hx => sub_mem (sbY (sbY (sb0 _))) hx) ?_
     refine JA_done (by kernel_rfl) ?_
     refine thenQ_n ?_
     refine JC_region ?_
     refine JO_q (QE_mv rfl) rfl ?_
     refine JO_q (QE_sub' rfl rfl (w64 (by omega) (by omega))) rfl ?_
     refine JO_q (QE_as rfl) rfl ?_
     refine JO_nil ?_
     refine thenQ_n (MidG.mk ⟨_, M1, _, Ml, _, Mr, es, ck, w ++ [yc], l, r⟩ [] (Le.trans (Le.trans h10 h11) h12) (Keeps.cons (by first | rfl | (simp only [List.length_append, List.length_cons, List.length_nil]; refine congrArg some (congrArg (Value.int .i64) ?_); omega)) (Keeps.nil _)) (by repeat (first | exact SufO.refl | refine SufO.push rfl ?_)) (List.Perm.refl _) (by first | exact ⟨ag_word hg0 o1 hyc, by simp [hown], rfl, rfl, rfl⟩ | exact ⟨hg0, by simp [hown], rfl, rfl, rfl⟩))
    ·
     refine JB_bs rfl trivial [(_, _)] [_] rfl rfl rfl rfl rfl rfl rfl rfl rfl ?_
     intro βn s13 h13 hcb
     refine JA_1 4 (by kernel_rfl) ?_
     refine JB_q rfl trivial (QE_ld1 2 rfl rfl rfl rfl rfl) rfl ?_
     refine JA_1 8 (by kernel_rfl) ?_
     refine JB_app (sz := 1) rfl trivial [_, _, _, _] Mw _ rfl rfl rfl rfl rfl rfl rfl hOw (Row.of_cells (hcb.le (Le.refl (D := D) _)) rfl rfl) ⟨by simp [ti52]; omega, by omega⟩ rfl (fun A2 x hx _ => memK2 hx) ?_
     intro v1 M1 s14 h14 o1
     obtain ⟨Av1, cv1, rfl, kv1, kv12⟩ := Own.slice o1
     simp only [List.cons_append, List.nil_append, List.append_assoc]
     refine JA_q 9 rfl (by kernel_rfl) (by kernel_rfl) (by kernel_rfl) trivial (QE_nil rfl) rfl ?_
     refine JA_q 10 rfl (by kernel_rfl) (by kernel_rfl) (by kernel_rfl) trivial (QE_faB rfl rfl rfl rfl) rfl ?_
     refine JA_1 11 (by kernel_rfl) ?_
     refine JB_st rfl trivial 2 [_, _, _, _, _, _] rfl rfl rfl rfl rfl rfl rfl rfl rfl (fun _ hx => sub_mem (sbY (sbY (sb0 _))) hx) ?_
     refine JA_done (by kernel_rfl) ?_
     refine thenQ_n ?_
     refine JC_region ?_
     refine JO_q (QE_mv rfl) rfl ?_
     refine JO_q (QE_sub' rfl rfl (w64 (by omega) (by omega))) rfl ?_
     refine JO_q (QE_as rfl) rfl ?_
     refine JO_nil ?_
     refine thenQ_n (MidG.mk ⟨_, M1, _, Ml, _, Mr, es, ck, w ++ [yc], l, r⟩ [] (Le.trans (Le.trans h10 h13) h14) (Keeps.cons (by first | rfl | (simp only [List.length_append, List.length_cons, List.length_nil]; refine congrArg some (congrArg (Value.int .i64) ?_); omega)) (Keeps.nil _)) (by repeat (first | exact SufO.refl | refine SufO.push rfl ?_)) (List.Perm.refl _) (by first | exact ⟨ag_word hg0 o1 hyc, by simp [hown], rfl, rfl, rfl⟩ | exact ⟨hg0, by simp [hown], rfl, rfl, rfl⟩))
   ·
    have hown := c9
    refine JC_skip ?_
    refine thenQ_n (MidG.mk ⟨_, Mw, _, Ml, _, Mr, es, ck, w, l, r⟩ [] (Le.refl (D := D) _) (Keeps.cons (by first | rfl | (simp only [List.length_append, List.length_cons, List.length_nil]; refine congrArg some (congrArg (Value.int .i64) ?_); omega)) (Keeps.nil _)) (by repeat (first | exact SufO.refl | refine SufO.push rfl ?_)) (List.Perm.refl _) (by first | exact ⟨ag_word hg0 o1 hyc, by simp [hown], rfl, rfl, rfl⟩ | exact ⟨hg0, by simp [hown], rfl, rfl, rfl⟩))
  intro g s8 h8 I8
  simp only [List.cons_append, List.nil_append]
  obtain ⟨hg1, ew1, el1, er1, ee1⟩ := I8
  have hg2 := hg1
  obtain ⟨vw1, Mw1, vl1, Ml1, vr1, Mr1, es1, ck1, w1, l1, r1⟩ := g
  obtain ⟨hOw1, hOl1, hOr1, hE1, huw1, hul1, hur1⟩ := hg1
  simp only at hOw1 hOl1 hOr1 hE1 huw1 hul1 hur1
  obtain ⟨Aw1, cw1, rfl, kw1, kx1⟩ := Own.slice hOw1
  obtain ⟨Al1, cl1, rfl, kl1, km1⟩ := Own.slice hOl1
  obtain ⟨Ar1, cr1, rfl, kr1, ks1⟩ := Own.slice hOr1
  simp only [HA]
  simp only at ew1 el1 er1 ee1
  subst el1
  subst er1
  subst ee1
  have hw1l : (w1.length : Int) ≤ tc + 1 := by rw [ew1]; split <;> (try simp only [List.length_append, List.length_cons, List.length_nil]) <;> omega
  refine JC_cutG (γ := AG) (fun g => [(11, .int .i64 (tc - (g.w.length : Int)))]) [_, _] rfl (fun g => HA ba bm tc A n c g L) (fun g tw => AGok g ∧ g.w = emitW w ⟨xl, xo, xh, xn, (xk : Int)⟩ yc own ∧ g.l = l1 ∧ g.r = emitR r1 w num ⟨xl, xo, xh, xn, (xk : Int)⟩ yc own ∧ g.es = es1) (fun _ _ _ h hl => h) ?_ ?_
  ·
   refine JC_seq ?_
   refine JC_region ?_
   refine JO_q (QE_faB rfl rfl rfl rfl) rfl ?_
   refine JO_q (QE_ld1 1 rfl rfl rfl rfl rfl) rfl ?_
   refine JO_nil ?_
   refine thenQ_n ?_
   refine JC_if rfl (fun c16 => ?_) (fun c16 => ?_)
   ·
    have hhas := c16
    refine JC_seq ?_
    refine JC_seq ?_
    refine JC_region ?_
    refine JO_q (QE_faB rfl rfl rfl rfl) rfl ?_
    refine JO_q (QE_fa0 rfl rfl rfl rfl) rfl ?_
    refine JO_q (QE_ld1 1 rfl rfl rfl rfl rfl) rfl ?_
    refine JO_q (QE_sne rfl rfl) rfl ?_
    refine JO_nil ?_
    refine thenQ_n ?_
    refine JC_ifN rfl (fun c17 => ?_) (fun c17 => ?_)
    ·
     have hnm := c17
     refine JC_drawT drawsMixed 19 rfl 2 ?_
     intro s18 h18
     refine JA_q 0 rfl (by kernel_rfl) (by kernel_rfl) (by kernel_rfl) trivial (QE_mv rfl) rfl ?_
     refine JA_q 1 rfl (by kernel_rfl) (by kernel_rfl) (by kernel_rfl) trivial (QE_mv rfl) rfl ?_
     refine JA_q 2 rfl (by kernel_rfl) (by kernel_rfl) (by kernel_rfl) trivial (QE_nil rfl) rfl ?_
     refine JA_q 3 rfl (by kernel_rfl) (by kernel_rfl) (by kernel_rfl) trivial (QE_faB rfl rfl rfl rfl) rfl ?_
     refine JA_q 5 rfl (by kernel_rfl) (by kernel_rfl) (by kernel_rfl) trivial (QE_mv rfl) rfl ?_
     refine JA_q 6 rfl (by kernel_rfl) (by kernel_rfl) (by kernel_rfl) trivial (QE_mv rfl) rfl ?_
     refine JA_q 7 rfl (by kernel_rfl) (by kernel_rfl) (by kernel_rfl) trivial (QE_nil rfl) rfl ?_
     refine JA_q 8 rfl (by kernel_rfl) (by kernel_rfl) (by kernel_rfl) trivial (QE_faB rfl rfl rfl rfl) rfl ?_
     refine JA_q 11 rfl (by kernel_rfl) (by kernel_rfl) (by kernel_rfl) trivial (QE_faB rfl rfl rfl rfl) rfl ?_
     refine JA_q 12 rfl (by kernel_rfl) (by kernel_rfl) (by kernel_rfl) trivial (QE_ldA 1 [_, _] rfl rfl rfl rfl rfl) rfl ?_
     refine JA_2 4 9 (by kernel_rfl) ?_ ?_
     ·
      refine JB_q rfl trivial (QE_ld1 2 rfl rfl rfl rfl rfl) rfl ?_
      refine JA_1 9 (by kernel_rfl) ?_
      refine JB_q rfl trivial (QE_ld1 2 rfl rfl rfl rfl rfl) rfl ?_
      refine JA_q 10 rfl (by kernel_rfl) (by kernel_rfl) (by kernel_rfl) trivial (QE_lenS rfl rfl rfl) rfl ?_
      refine JA_q 13 rfl (by kernel_rfl) (by kernel_rfl) (by kernel_rfl) trivial (QE_build [(_, _), (_, _), (_, _)] [_, _, _, _] rfl rfl rfl rfl rfl rfl) rfl ?_
      refine JA_1 14 (by kernel_rfl) ?_
      refine JB_bs rfl trivial [(_, _)] [_, _, _, _] rfl rfl rfl rfl rfl rfl rfl rfl rfl ?_
      intro βn s19 h19 hcb
      refine JA_1 15 (by kernel_rfl) ?_
      refine JB_app (sz := 4) rfl trivial (_ :: _ :: _ :: _ :: (Mw1 ++ Ml1)) Mr1 _ assoc4 rfl rfl rfl rfl rfl rfl hOr1 (Row.of_cells (hcb.le (Le.refl (D := D) _)) rfl rfl) ⟨by simp [ti142]; omega, by omega⟩ rfl (fun A2 x hx _ => memK2 hx) ?_
      intro v2 M2 s20 h20 o2
      obtain ⟨Av2, cv2, rfl, kv2, kv22⟩ := Own.slice o2
      simp only [List.cons_append, List.nil_append, List.append_assoc]
      refine JA_q 16 rfl (by kernel_rfl) (by kernel_rfl) (by kernel_rfl) trivial (QE_nil rfl) rfl ?_
      refine JA_q 17 rfl (by kernel_rfl) (by kernel_rfl) (by kernel_rfl) trivial (QE_faB rfl rfl rfl rfl) rfl ?_
      refine JA_1 18 (by kernel_rfl) ?_
      refine JB_st rfl trivial 2 [_, _, _, _, _, _] rfl rfl rfl rfl rfl rfl rfl rfl rfl (fun _ hx => sub_mem (sbY (sbY (sb0 _))) hx) ?_
      refine JA_done (by kernel_rfl) ?_
      refine thenQ_n ?_
      refine JC_seq ?_
      refine JC_drawT drawsMixed 13 rfl 2 ?_
      intro s21 h21
      refine JA_q 0 rfl (by kernel_rfl) (by kernel_rfl) (by kernel_rfl) trivial (QE_mv rfl) rfl ?_
      refine JA_q 1 rfl (by kernel_rfl) (by kernel_rfl) (by kernel_rfl) trivial (QE_mv rfl) rfl ?_
      refine JA_q 2 rfl (by kernel_rfl) (by kernel_rfl) (by kernel_rfl) trivial (QE_nil rfl) rfl ?_
      refine JA_q 3 rfl (by kernel_rfl) (by kernel_rfl) (by kernel_rfl) trivial (QE_faB rfl rfl rfl rfl) rfl ?_
      refine JA_q 5 rfl (by kernel_rfl) (by kernel_rfl) (by kernel_rfl) trivial (QE_faB rfl rfl rfl rfl) rfl ?_
      refine JA_q 6 rfl (by kernel_rfl) (by kernel_rfl) (by kernel_rfl) trivial (QE_fa rfl rfl rfl rfl) rfl ?_
      refine JA_q 7 rfl (by kernel_rfl) (by kernel_rfl) (by kernel_rfl) trivial (QE_ld1 1 rfl rfl rfl rfl rfl) rfl ?_
      refine JA_2 4 8 (by kernel_rfl) ?_ ?_
      ·
       refine JB_q rfl trivial (QE_ld1 2 rfl rfl rfl rfl rfl) rfl ?_
       refine JA_1 8 (by kernel_rfl) ?_
       refine JB_bs rfl trivial [(_, _)] [_] rfl rfl rfl rfl rfl rfl rfl rfl rfl ?_
       intro βn s22 h22 hcb
       refine JA_1 9 (by kernel_rfl) ?_
       refine JB_app (sz := 1) rfl trivial [_, _, _, _] Mw1 _ rfl rfl rfl rfl rfl rfl rfl hOw1 (Row.of_cells (hcb.le (Le.refl (D := D) _)) rfl rfl) ⟨by simp [ti52]; omega, by omega⟩ rfl (fun A2 x hx _ => memK2 hx) ?_
       intro v3 M3 s23 h23 o3
       obtain ⟨Av3, cv3, rfl, kv3, kv32⟩ := Own.slice o3
       simp only [List.cons_append, List.nil_append, List.append_assoc]
       refine JA_q 10 rfl (by kernel_rfl) (by kernel_rfl) (by kernel_rfl) trivial (QE_nil rfl) rfl ?_
       refine JA_q 11 rfl (by kernel_rfl) (by kernel_rfl) (by kernel_rfl) trivial (QE_faB rfl rfl rfl rfl) rfl ?_
       refine JA_1 12 (by kernel_rfl) ?_
       refine JB_st rfl trivial 2 [_, _, _, _, _, _] rfl rfl rfl rfl rfl rfl rfl rfl rfl (fun _ hx => sub_mem (sbY (sbY (sb0 _))) hx) ?_
       refine JA_done (by kernel_rfl) ?_
       refine thenQ_n ?_
       refine JC_region ?_
       refine JO_q (QE_mv rfl) rfl ?_
       refine JO_q (QE_sub' rfl rfl (w64 (by omega) (by omega))) rfl ?_
       refine JO_q (QE_as rfl) rfl ?_
       refine JO_nil ?_
       refine thenQ_n (MidG.mk ⟨_, M3, _, Ml1, _, M2, es1, ck1, w1 ++ [(xk : Int)], l1, r1 ++ [(num, w1.length, xn, (xk : Int))]⟩ [] (Le.trans (Le.trans (Le.trans (Le.trans (Le.trans h18 h19) h20) h21) h22) h23) (Keeps.cons (by first | rfl | (simp only [List.length_append, List.length_cons, List.length_nil]; refine congrArg some (congrArg (Value.int .i64) ?_); omega)) (Keeps.nil _)) (by repeat (first | exact SufO.refl | refine SufO.push rfl ?_)) (List.Perm.refl _) (by first | exact ⟨ag_word (ag_ref hg2 o2 (u32N hxk)) o3 (u32N hxk), em_has ew1 hsp hhas, rfl, em_ref ew1 hsp hhas hnm, rfl⟩ | exact ⟨ag_word hg2 o3 (u32N hxk), em_has ew1 hsp hhas, rfl, em_noref hnm, rfl⟩ | exact ⟨hg2, em_no ew1 hsp hhas, rfl, em_nohas hhas, rfl⟩))
      ·
       refine JB_bs rfl trivial [(_, _)] [_] rfl rfl rfl rfl rfl rfl rfl rfl rfl ?_
       intro βn s24 h24 hcb
       refine JA_1 4 (by kernel_rfl) ?_
       refine JB_q rfl trivial (QE_ld1 2 rfl rfl rfl rfl rfl) rfl ?_
       refine JA_1 9 (by kernel_rfl) ?_
       refine JB_app (sz := 1) rfl trivial [_, _, _, _] Mw1 _ rfl rfl rfl rfl rfl rfl rfl hOw1 (Row.of_cells (hcb.le (Le.refl (D := D) _)) rfl rfl) ⟨by simp [ti52]; omega, by omega⟩ rfl (fun A2 x hx _ => memK2 hx) ?_
       intro v3 M3 s25 h25 o3
       obtain ⟨Av3, cv3, rfl, kv3, kv32⟩ := Own.slice o3
       simp only [List.cons_append, List.nil_append, List.append_assoc]
       refine JA_q 10 rfl (by kernel_rfl) (by kernel_rfl) (by kernel_rfl) trivial (QE_nil rfl) rfl ?_
       refine JA_q 11 rfl (by kernel_rfl) (by kernel_rfl) (by kernel_rfl) trivial (QE_faB rfl rfl rfl rfl) rfl ?_
       refine JA_1 12 (by kernel_rfl) ?_
       refine JB_st rfl trivial 2 [_, _, _, _, _, _] rfl rfl rfl rfl rfl rfl rfl rfl rfl (fun _ hx => sub_mem (sbY (sbY (sb0 _))) hx) ?_
       refine JA_done (by kernel_rfl) ?_
       refine thenQ_n ?_
       refine JC_region ?_
       refine JO_q (QE_mv rfl) rfl ?_
       refine JO_q (QE_sub' rfl rfl (w64 (by omega) (by omega))) rfl ?_
       refine JO_q (QE_as rfl) rfl ?_
       refine JO_nil ?_
       refine thenQ_n (MidG.mk ⟨_, M3, _, Ml1, _, M2, es1, ck1, w1 ++ [(xk : Int)], l1, r1 ++ [(num, w1.length, xn, (xk : Int))]⟩ [] (Le.trans (Le.trans (Le.trans (Le.trans (Le.trans h18 h19) h20) h21) h24) h25) (Keeps.cons (by first | rfl | (simp only [List.length_append, List.length_cons, List.length_nil]; refine congrArg some (congrArg (Value.int .i64) ?_); omega)) (Keeps.nil _)) (by repeat (first | exact SufO.refl | refine SufO.push rfl ?_)) (List.Perm.refl _) (by first | exact ⟨ag_word (ag_ref hg2 o2 (u32N hxk)) o3 (u32N hxk), em_has ew1 hsp hhas, rfl, em_ref ew1 hsp hhas hnm, rfl⟩ | exact ⟨ag_word hg2 o3 (u32N hxk), em_has ew1 hsp hhas, rfl, em_noref hnm, rfl⟩ | exact ⟨hg2, em_no ew1 hsp hhas, rfl, em_nohas hhas, rfl⟩))
     ·
      refine JB_q rfl trivial (QE_ld1 2 rfl rfl rfl rfl rfl) rfl ?_
      refine JA_q 10 rfl (by kernel_rfl) (by kernel_rfl) (by kernel_rfl) trivial (QE_lenS rfl rfl rfl) rfl ?_
      refine JA_q 13 rfl (by kernel_rfl) (by kernel_rfl) (by kernel_rfl) trivial (QE_build [(_, _), (_, _), (_, _)] [_, _, _, _] rfl rfl rfl rfl rfl rfl) rfl ?_
      refine JA_2 4 14 (by kernel_rfl) ?_ ?_
      ·
       refine JB_q rfl trivial (QE_ld1 2 rfl rfl rfl rfl rfl) rfl ?_
       refine JA_1 14 (by kernel_rfl) ?_
       refine JB_bs rfl trivial [(_, _)] [_, _, _, _] rfl rfl rfl rfl rfl rfl rfl rfl rfl ?_
       intro βn s26 h26 hcb
       refine JA_1 15 (by kernel_rfl) ?_
       refine JB_app (sz := 4) rfl trivial (_ :: _ :: _ :: _ :: (Mw1 ++ Ml1)) Mr1 _ assoc4 rfl rfl rfl rfl rfl rfl hOr1 (Row.of_cells (hcb.le (Le.refl (D := D) _)) rfl rfl) ⟨by simp [ti142]; omega, by omega⟩ rfl (fun A2 x hx _ => memK2 hx) ?_
       intro v2 M2 s27 h27 o2
       obtain ⟨Av2, cv2, rfl, kv2, kv22⟩ := Own.slice o2
       simp only [List.cons_append, List.nil_append, List.append_assoc]
       refine JA_q 16 rfl (by kernel_rfl) (by kernel_rfl) (by kernel_rfl) trivial (QE_nil rfl) rfl ?_
       refine JA_q 17 rfl (by kernel_rfl) (by kernel_rfl) (by kernel_rfl) trivial (QE_faB rfl rfl rfl rfl) rfl ?_
       refine JA_1 18 (by kernel_rfl) ?_
       refine JB_st rfl trivial 2 [_, _, _, _, _, _] rfl rfl rfl rfl rfl rfl rfl rfl rfl (fun _ hx => sub_mem (sbY (sbY (sb0 _))) hx) ?_
       refine JA_done (by kernel_rfl) ?_
       refine thenQ_n ?_
       refine JC_seq ?_
       refine JC_drawT drawsMixed 13 rfl 2 ?_
       intro s28 h28
       refine JA_q 0 rfl (by kernel_rfl) (by kernel_rfl) (by kernel_rfl) trivial (QE_mv rfl) rfl ?_
       refine JA_q 1 rfl (by kernel_rfl) (by kernel_rfl) (by kernel_rfl) trivial (QE_mv rfl) rfl ?_
       refine JA_q 2 rfl (by kernel_rfl) (by kernel_rfl) (by kernel_rfl) trivial (QE_nil rfl) rfl ?_
       refine JA_q 3 rfl (by kernel_rfl) (by kernel_rfl) (by kernel_rfl) trivial (QE_faB rfl rfl rfl rfl) rfl ?_
       refine JA_q 5 rfl (by kernel_rfl) (by kernel_rfl) (by kernel_rfl) trivial (QE_faB rfl rfl rfl rfl) rfl ?_
       refine JA_q 6 rfl (by kernel_rfl) (by kernel_rfl) (by kernel_rfl) trivial (QE_fa rfl rfl rfl rfl) rfl ?_
       refine JA_q 7 rfl (by kernel_rfl) (by kernel_rfl) (by kernel_rfl) trivial (QE_ld1 1 rfl rfl rfl rfl rfl) rfl ?_
       refine JA_2 4 8 (by kernel_rfl) ?_ ?_
       ·
        refine JB_q rfl trivial (QE_ld1 2 rfl rfl rfl rfl rfl) rfl ?_
        refine JA_1 8 (by kernel_rfl) ?_
        refine JB_bs rfl trivial [(_, _)] [_] rfl rfl rfl rfl rfl rfl rfl rfl rfl ?_
        intro βn s29 h29 hcb
        refine JA_1 9 (by kernel_rfl) ?_
        refine JB_app (sz := 1) rfl trivial [_, _, _, _] Mw1 _ rfl rfl rfl rfl rfl rfl rfl hOw1 (Row.of_cells (hcb.le (Le.refl (D := D) _)) rfl rfl) ⟨by simp [ti52]; omega, by omega⟩ rfl (fun A2 x hx _ => memK2 hx) ?_
        intro v3 M3 s30 h30 o3
        obtain ⟨Av3, cv3, rfl, kv3, kv32⟩ := Own.slice o3
        simp only [List.cons_append, List.nil_append, List.append_assoc]
        refine JA_q 10 rfl (by kernel_rfl) (by kernel_rfl) (by kernel_rfl) trivial (QE_nil rfl) rfl ?_
        refine JA_q 11 rfl (by kernel_rfl) (by kernel_rfl) (by kernel_rfl) trivial (QE_faB rfl rfl rfl rfl) rfl ?_
        refine JA_1 12 (by kernel_rfl) ?_
        refine JB_st rfl trivial 2 [_, _, _, _, _, _] rfl rfl rfl rfl rfl rfl rfl rfl rfl (fun _ hx => sub_mem (sbY (sbY (sb0 _))) hx) ?_
        refine JA_done (by kernel_rfl) ?_
        refine thenQ_n ?_
        refine JC_region ?_
        refine JO_q (QE_mv rfl) rfl ?_
        refine JO_q (QE_sub' rfl rfl (w64 (by omega) (by omega))) rfl ?_
        refine JO_q (QE_as rfl) rfl ?_
        refine JO_nil ?_
        refine thenQ_n (MidG.mk ⟨_, M3, _, Ml1, _, M2, es1, ck1, w1 ++ [(xk : Int)], l1, r1 ++ [(num, w1.length, xn, (xk : Int))]⟩ [] (Le.trans (Le.trans (Le.trans (Le.trans (Le.trans h18 h26) h27) h28) h29) h30) (Keeps.cons (by first | rfl | (simp only [List.length_append, List.length_cons, List.length_nil]; refine congrArg some (congrArg (Value.int .i64) ?_); omega)) (Keeps.nil _)) (by repeat (first | exact SufO.refl | refine SufO.push rfl ?_)) (List.Perm.refl _) (by first | exact ⟨ag_word (ag_ref hg2 o2 (u32N hxk)) o3 (u32N hxk), em_has ew1 hsp hhas, rfl, em_ref ew1 hsp hhas hnm, rfl⟩ | exact ⟨ag_word hg2 o3 (u32N hxk), em_has ew1 hsp hhas, rfl, em_noref hnm, rfl⟩ | exact ⟨hg2, em_no ew1 hsp hhas, rfl, em_nohas hhas, rfl⟩))
       ·
        refine JB_bs rfl trivial [(_, _)] [_] rfl rfl rfl rfl rfl rfl rfl rfl rfl ?_
        intro βn s31 h31 hcb
        refine JA_1 4 (by kernel_rfl) ?_
        refine JB_q rfl trivial (QE_ld1 2 rfl rfl rfl rfl rfl) rfl ?_
        refine JA_1 9 (by kernel_rfl) ?_
        refine JB_app (sz := 1) rfl trivial [_, _, _, _] Mw1 _ rfl rfl rfl rfl rfl rfl rfl hOw1 (Row.of_cells (hcb.le (Le.refl (D := D) _)) rfl rfl) ⟨by simp [ti52]; omega, by omega⟩ rfl (fun A2 x hx _ => memK2 hx) ?_
        intro v3 M3 s32 h32 o3
        obtain ⟨Av3, cv3, rfl, kv3, kv32⟩ := Own.slice o3
        simp only [List.cons_append, List.nil_append, List.append_assoc]
        refine JA_q 10 rfl (by kernel_rfl) (by kernel_rfl) (by kernel_rfl) trivial (QE_nil rfl) rfl ?_
        refine JA_q 11 rfl (by kernel_rfl) (by kernel_rfl) (by kernel_rfl) trivial (QE_faB rfl rfl rfl rfl) rfl ?_
        refine JA_1 12 (by kernel_rfl) ?_
        refine JB_st rfl trivial 2 [_, _, _, _, _, _] rfl rfl rfl rfl rfl rfl rfl rfl rfl (fun _ hx => sub_mem (sbY (sbY (sb0 _))) hx) ?_
        refine JA_done (by kernel_rfl) ?_
        refine thenQ_n ?_
        refine JC_region ?_
        refine JO_q (QE_mv rfl) rfl ?_
        refine JO_q (QE_sub' rfl rfl (w64 (by omega) (by omega))) rfl ?_
        refine JO_q (QE_as rfl) rfl ?_
        refine JO_nil ?_
        refine thenQ_n (MidG.mk ⟨_, M3, _, Ml1, _, M2, es1, ck1, w1 ++ [(xk : Int)], l1, r1 ++ [(num, w1.length, xn, (xk : Int))]⟩ [] (Le.trans (Le.trans (Le.trans (Le.trans (Le.trans h18 h26) h27) h28) h31) h32) (Keeps.cons (by first | rfl | (simp only [List.length_append, List.length_cons, List.length_nil]; refine congrArg some (congrArg (Value.int .i64) ?_); omega)) (Keeps.nil _)) (by repeat (first | exact SufO.refl | refine SufO.push rfl ?_)) (List.Perm.refl _) (by first | exact ⟨ag_word (ag_ref hg2 o2 (u32N hxk)) o3 (u32N hxk), em_has ew1 hsp hhas, rfl, em_ref ew1 hsp hhas hnm, rfl⟩ | exact ⟨ag_word hg2 o3 (u32N hxk), em_has ew1 hsp hhas, rfl, em_noref hnm, rfl⟩ | exact ⟨hg2, em_no ew1 hsp hhas, rfl, em_nohas hhas, rfl⟩))
      ·
       refine JB_bs rfl trivial [(_, _)] [_, _, _, _] rfl rfl rfl rfl rfl rfl rfl rfl rfl ?_
       intro βn s33 h33 hcb
       refine JA_1 4 (by kernel_rfl) ?_
       refine JB_q rfl trivial (QE_ld1 2 rfl rfl rfl rfl rfl) rfl ?_
       refine JA_1 15 (by kernel_rfl) ?_
       refine JB_app (sz := 4) rfl trivial (_ :: _ :: _ :: _ :: (Mw1 ++ Ml1)) Mr1 _ assoc4 rfl rfl rfl rfl rfl rfl hOr1 (Row.of_cells (hcb.le (Le.refl (D := D) _)) rfl rfl) ⟨by simp [ti142]; omega, by omega⟩ rfl (fun A2 x hx _ => memK2 hx) ?_
       intro v2 M2 s34 h34 o2
       obtain ⟨Av2, cv2, rfl, kv2, kv22⟩ := Own.slice o2
       simp only [List.cons_append, List.nil_append, List.append_assoc]
       refine JA_q 16 rfl (by kernel_rfl) (by kernel_rfl) (by kernel_rfl) trivial (QE_nil rfl) rfl ?_
       refine JA_q 17 rfl (by kernel_rfl) (by kernel_rfl) (by kernel_rfl) trivial (QE_faB rfl rfl rfl rfl) rfl ?_
       refine JA_1 18 (by kernel_rfl) ?_
       refine JB_st rfl trivial 2 [_, _, _, _, _, _] rfl rfl rfl rfl rfl rfl rfl rfl rfl (fun _ hx => sub_mem (sbY (sbY (sb0 _))) hx) ?_
       refine JA_done (by kernel_rfl) ?_
       refine thenQ_n ?_
       refine JC_seq ?_
       refine JC_drawT drawsMixed 13 rfl 2 ?_
       intro s35 h35
       refine JA_q 0 rfl (by kernel_rfl) (by kernel_rfl) (by kernel_rfl) trivial (QE_mv rfl) rfl ?_
       refine JA_q 1 rfl (by kernel_rfl) (by kernel_rfl) (by kernel_rfl) trivial (QE_mv rfl) rfl ?_
       refine JA_q 2 rfl (by kernel_rfl) (by kernel_rfl) (by kernel_rfl) trivial (QE_nil rfl) rfl ?_
       refine JA_q 3 rfl (by kernel_rfl) (by kernel_rfl) (by kernel_rfl) trivial (QE_faB rfl rfl rfl rfl) rfl ?_
       refine JA_q 5 rfl (by kernel_rfl) (by kernel_rfl) (by kernel_rfl) trivial (QE_faB rfl rfl rfl rfl) rfl ?_
       refine JA_q 6 rfl (by kernel_rfl) (by kernel_rfl) (by kernel_rfl) trivial (QE_fa rfl rfl rfl rfl) rfl ?_
       refine JA_q 7 rfl (by kernel_rfl) (by kernel_rfl) (by kernel_rfl) trivial (QE_ld1 1 rfl rfl rfl rfl rfl) rfl ?_
       refine JA_2 4 8 (by kernel_rfl) ?_ ?_
       ·
        refine JB_q rfl trivial (QE_ld1 2 rfl rfl rfl rfl rfl) rfl ?_
        refine JA_1 8 (by kernel_rfl) ?_
        refine JB_bs rfl trivial [(_, _)] [_] rfl rfl rfl rfl rfl rfl rfl rfl rfl ?_
        intro βn s36 h36 hcb
        refine JA_1 9 (by kernel_rfl) ?_
        refine JB_app (sz := 1) rfl trivial [_, _, _, _] Mw1 _ rfl rfl rfl rfl rfl rfl rfl hOw1 (Row.of_cells (hcb.le (Le.refl (D := D) _)) rfl rfl) ⟨by simp [ti52]; omega, by omega⟩ rfl (fun A2 x hx _ => memK2 hx) ?_
        intro v3 M3 s37 h37 o3
        obtain ⟨Av3, cv3, rfl, kv3, kv32⟩ := Own.slice o3
        simp only [List.cons_append, List.nil_append, List.append_assoc]
        refine JA_q 10 rfl (by kernel_rfl) (by kernel_rfl) (by kernel_rfl) trivial (QE_nil rfl) rfl ?_
        refine JA_q 11 rfl (by kernel_rfl) (by kernel_rfl) (by kernel_rfl) trivial (QE_faB rfl rfl rfl rfl) rfl ?_
        refine JA_1 12 (by kernel_rfl) ?_
        refine JB_st rfl trivial 2 [_, _, _, _, _, _] rfl rfl rfl rfl rfl rfl rfl rfl rfl (fun _ hx => sub_mem (sbY (sbY (sb0 _))) hx) ?_
        refine JA_done (by kernel_rfl) ?_
        refine thenQ_n ?_
        refine JC_region ?_
        refine JO_q (QE_mv rfl) rfl ?_
        refine JO_q (QE_sub' rfl rfl (w64 (by omega) (by omega))) rfl ?_
        refine JO_q (QE_as rfl) rfl ?_
        refine JO_nil ?_
        refine thenQ_n (MidG.mk ⟨_, M3, _, Ml1, _, M2, es1, ck1, w1 ++ [(xk : Int)], l1, r1 ++ [(num, w1.length, xn, (xk : Int))]⟩ [] (Le.trans (Le.trans (Le.trans (Le.trans (Le.trans h18 h33) h34) h35) h36) h37) (Keeps.cons (by first | rfl | (simp only [List.length_append, List.length_cons, List.length_nil]; refine congrArg some (congrArg (Value.int .i64) ?_); omega)) (Keeps.nil _)) (by repeat (first | exact SufO.refl | refine SufO.push rfl ?_)) (List.Perm.refl _) (by first | exact ⟨ag_word (ag_ref hg2 o2 (u32N hxk)) o3 (u32N hxk), em_has ew1 hsp hhas, rfl, em_ref ew1 hsp hhas hnm, rfl⟩ | exact ⟨ag_word hg2 o3 (u32N hxk), em_has ew1 hsp hhas, rfl, em_noref hnm, rfl⟩ | exact ⟨hg2, em_no ew1 hsp hhas, rfl, em_nohas hhas, rfl⟩))
       ·
        refine JB_bs rfl trivial [(_, _)] [_] rfl rfl rfl rfl rfl rfl rfl rfl rfl ?_
        intro βn s38 h38 hcb
        refine JA_1 4 (by kernel_rfl) ?_
        refine JB_q rfl trivial (QE_ld1 2 rfl rfl rfl rfl rfl) rfl ?_
        refine JA_1 9 (by kernel_rfl) ?_
        refine JB_app (sz := 1) rfl trivial [_, _, _, _] Mw1 _ rfl rfl rfl rfl rfl rfl rfl hOw1 (Row.of_cells (hcb.le (Le.refl (D := D) _)) rfl rfl) ⟨by simp [ti52]; omega, by omega⟩ rfl (fun A2 x hx _ => memK2 hx) ?_
        intro v3 M3 s39 h39 o3
        obtain ⟨Av3, cv3, rfl, kv3, kv32⟩ := Own.slice o3
        simp only [List.cons_append, List.nil_append, List.append_assoc]
        refine JA_q 10 rfl (by kernel_rfl) (by kernel_rfl) (by kernel_rfl) trivial (QE_nil rfl) rfl ?_
        refine JA_q 11 rfl (by kernel_rfl) (by kernel_rfl) (by kernel_rfl) trivial (QE_faB rfl rfl rfl rfl) rfl ?_
        refine JA_1 12 (by kernel_rfl) ?_
        refine JB_st rfl trivial 2 [_, _, _, _, _, _] rfl rfl rfl rfl rfl rfl rfl rfl rfl (fun _ hx => sub_mem (sbY (sbY (sb0 _))) hx) ?_
        refine JA_done (by kernel_rfl) ?_
        refine thenQ_n ?_
        refine JC_region ?_
        refine JO_q (QE_mv rfl) rfl ?_
        refine JO_q (QE_sub' rfl rfl (w64 (by omega) (by omega))) rfl ?_
        refine JO_q (QE_as rfl) rfl ?_
        refine JO_nil ?_
        refine thenQ_n (MidG.mk ⟨_, M3, _, Ml1, _, M2, es1, ck1, w1 ++ [(xk : Int)], l1, r1 ++ [(num, w1.length, xn, (xk : Int))]⟩ [] (Le.trans (Le.trans (Le.trans (Le.trans (Le.trans h18 h33) h34) h35) h38) h39) (Keeps.cons (by first | rfl | (simp only [List.length_append, List.length_cons, List.length_nil]; refine congrArg some (congrArg (Value.int .i64) ?_); omega)) (Keeps.nil _)) (by repeat (first | exact SufO.refl | refine SufO.push rfl ?_)) (List.Perm.refl _) (by first | exact ⟨ag_word (ag_ref hg2 o2 (u32N hxk)) o3 (u32N hxk), em_has ew1 hsp hhas, rfl, em_ref ew1 hsp hhas hnm, rfl⟩ | exact ⟨ag_word hg2 o3 (u32N hxk), em_has ew1 hsp hhas, rfl, em_noref hnm, rfl⟩ | exact ⟨hg2, em_no ew1 hsp hhas, rfl, em_nohas hhas, rfl⟩))
    ·
     have hnm := c17
     refine JC_skip ?_
     refine thenQ_n ?_
     refine JC_seq ?_
     refine JC_drawT drawsMixed 13 rfl 2 ?_
     intro s40 h40
     refine JA_q 0 rfl (by kernel_rfl) (by kernel_rfl) (by kernel_rfl) trivial (QE_mv rfl) rfl ?_
     refine JA_q 1 rfl (by kernel_rfl) (by kernel_rfl) (by kernel_rfl) trivial (QE_mv rfl) rfl ?_
     refine JA_q 2 rfl (by kernel_rfl) (by kernel_rfl) (by kernel_rfl) trivial (QE_nil rfl) rfl ?_
     refine JA_q 3 rfl (by kernel_rfl) (by kernel_rfl) (by kernel_rfl) trivial (QE_faB rfl rfl rfl rfl) rfl ?_
     refine JA_q 5 rfl (by kernel_rfl) (by kernel_rfl) (by kernel_rfl) trivial (QE_faB rfl rfl rfl rfl) rfl ?_
     refine JA_q 6 rfl (by kernel_rfl) (by kernel_rfl) (by kernel_rfl) trivial (QE_fa rfl rfl rfl rfl) rfl ?_
     refine JA_q 7 rfl (by kernel_rfl) (by kernel_rfl) (by kernel_rfl) trivial (QE_ld1 1 rfl rfl rfl rfl rfl) rfl ?_
     refine JA_2 4 8 (by kernel_rfl) ?_ ?_
     ·
      refine JB_q rfl trivial (QE_ld1 2 rfl rfl rfl rfl rfl) rfl ?_
      refine JA_1 8 (by kernel_rfl) ?_
      refine JB_bs rfl trivial [(_, _)] [_] rfl rfl rfl rfl rfl rfl rfl rfl rfl ?_
      intro βn s41 h41 hcb
      refine JA_1 9 (by kernel_rfl) ?_
      refine JB_app (sz := 1) rfl trivial [_, _, _, _] Mw1 _ rfl rfl rfl rfl rfl rfl rfl hOw1 (Row.of_cells (hcb.le (Le.refl (D := D) _)) rfl rfl) ⟨by simp [ti52]; omega, by omega⟩ rfl (fun A2 x hx _ => memK2 hx) ?_
      intro v3 M3 s42 h42 o3
      obtain ⟨Av3, cv3, rfl, kv3, kv32⟩ := Own.slice o3
      simp only [List.cons_append, List.nil_append, List.append_assoc]
      refine JA_q 10 rfl (by kernel_rfl) (by kernel_rfl) (by kernel_rfl) trivial (QE_nil rfl) rfl ?_
      refine JA_q 11 rfl (by kernel_rfl) (by kernel_rfl) (by kernel_rfl) trivial (QE_faB rfl rfl rfl rfl) rfl ?_
      refine JA_1 12 (by kernel_rfl) ?_
      refine JB_st rfl trivial 2 [_, _, _, _, _, _] rfl rfl rfl rfl rfl rfl rfl rfl rfl (fun _ hx => sub_mem (sbY (sbY (sb0 _))) hx) ?_
      refine JA_done (by kernel_rfl) ?_
      refine thenQ_n ?_
      refine JC_region ?_
      refine JO_q (QE_mv rfl) rfl ?_
      refine JO_q (QE_sub' rfl rfl (w64 (by omega) (by omega))) rfl ?_
      refine JO_q (QE_as rfl) rfl ?_
      refine JO_nil ?_
      refine thenQ_n (MidG.mk ⟨_, M3, _, Ml1, _, Mr1, es1, ck1, w1 ++ [(xk : Int)], l1, r1⟩ [] (Le.trans (Le.trans h40 h41) h42) (Keeps.cons (by first | rfl | (simp only [List.length_append, List.length_cons, List.length_nil]; refine congrArg some (congrArg (Value.int .i64) ?_); omega)) (Keeps.nil _)) (by repeat (first | exact SufO.refl | refine SufO.push rfl ?_)) (List.Perm.refl _) (by first | exact ⟨ag_word (ag_ref hg2 o2 (u32N hxk)) o3 (u32N hxk), em_has ew1 hsp hhas, rfl, em_ref ew1 hsp hhas hnm, rfl⟩ | exact ⟨ag_word hg2 o3 (u32N hxk), em_has ew1 hsp hhas, rfl, em_noref hnm, rfl⟩ | exact ⟨hg2, em_no ew1 hsp hhas, rfl, em_nohas hhas, rfl⟩))
     ·
      refine JB_bs rfl trivial [(_, _)] [_] rfl rfl rfl rfl rfl rfl rfl rfl rfl ?_
      intro βn s43 h43 hcb
      refine JA_1 4 (by kernel_rfl) ?_
      refine JB_q rfl trivial (QE_ld1 2 rfl rfl rfl rfl rfl) rfl ?_
      refine JA_1 9 (by kernel_rfl) ?_
      refine JB_app (sz := 1) rfl trivial [_, _, _, _] Mw1 _ rfl rfl rfl rfl rfl rfl rfl hOw1 (Row.of_cells (hcb.le (Le.refl (D := D) _)) rfl rfl) ⟨by simp [ti52]; omega, by omega⟩ rfl (fun A2 x hx _ => memK2 hx) ?_
      intro v3 M3 s44 h44 o3
      obtain ⟨Av3, cv3, rfl, kv3, kv32⟩ := Own.slice o3
      simp only [List.cons_append, List.nil_append, List.append_assoc]
      refine JA_q 10 rfl (by kernel_rfl) (by kernel_rfl) (by kernel_rfl) trivial (QE_nil rfl) rfl ?_
      refine JA_q 11 rfl (by kernel_rfl) (by kernel_rfl) (by kernel_rfl) trivial (QE_faB rfl rfl rfl rfl) rfl ?_
      refine JA_1 12 (by kernel_rfl) ?_
      refine JB_st rfl trivial 2 [_, _, _, _, _, _] rfl rfl rfl rfl rfl rfl rfl rfl rfl (fun _ hx => sub_mem (sbY (sbY (sb0 _))) hx) ?_
      refine JA_done (by kernel_rfl) ?_
      refine thenQ_n ?_
      refine JC_region ?_
      refine JO_q (QE_mv rfl) rfl ?_
      refine JO_q (QE_sub' rfl rfl (w64 (by omega) (by omega))) rfl ?_
      refine JO_q (QE_as rfl) rfl ?_
      refine JO_nil ?_
      refine thenQ_n (MidG.mk ⟨_, M3, _, Ml1, _, Mr1, es1, ck1, w1 ++ [(xk : Int)], l1, r1⟩ [] (Le.trans (Le.trans h40 h43) h44) (Keeps.cons (by first | rfl | (simp only [List.length_append, List.length_cons, List.length_nil]; refine congrArg some (congrArg (Value.int .i64) ?_); omega)) (Keeps.nil _)) (by repeat (first | exact SufO.refl | refine SufO.push rfl ?_)) (List.Perm.refl _) (by first | exact ⟨ag_word (ag_ref hg2 o2 (u32N hxk)) o3 (u32N hxk), em_has ew1 hsp hhas, rfl, em_ref ew1 hsp hhas hnm, rfl⟩ | exact ⟨ag_word hg2 o3 (u32N hxk), em_has ew1 hsp hhas, rfl, em_noref hnm, rfl⟩ | exact ⟨hg2, em_no ew1 hsp hhas, rfl, em_nohas hhas, rfl⟩))
   ·
    have hhas := c16
    refine JC_skip ?_
    refine thenQ_n (MidG.mk ⟨_, Mw1, _, Ml1, _, Mr1, es1, ck1, w1, l1, r1⟩ [] (Le.refl (D := D) _) (Keeps.cons (by first | rfl | (simp only [List.length_append, List.length_cons, List.length_nil]; refine congrArg some (congrArg (Value.int .i64) ?_); omega)) (Keeps.nil _)) (by repeat (first | exact SufO.refl | refine SufO.push rfl ?_)) (List.Perm.refl _) (by first | exact ⟨ag_word (ag_ref hg2 o2 (u32N hxk)) o3 (u32N hxk), em_has ew1 hsp hhas, rfl, em_ref ew1 hsp hhas hnm, rfl⟩ | exact ⟨ag_word hg2 o3 (u32N hxk), em_has ew1 hsp hhas, rfl, em_noref hnm, rfl⟩ | exact ⟨hg2, em_no ew1 hsp hhas, rfl, em_nohas hhas, rfl⟩))
  intro g s15 h15 I15
  simp only [List.cons_append, List.nil_append]
  obtain ⟨hg3, ew3, el3, er3, ee3⟩ := I15
  refine JC_seq ?_
  refine JC_seq ?_
  refine JC_region ?_
  refine JO_q (QE_mv rfl) rfl ?_
  refine JO_q (QE_lt rfl rfl) rfl ?_
  refine JO_nil ?_
  refine thenQ_n ?_
  refine JC_ifD rfl (fun c45 => ?_) (fun c45 => ?_)
  ·
   refine JC_seq ?_
   refine JC_region ?_
   refine JO_q (QE_as rfl) rfl ?_
   refine JO_nil ?_
   refine thenQ_n ?_
   refine JC_ret ?_
   refine thenQ_r ?_
   refine retQ_mk [_, _] _ (.inr rfl) (.tmp rfl (.nil)) rfl (Le.trans (Le.trans (Le.trans (Le.trans h1 h2) h3) h8) h15) (fun sR hS2 => ?_)
   first
     | (refine ⟨(⟨.slice Aw w.length cw, Mw, .slice Al l.length cl, Ml, .slice Ar r.length cr, Mr, es, ck, w, l, r⟩ : AG), rfl, 14, rfl, .inl ⟨rfl, ?_⟩⟩
        simp only [emitW_space (x := ⟨xl, xo, xh, xn, (xk : Int)⟩) hsp, List.length_append, List.length_replicate, Int.toNat_natCast]; omega)
     | (refine ⟨⟨_, M1, _, Ml, _, Mr, es, ck, w ++ List.replicate xk 0, l, r⟩, rfl, 0, rfl, .inr ⟨rfl, ?_, ag_zeros hg0 o1, ?_, rfl, rfl, ?_⟩⟩
        · simp only [emitW_space (x := ⟨xl, xo, xh, xn, (xk : Int)⟩) hsp, List.length_append, List.length_replicate, Int.toNat_natCast]; omega
        · simp only [emitW_space (x := ⟨xl, xo, xh, xn, (xk : Int)⟩) hsp, Int.toNat_natCast]
        · exact (emitR_space (x := ⟨xl, xo, xh, xn, (xk : Int)⟩) hsp).symm)
     | (refine ⟨g, rfl, 14, rfl, .inl ⟨rfl, ?_⟩⟩
        rw [← ew3]; omega)
     | (refine ⟨g, rfl, 0, rfl, .inr ⟨rfl, ?_, hg3, ew3, el3, ee3, er3⟩⟩
        rw [← ew3]; omega)
  ·
   refine JC_skip ?_
   refine thenQ_n ?_
   refine JC_seq ?_
   refine JC_region ?_
   refine JO_q (QE_as rfl) rfl ?_
   refine JO_nil ?_
   refine thenQ_n ?_
   refine JC_ret ?_
   refine retQ_mk [_, _] _ (.inr rfl) (.tmp rfl (.nil)) rfl (Le.trans (Le.trans (Le.trans (Le.trans h1 h2) h3) h8) h15) (fun sR hS2 => ?_)
   first
     | (refine ⟨(⟨.slice Aw w.length cw, Mw, .slice Al l.length cl, Ml, .slice Ar r.length cr, Mr, es, ck, w, l, r⟩ : AG), rfl, 14, rfl, .inl ⟨rfl, ?_⟩⟩
        simp only [emitW_space (x := ⟨xl, xo, xh, xn, (xk : Int)⟩) hsp, List.length_append, List.length_replicate, Int.toNat_natCast]; omega)
     | (refine ⟨⟨_, M1, _, Ml, _, Mr, es, ck, w ++ List.replicate xk 0, l, r⟩, rfl, 0, rfl, .inr ⟨rfl, ?_, ag_zeros hg0 o1, ?_, rfl, rfl, ?_⟩⟩
        · simp only [emitW_space (x := ⟨xl, xo, xh, xn, (xk : Int)⟩) hsp, List.length_append, List.length_replicate, Int.toNat_natCast]; omega
        · simp only [emitW_space (x := ⟨xl, xo, xh, xn, (xk : Int)⟩) hsp, Int.toNat_natCast]
        · exact (emitR_space (x := ⟨xl, xo, xh, xn, (xk : Int)⟩) hsp).symm)
     | (refine ⟨g, rfl, 14, rfl, .inl ⟨rfl, ?_⟩⟩
        rw [← ew3]; omega)
     | (refine ⟨g, rfl, 0, rfl, .inr ⟨rfl, ?_, hg3, ew3, el3, ee3, er3⟩⟩
        rw [← ew3]; omega)
end Go.Proofs.YteomcjpigoaioaaGreatDoor
namespace Go.Proofs.YteomcjpigoaioaaGreatDoor
open Go.FL
attribute [local irreducible] JC JO JA JB thenQ blockQ retQ AC fill CellsAt QE Ev Mid
theorem mapTyS : MapTy Tryz.prog 83 .string (.int .u32 0) := ⟨_, _, Tryz.underlying83, Tryz.underlying9, fun w => by rw [run_zero' ti52_ok]; rfl⟩
theorem findB_ac (D : Nat) (L : Hl) (s : World) (x0 : Nat × Obj) (ba bm : Nat) (t : Tab) (A : Option Addr) (n c : Nat) (hA : Inss s A n c t.ins) (g : AG) (nm : List UInt8) : AC Tryz.prog D 101 [.pointer (some ⟨ba, 0, none⟩), St nm] (x0 :: HA ba bm t.cells A n c g L) s fun v L' _ => L' = x0 :: HA ba bm t.cells A n c g L ∧ ∃ (y : Ins) (Ay : Option Addr) (ny cy : Nat), v = .tuple #[.agg #[St y.name, .int .u32 y.code, .bool y.operand, .slice Ay ny cy], .bool (findN t.ins nm).isSome] ∧ U32 y.code ∧ (∀ z, findN t.ins nm = some z → y = z) ∧ (findN t.ins nm = none → y.operand = false) :=
  AC.perm (HA_one ..).symm (findA_ac D (x0 :: L) s ba bm t A n c hA g nm) fun v L1 s1 ⟨h1, h2⟩ => ⟨_, by rw [h1]; exact HA_one .., rfl, h2⟩
theorem emitB_ac (D : Nat) (L : Hl) (s : World) (x0 x1 : Nat × Obj) (ba bm : Nat) (tc : Int) (A : Option Addr) (n c : Nat) (g : AG) (hg : AGok g) (num : Int) (xl xo : List UInt8) (xh : Bool) (xn : List UInt8) (xk : Nat) (hxk : xk < 4294967296) (yn : List UInt8) (yc : Int) (yo : Bool) (Ay : Option Addr) (ny cy : Nat) (hyc : U32 yc) (own : Bool) (htc : 0 ≤ tc ∧ tc ≤ 65536) (hwl : (g.w.length : Int) ≤ tc) (hrl : g.r.length ≤ 1000000) : AC Tryz.prog D 102 [.pointer (some ⟨ba, 0, none⟩), .int .i64 num, .agg #[St xl, St xo, .bool xh, St xn, .int .u32 (xk : Int)], .agg #[St yn, .int .u32 yc, .bool yo, .slice Ay ny cy], .bool own] (x0 :: x1 :: HA ba bm tc A n c g L) s fun v L' _ => ∃ g', L' = x0 :: x1 :: HA ba bm tc A n c g' L ∧ ∃ e, v = .int .i64 e ∧ ((e = 14 ∧ tc < ((emitW g.w ⟨xl, xo, xh, xn, (xk : Int)⟩ yc own).length : Int)) ∨ (e = 0 ∧ ((emitW g.w ⟨xl, xo, xh, xn, (xk : Int)⟩ yc own).length : Int) ≤ tc ∧ AGok g' ∧ g'.w = emitW g.w ⟨xl, xo, xh, xn, (xk : Int)⟩ yc own ∧ g'.l = g.l ∧ g'.es = g.es ∧ g'.r = emitR g.r g.w num ⟨xl, xo, xh, xn, (xk : Int)⟩ yc own)) :=
  AC.perm (HA_two ..).symm (emit_ac D (x0 :: x1 :: L) s ba bm tc A n c g hg num xl xo xh xn xk hxk yn yc yo Ay ny cy hyc own htc hwl hrl) fun v L1 s1 ⟨g', h1, h2⟩ => ⟨_, by rw [h1]; exact HA_two .., g', rfl, h2⟩
theorem add_new {l : List (List UInt8 × Int)} {x : Ln} (h : ¬ x.label = [] → labAt l x.label = none) : ¬ (x.label ≠ [] ∧ (labAt l x.label).isSome = true) := fun hh => by rw [h hh.1] at hh; cases hh.2
theorem op_of {t : Tab} {xo : List UInt8} {y : Ins} (h1 : ∀ z, findN t.ins xo = some z → y = z) (h2 : findN t.ins xo = none → y.operand = false) : opOf t xo = y.operand := by
  unfold opOf
  cases h : findN t.ins xo with
  | none => exact (h2 h).symm
  | some z => rw [h1 z h]
theorem code_of {t : Tab} {w : List Int} {r : List (Int × Nat × List UInt8 × Int)} {i : Int} {x : Ln} {y : Ins} (h1 : ∀ z, findN t.ins x.op = some z → y = z) (h2 : ¬ ((findN t.ins x.op).isSome = false ∧ ¬ (x.op = [119, 111, 114, 100] ∨ x.op = [115, 112, 97, 99, 101]))) (h3 : ¬ x.op = []) :
    emitW w x y.code (decide (x.op = [119, 111, 114, 100] ∨ x.op = [115, 112, 97, 99, 101])) = addW t w x ∧ emitR r w i x y.code (decide (x.op = [119, 111, 114, 100] ∨ x.op = [115, 112, 97, 99, 101])) = addR t w r i x := by
  unfold addW addR isOwn
  rw [if_neg h3, if_neg h3]
  cases h : findN t.ins x.op with
  | some z =>
    have hc : codeOf t x.op = y.code := by unfold codeOf; rw [h, h1 z h]
    rw [hc]; exact ⟨rfl, rfl⟩
  | none =>
    rw [h] at h2
    have ho : x.op = [119, 111, 114, 100] ∨ x.op = [115, 112, 97, 99, 101] := by
      by_cases ho : x.op = [119, 111, 114, 100] ∨ x.op = [115, 112, 97, 99, 101]
      · exact ho
      · exact absurd ⟨rfl, ho⟩ h2
    rw [decide_eq_true ho]
    exact ⟨emitW_own .., emitR_own ..⟩
theorem memK1 {x a : Nat × Obj} {R R' : Hl} (hx : x ∈ (a :: R).take 1) : x ∈ a :: R' := by
  simp only [List.take_succ_cons, List.take_zero, List.mem_cons, List.not_mem_nil, or_false] at hx
  rw [hx]; exact List.mem_cons_self ..
theorem ag_lab {g : AG} {vl : Value} {M : Hl} {k : List UInt8} {a : Int} {ck : Nat} (hg : AGok g) (o : Own 94 2 M vl (g.l.length + 1) (lbv g.l ++ [St k, .int .u32 a])) (ha : U32 a) (hk : labAt g.l k = none) : AGok ⟨g.vw, g.Mw, vl, M, g.vr, g.Mr, mset g.es k (.int .u32 a) g.ck, ck, g.w, g.l ++ [(k, a)], g.r⟩ :=
  ⟨hg.hw, by simp only [List.length_append, List.length_cons, List.length_nil, lbv_snoc]; exact o, hg.hr, fun j => by
    simp only [assoc_mset, labAt_snoc _ _ _ _ hk, hg.he j]; split <;> rfl, hg.uw, fun y hy => by
    rcases List.mem_append.1 hy with h | h
    · exact hg.ul y h
    · rw [List.mem_singleton.1 h]; exact ha, hg.ur⟩
set_option maxHeartbeats 4000000 in
set_option maxRecDepth 100000 in
theorem add7_ac (D : Nat) (L : Hl) (s : World) (hG : GW s) (ba bm : Nat) (t : Tab) (A : Option Addr) (n c : Nat) (hA : Inss s A n c t.ins) (g : AG) (hg : AGok g) (num : Int) (tx : List UInt8) (htx : tx.length ≤ 400000) (htc : 0 ≤ t.cells ∧ t.cells ≤ 65536) (hwl : (g.w.length : Int) ≤ t.cells) (hrl : g.r.length ≤ 1000000) (hll : g.l.length ≤ 1000000) : AC Tryz.prog D 73 [.pointer (some ⟨ba, 0, none⟩), .int .i64 num, St tx] (HA ba bm t.cells A n c g L) s fun v L' _ => ∃ g', L' = HA ba bm t.cells A n c g' L ∧ v = .int .i64 (addE t g.w g.l (lineL tx)) ∧ ∀ x, lineL tx = some x → addE t g.w g.l (some x) = 0 → AGok g' ∧ g'.w = addW t g.w x ∧ g'.l = addL g.w g.l x ∧ g'.r = addR t g.w g.r num x := by
 have hg0 := hg
 obtain ⟨vw, Mw, vl, Ml, vr, Mr, es, ck, w, l, r⟩ := g
 obtain ⟨hOw, hOl, hOr, hE, huw, hul, hur⟩ := hg
 simp only at hOw hOl hOr hE huw hul hur
 obtain ⟨Aw, cw, rfl, kw, kx⟩ := Own.slice hOw
 obtain ⟨Al, cl, rfl, kl, km⟩ := Own.slice hOl
 obtain ⟨Ar, cr, rfl, kr, ks⟩ := Own.slice hOr
 simp only [HA]
 simp only at hwl hrl hll
 refine AC_enter (TT := TT) (fn := Tryz.f73) TT_ok Tryz.func73 (by kernel_rfl) rfl Tryz.ntmps73 rfl (rs := [.tmp 6]) rfl [(0, _), (1, _), (2, _)] rfl ?_
 refine JC_seq ?_
 refine JC_region ?_
 refine JO_q (QE_as rfl) rfl ?_
 refine JO_nil ?_
 refine thenQ_n ?_
 refine JC_seq ?_
 refine JC_region ?_
 refine JO_q (QE_mv rfl) rfl ?_
 refine JO_call (first := []) (captured := []) rfl rfl rfl (readLine_ac D _ _ (hG.le (Le.refl (D := D) _)) tx htx) ?_
 rintro _ _ s1 h1 ⟨rfl, ⟨xl, xo, xh, xn, xk⟩, rfl, hxu, hxe⟩
 simp only at hxu
 obtain ⟨xk, rfl⟩ := Int.eq_ofNat_of_zero_le hxu.1
 have hxk : xk < 4294967296 := by have := hxu.2; omega
 simp only [Ln.cs]
 refine JO_q (QE_mv rfl) rfl ?_
 refine JO_q (QE_ext rfl rfl) rfl ?_
 refine JO_q (QE_ext rfl rfl) rfl ?_
 refine JO_allocZ rfl [_, _, _, _, _] rfl rfl ?_
 intro β2 s2 h2
 refine JO_st 0 [_, _, _, _, _] rfl rfl rfl rfl rfl rfl rfl rfl rfl ?_
 refine JO_q (QE_as rfl) rfl ?_
 refine JO_nil ?_
 refine thenQ_n ?_
 refine JC_seq ?_
 refine JC_seq ?_
 refine JC_region ?_
 refine JO_q (QE_mv rfl) rfl ?_
 refine JO_q (QE_not rfl) rfl ?_
 refine JO_nil ?_
 refine thenQ_n ?_
 refine JC_ifM rfl (fun c3 => ?_) (fun c3 => ?_)
 ·
  have hno : lineL tx = none := by simpa using c3
  refine JC_seq ?_
  refine JC_region ?_
  refine JO_q (QE_as rfl) rfl ?_
  refine JO_nil ?_
  refine thenQ_n ?_
  refine JC_ret ?_
  refine thenQ_r ?_
  refine retQ_mk [_] _ (.inr rfl) (.tmp rfl (.nil)) rfl (Le.trans h1 h2) (fun sR hS2 => ?_)
  first
    | (refine ⟨(⟨.slice Aw w.length cw, Mw, .slice Al l.length cl, Ml, .slice Ar r.length cr, Mr, es, ck, w, l, r⟩ : AG), rfl, ?_, fun x hx => ?_⟩
       · rw [hno]; rfl
       · rw [hno] at hx; cases hx)
    | (refine ⟨(⟨.slice Aw w.length cw, Mw, .slice Al l.length cl, Ml, .slice Ar r.length cr, Mr, es, ck, w, l, r⟩ : AG), rfl, ?_, fun x hx he => ?_⟩
       · rw [hy, addE, if_pos ⟨hxl, hrep⟩]; rfl
       · rw [hy] at hx; injection hx with hx; subst hx; rw [addE, if_pos ⟨hxl, hrep⟩] at he; cases he)
    | (have hE8 := add_new (l := l) (x := ⟨xl, xo, xh, xn, (xk : Int)⟩) hnew
       refine ⟨g, rfl, ?_, fun x hx he => ?_⟩
       · rw [hy, addE, if_neg hE8, if_pos hxo]; rfl
       · rw [hy] at hx; injection hx with hx; subst hx
         refine ⟨hg1, ?_, ?_, ?_⟩
         · rw [ew1, addW, if_pos hxo]
         · rw [el1]
         · rw [er1, addR, if_pos hxo])
    | (have hE8 := add_new (l := l) (x := ⟨xl, xo, xh, xn, (xk : Int)⟩) hnew
       have hEE : addE t w l (some ⟨xl, xo, xh, xn, (xk : Int)⟩) = 12 := addE_12 hE8 hxo h83
       refine ⟨g, rfl, ?_, fun x hx he => ?_⟩
       · rw [hy, hEE]; rfl
       · rw [hy] at hx; injection hx with hx; subst hx; rw [hEE] at he; cases he)
    | (have hE8 := add_new (l := l) (x := ⟨xl, xo, xh, xn, (xk : Int)⟩) hnew
       have hoo := op_of (t := t) hye hyn
       have hEE : addE t w l (some ⟨xl, xo, xh, xn, (xk : Int)⟩) = 9 := addE_9 hE8 hxo h83 hoo h90
       refine ⟨g, rfl, ?_, fun x hx he => ?_⟩
       · rw [hy, hEE]; rfl
       · rw [hy] at hx; injection hx with hx; subst hx; rw [hEE] at he; cases he)
    | (have hE8 := add_new (l := l) (x := ⟨xl, xo, xh, xn, (xk : Int)⟩) hnew
       have hoo := op_of (t := t) hye hyn
       have hEE : addE t w l (some ⟨xl, xo, xh, xn, (xk : Int)⟩) = 6 := addE_6 hE8 hxo h83 hoo h90 h99
       refine ⟨g, rfl, ?_, fun x hx he => ?_⟩
       · rw [hy, hEE]; rfl
       · rw [hy] at hx; injection hx with hx; subst hx; rw [hEE] at he; cases he)
    | (have hE8 := add_new (l := l) (x := ⟨xl, xo, xh, xn, (xk : Int)⟩) hnew
       have hoo := op_of (t := t) hye hyn
       have hcc := code_of (t := t) (w := w) (r := r) (i := num) (x := ⟨xl, xo, xh, xn, (xk : Int)⟩) hye h83 hxo
       have hEE : addE t w l (some ⟨xl, xo, xh, xn, (xk : Int)⟩) = if t.cells < ((addW t w ⟨xl, xo, xh, xn, (xk : Int)⟩).length : Int) then 14 else 0 := addE_0 hE8 hxo h83 hoo h90 h99
       rw [ew1, er1, hcc.1] at hem
       rw [hcc.2] at hem
       refine ⟨g', rfl, ?_, fun x hx he => ?_⟩
       · rw [hy, hEE]
         rcases hem with ⟨rfl, h14⟩ | ⟨rfl, h0, _⟩
         · rw [if_pos h14]; rfl
         · rw [if_neg (by omega)]; rfl
       · rw [hy] at hx; injection hx with hx; subst hx; rw [hEE] at he
         rcases hem with ⟨rfl, h14⟩ | ⟨rfl, h0, q1, q2, q3, _, q5⟩
         · rw [if_pos h14] at he; cases he
         · exact ⟨q1, q2, by rw [q3, el1], q5⟩)
 ·
  obtain ⟨y, hy⟩ := Option.isSome_iff_exists.1 c3
  have hln := hxe y hy
  subst hln
  refine JC_skip ?_
  refine thenQ_n ?_
  refine JC_cutG (γ := AG) (fun _ => []) [_] rfl (fun g => HA ba bm t.cells A n c g L) (fun g tw => AGok g ∧ g.w = w ∧ g.r = r ∧ g.l = addL w l ⟨xl, xo, xh, xn, (xk : Int)⟩ ∧ (¬ xl = [] → labAt l xl = none)) (fun _ _ _ h hl => h) ?_ ?_
  ·
   refine JC_seq ?_
   refine JC_region ?_
   refine JO_q (QE_fa0 rfl rfl rfl rfl) rfl ?_
   refine JO_q (QE_ld1 0 rfl rfl rfl rfl rfl) rfl ?_
   refine JO_q (QE_sne rfl rfl) rfl ?_
   refine JO_nil ?_
   refine thenQ_n ?_
   refine JC_ifN rfl (fun c5 => ?_) (fun c5 => ?_)
   ·
    have hxl := c5
    refine JC_seq ?_
    refine JC_seq ?_
    refine JC_draw drawsMixed 12 rfl _ (fun _ h => h) ?_
    intro s6 h6
    refine JA_q 0 rfl (by kernel_rfl) (by kernel_rfl) (by kernel_rfl) trivial (QE_mv rfl) rfl ?_
    refine JA_q 1 rfl (by kernel_rfl) (by kernel_rfl) (by kernel_rfl) trivial (QE_nil rfl) rfl ?_
    refine JA_q 2 rfl (by kernel_rfl) (by kernel_rfl) (by kernel_rfl) trivial (QE_faB rfl rfl rfl rfl) rfl ?_
    refine JA_q 3 rfl (by kernel_rfl) (by kernel_rfl) (by kernel_rfl) trivial (QE_ld1 1 rfl rfl rfl rfl rfl) rfl ?_
    refine JA_q 4 rfl (by kernel_rfl) (by kernel_rfl) (by kernel_rfl) trivial (QE_fa0 rfl rfl rfl rfl) rfl ?_
    refine JA_q 5 rfl (by kernel_rfl) (by kernel_rfl) (by kernel_rfl) trivial (QE_ld1 0 rfl rfl rfl rfl rfl) rfl ?_
    refine JA_q 6 rfl (by kernel_rfl) (by kernel_rfl) (by kernel_rfl) trivial (QE_cast (QE_lookup2 KeyK.str 2 mapTyS rfl rfl rfl) (show Value.tuple #[(assoc es xl).getD (.int .u32 0), .bool (assoc es xl).isSome] = .tuple #[(assoc es xl).getD (.int .u32 0), .bool (labAt l xl).isSome] by rw [hE xl, Option.isSome_map])) rfl ?_
    refine JA_q 7 rfl (by kernel_rfl) (by kernel_rfl) (by kernel_rfl) trivial (QE_mv rfl) rfl ?_
    refine JA_q 8 rfl (by kernel_rfl) (by kernel_rfl) (by kernel_rfl) trivial (QE_ext rfl rfl) rfl ?_
    refine JA_q 9 rfl (by kernel_rfl) (by kernel_rfl) (by kernel_rfl) trivial (QE_ext rfl rfl) rfl ?_
    refine JA_q 10 rfl (by kernel_rfl) (by kernel_rfl) (by kernel_rfl) trivial (QE_as rfl) rfl ?_
    refine JA_q 11 rfl (by kernel_rfl) (by kernel_rfl) (by kernel_rfl) trivial (QE_as rfl) rfl ?_
    refine JA_done (by kernel_rfl) ?_
    refine thenQ_n ?_
    refine JC_seq ?_
    refine JC_region ?_
    refine JO_q (QE_mv rfl) rfl ?_
    refine JO_nil ?_
    refine thenQ_n ?_
    refine JC_if rfl (fun c7 => ?_) (fun c7 => ?_)
    ·
     have hrep := c7
     refine JC_seq ?_
     refine JC_region ?_
     refine JO_q (QE_as rfl) rfl ?_
     refine JO_nil ?_
     refine thenQ_n ?_
     refine JC_ret ?_
     refine thenQ_r ?_
     refine thenQ_r ?_
     refine retQ_mk [_] _ (.inr rfl) (.tmp rfl (.nil)) rfl (Le.trans (Le.trans h1 h2) h6) (fun sR hS2 => ?_)
     first
       | (refine ⟨(⟨.slice Aw w.length cw, Mw, .slice Al l.length cl, Ml, .slice Ar r.length cr, Mr, es, ck, w, l, r⟩ : AG), rfl, ?_, fun x hx => ?_⟩
          · rw [hno]; rfl
          · rw [hno] at hx; cases hx)
       | (refine ⟨(⟨.slice Aw w.length cw, Mw, .slice Al l.length cl, Ml, .slice Ar r.length cr, Mr, es, ck, w, l, r⟩ : AG), rfl, ?_, fun x hx he => ?_⟩
          · rw [hy, addE, if_pos ⟨hxl, hrep⟩]; rfl
          · rw [hy] at hx; injection hx with hx; subst hx; rw [addE, if_pos ⟨hxl, hrep⟩] at he; cases he)
       | (have hE8 := add_new (l := l) (x := ⟨xl, xo, xh, xn, (xk : Int)⟩) hnew
          refine ⟨g, rfl, ?_, fun x hx he => ?_⟩
          · rw [hy, addE, if_neg hE8, if_pos hxo]; rfl
          · rw [hy] at hx; injection hx with hx; subst hx
            refine ⟨hg1, ?_, ?_, ?_⟩
            · rw [ew1, addW, if_pos hxo]
            · rw [el1]
            · rw [er1, addR, if_pos hxo])
       | (have hE8 := add_new (l := l) (x := ⟨xl, xo, xh, xn, (xk : Int)⟩) hnew
          have hEE : addE t w l (some ⟨xl, xo, xh, xn, (xk : Int)⟩) = 12 := addE_12 hE8 hxo h83
          refine ⟨g, rfl, ?_, fun x hx he => ?_⟩
          · rw [hy, hEE]; rfl
          · rw [hy] at hx; injection hx with hx; subst hx; rw [hEE] at he; cases he)
       | (have hE8 := add_new (l := l) (x := ⟨xl, xo, xh, xn, (xk : Int)⟩) hnew
          have hoo := op_of (t := t) hye hyn
          have hEE : addE t w l (some ⟨xl, xo, xh, xn, (xk : Int)⟩) = 9 := addE_9 hE8 hxo h83 hoo h90
          refine ⟨g, rfl, ?_, fun x hx he => ?_⟩
          · rw [hy, hEE]; rfl
          · rw [hy] at hx; injection hx with hx; subst hx; rw [hEE] at he; cases he)
       | (have hE8 := add_new (l := l) (x := ⟨xl, xo, xh, xn, (xk : Int)⟩) hnew
          have hoo := op_of (t := t) hye hyn
          have hEE : addE t w l (some ⟨xl, xo, xh, xn, (xk : Int)⟩) = 6 := addE_6 hE8 hxo h83 hoo h90 h99
          refine ⟨g, rfl, ?_, fun x hx he => ?_⟩
          · rw [hy, hEE]; rfl
          · rw [hy] at hx; injection hx with hx; subst hx; rw [hEE] at he; cases he)
       | (have hE8 := add_new (l := l) (x := ⟨xl, xo, xh, xn, (xk : Int)⟩) hnew
          have hoo := op_of (t := t) hye hyn
          have hcc := code_of (t := t) (w := w) (r := r) (i := num) (x := ⟨xl, xo, xh, xn, (xk : Int)⟩) hye h83 hxo
          have hEE : addE t w l (some ⟨xl, xo, xh, xn, (xk : Int)⟩) = if t.cells < ((addW t w ⟨xl, xo, xh, xn, (xk : Int)⟩).length : Int) then 14 else 0 := addE_0 hE8 hxo h83 hoo h90 h99
          rw [ew1, er1, hcc.1] at hem
          rw [hcc.2] at hem
          refine ⟨g', rfl, ?_, fun x hx he => ?_⟩
          · rw [hy, hEE]
            rcases hem with ⟨rfl, h14⟩ | ⟨rfl, h0, _⟩
            · rw [if_pos h14]; rfl
            · rw [if_neg (by omega)]; rfl
          · rw [hy] at hx; injection hx with hx; subst hx; rw [hEE] at he
            rcases hem with ⟨rfl, h14⟩ | ⟨rfl, h0, q1, q2, q3, _, q5⟩
            · rw [if_pos h14] at he; cases he
            · exact ⟨q1, q2, by rw [q3, el1], q5⟩)
    ·
     have hrep : labAt l xl = none := by simpa using c7
     refine JC_skip ?_
     refine thenQ_n ?_
     refine JC_seq ?_
     refine JC_drawE drawsMixed 13 rfl [2] (by intro x hx; exact eraseAll_mem hx) ?_
     intro s8 h8
     refine JA_q 0 rfl (by kernel_rfl) (by kernel_rfl) (by kernel_rfl) trivial (QE_mv rfl) rfl ?_
     refine JA_q 1 rfl (by kernel_rfl) (by kernel_rfl) (by kernel_rfl) trivial (QE_nil rfl) rfl ?_
     refine JA_q 2 rfl (by kernel_rfl) (by kernel_rfl) (by kernel_rfl) trivial (QE_faB rfl rfl rfl rfl) rfl ?_
     refine JA_q 3 rfl (by kernel_rfl) (by kernel_rfl) (by kernel_rfl) trivial (QE_ld1 1 rfl rfl rfl rfl rfl) rfl ?_
     refine JA_q 4 rfl (by kernel_rfl) (by kernel_rfl) (by kernel_rfl) trivial (QE_fa0 rfl rfl rfl rfl) rfl ?_
     refine JA_q 5 rfl (by kernel_rfl) (by kernel_rfl) (by kernel_rfl) trivial (QE_ld1 0 rfl rfl rfl rfl rfl) rfl ?_
     refine JA_q 6 rfl (by kernel_rfl) (by kernel_rfl) (by kernel_rfl) trivial (QE_mv rfl) rfl ?_
     refine JA_q 7 rfl (by kernel_rfl) (by kernel_rfl) (by kernel_rfl) trivial (QE_nil rfl) rfl ?_
     refine JA_q 8 rfl (by kernel_rfl) (by kernel_rfl) (by kernel_rfl) trivial (QE_faB rfl rfl rfl rfl) rfl ?_
     refine JA_q 9 rfl (by kernel_rfl) (by kernel_rfl) (by kernel_rfl) trivial (QE_ld1 1 rfl rfl rfl rfl rfl) rfl ?_
     refine JA_q 10 rfl (by kernel_rfl) (by kernel_rfl) (by kernel_rfl) trivial (QE_lenS rfl rfl rfl) rfl ?_
     refine JA_q 11 rfl (by kernel_rfl) (by kernel_rfl) (by kernel_rfl) trivial (QE_conv' rfl rfl rfl rfl rfl (wrap_small (by omega))) rfl ?_
     refine JA_1 12 (by kernel_rfl) ?_
     refine JB_mupd KeyK.str rfl trivial 2 mapTyS rfl rfl rfl rfl (fun x hx => hx) ?_
     intro ck1
     simp only [setL]
     refine JA_done (by kernel_rfl) ?_
     refine thenQ_n ?_
     refine JC_drawT drawsMixed 19 rfl 1 ?_
     intro s10 h10
     refine JA_q 0 rfl (by kernel_rfl) (by kernel_rfl) (by kernel_rfl) trivial (QE_mv rfl) rfl ?_
     refine JA_q 1 rfl (by kernel_rfl) (by kernel_rfl) (by kernel_rfl) trivial (QE_mv rfl) rfl ?_
     refine JA_q 2 rfl (by kernel_rfl) (by kernel_rfl) (by kernel_rfl) trivial (QE_nil rfl) rfl ?_
     refine JA_q 3 rfl (by kernel_rfl) (by kernel_rfl) (by kernel_rfl) trivial (QE_faB rfl rfl rfl rfl) rfl ?_
     refine JA_q 5 rfl (by kernel_rfl) (by kernel_rfl) (by kernel_rfl) trivial (QE_fa0 rfl rfl rfl rfl) rfl ?_
     refine JA_q 6 rfl (by kernel_rfl) (by kernel_rfl) (by kernel_rfl) trivial (QE_ld1 0 rfl rfl rfl rfl rfl) rfl ?_
     refine JA_q 7 rfl (by kernel_rfl) (by kernel_rfl) (by kernel_rfl) trivial (QE_mv rfl) rfl ?_
     refine JA_q 8 rfl (by kernel_rfl) (by kernel_rfl) (by kernel_rfl) trivial (QE_nil rfl) rfl ?_
     refine JA_q 9 rfl (by kernel_rfl) (by kernel_rfl) (by kernel_rfl) trivial (QE_faB rfl rfl rfl rfl) rfl ?_
     refine JA_2 4 10 (by kernel_rfl) ?_ ?_
     ·
      refine JB_q rfl trivial (QE_ld1 1 rfl rfl rfl rfl rfl) rfl ?_
      refine JA_1 10 (by kernel_rfl) ?_
      refine JB_q rfl trivial (QE_ld1 1 rfl rfl rfl rfl rfl) rfl ?_
      refine JA_q 11 rfl (by kernel_rfl) (by kernel_rfl) (by kernel_rfl) trivial (QE_lenS rfl rfl rfl) rfl ?_
      refine JA_q 12 rfl (by kernel_rfl) (by kernel_rfl) (by kernel_rfl) trivial (QE_conv' rfl rfl rfl rfl rfl (wrap_small (by omega))) rfl ?_
      refine JA_q 13 rfl (by kernel_rfl) (by kernel_rfl) (by kernel_rfl) trivial (QE_build [(_, _), (_, _)] [_, _] rfl rfl rfl rfl rfl rfl) rfl ?_
      refine JA_1 14 (by kernel_rfl) ?_
      refine JB_bs rfl trivial [(_, _)] [_, _] rfl rfl rfl rfl rfl rfl rfl rfl rfl ?_
      intro βn s11 h11 hcb
      refine JA_1 15 (by kernel_rfl) ?_
      refine JB_app (sz := 2) rfl trivial (_ :: _ :: _ :: Mw) Ml _ rfl rfl rfl rfl rfl rfl rfl hOl (Row.of_cells (hcb.le (Le.refl (D := D) _)) rfl rfl) ⟨by simp [ti94]; omega, by omega⟩ rfl (fun A2 x hx _ => memK1 hx) ?_
      intro v1 M1 s12 h12 o1
      obtain ⟨Av1, cv1, rfl, kv1, kv12⟩ := Own.slice o1
      simp only [List.cons_append, List.nil_append, List.append_assoc]
      refine JA_q 16 rfl (by kernel_rfl) (by kernel_rfl) (by kernel_rfl) trivial (QE_nil rfl) rfl ?_
      refine JA_q 17 rfl (by kernel_rfl) (by kernel_rfl) (by kernel_rfl) trivial (QE_faB rfl rfl rfl rfl) rfl ?_
      refine JA_1 18 (by kernel_rfl) ?_
      refine JB_st rfl trivial 1 [_, _, _, _, _, _] rfl rfl rfl rfl rfl rfl rfl rfl rfl (fun _ hx => sub_mem (sbY (sb0 _)) hx) ?_
      refine JA_done (by kernel_rfl) ?_
      refine thenQ_n (MidG.mk ⟨_, Mw, _, M1, _, Mr, mset es xl (.int .u32 (w.length : Int)) ck, ck1, w, l ++ [(xl, (w.length : Int))], r⟩ [] (Le.trans (Le.trans (Le.trans (Le.trans h6 h8) h10) h11) h12) (Keeps.nil _) (by repeat (first | exact SufO.refl | refine SufO.push rfl ?_)) (List.Perm.refl _) (by first | exact ⟨ag_lab (ck := ck1) hg0 o1 (u32N (by omega)) hrep, rfl, rfl, (if_neg hxl).symm, fun _ => hrep⟩ | exact ⟨hg0, rfl, rfl, (if_pos hxl).symm, fun h => absurd hxl h⟩))
     ·
      refine JB_q rfl trivial (QE_ld1 1 rfl rfl rfl rfl rfl) rfl ?_
      refine JA_q 11 rfl (by kernel_rfl) (by kernel_rfl) (by kernel_rfl) trivial (QE_lenS rfl rfl rfl) rfl ?_
      refine JA_q 12 rfl (by kernel_rfl) (by kernel_rfl) (by kernel_rfl) trivial (QE_conv' rfl rfl rfl rfl rfl (wrap_small (by omega))) rfl ?_
      refine JA_q 13 rfl (by kernel_rfl) (by kernel_rfl) (by kernel_rfl) trivial (QE_build [(_, _), (_, _)] [_, _] rfl rfl rfl rfl rfl rfl) rfl ?_
      refine JA_2 4 14 (by kernel_rfl) ?_ ?_
      ·
       refine JB_q rfl trivial (QE_ld1 1 rfl rfl rfl rfl rfl) rfl ?_
       refine JA_1 14 (by kernel_rfl) ?_
       refine JB_bs rfl trivial [(_, _)] [_, _] rfl rfl rfl rfl rfl rfl rfl rfl rfl ?_
       intro βn s13 h13 hcb
       refine JA_1 15 (by kernel_rfl) ?_
       refine JB_app (sz := 2) rfl trivial (_ :: _ :: _ :: Mw) Ml _ rfl rfl rfl rfl rfl rfl rfl hOl (Row.of_cells (hcb.le (Le.refl (D := D) _)) rfl rfl) ⟨by simp [ti94]; omega, by omega⟩ rfl (fun A2 x hx _ => memK1 hx) ?_
       intro v1 M1 s14 h14 o1
       obtain ⟨Av1, cv1, rfl, kv1, kv12⟩ := Own.slice o1
       simp only [List.cons_append, List.nil_append, List.append_assoc]
       refine JA_q 16 rfl (by kernel_rfl) (by kernel_rfl) (by kernel_rfl) trivial (QE_nil rfl) rfl ?_
       refine JA_q 17 rfl (by kernel_rfl) (by kernel_rfl) (by kernel_rfl) trivial (QE_faB rfl rfl rfl rfl) rfl ?_
       refine JA_1 18 (by kernel_rfl) ?_
       refine JB_st rfl trivial 1 [_, _, _, _, _, _] rfl rfl rfl rfl rfl rfl rfl rfl rfl (fun _ hx => sub_mem (sbY (sb0 _)) hx) ?_
       refine JA_done (by kernel_rfl) ?_
       refine thenQ_n (MidG.mk ⟨_, Mw, _, M1, _, Mr, mset es xl (.int .u32 (w.length : Int)) ck, ck1, w, l ++ [(xl, (w.length : Int))], r⟩ [] (Le.trans (Le.trans (Le.trans (Le.trans h6 h8) h10) h13) h14) (Keeps.nil _) (by repeat (first | exact SufO.refl | refine SufO.push rfl ?_)) (List.Perm.refl _) (by first | exact ⟨ag_lab (ck := ck1) hg0 o1 (u32N (by omega)) hrep, rfl, rfl, (if_neg hxl).symm, fun _ => hrep⟩ | exact ⟨hg0, rfl, rfl, (if_pos hxl).symm, fun h => absurd hxl h⟩))
      ·
       refine JB_bs rfl trivial [(_, _)] [_, _] rfl rfl rfl rfl rfl rfl rfl rfl rfl ?_
       intro βn s15 h15 hcb
       refine JA_1 4 (by kernel_rfl) ?_
       refine JB_q rfl trivial (QE_ld1 1 rfl rfl rfl rfl rfl) rfl ?_
       refine JA_1 15 (by kernel_rfl) ?_
       refine JB_app (sz := 2) rfl trivial (_ :: _ :: _ :: Mw) Ml _ rfl rfl rfl rfl rfl rfl rfl hOl (Row.of_cells (hcb.le (Le.refl (D := D) _)) rfl rfl) ⟨by simp [ti94]; omega, by omega⟩ rfl (fun A2 x hx _ => memK1 hx) ?_
       intro v1 M1 s16 h16 o1
       obtain ⟨Av1, cv1, rfl, kv1, kv12⟩ := Own.slice o1
       simp only [List.cons_append, List.nil_append, List.append_assoc]
       refine JA_q 16 rfl (by kernel_rfl) (by kernel_rfl) (by kernel_rfl) trivial (QE_nil rfl) rfl ?_
       refine JA_q 17 rfl (by kernel_rfl) (by kernel_rfl) (by kernel_rfl) trivial (QE_faB rfl rfl rfl rfl) rfl ?_
       refine JA_1 18 (by kernel_rfl) ?_
       refine JB_st rfl trivial 1 [_, _, _, _, _, _] rfl rfl rfl rfl rfl rfl rfl rfl rfl (fun _ hx => sub_mem (sbY (sb0 _)) hx) ?_
       refine JA_done (by kernel_rfl) ?_
       refine thenQ_n (MidG.mk ⟨_, Mw, _, M1, _, Mr, mset es xl (.int .u32 (w.length : Int)) ck, ck1, w, l ++ [(xl, (w.length : Int))], r⟩ [] (Le.trans (Le.trans (Le.trans (Le.trans h6 h8) h10) h15) h16) (Keeps.nil _) (by repeat (first | exact SufO.refl | refine SufO.push rfl ?_)) (List.Perm.refl _) (by first | exact ⟨ag_lab (ck := ck1) hg0 o1 (u32N (by omega)) hrep, rfl, rfl, (if_neg hxl).symm, fun _ => hrep⟩ | exact ⟨hg0, rfl, rfl, (if_pos hxl).symm, fun h => absurd hxl h⟩))
   ·
    have hxl := c5
    refine JC_skip ?_
    refine thenQ_n (MidG.mk ⟨_, Mw, _, Ml, _, Mr, es, ck, w, l, r⟩ [] (Le.refl (D := D) _) (Keeps.nil _) (by repeat (first | exact SufO.refl | refine SufO.push rfl ?_)) (List.Perm.refl _) (by first | exact ⟨ag_lab (ck := ck1) hg0 o1 (u32N (by omega)) hrep, rfl, rfl, (if_neg hxl).symm, fun _ => hrep⟩ | exact ⟨hg0, rfl, rfl, (if_pos hxl).symm, fun h => absurd hxl h⟩))
  intro g s4 h4 I4
  simp only [List.cons_append, List.nil_append]
  obtain ⟨hg1, ew1, er1, el1, hnew⟩ := I4
  refine JC_seq ?_
  refine JC_seq ?_
  refine JC_region ?_
  refine JO_q (QE_faB rfl rfl rfl rfl) rfl ?_
  refine JO_q (QE_ld1 0 rfl rfl rfl rfl rfl) rfl ?_
  refine JO_q (QE_seq rfl rfl) rfl ?_
  refine JO_nil ?_
  refine thenQ_n ?_
  refine JC_ifD rfl (fun c17 => ?_) (fun c17 => ?_)
  ·
   have hxo := c17
   refine JC_seq ?_
   refine JC_region ?_
   refine JO_q (QE_as rfl) rfl ?_
   refine JO_nil ?_
   refine thenQ_n ?_
   refine JC_ret ?_
   refine thenQ_r ?_
   refine retQ_mk [_] _ (.inr rfl) (.tmp rfl (.nil)) rfl (Le.trans (Le.trans h1 h2) h4) (fun sR hS2 => ?_)
   first
     | (refine ⟨(⟨.slice Aw w.length cw, Mw, .slice Al l.length cl, Ml, .slice Ar r.length cr, Mr, es, ck, w, l, r⟩ : AG), rfl, ?_, fun x hx => ?_⟩
        · rw [hno]; rfl
        · rw [hno] at hx; cases hx)
     | (refine ⟨(⟨.slice Aw w.length cw, Mw, .slice Al l.length cl, Ml, .slice Ar r.length cr, Mr, es, ck, w, l, r⟩ : AG), rfl, ?_, fun x hx he => ?_⟩
        · rw [hy, addE, if_pos ⟨hxl, hrep⟩]; rfl
        · rw [hy] at hx; injection hx with hx; subst hx; rw [addE, if_pos ⟨hxl, hrep⟩] at he; cases he)
     | (have hE8 := add_new (l := l) (x := ⟨xl, xo, xh, xn, (xk : Int)⟩) hnew
        refine ⟨g, rfl, ?_, fun x hx he => ?_⟩
        · rw [hy, addE, if_neg hE8, if_pos hxo]; rfl
        · rw [hy] at hx; injection hx with hx; subst hx
          refine ⟨hg1, ?_, ?_, ?_⟩
          · rw [ew1, addW, if_pos hxo]
          · rw [el1]
          · rw [er1, addR, if_pos hxo])
     | (have hE8 := add_new (l := l) (x := ⟨xl, xo, xh, xn, (xk : Int)⟩) hnew
        have hEE : addE t w l (some ⟨xl, xo, xh, xn, (xk : Int)⟩) = 12 := addE_12 hE8 hxo h83
        refine ⟨g, rfl, ?_, fun x hx he => ?_⟩
        · rw [hy, hEE]; rfl
        · rw [hy] at hx; injection hx with hx; subst hx; rw [hEE] at he; cases he)
     | (have hE8 := add_new (l := l) (x := ⟨xl, xo, xh, xn, (xk : Int)⟩) hnew
        have hoo := op_of (t := t) hye hyn
        have hEE : addE t w l (some ⟨xl, xo, xh, xn, (xk : Int)⟩) = 9 := addE_9 hE8 hxo h83 hoo h90
        refine ⟨g, rfl, ?_, fun x hx he => ?_⟩
        · rw [hy, hEE]; rfl
        · rw [hy] at hx; injection hx with hx; subst hx; rw [hEE] at he; cases he)
     | (have hE8 := add_new (l := l) (x := ⟨xl, xo, xh, xn, (xk : Int)⟩) hnew
        have hoo := op_of (t := t) hye hyn
        have hEE : addE t w l (some ⟨xl, xo, xh, xn, (xk : Int)⟩) = 6 := addE_6 hE8 hxo h83 hoo h90 h99
        refine ⟨g, rfl, ?_, fun x hx he => ?_⟩
        · rw [hy, hEE]; rfl
        · rw [hy] at hx; injection hx with hx; subst hx; rw [hEE] at he; cases he)
     | (have hE8 := add_new (l := l) (x := ⟨xl, xo, xh, xn, (xk : Int)⟩) hnew
        have hoo := op_of (t := t) hye hyn
        have hcc := code_of (t := t) (w := w) (r := r) (i := num) (x := ⟨xl, xo, xh, xn, (xk : Int)⟩) hye h83 hxo
        have hEE : addE t w l (some ⟨xl, xo, xh, xn, (xk : Int)⟩) = if t.cells < ((addW t w ⟨xl, xo, xh, xn, (xk : Int)⟩).length : Int) then 14 else 0 := addE_0 hE8 hxo h83 hoo h90 h99
        rw [ew1, er1, hcc.1] at hem
        rw [hcc.2] at hem
        refine ⟨g', rfl, ?_, fun x hx he => ?_⟩
        · rw [hy, hEE]
          rcases hem with ⟨rfl, h14⟩ | ⟨rfl, h0, _⟩
          · rw [if_pos h14]; rfl
          · rw [if_neg (by omega)]; rfl
        · rw [hy] at hx; injection hx with hx; subst hx; rw [hEE] at he
          rcases hem with ⟨rfl, h14⟩ | ⟨rfl, h0, q1, q2, q3, _, q5⟩
          · rw [if_pos h14] at he; cases he
          · exact ⟨q1, q2, by rw [q3, el1], q5⟩)
  ·
   have hxo := c17
   refine JC_skip ?_
   refine thenQ_n ?_
   refine JC_cutB 11 ((xo = [119, 111, 114, 100] ∨ xo = [115, 112, 97, 99, 101])) ?_ ?_
   ·
    refine JC_region ?_
    refine JO_q (QE_faB rfl rfl rfl rfl) rfl ?_
    refine JO_q (QE_ld1 0 rfl rfl rfl rfl rfl) rfl ?_
    refine JO_q (QE_seq rfl rfl) rfl ?_
    refine JO_q (QE_mv rfl) rfl ?_
    refine JO_caseD (t := 71) rfl (fun c19 => ?_) (fun c19 => ?_)
    ·
     refine JO_gF rfl rfl rfl rfl ?_
     refine JO_gF rfl rfl rfl rfl ?_
     refine JO_gF rfl rfl rfl rfl ?_
     refine JO_q (QE_pickT rfl rfl) rfl ?_
     refine JO_q (QE_as rfl) rfl ?_
     refine JO_nil ?_
     refine thenQ_n (MidB.mk (Le.refl (D := D) _) (by repeat (first | exact Suf.refl | refine Suf.push rfl ?_)) rfl ((decide_eq_true (by first | exact .inl (by assumption) | exact .inr (by assumption))).symm))
    ·
     refine JO_gT rfl rfl ?_
     refine JO_q (QE_faB rfl rfl rfl rfl) rfl ?_
     refine JO_gT rfl rfl ?_
     refine JO_q (QE_ld1 0 rfl rfl rfl rfl rfl) rfl ?_
     refine JO_gT rfl rfl ?_
     refine JO_q (QE_seq rfl rfl) rfl ?_
     refine JO_q (QE_pickF rfl rfl) rfl ?_
     refine JO_q (QE_as rfl) rfl ?_
     refine JO_nil ?_
     refine thenQ_n (MidB.mk (Le.refl (D := D) _) (by repeat (first | exact Suf.refl | refine Suf.push rfl ?_)) rfl (decide_eq_decide.2 (⟨fun h => .inr h, fun h => h.resolve_left (by assumption)⟩)))
   ·
    intro s18 h18
    refine JC_seq ?_
    refine JC_region ?_
    refine JO_q (QE_mv rfl) rfl ?_
    refine JO_q (QE_faB rfl rfl rfl rfl) rfl ?_
    refine JO_q (QE_ld1 0 rfl rfl rfl rfl rfl) rfl ?_
    refine JO_call (first := []) (captured := []) rfl rfl rfl (findB_ac D L _ _ ba bm t A n c (hA.le (Le.trans (Le.trans (Le.trans h1 h2) h4) h18)) g xo) ?_
    rintro _ _ s20 h20 ⟨rfl, ⟨yn, yc, yo, ya⟩, Ay, ny, cy, rfl, hyu, hye, hyn⟩
    refine JO_q (QE_mv rfl) rfl ?_
    refine JO_q (QE_ext rfl rfl) rfl ?_
    refine JO_q (QE_ext rfl rfl) rfl ?_
    refine JO_allocZ rfl [_, _, _, _] rfl rfl ?_
    intro β21 s21 h21
    refine JO_st 0 [_, _, _, _] rfl rfl rfl rfl rfl rfl rfl rfl rfl ?_
    refine JO_q (QE_as rfl) rfl ?_
    refine JO_nil ?_
    refine thenQ_n ?_
    refine JC_seq ?_
    refine JC_block ?_
    refine JC_cutB 83 ((findN t.ins xo).isSome = false ∧ ¬ (xo = [119, 111, 114, 100] ∨ xo = [115, 112, 97, 99, 101])) ?_ ?_
    ·
     refine JC_region ?_
     refine JO_q (QE_mv rfl) rfl ?_
     refine JO_q (QE_not rfl) rfl ?_
     refine JO_q (QE_mv rfl) rfl ?_
     refine JO_caseM (t := 86) rfl (fun c23 => ?_) (fun c23 => ?_)
     ·
      refine JO_gT rfl rfl ?_
      refine JO_q (QE_mv rfl) rfl ?_
      refine JO_gT rfl rfl ?_
      refine JO_q (QE_not rfl) rfl ?_
      refine JO_q (QE_pickT rfl rfl) rfl ?_
      refine JO_q (QE_as rfl) rfl ?_
      refine JO_nil ?_
      refine thenQ_n (MidB.mk (Le.refl (D := D) _) (by repeat (first | exact Suf.refl | refine Suf.push rfl ?_)) rfl (ndec_eq ((by first | exact fun h => absurd h.1 (by rw [show (findN t.ins xo).isSome = true by assumption]; decide) | exact ⟨fun h => h.2, fun h => ⟨by assumption, h⟩⟩))))
     ·
      refine JO_gF rfl rfl rfl rfl ?_
      refine JO_gF rfl rfl rfl rfl ?_
      refine JO_q (QE_pickF rfl rfl) rfl ?_
      refine JO_q (QE_as rfl) rfl ?_
      refine JO_nil ?_
      refine thenQ_n (MidB.mk (Le.refl (D := D) _) (by repeat (first | exact Suf.refl | refine Suf.push rfl ?_)) rfl ((decide_eq_false ((by first | exact fun h => absurd h.1 (by rw [show (findN t.ins xo).isSome = true by assumption]; decide) | exact ⟨fun h => h.2, fun h => ⟨by assumption, h⟩⟩))).symm))
    ·
     intro s22 h22
     refine JC_ifD rfl (fun c24 => ?_) (fun c24 => ?_)
     ·
      have h83 := c24
      refine JC_seq ?_
      refine JC_region ?_
      refine JO_q (QE_as rfl) rfl ?_
      refine JO_nil ?_
      refine thenQ_n ?_
      refine JC_ret ?_
      refine blockQ_r ?_
      refine thenQ_r ?_
      refine retQ_mk [_, _] _ (.inr rfl) (.tmp rfl (.nil)) rfl (Le.trans (Le.trans (Le.trans (Le.trans (Le.trans (Le.trans h1 h2) h4) h18) h20) h21) h22) (fun sR hS2 => ?_)
      first
        | (refine ⟨(⟨.slice Aw w.length cw, Mw, .slice Al l.length cl, Ml, .slice Ar r.length cr, Mr, es, ck, w, l, r⟩ : AG), rfl, ?_, fun x hx => ?_⟩
           · rw [hno]; rfl
           · rw [hno] at hx; cases hx)
        | (refine ⟨(⟨.slice Aw w.length cw, Mw, .slice Al l.length cl, Ml, .slice Ar r.length cr, Mr, es, ck, w, l, r⟩ : AG), rfl, ?_, fun x hx he => ?_⟩
           · rw [hy, addE, if_pos ⟨hxl, hrep⟩]; rfl
           · rw [hy] at hx; injection hx with hx; subst hx; rw [addE, if_pos ⟨hxl, hrep⟩] at he; cases he)
        | (have hE8 := add_new (l := l) (x := ⟨xl, xo, xh, xn, (xk : Int)⟩) hnew
           refine ⟨g, rfl, ?_, fun x hx he => ?_⟩
           · rw [hy, addE, if_neg hE8, if_pos hxo]; rfl
           · rw [hy] at hx; injection hx with hx; subst hx
             refine ⟨hg1, ?_, ?_, ?_⟩
             · rw [ew1, addW, if_pos hxo]
             · rw [el1]
             · rw [er1, addR, if_pos hxo])
        | (have hE8 := add_new (l := l) (x := ⟨xl, xo, xh, xn, (xk : Int)⟩) hnew
           have hEE : addE t w l (some ⟨xl, xo, xh, xn, (xk : Int)⟩) = 12 := addE_12 hE8 hxo h83
           refine ⟨g, rfl, ?_, fun x hx he => ?_⟩
           · rw [hy, hEE]; rfl
           · rw [hy] at hx; injection hx with hx; subst hx; rw [hEE] at he; cases he)
        | (have hE8 := add_new (l := l) (x := ⟨xl, xo, xh, xn, (xk : Int)⟩) hnew
           have hoo := op_of (t := t) hye hyn
           have hEE : addE t w l (some ⟨xl, xo, xh, xn, (xk : Int)⟩) = 9 := addE_9 hE8 hxo h83 hoo h90
           refine ⟨g, rfl, ?_, fun x hx he => ?_⟩
           · rw [hy, hEE]; rfl
           · rw [hy] at hx; injection hx with hx; subst hx; rw [hEE] at he; cases he)
        | (have hE8 := add_new (l := l) (x := ⟨xl, xo, xh, xn, (xk : Int)⟩) hnew
           have hoo := op_of (t := t) hye hyn
           have hEE : addE t w l (some ⟨xl, xo, xh, xn, (xk : Int)⟩) = 6 := addE_6 hE8 hxo h83 hoo h90 h99
           refine ⟨g, rfl, ?_, fun x hx he => ?_⟩
           · rw [hy, hEE]; rfl
           · rw [hy] at hx; injection hx with hx; subst hx; rw [hEE] at he; cases he)
        | (have hE8 := add_new (l := l) (x := ⟨xl, xo, xh, xn, (xk : Int)⟩) hnew
           have hoo := op_of (t := t) hye hyn
           have hcc := code_of (t := t) (w := w) (r := r) (i := num) (x := ⟨xl, xo, xh, xn, (xk : Int)⟩) hye h83 hxo
           have hEE : addE t w l (some ⟨xl, xo, xh, xn, (xk : Int)⟩) = if t.cells < ((addW t w ⟨xl, xo, xh, xn, (xk : Int)⟩).length : Int) then 14 else 0 := addE_0 hE8 hxo h83 hoo h90 h99
           rw [ew1, er1, hcc.1] at hem
           rw [hcc.2] at hem
           refine ⟨g', rfl, ?_, fun x hx he => ?_⟩
           · rw [hy, hEE]
             rcases hem with ⟨rfl, h14⟩ | ⟨rfl, h0, _⟩
             · rw [if_pos h14]; rfl
             · rw [if_neg (by omega)]; rfl
           · rw [hy] at hx; injection hx with hx; subst hx; rw [hEE] at he
             rcases hem with ⟨rfl, h14⟩ | ⟨rfl, h0, q1, q2, q3, _, q5⟩
             · rw [if_pos h14] at he; cases he
             · exact ⟨q1, q2, by rw [q3, el1], q5⟩)
     ·
      have h83 := c24
      refine JC_cutB 90 (¬ xh = (decide (xo = [119, 111, 114, 100] ∨ xo = [115, 112, 97, 99, 101]) || yo)) ?_ ?_
      ·
       refine JC_region ?_
       refine JO_q (QE_faB rfl rfl rfl rfl) rfl ?_
       refine JO_q (QE_ld1 1 rfl rfl rfl rfl rfl) rfl ?_
       refine JO_q (QE_mv rfl) rfl ?_
       refine JO_q (QE_mv rfl) rfl ?_
       refine JO_caseD (t := 94) rfl (fun c26 => ?_) (fun c26 => ?_)
       ·
        refine JO_gF rfl rfl rfl rfl ?_
        refine JO_gF rfl rfl rfl rfl ?_
        refine JO_q (QE_pickT rfl rfl) rfl ?_
        refine JO_q (QE_bne rfl rfl rfl rfl) rfl ?_
        refine JO_q (QE_as rfl) rfl ?_
        refine JO_nil ?_
        refine thenQ_n (MidB.mk (Le.refl (D := D) _) (by repeat (first | exact Suf.refl | refine Suf.push rfl ?_)) rfl (ndec_eq ((by first | rw [decide_eq_true (show (xo = [119, 111, 114, 100] ∨ xo = [115, 112, 97, 99, 101]) by assumption), Bool.true_or] | rw [decide_eq_false (show ¬ (xo = [119, 111, 114, 100] ∨ xo = [115, 112, 97, 99, 101]) by assumption), Bool.false_or]))))
       ·
        refine JO_gT rfl rfl ?_
        refine JO_q (QE_faB rfl rfl rfl rfl) rfl ?_
        refine JO_gT rfl rfl ?_
        refine JO_q (QE_ld1 0 rfl rfl rfl rfl rfl) rfl ?_
        refine JO_q (QE_pickF rfl rfl) rfl ?_
        refine JO_q (QE_bne rfl rfl rfl rfl) rfl ?_
        refine JO_q (QE_as rfl) rfl ?_
        refine JO_nil ?_
        refine thenQ_n (MidB.mk (Le.refl (D := D) _) (by repeat (first | exact Suf.refl | refine Suf.push rfl ?_)) rfl (ndec_eq ((by first | rw [decide_eq_true (show (xo = [119, 111, 114, 100] ∨ xo = [115, 112, 97, 99, 101]) by assumption), Bool.true_or] | rw [decide_eq_false (show ¬ (xo = [119, 111, 114, 100] ∨ xo = [115, 112, 97, 99, 101]) by assumption), Bool.false_or]))))
      ·
       intro s25 h25
       refine JC_ifD rfl (fun c27 => ?_) (fun c27 => ?_)
       ·
        have h90 := c27
        refine JC_seq ?_
        refine JC_region ?_
        refine JO_q (QE_as rfl) rfl ?_
        refine JO_nil ?_
        refine thenQ_n ?_
        refine JC_ret ?_
        refine blockQ_r ?_
        refine thenQ_r ?_
        refine retQ_mk [_, _] _ (.inr rfl) (.tmp rfl (.nil)) rfl (Le.trans (Le.trans (Le.trans (Le.trans (Le.trans (Le.trans (Le.trans h1 h2) h4) h18) h20) h21) h22) h25) (fun sR hS2 => ?_)
        first
          | (refine ⟨(⟨.slice Aw w.length cw, Mw, .slice Al l.length cl, Ml, .slice Ar r.length cr, Mr, es, ck, w, l, r⟩ : AG), rfl, ?_, fun x hx => ?_⟩
             · rw [hno]; rfl
             · rw [hno] at hx; cases hx)
          | (refine ⟨(⟨.slice Aw w.length cw, Mw, .slice Al l.length cl, Ml, .slice Ar r.length cr, Mr, es, ck, w, l, r⟩ : AG), rfl, ?_, fun x hx he => ?_⟩
             · rw [hy, addE, if_pos ⟨hxl, hrep⟩]; rfl
             · rw [hy] at hx; injection hx with hx; subst hx; rw [addE, if_pos ⟨hxl, hrep⟩] at he; cases he)
          | (have hE8 := add_new (l := l) (x := ⟨xl, xo, xh, xn, (xk : Int)⟩) hnew
             refine ⟨g, rfl, ?_, fun x hx he => ?_⟩
             · rw [hy, addE, if_neg hE8, if_pos hxo]; rfl
             · rw [hy] at hx; injection hx with hx; subst hx
               refine ⟨hg1, ?_, ?_, ?_⟩
               · rw [ew1, addW, if_pos hxo]
               · rw [el1]
               · rw [er1, addR, if_pos hxo])
          | (have hE8 := add_new (l := l) (x := ⟨xl, xo, xh, xn, (xk : Int)⟩) hnew
             have hEE : addE t w l (some ⟨xl, xo, xh, xn, (xk : Int)⟩) = 12 := addE_12 hE8 hxo h83
             refine ⟨g, rfl, ?_, fun x hx he => ?_⟩
             · rw [hy, hEE]; rfl
             · rw [hy] at hx; injection hx with hx; subst hx; rw [hEE] at he; cases he)
          | (have hE8 := add_new (l := l) (x := ⟨xl, xo, xh, xn, (xk : Int)⟩) hnew
             have hoo := op_of (t := t) hye hyn
             have hEE : addE t w l (some ⟨xl, xo, xh, xn, (xk : Int)⟩) = 9 := addE_9 hE8 hxo h83 hoo h90
             refine ⟨g, rfl, ?_, fun x hx he => ?_⟩
             · rw [hy, hEE]; rfl
             · rw [hy] at hx; injection hx with hx; subst hx; rw [hEE] at he; cases he)
          | (have hE8 := add_new (l := l) (x := ⟨xl, xo, xh, xn, (xk : Int)⟩) hnew
             have hoo := op_of (t := t) hye hyn
             have hEE : addE t w l (some ⟨xl, xo, xh, xn, (xk : Int)⟩) = 6 := addE_6 hE8 hxo h83 hoo h90 h99
             refine ⟨g, rfl, ?_, fun x hx he => ?_⟩
             · rw [hy, hEE]; rfl
             · rw [hy] at hx; injection hx with hx; subst hx; rw [hEE] at he; cases he)
          | (have hE8 := add_new (l := l) (x := ⟨xl, xo, xh, xn, (xk : Int)⟩) hnew
             have hoo := op_of (t := t) hye hyn
             have hcc := code_of (t := t) (w := w) (r := r) (i := num) (x := ⟨xl, xo, xh, xn, (xk : Int)⟩) hye h83 hxo
             have hEE : addE t w l (some ⟨xl, xo, xh, xn, (xk : Int)⟩) = if t.cells < ((addW t w ⟨xl, xo, xh, xn, (xk : Int)⟩).length : Int) then 14 else 0 := addE_0 hE8 hxo h83 hoo h90 h99
             rw [ew1, er1, hcc.1] at hem
             rw [hcc.2] at hem
             refine ⟨g', rfl, ?_, fun x hx he => ?_⟩
             · rw [hy, hEE]
               rcases hem with ⟨rfl, h14⟩ | ⟨rfl, h0, _⟩
               · rw [if_pos h14]; rfl
               · rw [if_neg (by omega)]; rfl
             · rw [hy] at hx; injection hx with hx; subst hx; rw [hEE] at he
               rcases hem with ⟨rfl, h14⟩ | ⟨rfl, h0, q1, q2, q3, _, q5⟩
               · rw [if_pos h14] at he; cases he
               · exact ⟨q1, q2, by rw [q3, el1], q5⟩)
       ·
        have h90 := c27
        refine JC_cutB 99 (xo = [115, 112, 97, 99, 101] ∧ ¬ xn = []) ?_ ?_
        ·
         refine JC_region ?_
         refine JO_q (QE_faB rfl rfl rfl rfl) rfl ?_
         refine JO_q (QE_ld1 1 rfl rfl rfl rfl rfl) rfl ?_
         refine JO_q (QE_seq rfl rfl) rfl ?_
         refine JO_q (QE_mv rfl) rfl ?_
         refine JO_caseD (t := 103) rfl (fun c29 => ?_) (fun c29 => ?_)
         ·
          refine JO_gT rfl rfl ?_
          refine JO_q (QE_faB rfl rfl rfl rfl) rfl ?_
          refine JO_gT rfl rfl ?_
          refine JO_q (QE_fa0 rfl rfl rfl rfl) rfl ?_
          refine JO_gT rfl rfl ?_
          refine JO_q (QE_ld1 1 rfl rfl rfl rfl rfl) rfl ?_
          refine JO_gT rfl rfl ?_
          refine JO_q (QE_sne rfl rfl) rfl ?_
          refine JO_q (QE_pickT rfl rfl) rfl ?_
          refine JO_q (QE_as rfl) rfl ?_
          refine JO_nil ?_
          refine thenQ_n (MidB.mk (Le.refl (D := D) _) (by repeat (first | exact Suf.refl | refine Suf.push rfl ?_)) rfl (ndec_eq ((by first | exact fun h => absurd h.1 (by assumption) | exact ⟨fun h => h.2, fun h => ⟨by assumption, h⟩⟩))))
         ·
          refine JO_gF rfl rfl rfl rfl ?_
          refine JO_gF rfl rfl rfl rfl ?_
          refine JO_gF rfl rfl rfl rfl ?_
          refine JO_gF rfl rfl rfl rfl ?_
          refine JO_q (QE_pickF rfl rfl) rfl ?_
          refine JO_q (QE_as rfl) rfl ?_
          refine JO_nil ?_
          refine thenQ_n (MidB.mk (Le.refl (D := D) _) (by repeat (first | exact Suf.refl | refine Suf.push rfl ?_)) rfl ((decide_eq_false ((by first | exact fun h => absurd h.1 (by assumption) | exact ⟨fun h => h.2, fun h => ⟨by assumption, h⟩⟩))).symm))
        ·
         intro s28 h28
         refine JC_ifD rfl (fun c30 => ?_) (fun c30 => ?_)
         ·
          have h99 := c30
          refine JC_seq ?_
          refine JC_region ?_
          refine JO_q (QE_as rfl) rfl ?_
          refine JO_nil ?_
          refine thenQ_n ?_
          refine JC_ret ?_
          refine blockQ_r ?_
          refine thenQ_r ?_
          refine retQ_mk [_, _] _ (.inr rfl) (.tmp rfl (.nil)) rfl (Le.trans (Le.trans (Le.trans (Le.trans (Le.trans (Le.trans (Le.trans (Le.trans h1 h2) h4) h18) h20) h21) h22) h25) h28) (fun sR hS2 => ?_)
          first
            | (refine ⟨(⟨.slice Aw w.length cw, Mw, .slice Al l.length cl, Ml, .slice Ar r.length cr, Mr, es, ck, w, l, r⟩ : AG), rfl, ?_, fun x hx => ?_⟩
               · rw [hno]; rfl
               · rw [hno] at hx; cases hx)
            | (refine ⟨(⟨.slice Aw w.length cw, Mw, .slice Al l.length cl, Ml, .slice Ar r.length cr, Mr, es, ck, w, l, r⟩ : AG), rfl, ?_, fun x hx he => ?_⟩
               · rw [hy, addE, if_pos ⟨hxl, hrep⟩]; rfl
               · rw [hy] at hx; injection hx with hx; subst hx; rw [addE, if_pos ⟨hxl, hrep⟩] at he; cases he)
            | (have hE8 := add_new (l := l) (x := ⟨xl, xo, xh, xn, (xk : Int)⟩) hnew
               refine ⟨g, rfl, ?_, fun x hx he => ?_⟩
               · rw [hy, addE, if_neg hE8, if_pos hxo]; rfl
               · rw [hy] at hx; injection hx with hx; subst hx
                 refine ⟨hg1, ?_, ?_, ?_⟩
                 · rw [ew1, addW, if_pos hxo]
                 · rw [el1]
                 · rw [er1, addR, if_pos hxo])
            | (have hE8 := add_new (l := l) (x := ⟨xl, xo, xh, xn, (xk : Int)⟩) hnew
               have hEE : addE t w l (some ⟨xl, xo, xh, xn, (xk : Int)⟩) = 12 := addE_12 hE8 hxo h83
               refine ⟨g, rfl, ?_, fun x hx he => ?_⟩
               · rw [hy, hEE]; rfl
               · rw [hy] at hx; injection hx with hx; subst hx; rw [hEE] at he; cases he)
            | (have hE8 := add_new (l := l) (x := ⟨xl, xo, xh, xn, (xk : Int)⟩) hnew
               have hoo := op_of (t := t) hye hyn
               have hEE : addE t w l (some ⟨xl, xo, xh, xn, (xk : Int)⟩) = 9 := addE_9 hE8 hxo h83 hoo h90
               refine ⟨g, rfl, ?_, fun x hx he => ?_⟩
               · rw [hy, hEE]; rfl
               · rw [hy] at hx; injection hx with hx; subst hx; rw [hEE] at he; cases he)
            | (have hE8 := add_new (l := l) (x := ⟨xl, xo, xh, xn, (xk : Int)⟩) hnew
               have hoo := op_of (t := t) hye hyn
               have hEE : addE t w l (some ⟨xl, xo, xh, xn, (xk : Int)⟩) = 6 := addE_6 hE8 hxo h83 hoo h90 h99
               refine ⟨g, rfl, ?_, fun x hx he => ?_⟩
               · rw [hy, hEE]; rfl
               · rw [hy] at hx; injection hx with hx; subst hx; rw [hEE] at he; cases he)
            | (have hE8 := add_new (l := l) (x := ⟨xl, xo, xh, xn, (xk : Int)⟩) hnew
               have hoo := op_of (t := t) hye hyn
               have hcc := code_of (t := t) (w := w) (r := r) (i := num) (x := ⟨xl, xo, xh, xn, (xk : Int)⟩) hye h83 hxo
               have hEE : addE t w l (some ⟨xl, xo, xh, xn, (xk : Int)⟩) = if t.cells < ((addW t w ⟨xl, xo, xh, xn, (xk : Int)⟩).length : Int) then 14 else 0 := addE_0 hE8 hxo h83 hoo h90 h99
               rw [ew1, er1, hcc.1] at hem
               rw [hcc.2] at hem
               refine ⟨g', rfl, ?_, fun x hx he => ?_⟩
               · rw [hy, hEE]
                 rcases hem with ⟨rfl, h14⟩ | ⟨rfl, h0, _⟩
                 · rw [if_pos h14]; rfl
                 · rw [if_neg (by omega)]; rfl
               · rw [hy] at hx; injection hx with hx; subst hx; rw [hEE] at he
                 rcases hem with ⟨rfl, h14⟩ | ⟨rfl, h0, q1, q2, q3, _, q5⟩
                 · rw [if_pos h14] at he; cases he
                 · exact ⟨q1, q2, by rw [q3, el1], q5⟩)
         ·
          have h99 := c30
          refine JC_skip ?_
          refine blockQ_n ?_
          refine thenQ_n ?_
          refine JC_seq ?_
          refine JC_region ?_
          refine JO_q (QE_mv rfl) rfl ?_
          refine JO_q (QE_mv rfl) rfl ?_
          refine JO_q (QE_ldA 1 [_, _, _, _, _] rfl rfl rfl rfl rfl) rfl ?_
          refine JO_q (QE_ldA 0 [_, _, _, _] rfl rfl rfl rfl rfl) rfl ?_
          refine JO_q (QE_mv rfl) rfl ?_
          refine JO_call (first := []) (captured := []) rfl rfl rfl (emitB_ac D L _ _ _ ba bm t.cells A n c g hg1 num xl xo xh xn xk hxk yn yc yo Ay ny cy hyu (decide (xo = [119, 111, 114, 100] ∨ xo = [115, 112, 97, 99, 101])) htc (by rw [ew1]; exact hwl) (by rw [er1]; exact hrl)) ?_
          rintro _ _ s31 h31 ⟨g', rfl, e, rfl, hem⟩
          refine JO_q (QE_as rfl) rfl ?_
          refine JO_nil ?_
          refine thenQ_n ?_
          refine JC_ret ?_
          refine retQ_mk [_, _] _ (.inr rfl) (.tmp rfl (.nil)) rfl (Le.trans (Le.trans (Le.trans (Le.trans (Le.trans (Le.trans (Le.trans (Le.trans (Le.trans h1 h2) h4) h18) h20) h21) h22) h25) h28) h31) (fun sR hS2 => ?_)
          first
            | (refine ⟨(⟨.slice Aw w.length cw, Mw, .slice Al l.length cl, Ml, .slice Ar r.length cr, Mr, es, ck, w, l, r⟩ : AG), rfl, ?_, fun x hx => ?_⟩
               · rw [hno]; rfl
               · rw [hno] at hx; cases hx)
            | (refine ⟨(⟨.slice Aw w.length cw, Mw, .slice Al l.length cl, Ml, .slice Ar r.length cr, Mr, es, ck, w, l, r⟩ : AG), rfl, ?_, fun x hx he => ?_⟩
               · rw [hy, addE, if_pos ⟨hxl, hrep⟩]; rfl
               · rw [hy] at hx; injection hx with hx; subst hx; rw [addE, if_pos ⟨hxl, hrep⟩] at he; cases he)
            | (have hE8 := add_new (l := l) (x := ⟨xl, xo, xh, xn, (xk : Int)⟩) hnew
               refine ⟨g, rfl, ?_, fun x hx he => ?_⟩
               · rw [hy, addE, if_neg hE8, if_pos hxo]; rfl
               · rw [hy] at hx; injection hx with hx; subst hx
                 refine ⟨hg1, ?_, ?_, ?_⟩
                 · rw [ew1, addW, if_pos hxo]
                 · rw [el1]
                 · rw [er1, addR, if_pos hxo])
            | (have hE8 := add_new (l := l) (x := ⟨xl, xo, xh, xn, (xk : Int)⟩) hnew
               have hEE : addE t w l (some ⟨xl, xo, xh, xn, (xk : Int)⟩) = 12 := addE_12 hE8 hxo h83
               refine ⟨g, rfl, ?_, fun x hx he => ?_⟩
               · rw [hy, hEE]; rfl
               · rw [hy] at hx; injection hx with hx; subst hx; rw [hEE] at he; cases he)
            | (have hE8 := add_new (l := l) (x := ⟨xl, xo, xh, xn, (xk : Int)⟩) hnew
               have hoo := op_of (t := t) hye hyn
               have hEE : addE t w l (some ⟨xl, xo, xh, xn, (xk : Int)⟩) = 9 := addE_9 hE8 hxo h83 hoo h90
               refine ⟨g, rfl, ?_, fun x hx he => ?_⟩
               · rw [hy, hEE]; rfl
               · rw [hy] at hx; injection hx with hx; subst hx; rw [hEE] at he; cases he)
            | (have hE8 := add_new (l := l) (x := ⟨xl, xo, xh, xn, (xk : Int)⟩) hnew
               have hoo := op_of (t := t) hye hyn
               have hEE : addE t w l (some ⟨xl, xo, xh, xn, (xk : Int)⟩) = 6 := addE_6 hE8 hxo h83 hoo h90 h99
               refine ⟨g, rfl, ?_, fun x hx he => ?_⟩
               · rw [hy, hEE]; rfl
               · rw [hy] at hx; injection hx with hx; subst hx; rw [hEE] at he; cases he)
            | (have hE8 := add_new (l := l) (x := ⟨xl, xo, xh, xn, (xk : Int)⟩) hnew
               have hoo := op_of (t := t) hye hyn
               have hcc := code_of (t := t) (w := w) (r := r) (i := num) (x := ⟨xl, xo, xh, xn, (xk : Int)⟩) hye h83 hxo
               have hEE : addE t w l (some ⟨xl, xo, xh, xn, (xk : Int)⟩) = if t.cells < ((addW t w ⟨xl, xo, xh, xn, (xk : Int)⟩).length : Int) then 14 else 0 := addE_0 hE8 hxo h83 hoo h90 h99
               rw [ew1, er1, hcc.1] at hem
               rw [hcc.2] at hem
               refine ⟨g', rfl, ?_, fun x hx he => ?_⟩
               · rw [hy, hEE]
                 rcases hem with ⟨rfl, h14⟩ | ⟨rfl, h0, _⟩
                 · rw [if_pos h14]; rfl
                 · rw [if_neg (by omega)]; rfl
               · rw [hy] at hx; injection hx with hx; subst hx; rw [hEE] at he
                 rcases hem with ⟨rfl, h14⟩ | ⟨rfl, h0, q1, q2, q3, _, q5⟩
                 · rw [if_pos h14] at he; cases he
                 · exact ⟨q1, q2, by rw [q3, el1], q5⟩)
end Go.Proofs.YteomcjpigoaioaaGreatDoor
namespace Go.Proofs.YteomcjpigoaioaaGreatDoor
open Go Go.FL Go.RowKit
def asmF (t : Tab) : Nat → List Int → List (List UInt8 × Int) → List (Int × Nat × List UInt8 × Int) → List (List UInt8) → (Int × Int) ⊕ (List Int × List (List UInt8 × Int) × List (Int × Nat × List UInt8 × Int))
  | _, w, l, r, [] => .inr (w, l, r)
  | i, w, l, r, tx :: rest => match lineL tx with
    | none => .inl (1, (i : Int))
    | some x => if addE t w l (some x) ≠ 0 then .inl (addE t w l (some x), (i : Int)) else asmF t (i + 1) (addW t w x) (addL w l x) (addR t w r (i : Int) x) rest
def refF (l : List (List UInt8 × Int)) : List (Int × Nat × List UInt8 × Int) → List Int → (Int × Int) ⊕ List Int
  | [], w => .inr w
  | x :: rest, w => match labAt l x.2.2.1 with
    | none => .inl (27, x.1)
    | some a => refF l rest (w.set x.2.1 (w32 (w.getD x.2.1 0 + a)))
def asmR (t : Tab) (tx : List UInt8) : (Int × Int) ⊕ (List Int × List (List UInt8 × Int)) :=
  if (tabFault t).1 ≠ 0 then .inl (tabFault t) else if 400000 < tx.length then .inl (3, -2)
  else match asmF t 0 [] [] [] (splitB 10 tx) with
    | .inl f => .inl f
    | .inr x => match refF x.2.1 x.2.2 x.1 with
      | .inl f => .inl f
      | .inr w => .inr (w, x.2.1)
theorem asmF_none {t : Tab} {i : Nat} {w : List Int} {l : List (List UInt8 × Int)} {r : List (Int × Nat × List UInt8 × Int)} {tx : List UInt8} {rest : List (List UInt8)} (h : addE t w l (lineL tx) ≠ 0) : asmF t i w l r (tx :: rest) = .inl (addE t w l (lineL tx), (i : Int)) := by
  simp only [asmF]
  cases hx : lineL tx with
  | none => rfl
  | some x => rw [hx] at h; simp only [ne_eq, h, not_false_eq_true, if_true]
theorem asmF_some {t : Tab} {i : Nat} {w : List Int} {l : List (List UInt8 × Int)} {r : List (Int × Nat × List UInt8 × Int)} {tx : List UInt8} {rest : List (List UInt8)} {x : Ln} (hx : lineL tx = some x) (h : addE t w l (some x) = 0) : asmF t i w l r (tx :: rest) = asmF t (i + 1) (addW t w x) (addL w l x) (addR t w r (i : Int) x) rest := by
  simp only [asmF, hx, h, ne_eq, not_true_eq_false, if_false]
theorem line_some {t : Tab} {w : List Int} {l : List (List UInt8 × Int)} {tx : List UInt8} (h : addE t w l (lineL tx) = 0) : ∃ x, lineL tx = some x ∧ addE t w l (some x) = 0 := by
  cases hx : lineL tx with
  | none => rw [hx] at h; cases h
  | some x => rw [hx] at h; exact ⟨x, rfl, h⟩
theorem addE_fit {t : Tab} {w : List Int} {l : List (List UInt8 × Int)} {x : Ln} (hw : (w.length : Int) ≤ t.cells) (h : addE t w l (some x) = 0) : ((addW t w x).length : Int) ≤ t.cells := by
  simp only [addE] at h
  split at h
  · cases h
  split at h
  · rename_i ho; rw [addW, if_pos ho]; exact hw
  split at h
  · cases h
  split at h
  · cases h
  split at h
  · cases h
  split at h
  · cases h
  · omega
theorem emitW_len (w : List Int) (x : Ln) (c : Int) (o : Bool) : w.length ≤ (emitW w x c o).length := by
  unfold emitW
  repeat' split
  all_goals (try simp only [List.length_append, List.length_cons, List.length_nil, List.length_replicate])
  all_goals omega
theorem emitR_lt {r : List (Int × Nat × List UInt8 × Int)} {w : List Int} {i : Int} {x : Ln} {c : Int} {o : Bool} (h : ∀ y ∈ r, y.2.1 < w.length) : ∀ y ∈ emitR r w i x c o, y.2.1 < (emitW w x c o).length := by
  have hl := emitW_len w x c o
  intro y hy
  unfold emitR at hy
  split at hy
  · exact Nat.lt_of_lt_of_le (h y hy) hl
  · rename_i hs
    split at hy
    · rename_i hh
      rcases List.mem_append.1 hy with h1 | h1
      · exact Nat.lt_of_lt_of_le (h y h1) hl
      · rw [List.mem_singleton.1 h1]
        simp only [emitW, hs, if_false, hh.1, if_true, List.length_append, List.length_cons, List.length_nil]
        omega
    · exact Nat.lt_of_lt_of_le (h y hy) hl
theorem addR_lt {t : Tab} {r : List (Int × Nat × List UInt8 × Int)} {w : List Int} {i : Int} {x : Ln} (h : ∀ y ∈ r, y.2.1 < w.length) : ∀ y ∈ addR t w r i x, y.2.1 < (addW t w x).length := by
  unfold addR addW
  split
  · exact h
  · exact emitR_lt h
theorem addL_len {w : List Int} {l : List (List UInt8 × Int)} {x : Ln} : (addL w l x).length ≤ l.length + 1 := by unfold addL; split <;> simp
theorem addR_len {t : Tab} {r : List (Int × Nat × List UInt8 × Int)} {w : List Int} {i : Int} {x : Ln} : (addR t w r i x).length ≤ r.length + 1 := by
  unfold addR emitR
  repeat' split
  all_goals simp
theorem HA_three (ba bm : Nat) (tc : Int) (A : Option Addr) (n c : Nat) (g : AG) (x y z : Nat × Obj) (L : Hl) : (HA ba bm tc A n c g (x :: y :: z :: L)).Perm (x :: y :: z :: HA ba bm tc A n c g L) :=
  (HA_one ..).trans (List.Perm.cons _ (HA_two ..))
theorem HA_app (ba bm : Nat) (tc : Int) (A : Option Addr) (n c : Nat) (g : AG) (L : Hl) : HA ba bm tc A n c g L = HA ba bm tc A n c g [] ++ L := by simp [HA]
def Labs (s : World) (A : Option Addr) (n c : Nat) (l : List (List UInt8 × Int)) : Prop := Sl 2 (fun _ x cs => cs = [St x.1, .int .u32 x.2] ∧ U32 x.2) s A n c l
theorem Labs.le {D : Nat} {s s' : World} {A : Option Addr} {n c : Nat} {l : List (List UInt8 × Int)} (h : Labs s A n c l) (hl : Le D s s') : Labs s' A n c l := Sl.le (fun _ _ h => h) h hl
def Refs (s : World) (A : Option Addr) (n c : Nat) (l : List (Int × Nat × List UInt8 × Int)) : Prop := Sl 4 (fun _ x cs => cs = [Value.int .i64 x.1, Value.int .i64 (x.2.1 : Int), St x.2.2.1, Value.int .u32 x.2.2.2]) s A n c l
theorem Refs.le {D : Nat} {s s' : World} {A : Option Addr} {n c : Nat} {l : List (Int × Nat × List UInt8 × Int)} (h : Refs s A n c l) (hl : Le D s s') : Refs s' A n c l := Sl.le (fun _ _ h => h) h hl
theorem all2_map {α β : Type} {R : α → β → Prop} (f : α → β) (l : List α) (h : ∀ x ∈ l, R x (f x)) : All2 R l (l.map f) := by
  induction l with
  | nil => exact All2.nil
  | cons x l ih => exact All2.cons (h x (List.mem_cons_self ..)) (ih fun y hy => h y (List.mem_cons_of_mem _ hy))
theorem Own.labs {e : Nat} {A : Hl} {Ad : Option Addr} {n c : Nat} {l : List (List UInt8 × Int)} {s : World} (h : Own e 2 A (.slice Ad n c) n (lbv l)) (hu : ∀ x ∈ l, U32 x.2) (hp : Pub A s) (hn : n = l.length) : Labs s Ad n c l :=
  Own.rows (R := fun _ (x : List UInt8 × Int) cs => cs = [St x.1, .int .u32 x.2] ∧ U32 x.2) h hp (all2_map (fun (x : List UInt8 × Int) => [St x.1, Value.int .u32 x.2]) l fun x hx => ⟨rfl, rfl, hu x hx⟩) hn
theorem Own.refs {e : Nat} {A : Hl} {Ad : Option Addr} {n c : Nat} {l : List (Int × Nat × List UInt8 × Int)} {s : World} (h : Own e 4 A (.slice Ad n c) n (rfv l)) (hp : Pub A s) (hn : n = l.length) : Refs s Ad n c l :=
  Own.rows (R := fun _ (x : Int × Nat × List UInt8 × Int) cs => cs = [Value.int .i64 x.1, Value.int .i64 (x.2.1 : Int), St x.2.2.1, Value.int .u32 x.2.2.2]) h hp (all2_map (fun (x : Int × Nat × List UInt8 × Int) => [Value.int .i64 x.1, Value.int .i64 (x.2.1 : Int), St x.2.2.1, Value.int .u32 x.2.2.2]) l fun x hx => ⟨rfl, rfl⟩) hn
theorem Refs.at_ {s : World} {A : Option Addr} {n c k : Nat} {l : List (Int × Nat × List UInt8 × Int)} (h : Refs s A n c l) (hk : k < n) : ∃ b off x, A = some ⟨b, off, none⟩ ∧ l[k]? = some x ∧ CellsAt s b (off + k * 4) [Value.int .i64 x.1, Value.int .i64 (x.2.1 : Int), St x.2.2.1, Value.int .u32 x.2.2.2] := by
  have hx : k < l.length := by rw [← h.1]; exact hk
  obtain ⟨b, off, cs, h1, h2, h3, h4⟩ := h.2.2.2 k l[k] (List.getElem?_eq_getElem hx)
  exact ⟨b, off, l[k], h1, List.getElem?_eq_getElem hx, by rw [← h4]; exact h2⟩
theorem Labs.at_ {s : World} {A : Option Addr} {n c k : Nat} {l : List (List UInt8 × Int)} (h : Labs s A n c l) (hk : k < n) : ∃ b off x, A = some ⟨b, off, none⟩ ∧ l[k]? = some x ∧ CellsAt s b (off + k * 2) [St x.1, Value.int .u32 x.2] ∧ U32 x.2 := by
  have hx : k < l.length := by rw [← h.1]; exact hk
  obtain ⟨b, off, cs, h1, h2, h3, h4, h5⟩ := h.2.2.2 k l[k] (List.getElem?_eq_getElem hx)
  exact ⟨b, off, l[k], h1, List.getElem?_eq_getElem hx, by rw [← h4]; exact h2, h5⟩
theorem own_blk {e : Nat} {M : Hl} {Ad : Option Addr} {n c : Nat} {xs : List Value} (h : Own e 1 M (.slice Ad n c) n xs) (hn : 0 < n) : ∃ b ys, Ad = some ⟨b, 0, none⟩ ∧ M = [(b, cb (xs ++ ys) e)] ∧ xs.length = n ∧ xs.length + ys.length = c ∧ n ≤ c ∧ c ≤ 9223372036854775807 := by
  cases h with
  | nil => omega
  | blk b cap _ _ ys h1 h2 h3 h4 => exact ⟨b, ys, rfl, rfl, by simpa using h1, by simpa using h2, h3, h4⟩
theorem own_back {e b c n : Nat} {xs ys : List Value} (h1 : xs.length = n) (h2 : xs.length + ys.length = c) (h3 : n ≤ c) (h4 : c ≤ 9223372036854775807) : Own e 1 [(b, cb (xs ++ ys) e)] (.slice (some ⟨b, 0, none⟩) n c) n xs :=
  .blk b c n xs ys (by simpa using h1) (by simpa using h2) h3 h4
theorem refF_hit {l : List (List UInt8 × Int)} {r : List (Int × Nat × List UInt8 × Int)} {w : List Int} {k : Nat} {x : Int × Nat × List UInt8 × Int} {a : Int} (hx : r[k]? = some x) (ha : labAt l x.2.2.1 = some a) : refF l (r.drop k) w = refF l (r.drop (k + 1)) (w.set x.2.1 (w32 (w.getD x.2.1 0 + a))) := by
  obtain ⟨hk, rfl⟩ := List.getElem?_eq_some_iff.1 hx
  rw [List.drop_eq_getElem_cons hk, refF, ha]
theorem refF_miss {l : List (List UInt8 × Int)} {r : List (Int × Nat × List UInt8 × Int)} {w : List Int} {k : Nat} {x : Int × Nat × List UInt8 × Int} (hx : r[k]? = some x) (ha : labAt l x.2.2.1 = none) : refF l (r.drop k) w = .inl (27, x.1) := by
  obtain ⟨hk, rfl⟩ := List.getElem?_eq_some_iff.1 hx
  rw [List.drop_eq_getElem_cons hk, refF, ha]
theorem setU {w : List Int} (h : ∀ x ∈ w, U32 x) (p : Nat) (v : Int) (hv : U32 v) : ∀ x ∈ w.set p v, U32 x := fun x hx => by
  rcases List.mem_or_eq_of_mem_set hx with h1 | h1
  · exact h x h1
  · rw [h1]; exact hv
theorem nth_wvp {l : List Int} {y : List Value} {p : Nat} (h : p < l.length) : nth (wv l ++ y) (0 + p) = some (.int .u32 (l.getD p 0)) := by
  have := nth_wv0 (l := l) (y := y) (i := (p : Int)) (by omega) (by omega); simpa using this
theorem spl_wvp {l : List Int} {y : List Value} {p : Nat} (v : Int) (h : p < l.length) : splice (wv l ++ y) (0 + p) [.int .u32 v] = wv (l.set p v) ++ y := by
  have := spl_wv0 (l := l) (y := y) (i := (p : Int)) v (by omega) (by omega); simpa using this
theorem ble_wvp {l : List Int} {y : List Value} {p : Nat} (h : p < l.length) : Nat.ble (0 + p + 1) (wv l ++ y).length = true := by
  have := ble_wv0 (l := l) (y := y) (i := (p : Int)) (by omega) (by omega); simpa using this
end Go.Proofs.YteomcjpigoaioaaGreatDoor
