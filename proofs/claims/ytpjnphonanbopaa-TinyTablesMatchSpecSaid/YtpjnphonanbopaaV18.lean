/- The reference: the text of the default table. -/
import Derived.Test.YtpjnphonanbopaaV16
import Derived.Test.YtpjnphonanbopaaDv
namespace Go.Proofs.Ytpjnphonanbopaa
open Go.FL
attribute [local irreducible] JC JO JA JB thenQ blockQ retQ AC fill CellsAt QE Ev Mid

theorem flat_snoc2 (css : List (List Value)) (cs : List Value) : (css ++ [cs]).flatten = css.flatten ++ cs := by simp

set_option maxHeartbeats 1000000 in
set_option maxRecDepth 100000 in
theorem find7_ac (D : Nat) (L : Hl) (s : World) (l : List UInt8) (c : Int) (hl : l.length ≤ 9223372036854775807) : AC Try.prog D 69 [St l, .int .u8 c] L s fun v L' _ => v = .int .i64 (findB l c) ∧ L = L' := by
 refine AC_enter (TT := TT) (fn := Try.f69) TT_ok Try.func69 (by kernel_rfl) rfl Try.ntmps69 rfl (rs := [.tmp 4]) rfl [(0, _), (1, _)] rfl ?_
 refine JC_seq ?_
 refine JC_region ?_
 refine JO_q (QE_as rfl) rfl ?_
 refine JO_nil ?_
 refine thenQ_n ?_
 refine JC_seq ?_
 refine JC_seq ?_
 refine JC_region ?_
 refine JO_q (QE_as rfl) rfl ?_
 refine JO_nil ?_
 refine thenQ_n ?_
 refine JC_block ?_
 refine JC_loop (γ := Nat) (fun k => [(0, _), (1, _), (4, _), (5, .int .i64 (k : Int))]) (fun _ => _) (fun k tw => Le D s tw ∧ (k ≤ l.length ∧ ∀ i x, i < k → l[i]? = some x → decide ((x.toNat : Int) = c) = false)) (fun k => l.length - k) (fun _ _ _ h hl => ⟨h.1.trans hl, h.2⟩) 0 (Keeps.cons rfl (Keeps.cons rfl (Keeps.cons rfl (Keeps.cons rfl (Keeps.nil _))))) rfl ⟨Le.refl _, ⟨Nat.zero_le _, fun i c hi => by omega⟩⟩ ?_
 intro k s1 I1
 have hk0 := I1.2.1
 have hI := I1.2.2
 refine JC_seq ?_
 refine JC_seq ?_
 refine JC_region ?_
 refine JO_q (QE_mv rfl) rfl ?_
 refine JO_q (QE_mv rfl) rfl ?_
 refine JO_q (QE_lenT rfl rfl rfl) rfl ?_
 refine JO_q (QE_lt rfl rfl) rfl ?_
 refine JO_nil ?_
 refine thenQ_n ?_
 refine JC_ifD rfl (fun c2 => ?_) (fun c2 => ?_)
 ·
  have hk : k < l.length := by omega
  obtain ⟨ch, hch⟩ : ∃ ch, l[k]? = some ch := ⟨_, List.getElem?_eq_getElem hk⟩
  refine JC_skip ?_
  refine thenQ_n ?_
  refine JC_seq ?_
  refine JC_block ?_
  refine JC_seq ?_
  refine JC_region ?_
  refine JO_q (QE_mv rfl) rfl ?_
  refine JO_q (QE_mv rfl) rfl ?_
  refine JO_q (QE_ix rfl rfl rfl rfl hch) rfl ?_
  refine JO_q (QE_mv rfl) rfl ?_
  refine JO_q (QE_eq rfl rfl) rfl ?_
  refine JO_nil ?_
  refine thenQ_n ?_
  refine JC_ifD rfl (fun c3 => ?_) (fun c3 => ?_)
  ·
   have hne := c3
   refine JC_seq ?_
   refine JC_region ?_
   refine JO_q (QE_mv rfl) rfl ?_
   refine JO_q (QE_as rfl) rfl ?_
   refine JO_nil ?_
   refine thenQ_n ?_
   refine JC_ret ?_
   refine blockQ_r ?_
   refine thenQ_r ?_
   refine thenQ_r ?_
   refine blockQ_r ?_
   refine thenQ_r ?_
   refine retQ_mk [] L (.inr rfl) (.tmp rfl (.nil)) rfl I1.1 (fun sR hS2 => ?_)
   refine ⟨?_, rfl⟩
   simp [resV, findB, idxOf_hit hI hch (decide_eq_true hne)]; done
  ·
   have hne := c3
   refine JC_skip ?_
   refine blockQ_n ?_
   refine thenQ_n ?_
   refine JC_region ?_
   refine JO_q (QE_mv rfl) rfl ?_
   refine JO_q (QE_add' rfl rfl (w64 (by omega) (by omega))) rfl ?_
   refine JO_q (QE_as rfl) rfl ?_
   refine JO_nil ?_
   refine thenQ_n ⟨(k + 1), [], (Keeps.cons rfl (Keeps.cons rfl (Keeps.cons rfl (Keeps.cons rfl (Keeps.nil _))))), rfl, ⟨I1.1, ⟨by omega, below_succ hI hch (decide_eq_false hne)⟩⟩, (by omega)⟩
 ·
  refine JC_exit ?_
  refine thenQ_x ?_
  refine thenQ_x ?_
  refine blockQ_x ?_
  refine thenQ_n ?_
  refine JC_seq ?_
  refine JC_region ?_
  refine JO_q (QE_as rfl) rfl ?_
  refine JO_nil ?_
  refine thenQ_n ?_
  refine JC_ret ?_
  refine retQ_mk [] L (.inr rfl) (.tmp rfl (.nil)) rfl I1.1 (fun sR hS2 => ?_)
  refine ⟨?_, rfl⟩
  simp [resV, findB, idxOf_none (fun i a hi h => hI i a (by omega) h)]; done

set_option maxHeartbeats 2000000 in
set_option maxRecDepth 100000 in
theorem splitO_ac (D : Nat) (L : Hl) (s : World) (l : List UInt8) (c : Int) (hl : l.length ≤ 1000000000) : AC Try.prog D 54 [St l, .int .u8 c] L s fun v L' s' => ∃ M', L' = M' ++ L ∧ ∀ s2, Le D s' s2 → Pub M' s2 → ∃ A n c', v = .slice A n c' ∧ Strs s2 A n c' (splitB c l) := by
 refine AC_enter (TT := TT) (fn := Try.f54) TT_ok Try.func54 (by kernel_rfl) rfl Try.ntmps54 rfl (rs := [.tmp 4]) rfl [(0, _), (1, _)] rfl ?_
 refine JC_seq ?_
 refine JC_region ?_
 refine JO_q (QE_as rfl) rfl ?_
 refine JO_nil ?_
 refine thenQ_n ?_
 refine JC_seq ?_
 refine JC_region ?_
 refine JO_q (QE_as rfl) rfl ?_
 refine JO_nil ?_
 refine thenQ_n ?_
 refine JC_seq ?_
 refine JC_region ?_
 refine JO_q (QE_as rfl) rfl ?_
 refine JO_nil ?_
 refine thenQ_n ?_
 refine JC_seq ?_
 refine JC_seq ?_
 refine JC_region ?_
 refine JO_q (QE_as rfl) rfl ?_
 refine JO_nil ?_
 refine thenQ_n ?_
 refine JC_block ?_
 refine JC_loop (γ := Nat × Nat × Value × Hl × List (List UInt8)) (fun g => [(0, _), (1, _), (4, _), (5, g.2.2.1), (6, .int .i64 (g.2.1 : Int)), (7, .int .i64 (g.1 : Int))]) (fun g => g.2.2.2.1 ++ L) (fun g tw => Le D s tw ∧ (g.1 ≤ l.length ∧ g.2.1 ≤ g.1 ∧ Own 9 1 g.2.2.2.1 g.2.2.1 g.2.2.2.2.length (sb g.2.2.2.2) ∧ g.2.2.2.2.length ≤ g.1 ∧ splitB c l = g.2.2.2.2 ++ splitF c ((l.drop g.2.1).take (g.1 - g.2.1)) (l.drop g.1))) (fun g => l.length - g.1) (fun _ _ _ h hl => ⟨h.1.trans hl, h.2⟩) (0, 0, .slice none 0 0, [], []) (Keeps.cons rfl (Keeps.cons rfl (Keeps.cons rfl (Keeps.cons rfl (Keeps.cons rfl (Keeps.cons rfl (Keeps.nil _))))))) rfl ⟨Le.refl _, ⟨Nat.zero_le _, Nat.le_refl _, Own.nil, Nat.le_refl _, by simp [splitB]⟩⟩ ?_
 intro g s1 I1
 obtain ⟨i, f, vo, Mo, out⟩ := g
 obtain ⟨hi0, hf, hO, hol, hS⟩ := I1.2
 simp only at hi0 hf hO hol hS
 dsimp only
 refine JC_seq ?_
 refine JC_seq ?_
 refine JC_region ?_
 refine JO_q (QE_mv rfl) rfl ?_
 refine JO_q (QE_mv rfl) rfl ?_
 refine JO_q (QE_lenT rfl rfl rfl) rfl ?_
 refine JO_q (QE_lt rfl rfl) rfl ?_
 refine JO_nil ?_
 refine thenQ_n ?_
 refine JC_ifD rfl (fun c2 => ?_) (fun c2 => ?_)
 ·
  have hk : i < l.length := by omega
  obtain ⟨ch, hch⟩ : ∃ ch, l[i]? = some ch := ⟨_, List.getElem?_eq_getElem hk⟩
  refine JC_skip ?_
  refine thenQ_n ?_
  refine JC_seq ?_
  refine JC_block ?_
  refine JC_seq ?_
  refine JC_region ?_
  refine JO_q (QE_mv rfl) rfl ?_
  refine JO_q (QE_mv rfl) rfl ?_
  refine JO_q (QE_ix rfl rfl rfl rfl hch) rfl ?_
  refine JO_q (QE_mv rfl) rfl ?_
  refine JO_q (QE_eq rfl rfl) rfl ?_
  refine JO_nil ?_
  refine thenQ_n ?_
  refine JC_ifD rfl (fun c3 => ?_) (fun c3 => ?_)
  ·
   have hne := c3
   refine JC_seq ?_
   refine JC_region ?_
   refine JO_q (QE_mv rfl) rfl ?_
   refine JO_q (QE_mv rfl) rfl ?_
   refine JO_q (QE_mv rfl) rfl ?_
   refine JO_q (QE_mv rfl) rfl ?_
   refine JO_q (QE_stLH rfl rfl rfl rfl rfl (by omega) (by omega)) rfl ?_
   refine JO_bs [(_, _)] [_] rfl rfl rfl rfl rfl rfl rfl rfl rfl ?_
   intro βn s4 h4 hcb
   refine JO_app (sz := 1) [] Mo L rfl rfl rfl rfl rfl rfl rfl hO (Row.of_cells (hcb.le (Le.refl (D := D) _)) rfl rfl) ⟨by simp [ti9]; omega, by omega⟩ rfl ?_
   intro v2 A2x s5 h5 o2
   obtain ⟨Av2, cv2, rfl, _, _⟩ := Own.slice o2
   simp only [List.nil_append]
   refine JO_q (QE_as rfl) rfl ?_
   refine JO_nil ?_
   refine thenQ_n ?_
   refine JC_region ?_
   refine JO_q (QE_mv rfl) rfl ?_
   refine JO_q (QE_add' rfl rfl (w64 (by omega) (by omega))) rfl ?_
   refine JO_q (QE_as rfl) rfl ?_
   refine JO_nil ?_
   refine blockQ_n ?_
   refine thenQ_n ?_
   refine JC_region ?_
   refine JO_q (QE_mv rfl) rfl ?_
   refine JO_q (QE_add' rfl rfl (w64 (by omega) (by omega))) rfl ?_
   refine JO_q (QE_as rfl) rfl ?_
   refine JO_nil ?_
   refine thenQ_n ⟨(i + 1, i + 1, .slice Av2 (out.length + 1) cv2, A2x, out ++ [(l.drop f).take (i - f)]), [], (Keeps.cons rfl (Keeps.cons rfl (Keeps.cons rfl (Keeps.cons rfl (Keeps.cons rfl (Keeps.cons rfl (Keeps.nil _))))))), rfl, ⟨(Le.trans (Le.trans I1.1 h4) h5), by first | exact ⟨by simp only; omega, by simp only; omega, by simp only [List.length_append, List.length_cons, List.length_nil, sb_snoc]; exact o2, by simp; omega, by simp only; rw [hS, split_hit hch hne, List.append_assoc]; rfl⟩ | exact ⟨by simp only; omega, by simp only; omega, hO, by simp only; omega, by simp only; rw [hS, split_miss hch hne hf]⟩⟩, (by simp only; omega)⟩
  ·
   have hne := c3
   refine JC_skip ?_
   refine blockQ_n ?_
   refine thenQ_n ?_
   refine JC_region ?_
   refine JO_q (QE_mv rfl) rfl ?_
   refine JO_q (QE_add' rfl rfl (w64 (by omega) (by omega))) rfl ?_
   refine JO_q (QE_as rfl) rfl ?_
   refine JO_nil ?_
   refine thenQ_n ⟨(i + 1, f, vo, Mo, out), [], (Keeps.cons rfl (Keeps.cons rfl (Keeps.cons rfl (Keeps.cons rfl (Keeps.cons rfl (Keeps.cons rfl (Keeps.nil _))))))), rfl, ⟨I1.1, by first | exact ⟨by simp only; omega, by simp only; omega, by simp only [List.length_append, List.length_cons, List.length_nil, sb_snoc]; exact o2, by simp; omega, by simp only; rw [hS, split_hit hch hne, List.append_assoc]; rfl⟩ | exact ⟨by simp only; omega, by simp only; omega, hO, by simp only; omega, by simp only; rw [hS, split_miss hch hne hf]⟩⟩, (by simp only; omega)⟩
 ·
  have hiE : i = l.length := by omega
  subst hiE
  rw [split_end] at hS
  refine JC_exit ?_
  refine thenQ_x ?_
  refine thenQ_x ?_
  refine blockQ_x ?_
  refine thenQ_n ?_
  refine JC_seq ?_
  refine JC_region ?_
  refine JO_q (QE_mv rfl) rfl ?_
  refine JO_q (QE_mv rfl) rfl ?_
  refine JO_q (QE_mv rfl) rfl ?_
  refine JO_q (QE_stL rfl rfl rfl rfl (by omega)) rfl ?_
  refine JO_bs [(_, _)] [_] rfl rfl rfl rfl rfl rfl rfl rfl rfl ?_
  intro βn s6 h6 hcb
  refine JO_app (sz := 1) [] Mo L rfl rfl rfl rfl rfl rfl rfl hO (Row.of_cells (hcb.le (Le.refl (D := D) _)) rfl rfl) ⟨by simp [ti9]; omega, by omega⟩ rfl ?_
  intro v2 A2x s7 h7 o2
  obtain ⟨Av2, cv2, rfl, _, _⟩ := Own.slice o2
  simp only [List.nil_append]
  refine JO_q (QE_as rfl) rfl ?_
  refine JO_nil ?_
  refine thenQ_n ?_
  refine JC_ret ?_
  refine retQ_mk [] _ (.inr rfl) (.tmp rfl (.nil)) rfl (Le.trans (Le.trans I1.1 h6) h7) (fun sR hS2 => ?_)
  refine ⟨_, rfl, fun s2 hs2 hp => ⟨_, _, _, rfl, ?_⟩⟩
  rw [hS]
  exact Own.strs (by rw [sb_snoc]; exact o2) (fun x hx => by rw [← hS] at hx; have := splitF_short c [] l x hx; simp at this; omega) hp (by simp)

theorem split_ac (D : Nat) (L : Hl) (s : World) (l : List UInt8) (c : Int) (hl : l.length ≤ 1000000000) : AC Try.prog D 54 [St l, .int .u8 c] L s fun v L' s' => L = L' ∧ ∃ A n c', v = .slice A n c' ∧ Strs s' A n c' (splitB c l) := AC.pubW (splitO_ac D L s l c hl)
theorem num_step (n : Int) (c : UInt8) : Value.int .u32 (IntKind.u32.wrap (IntKind.u32.wrap (10 * n) + IntKind.u32.wrap (IntKind.u8.wrap ((c.toNat : Int) - 48)))) = .int .u32 (w32 (w32 (10 * n) + ((c.toNat : Int) - 48) % 256)) := by
  rw [IntKind.wrap_u32, IntKind.wrap_u32, IntKind.wrap_u32, IntKind.wrap_u8]; congr 1; unfold w32; omega
theorem num_at {r : List UInt8} {k : Nat} {c : UInt8} (h : r[k]? = some c) (n : Int) : numF n (r.drop k) = numF (w32 (w32 (10 * n) + ((c.toNat : Int) - 48) % 256)) (r.drop (k + 1)) := by
  obtain ⟨hk, rfl⟩ := List.getElem?_eq_some_iff.1 h
  rw [List.drop_eq_getElem_cons hk]; rfl
theorem head35 (c : UInt8) (r : List UInt8) : ((c :: r).head? = some 35) ↔ (c.toNat : Int) = 35 := by
  simp only [List.head?_cons, Option.some.injEq]
  constructor
  · rintro rfl; rfl
  · intro h; apply UInt8.toNat_inj.1; have : (35 : UInt8).toNat = 35 := rfl; omega
theorem Strs.get {s : World} {b off n c k : Nat} {l : List (List UInt8)} {x : List UInt8} (h : Strs s (some ⟨b, off, none⟩) n c l) (hk : l[k]? = some x) : k < n ∧ CellsAt s b (off + k) [St x] ∧ x.length ≤ 9223372036854775807 := by
  obtain ⟨b', off', cs, h1, h2, _, rfl, h4⟩ := h.2.2.2 k x hk
  injection h1 with h1; injection h1 with e1 e2; subst e1; subst e2
  exact ⟨by rw [h.1]; exact (List.getElem?_eq_some_iff.1 hk).1, by simpa using h2, h4⟩
section
variable (D : Nat) (L : Hl) (s : World) (k : Int)
theorem hasT_ac : AC Try.prog D 63 [St (needsS k), .int .u8 116] L s fun v L' _ => v = .bool (usesT k) ∧ L = L' := by have h := has_ac D L s (needsS k) 116 (needs_len k); rw [needs_t] at h; exact h
theorem hasX_ac : AC Try.prog D 63 [St (needsS k), .int .u8 120] L s fun v L' _ => v = .bool (usesX k) ∧ L = L' := by have h := has_ac D L s (needsS k) 120 (needs_len k); rw [needs_x] at h; exact h
theorem hasY_ac : AC Try.prog D 63 [St (needsS k), .int .u8 121] L s fun v L' _ => v = .bool (usesY k) ∧ L = L' := by have h := has_ac D L s (needsS k) 121 (needs_len k); rw [needs_y] at h; exact h
end

set_option maxHeartbeats 1000000 in
set_option maxRecDepth 100000 in
theorem termOf_ac (D : Nat) (L : Hl) (s : World) (l : List UInt8) (h0 : l ≠ []) (hl : l.length ≤ 1000000000) : AC Try.prog D 70 [St l] L s fun v L' _ => v = .agg #[.int .i64 (termL l).kind, .int .u32 (termL l).val] ∧ L = L' := by
 obtain ⟨c0, r, rfl⟩ := List.exists_cons_of_ne_nil h0
 have hl1 : r.length + 1 ≤ 1000000000 := hl
 refine AC_enter (TT := TT) (fn := Try.f70) TT_ok Try.func70 (by kernel_rfl) rfl Try.ntmps70 rfl (rs := [.cell 2 84]) rfl [(0, _)] rfl ?_
 refine JC_seq ?_
 refine JC_region ?_
 refine JO_allocZ rfl [_, _] rfl rfl ?_
 intro β1 s1 h1
 refine JO_nil ?_
 refine thenQ_n ?_
 refine JC_seq ?_
 refine JC_seq ?_
 refine JC_region ?_
 refine JO_q (QE_mv rfl) rfl ?_
 refine JO_q (QE_seq rfl rfl) rfl ?_
 refine JO_nil ?_
 refine thenQ_n ?_
 refine JC_ifD rfl (fun c2 => ?_) (fun c2 => ?_)
 ·
  have hN0 := c2
  refine JC_seq ?_
  refine JC_region ?_
  refine JO_q (QE_build [(_, _)] [_, _] rfl rfl rfl rfl rfl rfl) rfl ?_
  refine JO_st 0 [_, _] rfl rfl rfl rfl rfl rfl rfl rfl rfl ?_
  refine JO_nil ?_
  refine thenQ_n ?_
  refine JC_ret ?_
  refine thenQ_r ?_
  refine retQ_mk [_] L (.inr rfl) (.agg (us := [_, _]) 0 rfl rfl rfl rfl rfl (.nil)) rfl h1 (fun sR hS2 => ?_)
  refine ⟨?_, rfl⟩
  simp [resV, termL, hN0]; done
 ·
  have hN0 := c2
  refine JC_skip ?_
  refine thenQ_n ?_
  refine JC_seq ?_
  refine JC_seq ?_
  refine JC_region ?_
  refine JO_q (QE_mv rfl) rfl ?_
  refine JO_q (QE_ix (j := 0) rfl rfl rfl rfl rfl) rfl ?_
  refine JO_q (QE_eq rfl rfl) rfl ?_
  refine JO_nil ?_
  refine thenQ_n ?_
  refine JC_ifD rfl (fun c3 => ?_) (fun c3 => ?_)
  ·
   have h35 := c3
   refine JC_seq ?_
   refine JC_region ?_
   refine JO_q (QE_as rfl) rfl ?_
   refine JO_nil ?_
   refine thenQ_n ?_
   refine JC_seq ?_
   refine JC_seq ?_
   refine JC_region ?_
   refine JO_q (QE_as rfl) rfl ?_
   refine JO_nil ?_
   refine thenQ_n ?_
   refine JC_block ?_
   refine JC_loop (γ := Nat × Int) (fun g => [(0, _), (2, _), (3, .int .u32 g.2), (4, .int .i64 ((g.1 + 1 : Nat) : Int))]) (fun _ => _) (fun g tw => Le D s1 tw ∧ (g.1 ≤ r.length ∧ numF 0 r = numF g.2 (r.drop g.1))) (fun g => r.length - g.1) (fun _ _ _ h hl => ⟨h.1.trans hl, h.2⟩) (0, 0) (Keeps.cons rfl (Keeps.cons rfl (Keeps.cons rfl (Keeps.cons rfl (Keeps.nil _))))) rfl ⟨Le.refl _, ⟨Nat.zero_le _, by simp⟩⟩ ?_
   intro g s4 I4
   obtain ⟨k, n⟩ := g
   obtain ⟨hk0, hN⟩ := I4.2
   simp only at hk0 hN
   dsimp only
   refine JC_seq ?_
   refine JC_seq ?_
   refine JC_region ?_
   refine JO_q (QE_mv rfl) rfl ?_
   refine JO_q (QE_mv rfl) rfl ?_
   refine JO_q (QE_lenT rfl rfl rfl) rfl ?_
   refine JO_q (QE_lt rfl rfl) rfl ?_
   refine JO_nil ?_
   refine thenQ_n ?_
   refine JC_ifD rfl (fun c5 => ?_) (fun c5 => ?_)
   ·
    have hk : k < r.length := by simp at *; omega
    obtain ⟨ch, hch⟩ : ∃ ch, r[k]? = some ch := ⟨_, List.getElem?_eq_getElem hk⟩
    refine JC_skip ?_
    refine thenQ_n ?_
    refine JC_seq ?_
    refine JC_block ?_
    refine JC_region ?_
    refine JO_q (QE_mv rfl) rfl ?_
    refine JO_q (QE_mul rfl rfl) rfl ?_
    refine JO_q (QE_mv rfl) rfl ?_
    refine JO_q (QE_mv rfl) rfl ?_
    refine JO_q (QE_ix rfl rfl rfl rfl hch) rfl ?_
    refine JO_q (QE_sub rfl rfl) rfl ?_
    refine JO_q (QE_conv rfl rfl rfl rfl rfl) rfl ?_
    refine JO_q (QE_cast (QE_add rfl rfl) (num_step n ch)) rfl ?_
    refine JO_q (QE_as rfl) rfl ?_
    refine JO_nil ?_
    refine blockQ_n ?_
    refine thenQ_n ?_
    refine JC_region ?_
    refine JO_q (QE_mv rfl) rfl ?_
    refine JO_q (QE_add' rfl rfl (w64 (by omega) (by omega))) rfl ?_
    refine JO_q (QE_as rfl) rfl ?_
    refine JO_nil ?_
    refine thenQ_n ⟨(k + 1, w32 (w32 (10 * n) + ((ch.toNat : Int) - 48) % 256)), [], (Keeps.cons rfl (Keeps.cons rfl (Keeps.cons rfl (Keeps.cons rfl (Keeps.nil _))))), rfl, ⟨I4.1, ⟨by simp only; omega, by simp only; rw [hN, num_at hch]⟩⟩, (by simp only; omega)⟩
   ·
    have hkE : r.drop k = [] := List.drop_eq_nil_of_le (by simp at *; omega)
    rw [hkE] at hN
    refine JC_exit ?_
    refine thenQ_x ?_
    refine thenQ_x ?_
    refine blockQ_x ?_
    refine thenQ_n ?_
    refine JC_seq ?_
    refine JC_region ?_
    refine JO_q (QE_mv rfl) rfl ?_
    refine JO_q (QE_build [(_, _)] [_, _] rfl rfl rfl rfl rfl rfl) rfl ?_
    refine JO_st 0 [_, _] rfl rfl rfl rfl rfl rfl rfl rfl rfl ?_
    refine JO_nil ?_
    refine thenQ_n ?_
    refine JC_ret ?_
    refine thenQ_r ?_
    refine retQ_mk [_] L (.inr rfl) (.agg (us := [_, _]) 0 rfl rfl rfl rfl rfl (.nil)) rfl (Le.trans h1 I4.1) (fun sR hS2 => ?_)
    refine ⟨?_, rfl⟩
    simp only [resV, termL, if_neg hN0, if_pos ((head35 c0 r).2 h35)]
    show _ = Value.agg #[.int .i64 0, .int .u32 (numF 0 r)]
    rw [hN]; rfl
  ·
   have h35 := c3
   refine JC_skip ?_
   refine thenQ_n ?_
   refine JC_seq ?_
   refine JC_region ?_
   refine JO_q (QE_mv rfl) rfl ?_
   refine JO_q (QE_ix (j := 0) rfl rfl rfl rfl rfl) rfl ?_
   refine JO_call (first := []) (captured := []) rfl rfl rfl (find7_ac D _ _ abcdp _ (by decide)) ?_
   rintro _ _ s6 h6 ⟨rfl, rfl⟩
   refine JO_q (QE_conv rfl rfl rfl rfl rfl) rfl ?_
   refine JO_q (QE_build [(_, _), (_, _)] [_, _] rfl rfl rfl rfl rfl rfl) rfl ?_
   refine JO_st 0 [_, _] rfl rfl rfl rfl rfl rfl rfl rfl rfl ?_
   refine JO_nil ?_
   refine thenQ_n ?_
   refine JC_ret ?_
   refine retQ_mk [_] L (.inr rfl) (.agg (us := [_, _]) 0 rfl rfl rfl rfl rfl (.nil)) rfl (Le.trans h1 h6) (fun sR hS2 => ?_)
   refine ⟨?_, rfl⟩
   simp only [resV, termL, if_neg hN0, if_neg (fun e => h35 ((head35 c0 r).1 e)), wrapW]; rfl

set_option maxHeartbeats 4000000 in
set_option maxRecDepth 100000 in
theorem actionOf_ac (D : Nat) (L : Hl) (s : World) (l : List UInt8) (h : okAct l = true) (hl : l.length ≤ 1000000000) : AC Try.prog D 55 [St l] L s fun v L' _ => v = .agg (actL l).cs.toArray ∧ L = L' := by
 simp only [okAct, Bool.and_eq_true, decide_eq_true_eq, Bool.or_eq_true, Bool.not_eq_true'] at h
 obtain ⟨⟨⟨hne, hT⟩, hX⟩, hY⟩ := h
 obtain ⟨c0, r, rfl⟩ := List.exists_cons_of_ne_nil hne
 have hl1 : r.length + 1 ≤ 1000000000 := hl
 generalize hkd : kindL (c0 :: r) = kd at hT hX hY
 refine AC_enter (TT := TT) (fn := Try.f55) TT_ok Try.func55 (by kernel_rfl) rfl Try.ntmps55 rfl (rs := [.cell 2 86]) rfl [(0, _)] rfl ?_
 refine JC_seq ?_
 refine JC_region ?_
 refine JO_allocZ rfl [_, _, _, _, _, _] rfl rfl ?_
 intro β1 s1 h1
 refine JO_nil ?_
 refine thenQ_n ?_
 refine JC_seq ?_
 refine JC_region ?_
 refine JO_q (QE_mv rfl) rfl ?_
 refine JO_q (QE_ix (j := 0) rfl rfl rfl rfl rfl) rfl ?_
 refine JO_call (first := []) (captured := []) rfl rfl rfl (find7_ac D _ _ signsB _ (by decide)) ?_
 rintro _ _ s2 h2 ⟨rfl, rfl⟩
 rw [show findB signsB (c0.toNat : Int) = kd from hkd]
 refine JO_q (QE_build [(_, _)] [_, _, _, _, _, _] rfl rfl rfl rfl rfl rfl) rfl ?_
 refine JO_allocZ rfl [_, _, _, _, _, _] rfl rfl ?_
 intro β3 s3 h3
 refine JO_st 0 [_, _, _, _, _, _] rfl rfl rfl rfl rfl rfl rfl rfl rfl ?_
 refine JO_nil ?_
 refine thenQ_n ?_
 refine JC_seq ?_
 refine JC_region ?_
 refine JO_q (QE_fa0 rfl rfl rfl rfl) rfl ?_
 refine JO_q (QE_ld1 0 rfl rfl rfl rfl rfl) rfl ?_
 refine JO_call (first := []) (captured := []) rfl rfl rfl (needs_ac D _ _ _) ?_
 rintro _ _ s4 h4 ⟨rfl, rfl⟩
 refine JO_q (QE_as rfl) rfl ?_
 refine JO_nil ?_
 refine thenQ_n ?_
 refine JC_seq ?_
 refine JC_region ?_
 refine JO_q (QE_mv rfl) rfl ?_
 refine JO_q (QE_stL (a := 1) rfl rfl rfl rfl (by simp)) rfl ?_
 refine JO_call (first := []) (captured := []) rfl rfl rfl (split_ac D _ _ _ _ (show r.length ≤ 1000000000 by omega)) ?_
 rintro _ _ s5 h5 ⟨rfl, Ap, np, cp, rfl, hP⟩
 obtain ⟨bp, op, x0, rfl, _, _, _⟩ := Strs.at_ hP (show 0 < np by rw [hP.1]; exact splitF_pos _ _ _)
 refine JO_q (QE_as rfl) rfl ?_
 refine JO_nil ?_
 refine thenQ_n ?_
 refine JC_seq ?_
 refine JC_region ?_
 refine JO_q (QE_as rfl) rfl ?_
 refine JO_nil ?_
 refine thenQ_n ?_
 refine JC_seq ?_
 refine JC_seq ?_
 refine JC_region ?_
 refine JO_q (QE_mv rfl) rfl ?_
 refine JO_call (first := []) (captured := []) rfl rfl rfl (hasT_ac D _ _ _) ?_
 rintro _ _ s6 h6 ⟨rfl, rfl⟩
 refine JO_nil ?_
 refine thenQ_n ?_
 refine JC_if rfl (fun c7 => ?_) (fun c7 => ?_)
 ·
  have uT := c7
  obtain ⟨_, g1, g2⟩ := full_at (hT.resolve_left (by rw [uT]; simp))
  obtain ⟨c1, r1, hcr⟩ := List.exists_cons_of_ne_nil g2
  have g0 := Strs.get hP g1
  have hc1 : ((partsL (c0 :: r)).getD 0 [])[0]? = some c1 := by rw [hcr]; rfl
  refine JC_seq ?_
  refine JC_region ?_
  refine JO_q (QE_mv rfl) rfl ?_
  refine JO_q (QE_mv rfl) rfl ?_
  refine JO_q (QE_ia1 (j := 0) rfl rfl rfl rfl rfl rfl g0.1) rfl ?_
  refine JO_q (QE_ldsR0 rfl rfl rfl (g0.2.1.le h6) rfl) rfl ?_
  refine JO_q (QE_ix (j := 0) rfl rfl rfl rfl hc1) rfl ?_
  refine JO_call (first := []) (captured := []) rfl rfl rfl (find7_ac D _ _ abcdp _ (by decide)) ?_
  rintro _ _ s8 h8 ⟨rfl, rfl⟩
  refine JO_q (QE_faB rfl rfl rfl rfl) rfl ?_
  refine JO_st 0 [_, _, _, _, _, _] rfl rfl rfl rfl rfl rfl rfl rfl rfl ?_
  refine JO_nil ?_
  refine thenQ_n ?_
  refine JC_region ?_
  refine JO_q (QE_mv rfl) rfl ?_
  refine JO_q (QE_add' rfl rfl (w64 (by omega) (by omega))) rfl ?_
  refine JO_q (QE_as rfl) rfl ?_
  refine JO_nil ?_
  refine thenQ_n ?_
  refine JC_seq ?_
  refine JC_seq ?_
  refine JC_region ?_
  refine JO_q (QE_mv rfl) rfl ?_
  refine JO_call (first := []) (captured := []) rfl rfl rfl (hasX_ac D _ _ _) ?_
  rintro _ _ s9 h9 ⟨rfl, rfl⟩
  refine JO_nil ?_
  refine thenQ_n ?_
  refine JC_if rfl (fun c10 => ?_) (fun c10 => ?_)
  ·
   have uX := c10
   have hkT : kT (c0 :: r) = 1 := by simp [kT, hkd, uT]
   obtain ⟨_, gx2, gx3⟩ := full_at (hX.resolve_left (by rw [uX]; simp))
   rw [hkT] at gx2 gx3
   have gx := Strs.get hP gx2
   refine JC_seq ?_
   refine JC_region ?_
   refine JO_q (QE_mv rfl) rfl ?_
   refine JO_q (QE_mv rfl) rfl ?_
   refine JO_q (QE_ia1 (j := 1) rfl rfl rfl rfl rfl rfl gx.1) rfl ?_
   refine JO_q (QE_ldsR0 rfl rfl rfl (gx.2.1.le (Le.trans (Le.trans h6 h8) h9)) rfl) rfl ?_
   refine JO_call (first := []) (captured := []) rfl rfl rfl (termOf_ac D _ _ _ gx3 (by have := splitF_short 44 [] r _ (List.mem_of_getElem? gx2); simp only [List.length_nil, Nat.zero_add] at this; omega)) ?_
   rintro _ _ s11 h11 ⟨rfl, rfl⟩
   refine JO_q (QE_faB rfl rfl rfl rfl) rfl ?_
   refine JO_st 0 [_, _, _, _, _, _] rfl rfl rfl rfl rfl rfl rfl rfl rfl ?_
   refine JO_nil ?_
   refine thenQ_n ?_
   refine JC_region ?_
   refine JO_q (QE_mv rfl) rfl ?_
   refine JO_q (QE_add' rfl rfl (w64 (by omega) (by omega))) rfl ?_
   refine JO_q (QE_as rfl) rfl ?_
   refine JO_nil ?_
   refine thenQ_n ?_
   refine JC_seq ?_
   refine JC_seq ?_
   refine JC_region ?_
   refine JO_q (QE_mv rfl) rfl ?_
   refine JO_call (first := []) (captured := []) rfl rfl rfl (hasY_ac D _ _ _) ?_
   rintro _ _ s12 h12 ⟨rfl, rfl⟩
   refine JO_nil ?_
   refine thenQ_n ?_
   refine JC_if rfl (fun c13 => ?_) (fun c13 => ?_)
   ·
    have uY := c13
    have hkX : kX (c0 :: r) = 2 := by simp [kX, kT, hkd, uT, uX]
    obtain ⟨_, gy2, gy3⟩ := full_at (hY.resolve_left (by rw [uY]; simp))
    rw [hkX] at gy2 gy3
    have gy := Strs.get hP gy2
    refine JC_region ?_
    refine JO_q (QE_mv rfl) rfl ?_
    refine JO_q (QE_mv rfl) rfl ?_
    refine JO_q (QE_ia1 (j := 2) rfl rfl rfl rfl rfl rfl gy.1) rfl ?_
    refine JO_q (QE_ldsR0 rfl rfl rfl (gy.2.1.le (Le.trans (Le.trans (Le.trans (Le.trans h6 h8) h9) h11) h12)) rfl) rfl ?_
    refine JO_call (first := []) (captured := []) rfl rfl rfl (termOf_ac D _ _ _ gy3 (by have := splitF_short 44 [] r _ (List.mem_of_getElem? gy2); simp only [List.length_nil, Nat.zero_add] at this; omega)) ?_
    rintro _ _ s14 h14 ⟨rfl, rfl⟩
    refine JO_q (QE_faB rfl rfl rfl rfl) rfl ?_
    refine JO_st 0 [_, _, _, _, _, _] rfl rfl rfl rfl rfl rfl rfl rfl rfl ?_
    refine JO_nil ?_
    refine thenQ_n ?_
    refine JC_seq ?_
    refine JC_region ?_
    refine JO_q (QE_ldA 0 [_, _, _, _, _, _] rfl rfl rfl rfl rfl) rfl ?_
    refine JO_st 1 [_, _, _, _, _, _] rfl rfl rfl rfl rfl rfl rfl rfl rfl ?_
    refine JO_nil ?_
    refine thenQ_n ?_
    refine JC_ret ?_
    refine retQ_mk [_, _] L (.inr rfl) (.agg (us := [_, _, _, _, _, _]) 1 rfl rfl rfl rfl rfl (.nil)) rfl (Le.trans (Le.trans (Le.trans (Le.trans (Le.trans (Le.trans (Le.trans (Le.trans (Le.trans (Le.trans h1 h2) h3) h4) h5) h6) h8) h9) h11) h12) h14) (fun sR hS2 => ?_)
    exact ⟨by simp only [resV, actL, Ac.cs, kX, kT, hkd, uT, uX, uY, hcr, if_true, Bool.false_eq_true, if_false, Nat.zero_add, Nat.add_zero]; (try rfl), rfl⟩
   ·
    have uY := c13
    refine JC_skip ?_
    refine thenQ_n ?_
    refine JC_seq ?_
    refine JC_region ?_
    refine JO_q (QE_ldA 0 [_, _, _, _, _, _] rfl rfl rfl rfl rfl) rfl ?_
    refine JO_st 1 [_, _, _, _, _, _] rfl rfl rfl rfl rfl rfl rfl rfl rfl ?_
    refine JO_nil ?_
    refine thenQ_n ?_
    refine JC_ret ?_
    refine retQ_mk [_, _] L (.inr rfl) (.agg (us := [_, _, _, _, _, _]) 1 rfl rfl rfl rfl rfl (.nil)) rfl (Le.trans (Le.trans (Le.trans (Le.trans (Le.trans (Le.trans (Le.trans (Le.trans (Le.trans h1 h2) h3) h4) h5) h6) h8) h9) h11) h12) (fun sR hS2 => ?_)
    exact ⟨by simp only [resV, actL, Ac.cs, kX, kT, hkd, uT, uX, uY, hcr, if_true, Bool.false_eq_true, if_false, Nat.zero_add, Nat.add_zero]; (try rfl), rfl⟩
  ·
   have uX := c10
   refine JC_skip ?_
   refine thenQ_n ?_
   refine JC_seq ?_
   refine JC_seq ?_
   refine JC_region ?_
   refine JO_q (QE_mv rfl) rfl ?_
   refine JO_call (first := []) (captured := []) rfl rfl rfl (hasY_ac D _ _ _) ?_
   rintro _ _ s15 h15 ⟨rfl, rfl⟩
   refine JO_nil ?_
   refine thenQ_n ?_
   refine JC_if rfl (fun c16 => ?_) (fun c16 => ?_)
   ·
    have uY := c16
    have hkX : kX (c0 :: r) = 1 := by simp [kX, kT, hkd, uT, uX]
    obtain ⟨_, gy2, gy3⟩ := full_at (hY.resolve_left (by rw [uY]; simp))
    rw [hkX] at gy2 gy3
    have gy := Strs.get hP gy2
    refine JC_region ?_
    refine JO_q (QE_mv rfl) rfl ?_
    refine JO_q (QE_mv rfl) rfl ?_
    refine JO_q (QE_ia1 (j := 1) rfl rfl rfl rfl rfl rfl gy.1) rfl ?_
    refine JO_q (QE_ldsR0 rfl rfl rfl (gy.2.1.le (Le.trans (Le.trans (Le.trans h6 h8) h9) h15)) rfl) rfl ?_
    refine JO_call (first := []) (captured := []) rfl rfl rfl (termOf_ac D _ _ _ gy3 (by have := splitF_short 44 [] r _ (List.mem_of_getElem? gy2); simp only [List.length_nil, Nat.zero_add] at this; omega)) ?_
    rintro _ _ s17 h17 ⟨rfl, rfl⟩
    refine JO_q (QE_faB rfl rfl rfl rfl) rfl ?_
    refine JO_st 0 [_, _, _, _, _, _] rfl rfl rfl rfl rfl rfl rfl rfl rfl ?_
    refine JO_nil ?_
    refine thenQ_n ?_
    refine JC_seq ?_
    refine JC_region ?_
    refine JO_q (QE_ldA 0 [_, _, _, _, _, _] rfl rfl rfl rfl rfl) rfl ?_
    refine JO_st 1 [_, _, _, _, _, _] rfl rfl rfl rfl rfl rfl rfl rfl rfl ?_
    refine JO_nil ?_
    refine thenQ_n ?_
    refine JC_ret ?_
    refine retQ_mk [_, _] L (.inr rfl) (.agg (us := [_, _, _, _, _, _]) 1 rfl rfl rfl rfl rfl (.nil)) rfl (Le.trans (Le.trans (Le.trans (Le.trans (Le.trans (Le.trans (Le.trans (Le.trans (Le.trans h1 h2) h3) h4) h5) h6) h8) h9) h15) h17) (fun sR hS2 => ?_)
    exact ⟨by simp only [resV, actL, Ac.cs, kX, kT, hkd, uT, uX, uY, hcr, if_true, Bool.false_eq_true, if_false, Nat.zero_add, Nat.add_zero]; (try rfl), rfl⟩
   ·
    have uY := c16
    refine JC_skip ?_
    refine thenQ_n ?_
    refine JC_seq ?_
    refine JC_region ?_
    refine JO_q (QE_ldA 0 [_, _, _, _, _, _] rfl rfl rfl rfl rfl) rfl ?_
    refine JO_st 1 [_, _, _, _, _, _] rfl rfl rfl rfl rfl rfl rfl rfl rfl ?_
    refine JO_nil ?_
    refine thenQ_n ?_
    refine JC_ret ?_
    refine retQ_mk [_, _] L (.inr rfl) (.agg (us := [_, _, _, _, _, _]) 1 rfl rfl rfl rfl rfl (.nil)) rfl (Le.trans (Le.trans (Le.trans (Le.trans (Le.trans (Le.trans (Le.trans (Le.trans h1 h2) h3) h4) h5) h6) h8) h9) h15) (fun sR hS2 => ?_)
    exact ⟨by simp only [resV, actL, Ac.cs, kX, kT, hkd, uT, uX, uY, hcr, if_true, Bool.false_eq_true, if_false, Nat.zero_add, Nat.add_zero]; (try rfl), rfl⟩
 ·
  have uT := c7
  refine JC_skip ?_
  refine thenQ_n ?_
  refine JC_seq ?_
  refine JC_seq ?_
  refine JC_region ?_
  refine JO_q (QE_mv rfl) rfl ?_
  refine JO_call (first := []) (captured := []) rfl rfl rfl (hasX_ac D _ _ _) ?_
  rintro _ _ s18 h18 ⟨rfl, rfl⟩
  refine JO_nil ?_
  refine thenQ_n ?_
  refine JC_if rfl (fun c19 => ?_) (fun c19 => ?_)
  ·
   have uX := c19
   have hkT : kT (c0 :: r) = 0 := by simp [kT, hkd, uT]
   obtain ⟨_, gx2, gx3⟩ := full_at (hX.resolve_left (by rw [uX]; simp))
   rw [hkT] at gx2 gx3
   have gx := Strs.get hP gx2
   refine JC_seq ?_
   refine JC_region ?_
   refine JO_q (QE_mv rfl) rfl ?_
   refine JO_q (QE_mv rfl) rfl ?_
   refine JO_q (QE_ia1 (j := 0) rfl rfl rfl rfl rfl rfl gx.1) rfl ?_
   refine JO_q (QE_ldsR0 rfl rfl rfl (gx.2.1.le (Le.trans h6 h18)) rfl) rfl ?_
   refine JO_call (first := []) (captured := []) rfl rfl rfl (termOf_ac D _ _ _ gx3 (by have := splitF_short 44 [] r _ (List.mem_of_getElem? gx2); simp only [List.length_nil, Nat.zero_add] at this; omega)) ?_
   rintro _ _ s20 h20 ⟨rfl, rfl⟩
   refine JO_q (QE_faB rfl rfl rfl rfl) rfl ?_
   refine JO_st 0 [_, _, _, _, _, _] rfl rfl rfl rfl rfl rfl rfl rfl rfl ?_
   refine JO_nil ?_
   refine thenQ_n ?_
   refine JC_region ?_
   refine JO_q (QE_mv rfl) rfl ?_
   refine JO_q (QE_add' rfl rfl (w64 (by omega) (by omega))) rfl ?_
   refine JO_q (QE_as rfl) rfl ?_
   refine JO_nil ?_
   refine thenQ_n ?_
   refine JC_seq ?_
   refine JC_seq ?_
   refine JC_region ?_
   refine JO_q (QE_mv rfl) rfl ?_
   refine JO_call (first := []) (captured := []) rfl rfl rfl (hasY_ac D _ _ _) ?_
   rintro _ _ s21 h21 ⟨rfl, rfl⟩
   refine JO_nil ?_
   refine thenQ_n ?_
   refine JC_if rfl (fun c22 => ?_) (fun c22 => ?_)
   ·
    have uY := c22
    have hkX : kX (c0 :: r) = 1 := by simp [kX, kT, hkd, uT, uX]
    obtain ⟨_, gy2, gy3⟩ := full_at (hY.resolve_left (by rw [uY]; simp))
    rw [hkX] at gy2 gy3
    have gy := Strs.get hP gy2
    refine JC_region ?_
    refine JO_q (QE_mv rfl) rfl ?_
    refine JO_q (QE_mv rfl) rfl ?_
    refine JO_q (QE_ia1 (j := 1) rfl rfl rfl rfl rfl rfl gy.1) rfl ?_
    refine JO_q (QE_ldsR0 rfl rfl rfl (gy.2.1.le (Le.trans (Le.trans (Le.trans h6 h18) h20) h21)) rfl) rfl ?_
    refine JO_call (first := []) (captured := []) rfl rfl rfl (termOf_ac D _ _ _ gy3 (by have := splitF_short 44 [] r _ (List.mem_of_getElem? gy2); simp only [List.length_nil, Nat.zero_add] at this; omega)) ?_
    rintro _ _ s23 h23 ⟨rfl, rfl⟩
    refine JO_q (QE_faB rfl rfl rfl rfl) rfl ?_
    refine JO_st 0 [_, _, _, _, _, _] rfl rfl rfl rfl rfl rfl rfl rfl rfl ?_
    refine JO_nil ?_
    refine thenQ_n ?_
    refine JC_seq ?_
    refine JC_region ?_
    refine JO_q (QE_ldA 0 [_, _, _, _, _, _] rfl rfl rfl rfl rfl) rfl ?_
    refine JO_st 1 [_, _, _, _, _, _] rfl rfl rfl rfl rfl rfl rfl rfl rfl ?_
    refine JO_nil ?_
    refine thenQ_n ?_
    refine JC_ret ?_
    refine retQ_mk [_, _] L (.inr rfl) (.agg (us := [_, _, _, _, _, _]) 1 rfl rfl rfl rfl rfl (.nil)) rfl (Le.trans (Le.trans (Le.trans (Le.trans (Le.trans (Le.trans (Le.trans (Le.trans (Le.trans h1 h2) h3) h4) h5) h6) h18) h20) h21) h23) (fun sR hS2 => ?_)
    exact ⟨by simp only [resV, actL, Ac.cs, kX, kT, hkd, uT, uX, uY, if_true, Bool.false_eq_true, if_false, Nat.zero_add, Nat.add_zero]; (try rfl), rfl⟩
   ·
    have uY := c22
    refine JC_skip ?_
    refine thenQ_n ?_
    refine JC_seq ?_
    refine JC_region ?_
    refine JO_q (QE_ldA 0 [_, _, _, _, _, _] rfl rfl rfl rfl rfl) rfl ?_
    refine JO_st 1 [_, _, _, _, _, _] rfl rfl rfl rfl rfl rfl rfl rfl rfl ?_
    refine JO_nil ?_
    refine thenQ_n ?_
    refine JC_ret ?_
    refine retQ_mk [_, _] L (.inr rfl) (.agg (us := [_, _, _, _, _, _]) 1 rfl rfl rfl rfl rfl (.nil)) rfl (Le.trans (Le.trans (Le.trans (Le.trans (Le.trans (Le.trans (Le.trans (Le.trans h1 h2) h3) h4) h5) h6) h18) h20) h21) (fun sR hS2 => ?_)
    exact ⟨by simp only [resV, actL, Ac.cs, kX, kT, hkd, uT, uX, uY, if_true, Bool.false_eq_true, if_false, Nat.zero_add, Nat.add_zero]; (try rfl), rfl⟩
  ·
   have uX := c19
   refine JC_skip ?_
   refine thenQ_n ?_
   refine JC_seq ?_
   refine JC_seq ?_
   refine JC_region ?_
   refine JO_q (QE_mv rfl) rfl ?_
   refine JO_call (first := []) (captured := []) rfl rfl rfl (hasY_ac D _ _ _) ?_
   rintro _ _ s24 h24 ⟨rfl, rfl⟩
   refine JO_nil ?_
   refine thenQ_n ?_
   refine JC_if rfl (fun c25 => ?_) (fun c25 => ?_)
   ·
    have uY := c25
    have hkX : kX (c0 :: r) = 0 := by simp [kX, kT, hkd, uT, uX]
    obtain ⟨_, gy2, gy3⟩ := full_at (hY.resolve_left (by rw [uY]; simp))
    rw [hkX] at gy2 gy3
    have gy := Strs.get hP gy2
    refine JC_region ?_
    refine JO_q (QE_mv rfl) rfl ?_
    refine JO_q (QE_mv rfl) rfl ?_
    refine JO_q (QE_ia1 (j := 0) rfl rfl rfl rfl rfl rfl gy.1) rfl ?_
    refine JO_q (QE_ldsR0 rfl rfl rfl (gy.2.1.le (Le.trans (Le.trans h6 h18) h24)) rfl) rfl ?_
    refine JO_call (first := []) (captured := []) rfl rfl rfl (termOf_ac D _ _ _ gy3 (by have := splitF_short 44 [] r _ (List.mem_of_getElem? gy2); simp only [List.length_nil, Nat.zero_add] at this; omega)) ?_
    rintro _ _ s26 h26 ⟨rfl, rfl⟩
    refine JO_q (QE_faB rfl rfl rfl rfl) rfl ?_
    refine JO_st 0 [_, _, _, _, _, _] rfl rfl rfl rfl rfl rfl rfl rfl rfl ?_
    refine JO_nil ?_
    refine thenQ_n ?_
    refine JC_seq ?_
    refine JC_region ?_
    refine JO_q (QE_ldA 0 [_, _, _, _, _, _] rfl rfl rfl rfl rfl) rfl ?_
    refine JO_st 1 [_, _, _, _, _, _] rfl rfl rfl rfl rfl rfl rfl rfl rfl ?_
    refine JO_nil ?_
    refine thenQ_n ?_
    refine JC_ret ?_
    refine retQ_mk [_, _] L (.inr rfl) (.agg (us := [_, _, _, _, _, _]) 1 rfl rfl rfl rfl rfl (.nil)) rfl (Le.trans (Le.trans (Le.trans (Le.trans (Le.trans (Le.trans (Le.trans (Le.trans h1 h2) h3) h4) h5) h6) h18) h24) h26) (fun sR hS2 => ?_)
    exact ⟨by simp only [resV, actL, Ac.cs, kX, kT, hkd, uT, uX, uY, if_true, Bool.false_eq_true, if_false, Nat.zero_add, Nat.add_zero]; (try rfl), rfl⟩
   ·
    have uY := c25
    refine JC_skip ?_
    refine thenQ_n ?_
    refine JC_seq ?_
    refine JC_region ?_
    refine JO_q (QE_ldA 0 [_, _, _, _, _, _] rfl rfl rfl rfl rfl) rfl ?_
    refine JO_st 1 [_, _, _, _, _, _] rfl rfl rfl rfl rfl rfl rfl rfl rfl ?_
    refine JO_nil ?_
    refine thenQ_n ?_
    refine JC_ret ?_
    refine retQ_mk [_, _] L (.inr rfl) (.agg (us := [_, _, _, _, _, _]) 1 rfl rfl rfl rfl rfl (.nil)) rfl (Le.trans (Le.trans (Le.trans (Le.trans (Le.trans (Le.trans (Le.trans h1 h2) h3) h4) h5) h6) h18) h24) (fun sR hS2 => ?_)
    exact ⟨by simp only [resV, actL, Ac.cs, kX, kT, hkd, uT, uX, uY, if_true, Bool.false_eq_true, if_false, Nat.zero_add, Nat.add_zero]; (try rfl), rfl⟩
end Go.Proofs.Ytpjnphonanbopaa
