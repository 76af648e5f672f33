/- The checks of the reference. -/
import Derived.Test.YtpjnphonanbopaaV1
namespace Go.Proofs.Ytpjnphonanbopaa
open Go.FL
attribute [local irreducible] JC JO JA JB thenQ blockQ retQ AC fill CellsAt QE Ev Mid

set_option maxHeartbeats 1000000 in
set_option maxRecDepth 100000 in
theorem in_ac (D : Nat) (L : Hl) (s : World) (x lo hi : Int) : AC Try.prog D 15 [.int .i64 x, .int .i64 lo, .int .i64 hi] L s fun v L' _ => v = .bool (decide (lo ≤ x ∧ x ≤ hi)) ∧ L = L' := by
 refine AC_enter (TT := TT) (fn := Try.f15) TT_ok Try.func15 (by kernel_rfl) rfl Try.ntmps15 rfl (rs := [.tmp 6]) rfl [(0, _), (1, _), (2, _)] rfl ?_
 refine JC_seq ?_
 refine JC_region ?_
 refine JO_q (QE_as rfl) rfl ?_
 refine JO_nil ?_
 refine thenQ_n ?_
 refine JC_seq ?_
 refine JC_region ?_
 refine JO_q (QE_mv rfl) rfl ?_
 refine JO_q (QE_mv rfl) rfl ?_
 refine JO_q (QE_ge rfl rfl) rfl ?_
 refine JO_q (QE_mv rfl) rfl ?_
 refine JO_caseD (t := 10) rfl (fun c1 => ?_) (fun c1 => ?_)
 ·
  refine JO_gT rfl rfl ?_
  refine JO_q (QE_mv rfl) rfl ?_
  refine JO_gT rfl rfl ?_
  refine JO_q (QE_mv rfl) rfl ?_
  refine JO_gT rfl rfl ?_
  refine JO_q (QE_le rfl rfl) rfl ?_
  refine JO_q (QE_pickT rfl rfl) rfl ?_
  refine JO_q (QE_as rfl) rfl ?_
  refine JO_nil ?_
  refine thenQ_n ?_
  refine JC_ret ?_
  refine retQ_mk [] L (.inr rfl) (.tmp rfl (.nil)) rfl (Le.refl (D := D) _) (fun sR hS2 => ?_)
  exact ⟨by simp [resV, *], rfl⟩
 ·
  refine JO_gF rfl rfl rfl rfl ?_
  refine JO_gF rfl rfl rfl rfl ?_
  refine JO_gF rfl rfl rfl rfl ?_
  refine JO_q (QE_pickF rfl rfl) rfl ?_
  refine JO_q (QE_as rfl) rfl ?_
  refine JO_nil ?_
  refine thenQ_n ?_
  refine JC_ret ?_
  refine retQ_mk [] L (.inr rfl) (.tmp rfl (.nil)) rfl (Le.refl (D := D) _) (fun sR hS2 => ?_)
  exact ⟨by simp [resV, *], rfl⟩

set_option maxHeartbeats 1000000 in
set_option maxRecDepth 100000 in
theorem at_ac (D : Nat) (L : Hl) (s : World) (c i : Int) : AC Try.prog D 17 [.int .i64 c, .int .i64 i] L s fun v L' _ => v = .agg #[.int .i64 c, .int .i64 i] ∧ L = L' := by
 refine AC_enter (TT := TT) (fn := Try.f17) TT_ok Try.func17 (by kernel_rfl) rfl Try.ntmps17 rfl (rs := [.cell 4 32]) rfl [(0, _), (1, _)] rfl ?_
 refine JC_seq ?_
 refine JC_region ?_
 refine JO_allocZ rfl [_, _] rfl rfl ?_
 intro β1 s1 h1
 refine JO_nil ?_
 refine thenQ_n ?_
 refine JC_seq ?_
 refine JC_region ?_
 refine JO_q (QE_mv rfl) rfl ?_
 refine JO_q (QE_mv rfl) rfl ?_
 refine JO_q (QE_build [(_, _), (_, _)] [_, _] rfl rfl rfl rfl rfl rfl) rfl ?_
 refine JO_st 0 [_, _] rfl rfl rfl rfl rfl rfl rfl rfl rfl ?_
 refine JO_nil ?_
 refine thenQ_n ?_
 refine JC_ret ?_
 refine retQ_mk [_] L (.inr rfl) (.agg (us := [_, _]) 0 rfl rfl rfl rfl rfl (.nil)) rfl h1 (fun sR hS2 => ?_)
 exact ⟨rfl, rfl⟩

set_option maxHeartbeats 1000000 in
set_option maxRecDepth 100000 in
theorem isName_ac (D : Nat) (L : Hl) (s : World) (l : List UInt8) (m : Int) (hl : l.length ≤ 9223372036854775807) : AC Try.prog D 61 [St l, .int .i64 m] L s fun v L' _ => v = .bool (decide (l ≠ []) && decide ((l.length : Int) ≤ m) && charsFrom 0 l) ∧ L = L' := by
 refine AC_enter (TT := TT) (fn := Try.f61) TT_ok Try.func61 (by kernel_rfl) rfl Try.ntmps61 rfl (rs := [.tmp 4]) rfl [(0, _), (1, _)] rfl ?_
 refine JC_seq ?_
 refine JC_region ?_
 refine JO_q (QE_as rfl) rfl ?_
 refine JO_nil ?_
 refine thenQ_n ?_
 refine JC_seq ?_
 refine JC_seq ?_
 refine JC_region ?_
 refine JO_q (QE_mv rfl) rfl ?_
 refine JO_q (QE_lenT rfl rfl rfl) rfl ?_
 refine JO_q (QE_lt rfl rfl) rfl ?_
 refine JO_q (QE_mv rfl) rfl ?_
 refine JO_caseD (t := 11) rfl (fun c1 => ?_) (fun c1 => ?_)
 ·
  refine JO_gF rfl rfl rfl rfl ?_
  refine JO_gF rfl rfl rfl rfl ?_
  refine JO_gF rfl rfl rfl rfl ?_
  refine JO_gF rfl rfl rfl rfl ?_
  refine JO_q (QE_pickT rfl rfl) rfl ?_
  refine JO_nil ?_
  refine thenQ_n ?_
  refine JC_ifT rfl ?_
  refine JC_seq ?_
  refine JC_region ?_
  refine JO_q (QE_as rfl) rfl ?_
  refine JO_nil ?_
  refine thenQ_n ?_
  refine JC_ret ?_
  refine thenQ_r ?_
  refine retQ_mk [] L (.inr rfl) (.tmp rfl (.nil)) rfl (Le.refl (D := D) _) (fun sR hS2 => ?_)
  refine ⟨?_, rfl⟩
  have hnil : l = [] ↔ l.length = 0 := by cases l <;> simp
  have h0 : l = [] := by rw [hnil]; omega
  simp [resV, h0]; done
 ·
  refine JO_gT rfl rfl ?_
  refine JO_q (QE_mv rfl) rfl ?_
  refine JO_gT rfl rfl ?_
  refine JO_q (QE_lenT rfl rfl rfl) rfl ?_
  refine JO_gT rfl rfl ?_
  refine JO_q (QE_mv rfl) rfl ?_
  refine JO_gT rfl rfl ?_
  refine JO_q (QE_gt rfl rfl) rfl ?_
  refine JO_q (QE_pickF rfl rfl) rfl ?_
  refine JO_nil ?_
  refine thenQ_n ?_
  refine JC_ifD rfl (fun c2 => ?_) (fun c2 => ?_)
  ·
   refine JC_seq ?_
   refine JC_region ?_
   refine JO_q (QE_as rfl) rfl ?_
   refine JO_nil ?_
   refine thenQ_n ?_
   refine JC_ret ?_
   refine thenQ_r ?_
   refine retQ_mk [] L (.inr rfl) (.tmp rfl (.nil)) rfl (Le.refl (D := D) _) (fun sR hS2 => ?_)
   refine ⟨?_, rfl⟩
   have hnil : l = [] ↔ l.length = 0 := by cases l <;> simp
   have h0 : ¬ (l.length : Int) ≤ m := by omega
   simp [resV, h0]; done
  ·
   refine JC_skip ?_
   refine thenQ_n ?_
   refine JC_seq ?_
   refine JC_seq ?_
   refine JC_region ?_
   refine JO_q (QE_as rfl) rfl ?_
   refine JO_nil ?_
   refine thenQ_n ?_
   refine JC_block ?_
   refine JC_loop (γ := Nat) (fun k => [(0, _), (4, _), (5, .int .i64 (k : Int))]) (fun _ => _) (fun k tw => Le D s tw ∧ (k ≤ l.length ∧ ∀ i c, i < k → l[i]? = some c → chOK i c = true)) (fun k => l.length - k) (fun _ _ _ h hl => ⟨h.1.trans hl, h.2⟩) 0 (Keeps.cons rfl (Keeps.cons rfl (Keeps.cons rfl (Keeps.nil _)))) rfl ⟨Le.refl _, ⟨Nat.zero_le _, fun i c hi => by omega⟩⟩ ?_
   intro k s3 I3
   have hk0 := I3.2.1
   have hI := I3.2.2
   refine JC_seq ?_
   refine JC_seq ?_
   refine JC_region ?_
   refine JO_q (QE_mv rfl) rfl ?_
   refine JO_q (QE_mv rfl) rfl ?_
   refine JO_q (QE_lenT rfl rfl rfl) rfl ?_
   refine JO_q (QE_lt rfl rfl) rfl ?_
   refine JO_nil ?_
   refine thenQ_n ?_
   refine JC_ifD rfl (fun c4 => ?_) (fun c4 => ?_)
   ·
    have hk : k < l.length := by omega
    obtain ⟨ch, hch⟩ : ∃ ch, l[k]? = some ch := ⟨_, List.getElem?_eq_getElem hk⟩
    refine JC_skip ?_
    refine thenQ_n ?_
    refine JC_seq ?_
    refine JC_block ?_
    refine JC_seq ?_
    refine JC_region ?_
    refine JO_q (QE_mv rfl) rfl ?_
    refine JO_q (QE_mv rfl) rfl ?_
    refine JO_q (QE_ix rfl rfl rfl rfl hch) rfl ?_
    refine JO_q (QE_ge rfl rfl) rfl ?_
    refine JO_q (QE_mv rfl) rfl ?_
    refine JO_caseD (t := 27) rfl (fun c5 => ?_) (fun c5 => ?_)
    ·
     refine JO_gT rfl rfl ?_
     refine JO_q (QE_mv rfl) rfl ?_
     refine JO_gT rfl rfl ?_
     refine JO_q (QE_mv rfl) rfl ?_
     refine JO_gT rfl rfl ?_
     refine JO_q (QE_ix rfl rfl rfl rfl hch) rfl ?_
     refine JO_gT rfl rfl ?_
     refine JO_q (QE_le rfl rfl) rfl ?_
     refine JO_q (QE_pickT rfl rfl) rfl ?_
     refine JO_q (QE_as rfl) rfl ?_
     refine JO_nil ?_
     refine thenQ_n ?_
     refine JC_seq ?_
     refine JC_region ?_
     refine JO_q (QE_mv rfl) rfl ?_
     refine JO_q (QE_mv rfl) rfl ?_
     refine JO_q (QE_ix rfl rfl rfl rfl hch) rfl ?_
     refine JO_q (QE_ge rfl rfl) rfl ?_
     refine JO_q (QE_mv rfl) rfl ?_
     refine JO_caseD (t := 37) rfl (fun c6 => ?_) (fun c6 => ?_)
     ·
      refine JO_gT rfl rfl ?_
      refine JO_q (QE_mv rfl) rfl ?_
      refine JO_gT rfl rfl ?_
      refine JO_q (QE_mv rfl) rfl ?_
      refine JO_gT rfl rfl ?_
      refine JO_q (QE_ix rfl rfl rfl rfl hch) rfl ?_
      refine JO_gT rfl rfl ?_
      refine JO_q (QE_le rfl rfl) rfl ?_
      refine JO_q (QE_pickT rfl rfl) rfl ?_
      refine JO_q (QE_as rfl) rfl ?_
      refine JO_nil ?_
      refine thenQ_n ?_
      refine JC_seq ?_
      refine JC_region ?_
      refine JO_q (QE_mv rfl) rfl ?_
      refine JO_q (QE_not rfl) rfl ?_
      refine JO_q (QE_mv rfl) rfl ?_
      refine JO_caseN (t := 45) rfl (fun c7 => ?_) (fun c7 => ?_)
      ·
       refine JO_gT rfl rfl ?_
       refine JO_q (QE_mv rfl) rfl ?_
       refine JO_gT rfl rfl ?_
       refine JO_q (QE_mv rfl) rfl ?_
       refine JO_caseD (t := 47) rfl (fun c8 => ?_) (fun c8 => ?_)
       ·
        refine JO_gT rfl rfl ?_
        refine JO_q (QE_mv rfl) rfl ?_
        refine JO_gT rfl rfl ?_
        refine JO_q (QE_gt rfl rfl) rfl ?_
        refine JO_gT rfl rfl ?_
        refine JO_q (QE_pickT rfl rfl) rfl ?_
        refine JO_gT rfl rfl ?_
        refine JO_q (QE_not rfl) rfl ?_
        refine JO_q (QE_pickT rfl rfl) rfl ?_
        refine JO_nil ?_
        refine thenQ_n ?_
        refine JC_ifN rfl (fun c9 => ?_) (fun c9 => ?_)
        ·
         refine JC_seq ?_
         refine JC_region ?_
         refine JO_q (QE_as rfl) rfl ?_
         refine JO_nil ?_
         refine thenQ_n ?_
         refine JC_ret ?_
         refine blockQ_r ?_
         refine thenQ_r ?_
         refine thenQ_r ?_
         refine blockQ_r ?_
         refine thenQ_r ?_
         refine retQ_mk [] L (.inr rfl) (.tmp rfl (.nil)) rfl I3.1 (fun sR hS2 => ?_)
         refine ⟨?_, rfl⟩
         have hnil : l = [] ↔ l.length = 0 := by cases l <;> simp
         have h0 : l = [] := by rw [hnil]; omega
         simp [resV, h0]; done
        ·
         refine JC_skip ?_
         refine blockQ_n ?_
         refine thenQ_n ?_
         refine JC_region ?_
         refine JO_q (QE_mv rfl) rfl ?_
         refine JO_q (QE_add' rfl rfl (w64 (by omega) (by omega))) rfl ?_
         refine JO_q (QE_as rfl) rfl ?_
         refine JO_nil ?_
         have hOK : chOK k ch = true := by simp only [chOK, letB, digB, Bool.or_eq_true, Bool.and_eq_true, decide_eq_true_eq, ne_eq]; omega
         refine thenQ_n ⟨(k + 1), [], (Keeps.cons rfl (Keeps.cons rfl (Keeps.cons rfl (Keeps.nil _)))), rfl, ⟨I3.1, ⟨by omega, below_succ hI hch hOK⟩⟩, (by omega)⟩
       ·
        refine JO_gF rfl rfl rfl rfl ?_
        refine JO_gF rfl rfl rfl rfl ?_
        refine JO_gT rfl rfl ?_
        refine JO_q (QE_pickF rfl rfl) rfl ?_
        refine JO_gT rfl rfl ?_
        refine JO_q (QE_notF rfl) rfl ?_
        refine JO_q (QE_pickT rfl rfl) rfl ?_
        refine JO_nil ?_
        refine thenQ_n ?_
        refine JC_ifT rfl ?_
        refine JC_seq ?_
        refine JC_region ?_
        refine JO_q (QE_as rfl) rfl ?_
        refine JO_nil ?_
        refine thenQ_n ?_
        refine JC_ret ?_
        refine blockQ_r ?_
        refine thenQ_r ?_
        refine thenQ_r ?_
        refine blockQ_r ?_
        refine thenQ_r ?_
        refine retQ_mk [] L (.inr rfl) (.tmp rfl (.nil)) rfl I3.1 (fun sR hS2 => ?_)
        refine ⟨?_, rfl⟩
        have hnil : l = [] ↔ l.length = 0 := by cases l <;> simp
        have hb : chOK k ch = false := by
          rw [Bool.eq_false_iff]; simp only [chOK, letB, digB, Bool.or_eq_true, Bool.and_eq_true, decide_eq_true_eq, ne_eq]; omega
        simp [resV, chars_not hch hb]; done
      ·
       refine JO_gF rfl rfl rfl rfl ?_
       refine JO_gF rfl rfl rfl rfl ?_
       refine JO_gU rfl rfl rfl ?_
       refine JO_gU rfl rfl rfl ?_
       refine JO_gF rfl rfl rfl rfl ?_
       refine JO_gF rfl rfl rfl rfl ?_
       refine JO_q (QE_pickF rfl rfl) rfl ?_
       refine JO_nil ?_
       refine thenQ_n ?_
       refine JC_ifF rfl ?_
       refine JC_skip ?_
       refine blockQ_n ?_
       refine thenQ_n ?_
       refine JC_region ?_
       refine JO_q (QE_mv rfl) rfl ?_
       refine JO_q (QE_add' rfl rfl (w64 (by omega) (by omega))) rfl ?_
       refine JO_q (QE_as rfl) rfl ?_
       refine JO_nil ?_
       have hOK : chOK k ch = true := by simp only [chOK, letB, digB, Bool.or_eq_true, Bool.and_eq_true, decide_eq_true_eq, ne_eq]; omega
       refine thenQ_n ⟨(k + 1), [], (Keeps.cons rfl (Keeps.cons rfl (Keeps.cons rfl (Keeps.nil _)))), rfl, ⟨I3.1, ⟨by omega, below_succ hI hch hOK⟩⟩, (by omega)⟩
     ·
      refine JO_gF rfl rfl rfl rfl ?_
      refine JO_gF rfl rfl rfl rfl ?_
      refine JO_gF rfl rfl rfl rfl ?_
      refine JO_gF rfl rfl rfl rfl ?_
      refine JO_q (QE_pickF rfl rfl) rfl ?_
      refine JO_q (QE_as rfl) rfl ?_
      refine JO_nil ?_
      refine thenQ_n ?_
      refine JC_seq ?_
      refine JC_region ?_
      refine JO_q (QE_mv rfl) rfl ?_
      refine JO_q (QE_not rfl) rfl ?_
      refine JO_q (QE_mv rfl) rfl ?_
      refine JO_caseN (t := 45) rfl (fun c10 => ?_) (fun c10 => ?_)
      ·
       refine JO_gT rfl rfl ?_
       refine JO_q (QE_mv rfl) rfl ?_
       refine JO_gT rfl rfl ?_
       refine JO_q (QE_mv rfl) rfl ?_
       refine JO_gF rfl rfl rfl rfl ?_
       refine JO_gF rfl rfl rfl rfl ?_
       refine JO_gT rfl rfl ?_
       refine JO_q (QE_pickF rfl rfl) rfl ?_
       refine JO_gT rfl rfl ?_
       refine JO_q (QE_notF rfl) rfl ?_
       refine JO_q (QE_pickT rfl rfl) rfl ?_
       refine JO_nil ?_
       refine thenQ_n ?_
       refine JC_ifT rfl ?_
       refine JC_seq ?_
       refine JC_region ?_
       refine JO_q (QE_as rfl) rfl ?_
       refine JO_nil ?_
       refine thenQ_n ?_
       refine JC_ret ?_
       refine blockQ_r ?_
       refine thenQ_r ?_
       refine thenQ_r ?_
       refine blockQ_r ?_
       refine thenQ_r ?_
       refine retQ_mk [] L (.inr rfl) (.tmp rfl (.nil)) rfl I3.1 (fun sR hS2 => ?_)
       refine ⟨?_, rfl⟩
       have hnil : l = [] ↔ l.length = 0 := by cases l <;> simp
       have h0 : l = [] := by rw [hnil]; omega
       simp [resV, h0]; done
      ·
       refine JO_gF rfl rfl rfl rfl ?_
       refine JO_gF rfl rfl rfl rfl ?_
       refine JO_gU rfl rfl rfl ?_
       refine JO_gU rfl rfl rfl ?_
       refine JO_gF rfl rfl rfl rfl ?_
       refine JO_gF rfl rfl rfl rfl ?_
       refine JO_q (QE_pickF rfl rfl) rfl ?_
       refine JO_nil ?_
       refine thenQ_n ?_
       refine JC_ifF rfl ?_
       refine JC_skip ?_
       refine blockQ_n ?_
       refine thenQ_n ?_
       refine JC_region ?_
       refine JO_q (QE_mv rfl) rfl ?_
       refine JO_q (QE_add' rfl rfl (w64 (by omega) (by omega))) rfl ?_
       refine JO_q (QE_as rfl) rfl ?_
       refine JO_nil ?_
       have hOK : chOK k ch = true := by simp only [chOK, letB, digB, Bool.or_eq_true, Bool.and_eq_true, decide_eq_true_eq, ne_eq]; omega
       refine thenQ_n ⟨(k + 1), [], (Keeps.cons rfl (Keeps.cons rfl (Keeps.cons rfl (Keeps.nil _)))), rfl, ⟨I3.1, ⟨by omega, below_succ hI hch hOK⟩⟩, (by omega)⟩
    ·
     refine JO_gF rfl rfl rfl rfl ?_
     refine JO_gF rfl rfl rfl rfl ?_
     refine JO_gF rfl rfl rfl rfl ?_
     refine JO_gF rfl rfl rfl rfl ?_
     refine JO_q (QE_pickF rfl rfl) rfl ?_
     refine JO_q (QE_as rfl) rfl ?_
     refine JO_nil ?_
     refine thenQ_n ?_
     refine JC_seq ?_
     refine JC_region ?_
     refine JO_q (QE_mv rfl) rfl ?_
     refine JO_q (QE_mv rfl) rfl ?_
     refine JO_q (QE_ix rfl rfl rfl rfl hch) rfl ?_
     refine JO_q (QE_ge rfl rfl) rfl ?_
     refine JO_q (QE_mv rfl) rfl ?_
     refine JO_caseD (t := 37) rfl (fun c11 => ?_) (fun c11 => ?_)
     ·
      refine JO_gT rfl rfl ?_
      refine JO_q (QE_mv rfl) rfl ?_
      refine JO_gT rfl rfl ?_
      refine JO_q (QE_mv rfl) rfl ?_
      refine JO_gT rfl rfl ?_
      refine JO_q (QE_ix rfl rfl rfl rfl hch) rfl ?_
      refine JO_gT rfl rfl ?_
      refine JO_q (QE_le rfl rfl) rfl ?_
      refine JO_q (QE_pickT rfl rfl) rfl ?_
      refine JO_q (QE_as rfl) rfl ?_
      refine JO_nil ?_
      refine thenQ_n ?_
      refine JC_seq ?_
      refine JC_region ?_
      refine JO_q (QE_mv rfl) rfl ?_
      refine JO_q (QE_notF rfl) rfl ?_
      refine JO_q (QE_mv rfl) rfl ?_
      refine JO_gT rfl rfl ?_
      refine JO_q (QE_mv rfl) rfl ?_
      refine JO_gT rfl rfl ?_
      refine JO_q (QE_mv rfl) rfl ?_
      refine JO_caseD (t := 47) rfl (fun c12 => ?_) (fun c12 => ?_)
      ·
       refine JO_gT rfl rfl ?_
       refine JO_q (QE_mv rfl) rfl ?_
       refine JO_gT rfl rfl ?_
       refine JO_q (QE_gt rfl rfl) rfl ?_
       refine JO_gT rfl rfl ?_
       refine JO_q (QE_pickT rfl rfl) rfl ?_
       refine JO_gT rfl rfl ?_
       refine JO_q (QE_not rfl) rfl ?_
       refine JO_q (QE_pickT rfl rfl) rfl ?_
       refine JO_nil ?_
       refine thenQ_n ?_
       refine JC_ifN rfl (fun c13 => ?_) (fun c13 => ?_)
       ·
        refine JC_seq ?_
        refine JC_region ?_
        refine JO_q (QE_as rfl) rfl ?_
        refine JO_nil ?_
        refine thenQ_n ?_
        refine JC_ret ?_
        refine blockQ_r ?_
        refine thenQ_r ?_
        refine thenQ_r ?_
        refine blockQ_r ?_
        refine thenQ_r ?_
        refine retQ_mk [] L (.inr rfl) (.tmp rfl (.nil)) rfl I3.1 (fun sR hS2 => ?_)
        refine ⟨?_, rfl⟩
        have hnil : l = [] ↔ l.length = 0 := by cases l <;> simp
        have hb : chOK k ch = false := by
          rw [Bool.eq_false_iff]; simp only [chOK, letB, digB, Bool.or_eq_true, Bool.and_eq_true, decide_eq_true_eq, ne_eq]; omega
        simp [resV, chars_not hch hb]; done
       ·
        refine JC_skip ?_
        refine blockQ_n ?_
        refine thenQ_n ?_
        refine JC_region ?_
        refine JO_q (QE_mv rfl) rfl ?_
        refine JO_q (QE_add' rfl rfl (w64 (by omega) (by omega))) rfl ?_
        refine JO_q (QE_as rfl) rfl ?_
        refine JO_nil ?_
        have hOK : chOK k ch = true := by simp only [chOK, letB, digB, Bool.or_eq_true, Bool.and_eq_true, decide_eq_true_eq, ne_eq]; omega
        refine thenQ_n ⟨(k + 1), [], (Keeps.cons rfl (Keeps.cons rfl (Keeps.cons rfl (Keeps.nil _)))), rfl, ⟨I3.1, ⟨by omega, below_succ hI hch hOK⟩⟩, (by omega)⟩
      ·
       refine JO_gF rfl rfl rfl rfl ?_
       refine JO_gF rfl rfl rfl rfl ?_
       refine JO_gT rfl rfl ?_
       refine JO_q (QE_pickF rfl rfl) rfl ?_
       refine JO_gT rfl rfl ?_
       refine JO_q (QE_notF rfl) rfl ?_
       refine JO_q (QE_pickT rfl rfl) rfl ?_
       refine JO_nil ?_
       refine thenQ_n ?_
       refine JC_ifT rfl ?_
       refine JC_seq ?_
       refine JC_region ?_
       refine JO_q (QE_as rfl) rfl ?_
       refine JO_nil ?_
       refine thenQ_n ?_
       refine JC_ret ?_
       refine blockQ_r ?_
       refine thenQ_r ?_
       refine thenQ_r ?_
       refine blockQ_r ?_
       refine thenQ_r ?_
       refine retQ_mk [] L (.inr rfl) (.tmp rfl (.nil)) rfl I3.1 (fun sR hS2 => ?_)
       refine ⟨?_, rfl⟩
       have hnil : l = [] ↔ l.length = 0 := by cases l <;> simp
       have hb : chOK k ch = false := by
         rw [Bool.eq_false_iff]; simp only [chOK, letB, digB, Bool.or_eq_true, Bool.and_eq_true, decide_eq_true_eq, ne_eq]; omega
       simp [resV, chars_not hch hb]; done
     ·
      refine JO_gF rfl rfl rfl rfl ?_
      refine JO_gF rfl rfl rfl rfl ?_
      refine JO_gF rfl rfl rfl rfl ?_
      refine JO_gF rfl rfl rfl rfl ?_
      refine JO_q (QE_pickF rfl rfl) rfl ?_
      refine JO_q (QE_as rfl) rfl ?_
      refine JO_nil ?_
      refine thenQ_n ?_
      refine JC_seq ?_
      refine JC_region ?_
      refine JO_q (QE_mv rfl) rfl ?_
      refine JO_q (QE_notF rfl) rfl ?_
      refine JO_q (QE_mv rfl) rfl ?_
      refine JO_gT rfl rfl ?_
      refine JO_q (QE_mv rfl) rfl ?_
      refine JO_gT rfl rfl ?_
      refine JO_q (QE_mv rfl) rfl ?_
      refine JO_gF rfl rfl rfl rfl ?_
      refine JO_gF rfl rfl rfl rfl ?_
      refine JO_gT rfl rfl ?_
      refine JO_q (QE_pickF rfl rfl) rfl ?_
      refine JO_gT rfl rfl ?_
      refine JO_q (QE_notF rfl) rfl ?_
      refine JO_q (QE_pickT rfl rfl) rfl ?_
      refine JO_nil ?_
      refine thenQ_n ?_
      refine JC_ifT rfl ?_
      refine JC_seq ?_
      refine JC_region ?_
      refine JO_q (QE_as rfl) rfl ?_
      refine JO_nil ?_
      refine thenQ_n ?_
      refine JC_ret ?_
      refine blockQ_r ?_
      refine thenQ_r ?_
      refine thenQ_r ?_
      refine blockQ_r ?_
      refine thenQ_r ?_
      refine retQ_mk [] L (.inr rfl) (.tmp rfl (.nil)) rfl I3.1 (fun sR hS2 => ?_)
      refine ⟨?_, rfl⟩
      have hnil : l = [] ↔ l.length = 0 := by cases l <;> simp
      have hb : chOK k ch = false := by
        rw [Bool.eq_false_iff]; simp only [chOK, letB, digB, Bool.or_eq_true, Bool.and_eq_true, decide_eq_true_eq, ne_eq]; omega
      simp [resV, chars_not hch hb]; done
   ·
    refine JC_exit ?_
    refine thenQ_x ?_
    refine thenQ_x ?_
    refine blockQ_x ?_
    refine thenQ_n ?_
    refine JC_seq ?_
    refine JC_region ?_
    refine JO_q (QE_as rfl) rfl ?_
    refine JO_nil ?_
    refine thenQ_n ?_
    refine JC_ret ?_
    refine retQ_mk [] L (.inr rfl) (.tmp rfl (.nil)) rfl I3.1 (fun sR hS2 => ?_)
    refine ⟨?_, rfl⟩
    have hnil : l = [] ↔ l.length = 0 := by cases l <;> simp
    have hb := chars_all (fun i c hi hc => hI i c (by omega) hc)
    have h6 : (l.length : Int) ≤ m := by omega
    have h0 : ¬ l = [] := by rw [hnil]; omega
    simp [resV, hb, h6, h0]; done

set_option maxHeartbeats 1000000 in
set_option maxRecDepth 100000 in
theorem isLabel_ac (D : Nat) (L : Hl) (s : World) (l : List UInt8) (hl : l.length ≤ 9223372036854775807) : AC Try.prog D 41 [St l] L s fun v L' _ => v = .bool (labelB l) ∧ L = L' := by
 refine AC_enter (TT := TT) (fn := Try.f41) TT_ok Try.func41 (by kernel_rfl) rfl Try.ntmps41 rfl (rs := [.tmp 2]) rfl [(0, _)] rfl ?_
 refine JC_seq ?_
 refine JC_region ?_
 refine JO_q (QE_as rfl) rfl ?_
 refine JO_nil ?_
 refine thenQ_n ?_
 refine JC_seq ?_
 refine JC_region ?_
 refine JO_q (QE_mv rfl) rfl ?_
 refine JO_call (first := []) (captured := []) rfl rfl rfl (isName_ac D _ _ _ _ hl) ?_
 rintro _ _ s1 h1 ⟨rfl, rfl⟩
 refine JO_q (QE_as rfl) rfl ?_
 refine JO_nil ?_
 refine thenQ_n ?_
 refine JC_ret ?_
 refine retQ_mk [] L (.inr rfl) (.tmp rfl (.nil)) rfl h1 (fun sR hS2 => ?_)
 exact ⟨by simp only [resV, labelB]; congr 4; exact propext ⟨fun h => by omega, fun h => by omega⟩, rfl⟩

def needsS (k : Int) : List UInt8 := if k = 0 ∨ k = 13 then [116, 120] else if k = 14 ∨ k = 18 then [120, 121] else if k = 15 then [116] else if k = 16 ∨ k = 17 then [120] else [116, 120, 121]
theorem needs_t (k : Int) : (needsS k).any (fun c => decide ((c.toNat : Int) = 116)) = usesT k := by unfold needsS usesT; (repeat' split) <;> simp <;> omega
theorem needs_x (k : Int) : (needsS k).any (fun c => decide ((c.toNat : Int) = 120)) = usesX k := by unfold needsS usesX; (repeat' split) <;> simp <;> omega
theorem needs_y (k : Int) : (needsS k).any (fun c => decide ((c.toNat : Int) = 121)) = usesY k := by unfold needsS usesY; (repeat' split) <;> simp <;> omega
theorem needs_len (k : Int) : (needsS k).length ≤ 9223372036854775807 := by unfold needsS; (repeat' split) <;> simp
theorem any_hit {l : List UInt8} {p : UInt8 → Bool} {k : Nat} {c : UInt8} (hk : l[k]? = some c) (h : p c = true) : l.any p = true := List.any_eq_true.2 ⟨c, List.mem_of_getElem? hk, h⟩
theorem any_none {l : List UInt8} {p : UInt8 → Bool} (h : ∀ i c, i < l.length → l[i]? = some c → p c = false) : l.any p = false := by
  rw [List.any_eq_false]; intro c hc
  obtain ⟨i, hi, he⟩ := List.getElem_of_mem hc
  have := h i c hi (by rw [List.getElem?_eq_getElem hi, he])
  simp [this]

set_option maxHeartbeats 1000000 in
set_option maxRecDepth 100000 in
theorem needs_ac (D : Nat) (L : Hl) (s : World) (k : Int) : AC Try.prog D 62 [.int .i64 k] L s fun v L' _ => v = St (needsS k) ∧ L = L' := by
 refine AC_enter (TT := TT) (fn := Try.f62) TT_ok Try.func62 (by kernel_rfl) rfl Try.ntmps62 rfl (rs := [.tmp 2]) rfl [(0, _)] rfl ?_
 refine JC_seq ?_
 refine JC_region ?_
 refine JO_q (QE_as rfl) rfl ?_
 refine JO_nil ?_
 refine thenQ_n ?_
 refine JC_seq ?_
 refine JC_seq ?_
 refine JC_region ?_
 refine JO_q (QE_mv rfl) rfl ?_
 refine JO_q (QE_eq rfl rfl) rfl ?_
 refine JO_q (QE_mv rfl) rfl ?_
 refine JO_caseD (t := 5) rfl (fun c1 => ?_) (fun c1 => ?_)
 ·
  refine JO_gF rfl rfl rfl rfl ?_
  refine JO_gF rfl rfl rfl rfl ?_
  refine JO_q (QE_pickT rfl rfl) rfl ?_
  refine JO_nil ?_
  refine thenQ_n ?_
  refine JC_ifT rfl ?_
  refine JC_seq ?_
  refine JC_region ?_
  refine JO_q (QE_as rfl) rfl ?_
  refine JO_nil ?_
  refine thenQ_n ?_
  refine JC_ret ?_
  refine thenQ_r ?_
  refine retQ_mk [] L (.inr rfl) (.tmp rfl (.nil)) rfl (Le.refl (D := D) _) (fun sR hS2 => ?_)
  exact ⟨by simp [resV, needsS, *], rfl⟩
 ·
  refine JO_gT rfl rfl ?_
  refine JO_q (QE_mv rfl) rfl ?_
  refine JO_gT rfl rfl ?_
  refine JO_q (QE_eq rfl rfl) rfl ?_
  refine JO_q (QE_pickF rfl rfl) rfl ?_
  refine JO_nil ?_
  refine thenQ_n ?_
  refine JC_ifD rfl (fun c2 => ?_) (fun c2 => ?_)
  ·
   refine JC_seq ?_
   refine JC_region ?_
   refine JO_q (QE_as rfl) rfl ?_
   refine JO_nil ?_
   refine thenQ_n ?_
   refine JC_ret ?_
   refine thenQ_r ?_
   refine retQ_mk [] L (.inr rfl) (.tmp rfl (.nil)) rfl (Le.refl (D := D) _) (fun sR hS2 => ?_)
   exact ⟨by simp [resV, needsS, *], rfl⟩
  ·
   refine JC_skip ?_
   refine thenQ_n ?_
   refine JC_seq ?_
   refine JC_seq ?_
   refine JC_region ?_
   refine JO_q (QE_mv rfl) rfl ?_
   refine JO_q (QE_eq rfl rfl) rfl ?_
   refine JO_q (QE_mv rfl) rfl ?_
   refine JO_caseD (t := 11) rfl (fun c3 => ?_) (fun c3 => ?_)
   ·
    refine JO_gF rfl rfl rfl rfl ?_
    refine JO_gF rfl rfl rfl rfl ?_
    refine JO_q (QE_pickT rfl rfl) rfl ?_
    refine JO_nil ?_
    refine thenQ_n ?_
    refine JC_ifT rfl ?_
    refine JC_seq ?_
    refine JC_region ?_
    refine JO_q (QE_as rfl) rfl ?_
    refine JO_nil ?_
    refine thenQ_n ?_
    refine JC_ret ?_
    refine thenQ_r ?_
    refine retQ_mk [] L (.inr rfl) (.tmp rfl (.nil)) rfl (Le.refl (D := D) _) (fun sR hS2 => ?_)
    exact ⟨by simp [resV, needsS, *], rfl⟩
   ·
    refine JO_gT rfl rfl ?_
    refine JO_q (QE_mv rfl) rfl ?_
    refine JO_gT rfl rfl ?_
    refine JO_q (QE_eq rfl rfl) rfl ?_
    refine JO_q (QE_pickF rfl rfl) rfl ?_
    refine JO_nil ?_
    refine thenQ_n ?_
    refine JC_ifD rfl (fun c4 => ?_) (fun c4 => ?_)
    ·
     refine JC_seq ?_
     refine JC_region ?_
     refine JO_q (QE_as rfl) rfl ?_
     refine JO_nil ?_
     refine thenQ_n ?_
     refine JC_ret ?_
     refine thenQ_r ?_
     refine retQ_mk [] L (.inr rfl) (.tmp rfl (.nil)) rfl (Le.refl (D := D) _) (fun sR hS2 => ?_)
     exact ⟨by simp [resV, needsS, *], rfl⟩
    ·
     refine JC_skip ?_
     refine thenQ_n ?_
     refine JC_seq ?_
     refine JC_seq ?_
     refine JC_region ?_
     refine JO_q (QE_mv rfl) rfl ?_
     refine JO_q (QE_eq rfl rfl) rfl ?_
     refine JO_nil ?_
     refine thenQ_n ?_
     refine JC_ifD rfl (fun c5 => ?_) (fun c5 => ?_)
     ·
      refine JC_seq ?_
      refine JC_region ?_
      refine JO_q (QE_as rfl) rfl ?_
      refine JO_nil ?_
      refine thenQ_n ?_
      refine JC_ret ?_
      refine thenQ_r ?_
      refine retQ_mk [] L (.inr rfl) (.tmp rfl (.nil)) rfl (Le.refl (D := D) _) (fun sR hS2 => ?_)
      exact ⟨by simp [resV, needsS, *], rfl⟩
     ·
      refine JC_skip ?_
      refine thenQ_n ?_
      refine JC_seq ?_
      refine JC_seq ?_
      refine JC_region ?_
      refine JO_q (QE_mv rfl) rfl ?_
      refine JO_q (QE_eq rfl rfl) rfl ?_
      refine JO_q (QE_mv rfl) rfl ?_
      refine JO_caseD (t := 19) rfl (fun c6 => ?_) (fun c6 => ?_)
      ·
       refine JO_gF rfl rfl rfl rfl ?_
       refine JO_gF rfl rfl rfl rfl ?_
       refine JO_q (QE_pickT rfl rfl) rfl ?_
       refine JO_nil ?_
       refine thenQ_n ?_
       refine JC_ifT rfl ?_
       refine JC_seq ?_
       refine JC_region ?_
       refine JO_q (QE_as rfl) rfl ?_
       refine JO_nil ?_
       refine thenQ_n ?_
       refine JC_ret ?_
       refine thenQ_r ?_
       refine retQ_mk [] L (.inr rfl) (.tmp rfl (.nil)) rfl (Le.refl (D := D) _) (fun sR hS2 => ?_)
       exact ⟨by simp [resV, needsS, *], rfl⟩
      ·
       refine JO_gT rfl rfl ?_
       refine JO_q (QE_mv rfl) rfl ?_
       refine JO_gT rfl rfl ?_
       refine JO_q (QE_eq rfl rfl) rfl ?_
       refine JO_q (QE_pickF rfl rfl) rfl ?_
       refine JO_nil ?_
       refine thenQ_n ?_
       refine JC_ifD rfl (fun c7 => ?_) (fun c7 => ?_)
       ·
        refine JC_seq ?_
        refine JC_region ?_
        refine JO_q (QE_as rfl) rfl ?_
        refine JO_nil ?_
        refine thenQ_n ?_
        refine JC_ret ?_
        refine thenQ_r ?_
        refine retQ_mk [] L (.inr rfl) (.tmp rfl (.nil)) rfl (Le.refl (D := D) _) (fun sR hS2 => ?_)
        exact ⟨by simp [resV, needsS, *], rfl⟩
       ·
        refine JC_skip ?_
        refine thenQ_n ?_
        refine JC_seq ?_
        refine JC_region ?_
        refine JO_q (QE_as rfl) rfl ?_
        refine JO_nil ?_
        refine thenQ_n ?_
        refine JC_ret ?_
        refine retQ_mk [] L (.inr rfl) (.tmp rfl (.nil)) rfl (Le.refl (D := D) _) (fun sR hS2 => ?_)
        exact ⟨by simp [resV, needsS, *], rfl⟩

set_option maxHeartbeats 1000000 in
set_option maxRecDepth 100000 in
theorem has_ac (D : Nat) (L : Hl) (s : World) (l : List UInt8) (c : Int) (hl : l.length ≤ 9223372036854775807) : AC Try.prog D 63 [St l, .int .u8 c] L s fun v L' _ => v = .bool (l.any fun x => decide ((x.toNat : Int) = c)) ∧ L = L' := by
 refine AC_enter (TT := TT) (fn := Try.f63) TT_ok Try.func63 (by kernel_rfl) rfl Try.ntmps63 rfl (rs := [.tmp 4]) rfl [(0, _), (1, _)] rfl ?_
 refine JC_seq ?_
 refine JC_region ?_
 refine JO_q (QE_as rfl) rfl ?_
 refine JO_nil ?_
 refine thenQ_n ?_
 refine JC_seq ?_
 refine JC_seq ?_
 refine JC_region ?_
 refine JO_q (QE_as rfl) rfl ?_
 refine JO_nil ?_
 refine thenQ_n ?_
 refine JC_block ?_
 refine JC_loop (γ := Nat) (fun k => [(0, _), (1, _), (4, _), (5, .int .i64 (k : Int))]) (fun _ => _) (fun k tw => Le D s tw ∧ (k ≤ l.length ∧ ∀ i x, i < k → l[i]? = some x → decide ((x.toNat : Int) = c) = false)) (fun k => l.length - k) (fun _ _ _ h hl => ⟨h.1.trans hl, h.2⟩) 0 (Keeps.cons rfl (Keeps.cons rfl (Keeps.cons rfl (Keeps.cons rfl (Keeps.nil _))))) rfl ⟨Le.refl _, ⟨Nat.zero_le _, fun i c hi => by omega⟩⟩ ?_
 intro k s1 I1
 have hk0 := I1.2.1
 have hI := I1.2.2
 refine JC_seq ?_
 refine JC_seq ?_
 refine JC_region ?_
 refine JO_q (QE_mv rfl) rfl ?_
 refine JO_q (QE_mv rfl) rfl ?_
 refine JO_q (QE_lenT rfl rfl rfl) rfl ?_
 refine JO_q (QE_lt rfl rfl) rfl ?_
 refine JO_nil ?_
 refine thenQ_n ?_
 refine JC_ifD rfl (fun c2 => ?_) (fun c2 => ?_)
 ·
  have hk : k < l.length := by omega
  obtain ⟨ch, hch⟩ : ∃ ch, l[k]? = some ch := ⟨_, List.getElem?_eq_getElem hk⟩
  refine JC_skip ?_
  refine thenQ_n ?_
  refine JC_seq ?_
  refine JC_block ?_
  refine JC_seq ?_
  refine JC_region ?_
  refine JO_q (QE_mv rfl) rfl ?_
  refine JO_q (QE_mv rfl) rfl ?_
  refine JO_q (QE_ix rfl rfl rfl rfl hch) rfl ?_
  refine JO_q (QE_mv rfl) rfl ?_
  refine JO_q (QE_eq rfl rfl) rfl ?_
  refine JO_nil ?_
  refine thenQ_n ?_
  refine JC_ifD rfl (fun c3 => ?_) (fun c3 => ?_)
  ·
   have hz := decide_eq_true c3
   refine JC_seq ?_
   refine JC_region ?_
   refine JO_q (QE_as rfl) rfl ?_
   refine JO_nil ?_
   refine thenQ_n ?_
   refine JC_ret ?_
   refine blockQ_r ?_
   refine thenQ_r ?_
   refine thenQ_r ?_
   refine blockQ_r ?_
   refine thenQ_r ?_
   refine retQ_mk [] L (.inr rfl) (.tmp rfl (.nil)) rfl I1.1 (fun sR hS2 => ?_)
   refine ⟨?_, rfl⟩
   simp only [resV]; rw [any_hit hch hz]; done
  ·
   have hz := decide_eq_false c3
   refine JC_skip ?_
   refine blockQ_n ?_
   refine thenQ_n ?_
   refine JC_region ?_
   refine JO_q (QE_mv rfl) rfl ?_
   refine JO_q (QE_add' rfl rfl (w64 (by omega) (by omega))) rfl ?_
   refine JO_q (QE_as rfl) rfl ?_
   refine JO_nil ?_
   refine thenQ_n ⟨(k + 1), [], (Keeps.cons rfl (Keeps.cons rfl (Keeps.cons rfl (Keeps.cons rfl (Keeps.nil _))))), rfl, ⟨I1.1, ⟨by omega, below_succ hI hch hz⟩⟩, (by omega)⟩
 ·
  refine JC_exit ?_
  refine thenQ_x ?_
  refine thenQ_x ?_
  refine blockQ_x ?_
  refine thenQ_n ?_
  refine JC_seq ?_
  refine JC_region ?_
  refine JO_q (QE_as rfl) rfl ?_
  refine JO_nil ?_
  refine thenQ_n ?_
  refine JC_ret ?_
  refine retQ_mk [] L (.inr rfl) (.tmp rfl (.nil)) rfl I1.1 (fun sR hS2 => ?_)
  refine ⟨?_, rfl⟩
  simp only [resV]; rw [any_none (fun i x hi hx => hI i x (by omega) hx)]; done

set_option maxHeartbeats 1000000 in
set_option maxRecDepth 100000 in
theorem termOk_ac (D : Nat) (L : Hl) (s : World) (x : Tm) (u o : Bool) : AC Try.prog D 64 [.agg #[.int .i64 x.kind, .int .u32 x.val], .bool u, .bool o] L s fun v L' _ => v = .bool (termB x u o) ∧ L = L' := by
 refine AC_enter (TT := TT) (fn := Try.f64) TT_ok Try.func64 (by kernel_rfl) rfl Try.ntmps64 rfl (rs := [.tmp 6]) rfl [(0, _), (1, _), (2, _)] rfl ?_
 refine JC_seq ?_
 refine JC_region ?_
 refine JO_boxA rfl rfl ?_
 intro β1 s1 h1
 refine JO_q (QE_as rfl) rfl ?_
 refine JO_nil ?_
 refine thenQ_n ?_
 refine JC_seq ?_
 refine JC_seq ?_
 refine JC_region ?_
 refine JO_q (QE_mv rfl) rfl ?_
 refine JO_q (QE_not rfl) rfl ?_
 refine JO_nil ?_
 refine thenQ_n ?_
 refine JC_ifM rfl (fun c2 => ?_) (fun c2 => ?_)
 ·
  refine JC_seq ?_
  refine JC_region ?_
  refine JO_q (QE_fa0 rfl rfl rfl rfl) rfl ?_
  refine JO_q (QE_ld1 0 rfl rfl rfl rfl rfl) rfl ?_
  refine JO_q (QE_eq rfl rfl) rfl ?_
  refine JO_q (QE_mv rfl) rfl ?_
  refine JO_caseD (t := 12) rfl (fun c3 => ?_) (fun c3 => ?_)
  ·
   refine JO_gT rfl rfl ?_
   refine JO_q (QE_faB rfl rfl rfl rfl) rfl ?_
   refine JO_gT rfl rfl ?_
   refine JO_q (QE_ld1 0 rfl rfl rfl rfl rfl) rfl ?_
   refine JO_gT rfl rfl ?_
   refine JO_q (QE_eq rfl rfl) rfl ?_
   refine JO_q (QE_pickT rfl rfl) rfl ?_
   refine JO_q (QE_as rfl) rfl ?_
   refine JO_nil ?_
   refine thenQ_n ?_
   refine JC_ret ?_
   refine thenQ_r ?_
   refine retQ_mk [_] L (.inr rfl) (.tmp rfl (.nil)) rfl h1 (fun sR hS2 => ?_)
   exact ⟨by simp_all [resV, termB], rfl⟩
  ·
   refine JO_gF rfl rfl rfl rfl ?_
   refine JO_gF rfl rfl rfl rfl ?_
   refine JO_gF rfl rfl rfl rfl ?_
   refine JO_q (QE_pickF rfl rfl) rfl ?_
   refine JO_q (QE_as rfl) rfl ?_
   refine JO_nil ?_
   refine thenQ_n ?_
   refine JC_ret ?_
   refine thenQ_r ?_
   refine retQ_mk [_] L (.inr rfl) (.tmp rfl (.nil)) rfl h1 (fun sR hS2 => ?_)
   exact ⟨by simp_all [resV, termB], rfl⟩
 ·
  refine JC_skip ?_
  refine thenQ_n ?_
  refine JC_seq ?_
  refine JC_region ?_
  refine JO_q (QE_fa0 rfl rfl rfl rfl) rfl ?_
  refine JO_q (QE_ld1 0 rfl rfl rfl rfl rfl) rfl ?_
  refine JO_q (QE_eq rfl rfl) rfl ?_
  refine JO_q (QE_mv rfl) rfl ?_
  refine JO_caseD (t := 20) rfl (fun c4 => ?_) (fun c4 => ?_)
  ·
   refine JO_gF rfl rfl rfl rfl ?_
   refine JO_gF rfl rfl rfl rfl ?_
   refine JO_gF rfl rfl rfl rfl ?_
   refine JO_gF rfl rfl rfl rfl ?_
   refine JO_gU rfl rfl rfl ?_
   refine JO_gU rfl rfl rfl ?_
   refine JO_gU rfl rfl rfl ?_
   refine JO_gF rfl rfl rfl rfl ?_
   refine JO_q (QE_pickT rfl rfl) rfl ?_
   refine JO_q (QE_mv rfl) rfl ?_
   refine JO_gF rfl rfl rfl rfl ?_
   refine JO_gF rfl rfl rfl rfl ?_
   refine JO_gF rfl rfl rfl rfl ?_
   refine JO_gF rfl rfl rfl rfl ?_
   refine JO_gU rfl rfl rfl ?_
   refine JO_gU rfl rfl rfl ?_
   refine JO_gU rfl rfl rfl ?_
   refine JO_gF rfl rfl rfl rfl ?_
   refine JO_gF rfl rfl rfl rfl ?_
   refine JO_gU rfl rfl rfl ?_
   refine JO_gF rfl rfl rfl rfl ?_
   refine JO_q (QE_pickT rfl rfl) rfl ?_
   refine JO_q (QE_as rfl) rfl ?_
   refine JO_nil ?_
   refine thenQ_n ?_
   refine JC_ret ?_
   refine retQ_mk [_] L (.inr rfl) (.tmp rfl (.nil)) rfl h1 (fun sR hS2 => ?_)
   exact ⟨by simp_all [resV, termB], rfl⟩
  ·
   refine JO_gT rfl rfl ?_
   refine JO_q (QE_fa0 rfl rfl rfl rfl) rfl ?_
   refine JO_gT rfl rfl ?_
   refine JO_q (QE_ld1 0 rfl rfl rfl rfl rfl) rfl ?_
   refine JO_gT rfl rfl ?_
   refine JO_q (QE_eq rfl rfl) rfl ?_
   refine JO_gT rfl rfl ?_
   refine JO_q (QE_mv rfl) rfl ?_
   refine JO_caseD (t := 24) rfl (fun c5 => ?_) (fun c5 => ?_)
   ·
    refine JO_gT rfl rfl ?_
    refine JO_q (QE_faB rfl rfl rfl rfl) rfl ?_
    refine JO_gT rfl rfl ?_
    refine JO_q (QE_ld1 0 rfl rfl rfl rfl rfl) rfl ?_
    refine JO_gT rfl rfl ?_
    refine JO_q (QE_le rfl rfl) rfl ?_
    refine JO_gT rfl rfl ?_
    refine JO_q (QE_pickT rfl rfl) rfl ?_
    refine JO_q (QE_pickF rfl rfl) rfl ?_
    refine JO_q (QE_mv rfl) rfl ?_
    refine JO_caseD (t := 30) rfl (fun c6 => ?_) (fun c6 => ?_)
    ·
     refine JO_gF rfl rfl rfl rfl ?_
     refine JO_gF rfl rfl rfl rfl ?_
     refine JO_gF rfl rfl rfl rfl ?_
     refine JO_gF rfl rfl rfl rfl ?_
     refine JO_gU rfl rfl rfl ?_
     refine JO_gU rfl rfl rfl ?_
     refine JO_gU rfl rfl rfl ?_
     refine JO_gF rfl rfl rfl rfl ?_
     refine JO_gF rfl rfl rfl rfl ?_
     refine JO_gU rfl rfl rfl ?_
     refine JO_gF rfl rfl rfl rfl ?_
     refine JO_q (QE_pickT rfl rfl) rfl ?_
     refine JO_q (QE_as rfl) rfl ?_
     refine JO_nil ?_
     refine thenQ_n ?_
     refine JC_ret ?_
     refine retQ_mk [_] L (.inr rfl) (.tmp rfl (.nil)) rfl h1 (fun sR hS2 => ?_)
     exact ⟨by simp_all [resV, termB], rfl⟩
    ·
     refine JO_gT rfl rfl ?_
     refine JO_q (QE_fa0 rfl rfl rfl rfl) rfl ?_
     refine JO_gT rfl rfl ?_
     refine JO_q (QE_ld1 0 rfl rfl rfl rfl rfl) rfl ?_
     refine JO_gT rfl rfl ?_
     refine JO_q (QE_eq rfl rfl) rfl ?_
     refine JO_gT rfl rfl ?_
     refine JO_q (QE_mv rfl) rfl ?_
     refine JO_caseD (t := 34) rfl (fun c7 => ?_) (fun c7 => ?_)
     ·
      refine JO_gT rfl rfl ?_
      refine JO_q (QE_faB rfl rfl rfl rfl) rfl ?_
      refine JO_gT rfl rfl ?_
      refine JO_q (QE_ld1 0 rfl rfl rfl rfl rfl) rfl ?_
      refine JO_gT rfl rfl ?_
      refine JO_q (QE_eq rfl rfl) rfl ?_
      refine JO_gT rfl rfl ?_
      refine JO_q (QE_pickT rfl rfl) rfl ?_
      refine JO_gT rfl rfl ?_
      refine JO_q (QE_mv rfl) rfl ?_
      refine JO_caseD (t := 39) rfl (fun c8 => ?_) (fun c8 => ?_)
      ·
       refine JO_gT rfl rfl ?_
       refine JO_q (QE_mv rfl) rfl ?_
       refine JO_gT rfl rfl ?_
       refine JO_q (QE_pickT rfl rfl) rfl ?_
       refine JO_q (QE_pickF rfl rfl) rfl ?_
       refine JO_q (QE_as rfl) rfl ?_
       refine JO_nil ?_
       refine thenQ_n ?_
       refine JC_ret ?_
       refine retQ_mk [_] L (.inr rfl) (.tmp rfl (.nil)) rfl h1 (fun sR hS2 => ?_)
       exact ⟨by simp_all [resV, termB], rfl⟩
      ·
       refine JO_gF rfl rfl rfl rfl ?_
       refine JO_gT rfl rfl ?_
       refine JO_q (QE_pickF rfl rfl) rfl ?_
       refine JO_q (QE_pickF rfl rfl) rfl ?_
       refine JO_q (QE_as rfl) rfl ?_
       refine JO_nil ?_
       refine thenQ_n ?_
       refine JC_ret ?_
       refine retQ_mk [_] L (.inr rfl) (.tmp rfl (.nil)) rfl h1 (fun sR hS2 => ?_)
       exact ⟨by simp_all [resV, termB], rfl⟩
     ·
      refine JO_gF rfl rfl rfl rfl ?_
      refine JO_gF rfl rfl rfl rfl ?_
      refine JO_gF rfl rfl rfl rfl ?_
      refine JO_gT rfl rfl ?_
      refine JO_q (QE_pickF rfl rfl) rfl ?_
      refine JO_gT rfl rfl ?_
      refine JO_q (QE_mv rfl) rfl ?_
      refine JO_gF rfl rfl rfl rfl ?_
      refine JO_gT rfl rfl ?_
      refine JO_q (QE_pickF rfl rfl) rfl ?_
      refine JO_q (QE_pickF rfl rfl) rfl ?_
      refine JO_q (QE_as rfl) rfl ?_
      refine JO_nil ?_
      refine thenQ_n ?_
      refine JC_ret ?_
      refine retQ_mk [_] L (.inr rfl) (.tmp rfl (.nil)) rfl h1 (fun sR hS2 => ?_)
      exact ⟨by simp_all [resV, termB], rfl⟩
   ·
    refine JO_gF rfl rfl rfl rfl ?_
    refine JO_gF rfl rfl rfl rfl ?_
    refine JO_gF rfl rfl rfl rfl ?_
    refine JO_gT rfl rfl ?_
    refine JO_q (QE_pickF rfl rfl) rfl ?_
    refine JO_q (QE_pickF rfl rfl) rfl ?_
    refine JO_q (QE_mv rfl) rfl ?_
    refine JO_gT rfl rfl ?_
    refine JO_q (QE_fa0 rfl rfl rfl rfl) rfl ?_
    refine JO_gT rfl rfl ?_
    refine JO_q (QE_ld1 0 rfl rfl rfl rfl rfl) rfl ?_
    refine JO_gT rfl rfl ?_
    refine JO_q (QE_eq rfl rfl) rfl ?_
    refine JO_gT rfl rfl ?_
    refine JO_q (QE_mv rfl) rfl ?_
    refine JO_caseD (t := 34) rfl (fun c9 => ?_) (fun c9 => ?_)
    ·
     refine JO_gT rfl rfl ?_
     refine JO_q (QE_faB rfl rfl rfl rfl) rfl ?_
     refine JO_gT rfl rfl ?_
     refine JO_q (QE_ld1 0 rfl rfl rfl rfl rfl) rfl ?_
     refine JO_gT rfl rfl ?_
     refine JO_q (QE_eq rfl rfl) rfl ?_
     refine JO_gT rfl rfl ?_
     refine JO_q (QE_pickT rfl rfl) rfl ?_
     refine JO_gT rfl rfl ?_
     refine JO_q (QE_mv rfl) rfl ?_
     refine JO_caseD (t := 39) rfl (fun c10 => ?_) (fun c10 => ?_)
     ·
      refine JO_gT rfl rfl ?_
      refine JO_q (QE_mv rfl) rfl ?_
      refine JO_gT rfl rfl ?_
      refine JO_q (QE_pickT rfl rfl) rfl ?_
      refine JO_q (QE_pickF rfl rfl) rfl ?_
      refine JO_q (QE_as rfl) rfl ?_
      refine JO_nil ?_
      refine thenQ_n ?_
      refine JC_ret ?_
      refine retQ_mk [_] L (.inr rfl) (.tmp rfl (.nil)) rfl h1 (fun sR hS2 => ?_)
      exact ⟨by simp_all [resV, termB], rfl⟩
     ·
      refine JO_gF rfl rfl rfl rfl ?_
      refine JO_gT rfl rfl ?_
      refine JO_q (QE_pickF rfl rfl) rfl ?_
      refine JO_q (QE_pickF rfl rfl) rfl ?_
      refine JO_q (QE_as rfl) rfl ?_
      refine JO_nil ?_
      refine thenQ_n ?_
      refine JC_ret ?_
      refine retQ_mk [_] L (.inr rfl) (.tmp rfl (.nil)) rfl h1 (fun sR hS2 => ?_)
      exact ⟨by simp_all [resV, termB], rfl⟩
    ·
     refine JO_gF rfl rfl rfl rfl ?_
     refine JO_gF rfl rfl rfl rfl ?_
     refine JO_gF rfl rfl rfl rfl ?_
     refine JO_gT rfl rfl ?_
     refine JO_q (QE_pickF rfl rfl) rfl ?_
     refine JO_gT rfl rfl ?_
     refine JO_q (QE_mv rfl) rfl ?_
     refine JO_gF rfl rfl rfl rfl ?_
     refine JO_gT rfl rfl ?_
     refine JO_q (QE_pickF rfl rfl) rfl ?_
     refine JO_q (QE_pickF rfl rfl) rfl ?_
     refine JO_q (QE_as rfl) rfl ?_
     refine JO_nil ?_
     refine thenQ_n ?_
     refine JC_ret ?_
     refine retQ_mk [_] L (.inr rfl) (.tmp rfl (.nil)) rfl h1 (fun sR hS2 => ?_)
     exact ⟨by simp_all [resV, termB], rfl⟩

set_option maxHeartbeats 1000000 in
set_option maxRecDepth 100000 in
theorem actionCode_ac (D : Nat) (L : Hl) (s : World) (a : Ac) (o : Bool) : AC Try.prog D 42 [.agg #[.int .i64 a.kind, .int .i64 a.to, .int .i64 a.x.kind, .int .u32 a.x.val, .int .i64 a.y.kind, .int .u32 a.y.val], .bool o] L s fun v L' _ => v = .int .i64 (actCode a o) ∧ L = L' := by
 refine AC_enter (TT := TT) (fn := Try.f42) TT_ok Try.func42 (by kernel_rfl) rfl Try.ntmps42 rfl (rs := [.tmp 4]) rfl [(0, _), (1, _)] rfl ?_
 refine JC_seq ?_
 refine JC_region ?_
 refine JO_boxA rfl rfl ?_
 intro β1 s1 h1
 refine JO_q (QE_as rfl) rfl ?_
 refine JO_nil ?_
 refine thenQ_n ?_
 refine JC_seq ?_
 refine JC_seq ?_
 refine JC_region ?_
 refine JO_q (QE_fa0 rfl rfl rfl rfl) rfl ?_
 refine JO_q (QE_ld1 0 rfl rfl rfl rfl rfl) rfl ?_
 refine JO_call (first := []) (captured := []) rfl rfl rfl (in_ac D _ _ _ _ _) ?_
 rintro _ _ s2 h2 ⟨rfl, rfl⟩
 refine JO_q (QE_not rfl) rfl ?_
 refine JO_nil ?_
 refine thenQ_n ?_
 refine JC_ifN rfl (fun c3 => ?_) (fun c3 => ?_)
 ·
  refine JC_seq ?_
  refine JC_region ?_
  refine JO_q (QE_as rfl) rfl ?_
  refine JO_nil ?_
  refine thenQ_n ?_
  refine JC_ret ?_
  refine thenQ_r ?_
  refine retQ_mk [_] L (.inr rfl) (.tmp rfl (.nil)) rfl (Le.trans h1 h2) (fun sR hS2 => ?_)
  exact ⟨by (try simp only [needs_t, needs_x, needs_y] at *); (try simp_all [resV, actCode]) <;> grind, rfl⟩
 ·
  refine JC_skip ?_
  refine thenQ_n ?_
  refine JC_seq ?_
  refine JC_seq ?_
  refine JC_region ?_
  refine JO_q (QE_faB rfl rfl rfl rfl) rfl ?_
  refine JO_q (QE_ld1 0 rfl rfl rfl rfl rfl) rfl ?_
  refine JO_call (first := []) (captured := []) rfl rfl rfl (in_ac D _ _ _ _ _) ?_
  rintro _ _ s4 h4 ⟨rfl, rfl⟩
  refine JO_q (QE_not rfl) rfl ?_
  refine JO_nil ?_
  refine thenQ_n ?_
  refine JC_ifN rfl (fun c5 => ?_) (fun c5 => ?_)
  ·
   refine JC_seq ?_
   refine JC_region ?_
   refine JO_q (QE_as rfl) rfl ?_
   refine JO_nil ?_
   refine thenQ_n ?_
   refine JC_ret ?_
   refine thenQ_r ?_
   refine retQ_mk [_] L (.inr rfl) (.tmp rfl (.nil)) rfl (Le.trans (Le.trans h1 h2) h4) (fun sR hS2 => ?_)
   exact ⟨by (try simp only [needs_t, needs_x, needs_y] at *); (try simp_all [resV, actCode]) <;> grind, rfl⟩
  ·
   refine JC_skip ?_
   refine thenQ_n ?_
   refine JC_seq ?_
   refine JC_region ?_
   refine JO_q (QE_fa0 rfl rfl rfl rfl) rfl ?_
   refine JO_q (QE_ld1 0 rfl rfl rfl rfl rfl) rfl ?_
   refine JO_call (first := []) (captured := []) rfl rfl rfl (needs_ac D _ _ _) ?_
   rintro _ _ s6 h6 ⟨rfl, rfl⟩
   refine JO_q (QE_as rfl) rfl ?_
   refine JO_nil ?_
   refine thenQ_n ?_
   refine JC_seq ?_
   refine JC_seq ?_
   refine JC_draw drawsMixed 26 rfl _ (fun _ h => h) ?_
   intro s7 h7
   refine JA_q 0 rfl (by kernel_rfl) (by kernel_rfl) (by kernel_rfl) trivial (QE_mv rfl) rfl ?_
   refine JA_1 1 (by kernel_rfl) ?_
   refine JB_call rfl trivial (first := []) (captured := []) rfl rfl rfl (has_ac D _ _ _ _ (needs_len _)) ?_
   rintro _ _ s8 h8 ⟨rfl, rfl⟩
   refine ⟨fun _ _ h => h, ?_⟩
   refine JA_q 2 rfl (by kernel_rfl) (by kernel_rfl) (by kernel_rfl) trivial (QE_not rfl) rfl ?_
   refine JA_q 3 rfl (by kernel_rfl) (by kernel_rfl) (by kernel_rfl) trivial (QE_mv rfl) rfl ?_
   refine JA_caseM (t := 20) rfl (fun c9 => ?_) (fun c9 => ?_)
   ·
    refine JA_q 4 rfl (by kernel_rfl) (by kernel_rfl) (by kernel_rfl) ⟨_, rfl, rfl⟩ (QE_faB rfl rfl rfl rfl) rfl ?_
    refine JA_q 5 rfl (by kernel_rfl) (by kernel_rfl) (by kernel_rfl) ⟨_, rfl, rfl⟩ (QE_ld1 0 rfl rfl rfl rfl rfl) rfl ?_
    refine JA_q 6 rfl (by kernel_rfl) (by kernel_rfl) (by kernel_rfl) ⟨_, rfl, rfl⟩ (QE_ne rfl rfl) rfl ?_
    refine JA_q 7 rfl (by kernel_rfl) (by kernel_rfl) (by kernel_rfl) trivial (QE_pickT rfl rfl) rfl ?_
    refine JA_q 8 rfl (by kernel_rfl) (by kernel_rfl) (by kernel_rfl) trivial (QE_mv rfl) rfl ?_
    refine JA_caseN (t := 25) rfl (fun c10 => ?_) (fun c10 => ?_)
    ·
     refine JA_no 9 rfl (by kernel_rfl) (by kernel_rfl) (by kernel_rfl) rfl rfl rfl rfl ?_
     refine JA_no 10 rfl (by kernel_rfl) (by kernel_rfl) (by kernel_rfl) rfl rfl rfl rfl ?_
     refine JA_no 11 rfl (by kernel_rfl) (by kernel_rfl) (by kernel_rfl) rfl rfl rfl rfl ?_
     refine JA_no 12 rfl (by kernel_rfl) (by kernel_rfl) (by kernel_rfl) rfl rfl rfl rfl ?_
     refine JA_no 13 rfl (by kernel_rfl) (by kernel_rfl) (by kernel_rfl) rfl rfl rfl rfl ?_
     refine JA_no 14 rfl (by kernel_rfl) (by kernel_rfl) (by kernel_rfl) rfl rfl rfl rfl ?_
     refine JA_no 15 rfl (by kernel_rfl) (by kernel_rfl) (by kernel_rfl) rfl rfl rfl rfl ?_
     refine JA_q 16 rfl (by kernel_rfl) (by kernel_rfl) (by kernel_rfl) trivial (QE_pickT rfl rfl) rfl ?_
     refine JA_q 17 rfl (by kernel_rfl) (by kernel_rfl) (by kernel_rfl) trivial (QE_mv rfl) rfl ?_
     refine JA_no 18 rfl (by kernel_rfl) (by kernel_rfl) (by kernel_rfl) rfl rfl rfl rfl ?_
     refine JA_no 19 rfl (by kernel_rfl) (by kernel_rfl) (by kernel_rfl) rfl rfl rfl rfl ?_
     refine JA_no 20 rfl (by kernel_rfl) (by kernel_rfl) (by kernel_rfl) rfl rfl rfl rfl ?_
     refine JA_no 21 rfl (by kernel_rfl) (by kernel_rfl) (by kernel_rfl) rfl rfl rfl rfl ?_
     refine JA_no 22 rfl (by kernel_rfl) (by kernel_rfl) (by kernel_rfl) rfl rfl rfl rfl ?_
     refine JA_no 23 rfl (by kernel_rfl) (by kernel_rfl) (by kernel_rfl) rfl rfl rfl rfl ?_
     refine JA_no 24 rfl (by kernel_rfl) (by kernel_rfl) (by kernel_rfl) rfl rfl rfl rfl ?_
     refine JA_q 25 rfl (by kernel_rfl) (by kernel_rfl) (by kernel_rfl) trivial (QE_pickT rfl rfl) rfl ?_
     refine JA_done (by kernel_rfl) ?_
     refine thenQ_n ?_
     refine JC_ifT rfl ?_
     refine JC_seq ?_
     refine JC_region ?_
     refine JO_q (QE_as rfl) rfl ?_
     refine JO_nil ?_
     refine thenQ_n ?_
     refine JC_ret ?_
     refine thenQ_r ?_
     refine retQ_mk [_] L (.inr rfl) (.tmp rfl (.nil)) rfl (Le.trans (Le.trans (Le.trans (Le.trans (Le.trans h1 h2) h4) h6) h7) h8) (fun sR hS2 => ?_)
     exact ⟨by (try simp only [needs_t, needs_x, needs_y] at *); (try simp_all [resV, actCode]) <;> grind, rfl⟩
    ·
     refine JA_q 9 rfl (by kernel_rfl) (by kernel_rfl) (by kernel_rfl) ⟨_, rfl, rfl⟩ (QE_faB rfl rfl rfl rfl) rfl ?_
     refine JA_q 10 rfl (by kernel_rfl) (by kernel_rfl) (by kernel_rfl) ⟨_, rfl, rfl⟩ (QE_ldA 0 [_, _] rfl rfl rfl rfl rfl) rfl ?_
     refine JA_q 11 rfl (by kernel_rfl) (by kernel_rfl) (by kernel_rfl) ⟨_, rfl, rfl⟩ (QE_mv rfl) rfl ?_
     refine JA_q 13 rfl (by kernel_rfl) (by kernel_rfl) (by kernel_rfl) ⟨_, rfl, rfl⟩ (QE_mv rfl) rfl ?_
     refine JA_1 12 (by kernel_rfl) ?_
     refine JB_call rfl ⟨_, rfl, rfl⟩ (first := []) (captured := []) rfl rfl rfl (has_ac D _ _ _ _ (needs_len _)) ?_
     rintro _ _ s11 h11 ⟨rfl, rfl⟩
     refine ⟨fun _ _ h => h, ?_⟩
     refine JA_1 14 (by kernel_rfl) ?_
     refine JB_call rfl ⟨_, rfl, rfl⟩ (first := []) (captured := []) rfl rfl rfl (termOk_ac D _ _ _ _ _) ?_
     rintro _ _ s12 h12 ⟨rfl, rfl⟩
     refine ⟨fun _ _ h => h, ?_⟩
     refine JA_q 15 rfl (by kernel_rfl) (by kernel_rfl) (by kernel_rfl) ⟨_, rfl, rfl⟩ (QE_not rfl) rfl ?_
     refine JA_q 16 rfl (by kernel_rfl) (by kernel_rfl) (by kernel_rfl) trivial (QE_pickF rfl rfl) rfl ?_
     refine JA_q 17 rfl (by kernel_rfl) (by kernel_rfl) (by kernel_rfl) trivial (QE_mv rfl) rfl ?_
     refine JA_caseM (t := 34) rfl (fun c13 => ?_) (fun c13 => ?_)
     ·
      refine JA_no 18 rfl (by kernel_rfl) (by kernel_rfl) (by kernel_rfl) rfl rfl rfl rfl ?_
      refine JA_no 19 rfl (by kernel_rfl) (by kernel_rfl) (by kernel_rfl) rfl rfl rfl rfl ?_
      refine JA_no 20 rfl (by kernel_rfl) (by kernel_rfl) (by kernel_rfl) rfl rfl rfl rfl ?_
      refine JA_no 21 rfl (by kernel_rfl) (by kernel_rfl) (by kernel_rfl) rfl rfl rfl rfl ?_
      refine JA_no 22 rfl (by kernel_rfl) (by kernel_rfl) (by kernel_rfl) rfl rfl rfl rfl ?_
      refine JA_no 23 rfl (by kernel_rfl) (by kernel_rfl) (by kernel_rfl) rfl rfl rfl rfl ?_
      refine JA_no 24 rfl (by kernel_rfl) (by kernel_rfl) (by kernel_rfl) rfl rfl rfl rfl ?_
      refine JA_q 25 rfl (by kernel_rfl) (by kernel_rfl) (by kernel_rfl) trivial (QE_pickT rfl rfl) rfl ?_
      refine JA_done (by kernel_rfl) ?_
      refine thenQ_n ?_
      refine JC_ifT rfl ?_
      refine JC_seq ?_
      refine JC_region ?_
      refine JO_q (QE_as rfl) rfl ?_
      refine JO_nil ?_
      refine thenQ_n ?_
      refine JC_ret ?_
      refine thenQ_r ?_
      refine retQ_mk [_] L (.inr rfl) (.tmp rfl (.nil)) rfl (Le.trans (Le.trans (Le.trans (Le.trans (Le.trans (Le.trans (Le.trans h1 h2) h4) h6) h7) h8) h11) h12) (fun sR hS2 => ?_)
      exact ⟨by (try simp only [needs_t, needs_x, needs_y] at *); (try simp_all [resV, actCode]) <;> grind, rfl⟩
     ·
      refine JA_q 18 rfl (by kernel_rfl) (by kernel_rfl) (by kernel_rfl) ⟨_, rfl, rfl⟩ (QE_faB rfl rfl rfl rfl) rfl ?_
      refine JA_q 19 rfl (by kernel_rfl) (by kernel_rfl) (by kernel_rfl) ⟨_, rfl, rfl⟩ (QE_ldA 0 [_, _] rfl rfl rfl rfl rfl) rfl ?_
      refine JA_q 20 rfl (by kernel_rfl) (by kernel_rfl) (by kernel_rfl) ⟨_, rfl, rfl⟩ (QE_mv rfl) rfl ?_
      refine JA_q 22 rfl (by kernel_rfl) (by kernel_rfl) (by kernel_rfl) ⟨_, rfl, rfl⟩ (QE_mv rfl) rfl ?_
      refine JA_1 21 (by kernel_rfl) ?_
      refine JB_call rfl ⟨_, rfl, rfl⟩ (first := []) (captured := []) rfl rfl rfl (has_ac D _ _ _ _ (needs_len _)) ?_
      rintro _ _ s14 h14 ⟨rfl, rfl⟩
      refine ⟨fun _ _ h => h, ?_⟩
      refine JA_1 23 (by kernel_rfl) ?_
      refine JB_call rfl ⟨_, rfl, rfl⟩ (first := []) (captured := []) rfl rfl rfl (termOk_ac D _ _ _ _ _) ?_
      rintro _ _ s15 h15 ⟨rfl, rfl⟩
      refine ⟨fun _ _ h => h, ?_⟩
      refine JA_q 24 rfl (by kernel_rfl) (by kernel_rfl) (by kernel_rfl) ⟨_, rfl, rfl⟩ (QE_not rfl) rfl ?_
      refine JA_q 25 rfl (by kernel_rfl) (by kernel_rfl) (by kernel_rfl) trivial (QE_pickF rfl rfl) rfl ?_
      refine JA_done (by kernel_rfl) ?_
      refine thenQ_n ?_
      refine JC_ifM rfl (fun c16 => ?_) (fun c16 => ?_)
      ·
       refine JC_seq ?_
       refine JC_region ?_
       refine JO_q (QE_as rfl) rfl ?_
       refine JO_nil ?_
       refine thenQ_n ?_
       refine JC_ret ?_
       refine thenQ_r ?_
       refine retQ_mk [_] L (.inr rfl) (.tmp rfl (.nil)) rfl (Le.trans (Le.trans (Le.trans (Le.trans (Le.trans (Le.trans (Le.trans (Le.trans (Le.trans h1 h2) h4) h6) h7) h8) h11) h12) h14) h15) (fun sR hS2 => ?_)
       exact ⟨by (try simp only [needs_t, needs_x, needs_y] at *); (try simp_all [resV, actCode]) <;> grind, rfl⟩
      ·
       refine JC_skip ?_
       refine thenQ_n ?_
       refine JC_seq ?_
       refine JC_region ?_
       refine JO_q (QE_as rfl) rfl ?_
       refine JO_nil ?_
       refine thenQ_n ?_
       refine JC_ret ?_
       refine retQ_mk [_] L (.inr rfl) (.tmp rfl (.nil)) rfl (Le.trans (Le.trans (Le.trans (Le.trans (Le.trans (Le.trans (Le.trans (Le.trans (Le.trans h1 h2) h4) h6) h7) h8) h11) h12) h14) h15) (fun sR hS2 => ?_)
       exact ⟨by (try simp only [needs_t, needs_x, needs_y] at *); (try simp_all [resV, actCode]) <;> grind, rfl⟩
   ·
    refine JA_no 4 rfl (by kernel_rfl) (by kernel_rfl) (by kernel_rfl) rfl rfl rfl rfl ?_
    refine JA_no 5 rfl (by kernel_rfl) (by kernel_rfl) (by kernel_rfl) rfl rfl rfl rfl ?_
    refine JA_no 6 rfl (by kernel_rfl) (by kernel_rfl) (by kernel_rfl) rfl rfl rfl rfl ?_
    refine JA_q 7 rfl (by kernel_rfl) (by kernel_rfl) (by kernel_rfl) trivial (QE_pickF rfl rfl) rfl ?_
    refine JA_q 8 rfl (by kernel_rfl) (by kernel_rfl) (by kernel_rfl) trivial (QE_mv rfl) rfl ?_
    refine JA_q 9 rfl (by kernel_rfl) (by kernel_rfl) (by kernel_rfl) ⟨_, rfl, rfl⟩ (QE_faB rfl rfl rfl rfl) rfl ?_
    refine JA_q 10 rfl (by kernel_rfl) (by kernel_rfl) (by kernel_rfl) ⟨_, rfl, rfl⟩ (QE_ldA 0 [_, _] rfl rfl rfl rfl rfl) rfl ?_
    refine JA_q 11 rfl (by kernel_rfl) (by kernel_rfl) (by kernel_rfl) ⟨_, rfl, rfl⟩ (QE_mv rfl) rfl ?_
    refine JA_q 13 rfl (by kernel_rfl) (by kernel_rfl) (by kernel_rfl) ⟨_, rfl, rfl⟩ (QE_mv rfl) rfl ?_
    refine JA_1 12 (by kernel_rfl) ?_
    refine JB_call rfl ⟨_, rfl, rfl⟩ (first := []) (captured := []) rfl rfl rfl (has_ac D _ _ _ _ (needs_len _)) ?_
    rintro _ _ s17 h17 ⟨rfl, rfl⟩
    refine ⟨fun _ _ h => h, ?_⟩
    refine JA_1 14 (by kernel_rfl) ?_
    refine JB_call rfl ⟨_, rfl, rfl⟩ (first := []) (captured := []) rfl rfl rfl (termOk_ac D _ _ _ _ _) ?_
    rintro _ _ s18 h18 ⟨rfl, rfl⟩
    refine ⟨fun _ _ h => h, ?_⟩
    refine JA_q 15 rfl (by kernel_rfl) (by kernel_rfl) (by kernel_rfl) ⟨_, rfl, rfl⟩ (QE_not rfl) rfl ?_
    refine JA_q 16 rfl (by kernel_rfl) (by kernel_rfl) (by kernel_rfl) trivial (QE_pickF rfl rfl) rfl ?_
    refine JA_q 17 rfl (by kernel_rfl) (by kernel_rfl) (by kernel_rfl) trivial (QE_mv rfl) rfl ?_
    refine JA_caseM (t := 34) rfl (fun c19 => ?_) (fun c19 => ?_)
    ·
     refine JA_no 18 rfl (by kernel_rfl) (by kernel_rfl) (by kernel_rfl) rfl rfl rfl rfl ?_
     refine JA_no 19 rfl (by kernel_rfl) (by kernel_rfl) (by kernel_rfl) rfl rfl rfl rfl ?_
     refine JA_no 20 rfl (by kernel_rfl) (by kernel_rfl) (by kernel_rfl) rfl rfl rfl rfl ?_
     refine JA_no 21 rfl (by kernel_rfl) (by kernel_rfl) (by kernel_rfl) rfl rfl rfl rfl ?_
     refine JA_no 22 rfl (by kernel_rfl) (by kernel_rfl) (by kernel_rfl) rfl rfl rfl rfl ?_
     refine JA_no 23 rfl (by kernel_rfl) (by kernel_rfl) (by kernel_rfl) rfl rfl rfl rfl ?_
     refine JA_no 24 rfl (by kernel_rfl) (by kernel_rfl) (by kernel_rfl) rfl rfl rfl rfl ?_
     refine JA_q 25 rfl (by kernel_rfl) (by kernel_rfl) (by kernel_rfl) trivial (QE_pickT rfl rfl) rfl ?_
     refine JA_done (by kernel_rfl) ?_
     refine thenQ_n ?_
     refine JC_ifT rfl ?_
     refine JC_seq ?_
     refine JC_region ?_
     refine JO_q (QE_as rfl) rfl ?_
     refine JO_nil ?_
     refine thenQ_n ?_
     refine JC_ret ?_
     refine thenQ_r ?_
     refine retQ_mk [_] L (.inr rfl) (.tmp rfl (.nil)) rfl (Le.trans (Le.trans (Le.trans (Le.trans (Le.trans (Le.trans (Le.trans h1 h2) h4) h6) h7) h8) h17) h18) (fun sR hS2 => ?_)
     exact ⟨by (try simp only [needs_t, needs_x, needs_y] at *); (try simp_all [resV, actCode]) <;> grind, rfl⟩
    ·
     refine JA_q 18 rfl (by kernel_rfl) (by kernel_rfl) (by kernel_rfl) ⟨_, rfl, rfl⟩ (QE_faB rfl rfl rfl rfl) rfl ?_
     refine JA_q 19 rfl (by kernel_rfl) (by kernel_rfl) (by kernel_rfl) ⟨_, rfl, rfl⟩ (QE_ldA 0 [_, _] rfl rfl rfl rfl rfl) rfl ?_
     refine JA_q 20 rfl (by kernel_rfl) (by kernel_rfl) (by kernel_rfl) ⟨_, rfl, rfl⟩ (QE_mv rfl) rfl ?_
     refine JA_q 22 rfl (by kernel_rfl) (by kernel_rfl) (by kernel_rfl) ⟨_, rfl, rfl⟩ (QE_mv rfl) rfl ?_
     refine JA_1 21 (by kernel_rfl) ?_
     refine JB_call rfl ⟨_, rfl, rfl⟩ (first := []) (captured := []) rfl rfl rfl (has_ac D _ _ _ _ (needs_len _)) ?_
     rintro _ _ s20 h20 ⟨rfl, rfl⟩
     refine ⟨fun _ _ h => h, ?_⟩
     refine JA_1 23 (by kernel_rfl) ?_
     refine JB_call rfl ⟨_, rfl, rfl⟩ (first := []) (captured := []) rfl rfl rfl (termOk_ac D _ _ _ _ _) ?_
     rintro _ _ s21 h21 ⟨rfl, rfl⟩
     refine ⟨fun _ _ h => h, ?_⟩
     refine JA_q 24 rfl (by kernel_rfl) (by kernel_rfl) (by kernel_rfl) ⟨_, rfl, rfl⟩ (QE_not rfl) rfl ?_
     refine JA_q 25 rfl (by kernel_rfl) (by kernel_rfl) (by kernel_rfl) trivial (QE_pickF rfl rfl) rfl ?_
     refine JA_done (by kernel_rfl) ?_
     refine thenQ_n ?_
     refine JC_ifM rfl (fun c22 => ?_) (fun c22 => ?_)
     ·
      refine JC_seq ?_
      refine JC_region ?_
      refine JO_q (QE_as rfl) rfl ?_
      refine JO_nil ?_
      refine thenQ_n ?_
      refine JC_ret ?_
      refine thenQ_r ?_
      refine retQ_mk [_] L (.inr rfl) (.tmp rfl (.nil)) rfl (Le.trans (Le.trans (Le.trans (Le.trans (Le.trans (Le.trans (Le.trans (Le.trans (Le.trans h1 h2) h4) h6) h7) h8) h17) h18) h20) h21) (fun sR hS2 => ?_)
      exact ⟨by (try simp only [needs_t, needs_x, needs_y] at *); (try simp_all [resV, actCode]) <;> grind, rfl⟩
     ·
      refine JC_skip ?_
      refine thenQ_n ?_
      refine JC_seq ?_
      refine JC_region ?_
      refine JO_q (QE_as rfl) rfl ?_
      refine JO_nil ?_
      refine thenQ_n ?_
      refine JC_ret ?_
      refine retQ_mk [_] L (.inr rfl) (.tmp rfl (.nil)) rfl (Le.trans (Le.trans (Le.trans (Le.trans (Le.trans (Le.trans (Le.trans (Le.trans (Le.trans h1 h2) h4) h6) h7) h8) h17) h18) h20) h21) (fun sR hS2 => ?_)
      exact ⟨by (try simp only [needs_t, needs_x, needs_y] at *); (try simp_all [resV, actCode]) <;> grind, rfl⟩

set_option maxHeartbeats 1000000 in
set_option maxRecDepth 100000 in
theorem tableFault_ac (D : Nat) (L : Hl) (s : World) (t : Tab) (A : Option Addr) (n c : Nat) (hA : Inss s A n c t.ins) : AC Try.prog D 24 [.agg #[.int .i64 t.cells, .slice A n c]] L s fun v L' _ => v = .agg #[.int .i64 (tabFault t).1, .int .i64 (tabFault t).2] ∧ L = L' := by
 have hn := hA.1
 have hc1 := hA.2.1
 have hc2 := hA.2.2.1
 refine AC_enter (TT := TT) (fn := Try.f24) TT_ok Try.func24 (by kernel_rfl) rfl Try.ntmps24 rfl (rs := [.cell 2 32]) rfl [(0, _)] rfl ?_
 refine JC_seq ?_
 refine JC_region ?_
 refine JO_boxA rfl rfl ?_
 intro β1 s1 h1
 refine JO_allocZ rfl [_, _] rfl rfl ?_
 intro β2 s2 h2
 refine JO_nil ?_
 refine thenQ_n ?_
 refine JC_seq ?_
 refine JC_seq ?_
 refine JC_region ?_
 refine JO_q (QE_fa0 rfl rfl rfl rfl) rfl ?_
 refine JO_q (QE_ld1 1 rfl rfl rfl rfl rfl) rfl ?_
 refine JO_call (first := []) (captured := []) rfl rfl rfl (in_ac D _ _ _ _ _) ?_
 rintro _ _ s3 h3 ⟨rfl, rfl⟩
 refine JO_q (QE_not rfl) rfl ?_
 refine JO_nil ?_
 refine thenQ_n ?_
 refine JC_ifN rfl (fun c4 => ?_) (fun c4 => ?_)
 ·
  refine JC_seq ?_
  refine JC_region ?_
  refine JO_call (first := []) (captured := []) rfl rfl rfl (at_ac D _ _ _ _) ?_
  rintro _ _ s5 h5 ⟨rfl, rfl⟩
  refine JO_st 0 [_, _] rfl rfl rfl rfl rfl rfl rfl rfl rfl ?_
  refine JO_nil ?_
  refine thenQ_n ?_
  refine JC_ret ?_
  refine thenQ_r ?_
  refine retQ_mk [_, _] L (.inr rfl) (.agg (us := [_, _]) 0 rfl rfl rfl rfl rfl (.nil)) rfl (Le.trans (Le.trans (Le.trans h1 h2) h3) h5) (fun sR hS2 => ?_)
  refine ⟨?_, rfl⟩
  have h0 : t.cells < 1 ∨ 65536 < t.cells := by omega
  simp [resV, tabFault, h0]; done
 ·
  refine JC_skip ?_
  refine thenQ_n ?_
  refine JC_seq ?_
  refine JC_seq ?_
  refine JC_region ?_
  refine JO_q (QE_faB rfl rfl rfl rfl) rfl ?_
  refine JO_q (QE_ld1 1 rfl rfl rfl rfl rfl) rfl ?_
  refine JO_q (QE_lenS rfl rfl rfl) rfl ?_
  refine JO_q (QE_gt rfl rfl) rfl ?_
  refine JO_nil ?_
  refine thenQ_n ?_
  refine JC_ifD rfl (fun c6 => ?_) (fun c6 => ?_)
  ·
   refine JC_seq ?_
   refine JC_region ?_
   refine JO_call (first := []) (captured := []) rfl rfl rfl (at_ac D _ _ _ _) ?_
   rintro _ _ s7 h7 ⟨rfl, rfl⟩
   refine JO_st 0 [_, _] rfl rfl rfl rfl rfl rfl rfl rfl rfl ?_
   refine JO_nil ?_
   refine thenQ_n ?_
   refine JC_ret ?_
   refine thenQ_r ?_
   refine retQ_mk [_, _] L (.inr rfl) (.agg (us := [_, _]) 0 rfl rfl rfl rfl rfl (.nil)) rfl (Le.trans (Le.trans (Le.trans h1 h2) h3) h7) (fun sR hS2 => ?_)
   refine ⟨?_, rfl⟩
   have h0 : ¬ (t.cells < 1 ∨ 65536 < t.cells) := by omega
   have h1 : 64 < t.ins.length := by omega
   simp [resV, tabFault, h0, h1]; done
  ·
   refine JC_skip ?_
   refine thenQ_n ?_
   refine JC_seq ?_
   refine JC_seq ?_
   refine JC_region ?_
   refine JO_q (QE_as rfl) rfl ?_
   refine JO_nil ?_
   refine thenQ_n ?_
   refine JC_block ?_
   refine JC_loop (γ := Nat) (fun k => [(1, _), (2, _), (3, .int .i64 (k : Int))]) (fun _ => _) (fun k tw => Le D s3 tw ∧ (k ≤ n ∧ ∀ i, i < k → rowCode t.ins i = 0)) (fun k => n - k) (fun _ _ _ h hl => ⟨h.1.trans hl, h.2⟩) 0 (Keeps.cons rfl (Keeps.cons rfl (Keeps.cons rfl (Keeps.nil _)))) rfl ⟨Le.refl _, ⟨Nat.zero_le _, fun i hi => by omega⟩⟩ ?_
   intro k s8 I8
   have hk0 := I8.2.1
   have hI := I8.2.2
   refine JC_seq ?_
   refine JC_seq ?_
   refine JC_region ?_
   refine JO_q (QE_mv rfl) rfl ?_
   refine JO_q (QE_faB rfl rfl rfl rfl) rfl ?_
   refine JO_q (QE_ld1 1 rfl rfl rfl rfl rfl) rfl ?_
   refine JO_q (QE_lenS rfl rfl rfl) rfl ?_
   refine JO_q (QE_lt rfl rfl) rfl ?_
   refine JO_nil ?_
   refine thenQ_n ?_
   refine JC_ifD rfl (fun c9 => ?_) (fun c9 => ?_)
   ·
    have hk : k < n := by omega
    obtain ⟨b, off, x, A', n', c', rfl, hx, hcx, hax, hnl, hcd⟩ := Inss.at_ (hA.le (Le.trans (Le.trans (Le.trans h1 h2) h3) I8.1)) hk
    have hn' := hax.1
    have hc1' := hax.2.1
    have hc2' := hax.2.2.1
    refine JC_skip ?_
    refine thenQ_n ?_
    refine JC_seq ?_
    refine JC_block ?_
    refine JC_seq ?_
    refine JC_region ?_
    refine JO_q (QE_faB rfl rfl rfl rfl) rfl ?_
    refine JO_q (QE_ld1 1 rfl rfl rfl rfl rfl) rfl ?_
    refine JO_q (QE_mv rfl) rfl ?_
    refine JO_q (QE_iaN rfl rfl rfl rfl rfl rfl hk) rfl ?_
    refine JO_q (QE_ldsA rfl rfl rfl (hcx.le (Le.refl (D := D) _)) rfl) rfl ?_
    refine JO_allocZ rfl [_, _, _, _] rfl rfl ?_
    intro β10 s10 h10
    refine JO_st 0 [_, _, _, _] rfl rfl rfl rfl rfl rfl rfl rfl rfl ?_
    refine JO_nil ?_
    refine thenQ_n ?_
    refine JC_seq ?_
    refine JC_seq ?_
    refine JC_region ?_
    refine JO_q (QE_fa0 rfl rfl rfl rfl) rfl ?_
    refine JO_q (QE_ld1 0 rfl rfl rfl rfl rfl) rfl ?_
    refine JO_call (first := []) (captured := []) rfl rfl rfl (isLabel_ac D _ _ _ hnl) ?_
    rintro _ _ s11 h11 ⟨rfl, rfl⟩
    refine JO_q (QE_not rfl) rfl ?_
    refine JO_q (QE_mv rfl) rfl ?_
    refine JO_caseM (t := 34) rfl (fun c12 => ?_) (fun c12 => ?_)
    ·
     refine JO_gF rfl rfl rfl rfl ?_
     refine JO_gF rfl rfl rfl rfl ?_
     refine JO_gF rfl rfl rfl rfl ?_
     refine JO_q (QE_pickT rfl rfl) rfl ?_
     refine JO_q (QE_mv rfl) rfl ?_
     refine JO_gF rfl rfl rfl rfl ?_
     refine JO_gF rfl rfl rfl rfl ?_
     refine JO_gF rfl rfl rfl rfl ?_
     refine JO_q (QE_pickT rfl rfl) rfl ?_
     refine JO_nil ?_
     refine thenQ_n ?_
     refine JC_ifT rfl ?_
     have hm : mnemB x.name = false := by first | exact mnem_F1 (by assumption) | exact mnem_F2 (by assumption) | exact mnem_F3 (by assumption)
     refine JC_seq ?_
     refine JC_region ?_
     refine JO_q (QE_mv rfl) rfl ?_
     refine JO_call (first := []) (captured := []) rfl rfl rfl (at_ac D _ _ _ _) ?_
     rintro _ _ s13 h13 ⟨rfl, rfl⟩
     refine JO_st 1 [_, _] rfl rfl rfl rfl rfl rfl rfl rfl rfl ?_
     refine JO_nil ?_
     refine thenQ_n ?_
     refine JC_ret ?_
     refine thenQ_r ?_
     refine blockQ_r ?_
     refine thenQ_r ?_
     refine thenQ_r ?_
     refine blockQ_r ?_
     refine thenQ_r ?_
     refine retQ_mk [_, _, _] L (.inr rfl) (.agg (us := [_, _]) 1 rfl rfl rfl rfl rfl (.nil)) rfl (Le.trans (Le.trans (Le.trans (Le.trans (Le.trans (Le.trans h1 h2) h3) I8.1) h10) h11) h13) (fun sR hS2 => ?_)
     refine ⟨?_, rfl⟩
     simp only [resV]; rw [tab_hit (k := k) (c := 7) (by omega) (by omega) hI (by omega) (by simp [rowCode, hx, insCode, hm]) (by decide)]; done
    ·
     refine JO_gT rfl rfl ?_
     refine JO_q (QE_fa0 rfl rfl rfl rfl) rfl ?_
     refine JO_gT rfl rfl ?_
     refine JO_q (QE_ld1 0 rfl rfl rfl rfl rfl) rfl ?_
     refine JO_gT rfl rfl ?_
     refine JO_q (QE_seq rfl rfl) rfl ?_
     refine JO_q (QE_pickF rfl rfl) rfl ?_
     refine JO_q (QE_mv rfl) rfl ?_
     refine JO_caseD (t := 39) rfl (fun c14 => ?_) (fun c14 => ?_)
     ·
      refine JO_gF rfl rfl rfl rfl ?_
      refine JO_gF rfl rfl rfl rfl ?_
      refine JO_gF rfl rfl rfl rfl ?_
      refine JO_q (QE_pickT rfl rfl) rfl ?_
      refine JO_nil ?_
      refine thenQ_n ?_
      refine JC_ifT rfl ?_
      have hm : mnemB x.name = false := by first | exact mnem_F1 (by assumption) | exact mnem_F2 (by assumption) | exact mnem_F3 (by assumption)
      refine JC_seq ?_
      refine JC_region ?_
      refine JO_q (QE_mv rfl) rfl ?_
      refine JO_call (first := []) (captured := []) rfl rfl rfl (at_ac D _ _ _ _) ?_
      rintro _ _ s15 h15 ⟨rfl, rfl⟩
      refine JO_st 1 [_, _] rfl rfl rfl rfl rfl rfl rfl rfl rfl ?_
      refine JO_nil ?_
      refine thenQ_n ?_
      refine JC_ret ?_
      refine thenQ_r ?_
      refine blockQ_r ?_
      refine thenQ_r ?_
      refine thenQ_r ?_
      refine blockQ_r ?_
      refine thenQ_r ?_
      refine retQ_mk [_, _, _] L (.inr rfl) (.agg (us := [_, _]) 1 rfl rfl rfl rfl rfl (.nil)) rfl (Le.trans (Le.trans (Le.trans (Le.trans (Le.trans (Le.trans h1 h2) h3) I8.1) h10) h11) h15) (fun sR hS2 => ?_)
      refine ⟨?_, rfl⟩
      simp only [resV]; rw [tab_hit (k := k) (c := 7) (by omega) (by omega) hI (by omega) (by simp [rowCode, hx, insCode, hm]) (by decide)]; done
     ·
      refine JO_gT rfl rfl ?_
      refine JO_q (QE_fa0 rfl rfl rfl rfl) rfl ?_
      refine JO_gT rfl rfl ?_
      refine JO_q (QE_ld1 0 rfl rfl rfl rfl rfl) rfl ?_
      refine JO_gT rfl rfl ?_
      refine JO_q (QE_seq rfl rfl) rfl ?_
      refine JO_q (QE_pickF rfl rfl) rfl ?_
      refine JO_nil ?_
      refine thenQ_n ?_
      refine JC_ifD rfl (fun c16 => ?_) (fun c16 => ?_)
      ·
       have hm : mnemB x.name = false := by first | exact mnem_F1 (by assumption) | exact mnem_F2 (by assumption) | exact mnem_F3 (by assumption)
       refine JC_seq ?_
       refine JC_region ?_
       refine JO_q (QE_mv rfl) rfl ?_
       refine JO_call (first := []) (captured := []) rfl rfl rfl (at_ac D _ _ _ _) ?_
       rintro _ _ s17 h17 ⟨rfl, rfl⟩
       refine JO_st 1 [_, _] rfl rfl rfl rfl rfl rfl rfl rfl rfl ?_
       refine JO_nil ?_
       refine thenQ_n ?_
       refine JC_ret ?_
       refine thenQ_r ?_
       refine blockQ_r ?_
       refine thenQ_r ?_
       refine thenQ_r ?_
       refine blockQ_r ?_
       refine thenQ_r ?_
       refine retQ_mk [_, _, _] L (.inr rfl) (.agg (us := [_, _]) 1 rfl rfl rfl rfl rfl (.nil)) rfl (Le.trans (Le.trans (Le.trans (Le.trans (Le.trans (Le.trans h1 h2) h3) I8.1) h10) h11) h17) (fun sR hS2 => ?_)
       refine ⟨?_, rfl⟩
       simp only [resV]; rw [tab_hit (k := k) (c := 7) (by omega) (by omega) hI (by omega) (by simp [rowCode, hx, insCode, hm]) (by decide)]; done
      ·
       have hm : mnemB x.name = true := mnem_T (by assumption) (by assumption) (by assumption)
       refine JC_skip ?_
       refine thenQ_n ?_
       refine JC_seq ?_
       refine JC_seq ?_
       refine JC_region ?_
       refine JO_q (QE_faB rfl rfl rfl rfl) rfl ?_
       refine JO_q (QE_ld1 0 rfl rfl rfl rfl rfl) rfl ?_
       refine JO_q (QE_lenS rfl rfl rfl) rfl ?_
       refine JO_q (QE_gt rfl rfl) rfl ?_
       refine JO_nil ?_
       refine thenQ_n ?_
       refine JC_ifD rfl (fun c18 => ?_) (fun c18 => ?_)
       ·
        have h8 : 8 < x.acts.length := by omega
        refine JC_seq ?_
        refine JC_region ?_
        refine JO_q (QE_mv rfl) rfl ?_
        refine JO_call (first := []) (captured := []) rfl rfl rfl (at_ac D _ _ _ _) ?_
        rintro _ _ s19 h19 ⟨rfl, rfl⟩
        refine JO_st 1 [_, _] rfl rfl rfl rfl rfl rfl rfl rfl rfl ?_
        refine JO_nil ?_
        refine thenQ_n ?_
        refine JC_ret ?_
        refine thenQ_r ?_
        refine blockQ_r ?_
        refine thenQ_r ?_
        refine thenQ_r ?_
        refine blockQ_r ?_
        refine thenQ_r ?_
        refine retQ_mk [_, _, _] L (.inr rfl) (.agg (us := [_, _]) 1 rfl rfl rfl rfl rfl (.nil)) rfl (Le.trans (Le.trans (Le.trans (Le.trans (Le.trans (Le.trans h1 h2) h3) I8.1) h10) h11) h19) (fun sR hS2 => ?_)
        refine ⟨?_, rfl⟩
        simp only [resV]; rw [tab_hit (k := k) (c := 2) (by omega) (by omega) hI (by omega) (by simp [rowCode, hx, insCode, hm, h8]) (by decide)]; done
       ·
        have h8 : ¬ 8 < x.acts.length := by omega
        refine JC_skip ?_
        refine thenQ_n ?_
        refine JC_seq ?_
        refine JC_seq ?_
        refine JC_region ?_
        refine JO_q (QE_as rfl) rfl ?_
        refine JO_nil ?_
        refine thenQ_n ?_
        refine JC_block ?_
        refine JC_loop (γ := Nat) (fun j => [(1, _), (2, _), (3, _), (4, _), (5, .int .i64 (j : Int))]) (fun _ => _) (fun j tw => Le D s11 tw ∧ (j ≤ n' ∧ ∀ i a, i < j → x.acts[i]? = some a → actCode a x.operand = 0)) (fun j => n' - j) (fun _ _ _ h hl => ⟨h.1.trans hl, h.2⟩) 0 (Keeps.cons rfl (Keeps.cons rfl (Keeps.cons rfl (Keeps.cons rfl (Keeps.cons rfl (Keeps.nil _)))))) rfl ⟨Le.refl _, ⟨Nat.zero_le _, fun i c hi => by omega⟩⟩ ?_
        intro j s20 I20
        have hj0 := I20.2.1
        have hJ := I20.2.2
        refine JC_seq ?_
        refine JC_seq ?_
        refine JC_region ?_
        refine JO_q (QE_mv rfl) rfl ?_
        refine JO_q (QE_faB rfl rfl rfl rfl) rfl ?_
        refine JO_q (QE_ld1 0 rfl rfl rfl rfl rfl) rfl ?_
        refine JO_q (QE_lenS rfl rfl rfl) rfl ?_
        refine JO_q (QE_lt rfl rfl) rfl ?_
        refine JO_nil ?_
        refine thenQ_n ?_
        refine JC_ifD rfl (fun c21 => ?_) (fun c21 => ?_)
        ·
         have hj : j < n' := by omega
         obtain ⟨b2, off2, a, rfl, ha, hca, hau⟩ := Acs.at_ (hax.le (Le.trans (Le.trans h10 h11) I20.1)) hj
         refine JC_skip ?_
         refine thenQ_n ?_
         refine JC_seq ?_
         refine JC_block ?_
         refine JC_seq ?_
         refine JC_draw drawsMixed 9 rfl _ (fun _ h => h) ?_
         intro s22 h22
         refine JA_q 0 rfl (by kernel_rfl) (by kernel_rfl) (by kernel_rfl) trivial (QE_faB rfl rfl rfl rfl) rfl ?_
         refine JA_q 1 rfl (by kernel_rfl) (by kernel_rfl) (by kernel_rfl) trivial (QE_ld1 0 rfl rfl rfl rfl rfl) rfl ?_
         refine JA_q 2 rfl (by kernel_rfl) (by kernel_rfl) (by kernel_rfl) trivial (QE_mv rfl) rfl ?_
         refine JA_q 3 rfl (by kernel_rfl) (by kernel_rfl) (by kernel_rfl) trivial (QE_iaN rfl rfl rfl rfl rfl rfl hj) rfl ?_
         refine JA_q 4 rfl (by kernel_rfl) (by kernel_rfl) (by kernel_rfl) trivial (QE_ldsA rfl rfl rfl (hca.le h22) rfl) rfl ?_
         refine JA_q 5 rfl (by kernel_rfl) (by kernel_rfl) (by kernel_rfl) trivial (QE_faB rfl rfl rfl rfl) rfl ?_
         refine JA_q 6 rfl (by kernel_rfl) (by kernel_rfl) (by kernel_rfl) trivial (QE_ld1 0 rfl rfl rfl rfl rfl) rfl ?_
         refine JA_1 7 (by kernel_rfl) ?_
         refine JB_call rfl trivial (first := []) (captured := []) rfl rfl rfl (actionCode_ac D _ _ _ _) ?_
         rintro _ _ s23 h23 ⟨rfl, rfl⟩
         refine ⟨fun _ _ h => h, ?_⟩
         refine JA_q 8 rfl (by kernel_rfl) (by kernel_rfl) (by kernel_rfl) trivial (QE_as rfl) rfl ?_
         refine JA_done (by kernel_rfl) ?_
         refine thenQ_n ?_
         refine JC_seq ?_
         refine JC_region ?_
         refine JO_q (QE_mv rfl) rfl ?_
         refine JO_q (QE_ne rfl rfl) rfl ?_
         refine JO_nil ?_
         refine thenQ_n ?_
         refine JC_ifN rfl (fun c24 => ?_) (fun c24 => ?_)
         ·
          have hz : actCode a x.operand ≠ 0 := by simpa using c24
          refine JC_seq ?_
          refine JC_region ?_
          refine JO_q (QE_mv rfl) rfl ?_
          refine JO_q (QE_mv rfl) rfl ?_
          refine JO_call (first := []) (captured := []) rfl rfl rfl (at_ac D _ _ _ _) ?_
          rintro _ _ s25 h25 ⟨rfl, rfl⟩
          refine JO_st 1 [_, _] rfl rfl rfl rfl rfl rfl rfl rfl rfl ?_
          refine JO_nil ?_
          refine thenQ_n ?_
          refine JC_ret ?_
          refine blockQ_r ?_
          refine thenQ_r ?_
          refine thenQ_r ?_
          refine blockQ_r ?_
          refine thenQ_r ?_
          refine blockQ_r ?_
          refine thenQ_r ?_
          refine thenQ_r ?_
          refine blockQ_r ?_
          refine thenQ_r ?_
          refine retQ_mk [_, _, _] L (.inr rfl) (.agg (us := [_, _]) 1 rfl rfl rfl rfl rfl (.nil)) rfl (Le.trans (Le.trans (Le.trans (Le.trans (Le.trans (Le.trans (Le.trans (Le.trans (Le.trans h1 h2) h3) I8.1) h10) h11) I20.1) h22) h23) h25) (fun sR hS2 => ?_)
          refine ⟨?_, rfl⟩
          have hf := firstNZ_hit hJ ha hz
          simp only [resV]; rw [tab_hit (k := k) (c := actCode a x.operand) (by omega) (by omega) hI (by omega) (by simp [rowCode, hx, insCode, hm, h8, hf, hz]) hz]; done
         ·
          have hz : actCode a x.operand = 0 := by simpa using c24
          refine JC_skip ?_
          refine blockQ_n ?_
          refine thenQ_n ?_
          refine JC_region ?_
          refine JO_q (QE_mv rfl) rfl ?_
          refine JO_q (QE_add' rfl rfl (w64 (by omega) (by omega))) rfl ?_
          refine JO_q (QE_as rfl) rfl ?_
          refine JO_nil ?_
          refine thenQ_n ⟨(j + 1), [], (Keeps.cons rfl (Keeps.cons rfl (Keeps.cons rfl (Keeps.cons rfl (Keeps.cons rfl (Keeps.nil _)))))), rfl, ⟨(Le.trans (Le.trans I20.1 h22) h23), ⟨by omega, below_succ hJ ha hz⟩⟩, (by omega)⟩
        ·
         refine JC_exit ?_
         refine thenQ_x ?_
         refine thenQ_x ?_
         refine blockQ_x ?_
         refine thenQ_n ?_
         refine JC_seq ?_
         refine JC_region ?_
         refine JO_q (QE_as rfl) rfl ?_
         refine JO_nil ?_
         refine thenQ_n ?_
         refine JC_block ?_
         refine JC_loop (γ := Nat) (fun m => [(1, _), (2, _), (3, _), (4, _), (7, .int .i64 (m : Int))]) (fun _ => _) (fun m tw => Le D s20 tw ∧ (m ≤ k ∧ ∀ i y, i < m → t.ins[i]? = some y → sameKey x y = false)) (fun m => k - m) (fun _ _ _ h hl => ⟨h.1.trans hl, h.2⟩) 0 (Keeps.cons rfl (Keeps.cons rfl (Keeps.cons rfl (Keeps.cons rfl (Keeps.cons rfl (Keeps.nil _)))))) rfl ⟨Le.refl _, ⟨Nat.zero_le _, fun i c hi => by omega⟩⟩ ?_
         intro m s26 I26
         have hm0 := I26.2.1
         have hM := I26.2.2
         refine JC_seq ?_
         refine JC_seq ?_
         refine JC_region ?_
         refine JO_q (QE_mv rfl) rfl ?_
         refine JO_q (QE_mv rfl) rfl ?_
         refine JO_q (QE_lt rfl rfl) rfl ?_
         refine JO_nil ?_
         refine thenQ_n ?_
         refine JC_ifD rfl (fun c27 => ?_) (fun c27 => ?_)
         ·
          have hmk : m < k := by omega
          obtain ⟨b3, off3, y, A3, n3, c3, he3, hy, hcy, _, _, _⟩ := Inss.at_ (hA.le (Le.trans (Le.trans (Le.trans (Le.trans (Le.trans (Le.trans (Le.trans h1 h2) h3) I8.1) h10) h11) I20.1) I26.1)) (show m < n by omega)
          obtain ⟨rfl, rfl⟩ : b3 = b ∧ off3 = off := by injection he3 with he3; injection he3 with e1 e2; exact ⟨e1.symm, e2.symm⟩
          refine JC_skip ?_
          refine thenQ_n ?_
          refine JC_seq ?_
          refine JC_block ?_
          refine JC_seq ?_
          refine JC_draw drawsMixed 20 rfl _ (fun _ h => h) ?_
          intro s28 h28
          refine JA_q 0 rfl (by kernel_rfl) (by kernel_rfl) (by kernel_rfl) trivial (QE_faB rfl rfl rfl rfl) rfl ?_
          refine JA_q 1 rfl (by kernel_rfl) (by kernel_rfl) (by kernel_rfl) trivial (QE_ld1 2 rfl rfl rfl rfl rfl) rfl ?_
          refine JA_q 2 rfl (by kernel_rfl) (by kernel_rfl) (by kernel_rfl) trivial (QE_mv rfl) rfl ?_
          refine JA_q 3 rfl (by kernel_rfl) (by kernel_rfl) (by kernel_rfl) trivial (QE_iaN rfl rfl rfl rfl rfl rfl (show m < n by omega)) rfl ?_
          refine JA_q 4 rfl (by kernel_rfl) (by kernel_rfl) (by kernel_rfl) trivial (QE_fa0 rfl rfl rfl rfl) rfl ?_
          refine JA_q 5 rfl (by kernel_rfl) (by kernel_rfl) (by kernel_rfl) trivial (QE_ldsR0 rfl rfl rfl (hcy.le h28) rfl) rfl ?_
          refine JA_q 6 rfl (by kernel_rfl) (by kernel_rfl) (by kernel_rfl) trivial (QE_fa0 rfl rfl rfl rfl) rfl ?_
          refine JA_q 7 rfl (by kernel_rfl) (by kernel_rfl) (by kernel_rfl) trivial (QE_ld1 0 rfl rfl rfl rfl rfl) rfl ?_
          refine JA_q 8 rfl (by kernel_rfl) (by kernel_rfl) (by kernel_rfl) trivial (QE_seq rfl rfl) rfl ?_
          refine JA_q 9 rfl (by kernel_rfl) (by kernel_rfl) (by kernel_rfl) trivial (QE_mv rfl) rfl ?_
          refine JA_caseD (t := 86) rfl (fun c29 => ?_) (fun c29 => ?_)
          ·
           refine JA_no 10 rfl (by kernel_rfl) (by kernel_rfl) (by kernel_rfl) rfl rfl rfl rfl ?_
           refine JA_no 11 rfl (by kernel_rfl) (by kernel_rfl) (by kernel_rfl) rfl rfl rfl rfl ?_
           refine JA_no 12 rfl (by kernel_rfl) (by kernel_rfl) (by kernel_rfl) rfl rfl rfl rfl ?_
           refine JA_no 13 rfl (by kernel_rfl) (by kernel_rfl) (by kernel_rfl) rfl rfl rfl rfl ?_
           refine JA_no 14 rfl (by kernel_rfl) (by kernel_rfl) (by kernel_rfl) rfl rfl rfl rfl ?_
           refine JA_no 15 rfl (by kernel_rfl) (by kernel_rfl) (by kernel_rfl) rfl rfl rfl rfl ?_
           refine JA_no 16 rfl (by kernel_rfl) (by kernel_rfl) (by kernel_rfl) rfl rfl rfl rfl ?_
           refine JA_no 17 rfl (by kernel_rfl) (by kernel_rfl) (by kernel_rfl) rfl rfl rfl rfl ?_
           refine JA_no 18 rfl (by kernel_rfl) (by kernel_rfl) (by kernel_rfl) rfl rfl rfl rfl ?_
           refine JA_q 19 rfl (by kernel_rfl) (by kernel_rfl) (by kernel_rfl) trivial (QE_pickT rfl rfl) rfl ?_
           refine JA_done (by kernel_rfl) ?_
           refine thenQ_n ?_
           refine JC_ifT rfl ?_
           have hs : sameKey x y = true := by first | exact same_T1 (by assumption) | exact same_T2 (by assumption)
           refine JC_seq ?_
           refine JC_region ?_
           refine JO_q (QE_mv rfl) rfl ?_
           refine JO_call (first := []) (captured := []) rfl rfl rfl (at_ac D _ _ _ _) ?_
           rintro _ _ s30 h30 ⟨rfl, rfl⟩
           refine JO_st 1 [_, _] rfl rfl rfl rfl rfl rfl rfl rfl rfl ?_
           refine JO_nil ?_
           refine thenQ_n ?_
           refine JC_ret ?_
           refine blockQ_r ?_
           refine thenQ_r ?_
           refine thenQ_r ?_
           refine blockQ_r ?_
           refine blockQ_r ?_
           refine thenQ_r ?_
           refine thenQ_r ?_
           refine blockQ_r ?_
           refine thenQ_r ?_
           refine retQ_mk [_, _, _] L (.inr rfl) (.agg (us := [_, _]) 1 rfl rfl rfl rfl rfl (.nil)) rfl (Le.trans (Le.trans (Le.trans (Le.trans (Le.trans (Le.trans (Le.trans (Le.trans (Le.trans h1 h2) h3) I8.1) h10) h11) I20.1) I26.1) h28) h30) (fun sR hS2 => ?_)
           refine ⟨?_, rfl⟩
           have hf := firstNZ_none (l := x.acts) (f := fun a => actCode a x.operand) (fun i a hi h => hJ i a (by omega) h)
           have hs2 : (t.ins.take k).any (sameKey x) = true := any_take hy hmk hs
           simp only [resV]; rw [tab_hit (k := k) (c := 8) (by omega) (by omega) hI (by omega) (by simp [rowCode, hx, insCode, hm, h8, hf, hs2]) (by decide)]; done
          ·
           refine JA_q 10 rfl (by kernel_rfl) (by kernel_rfl) (by kernel_rfl) ⟨_, rfl, rfl⟩ (QE_faB rfl rfl rfl rfl) rfl ?_
           refine JA_q 11 rfl (by kernel_rfl) (by kernel_rfl) (by kernel_rfl) ⟨_, rfl, rfl⟩ (QE_ld1 2 rfl rfl rfl rfl rfl) rfl ?_
           refine JA_q 12 rfl (by kernel_rfl) (by kernel_rfl) (by kernel_rfl) ⟨_, rfl, rfl⟩ (QE_mv rfl) rfl ?_
           refine JA_q 13 rfl (by kernel_rfl) (by kernel_rfl) (by kernel_rfl) ⟨_, rfl, rfl⟩ (QE_iaN rfl rfl rfl rfl rfl rfl (show m < n by omega)) rfl ?_
           refine JA_q 14 rfl (by kernel_rfl) (by kernel_rfl) (by kernel_rfl) ⟨_, rfl, rfl⟩ (QE_fa rfl rfl rfl rfl) rfl ?_
           refine JA_q 15 rfl (by kernel_rfl) (by kernel_rfl) (by kernel_rfl) ⟨_, rfl, rfl⟩ (QE_ldsR 1 rfl rfl rfl (hcy.le h28) rfl) rfl ?_
           refine JA_q 16 rfl (by kernel_rfl) (by kernel_rfl) (by kernel_rfl) ⟨_, rfl, rfl⟩ (QE_faB rfl rfl rfl rfl) rfl ?_
           refine JA_q 17 rfl (by kernel_rfl) (by kernel_rfl) (by kernel_rfl) ⟨_, rfl, rfl⟩ (QE_ld1 0 rfl rfl rfl rfl rfl) rfl ?_
           refine JA_q 18 rfl (by kernel_rfl) (by kernel_rfl) (by kernel_rfl) ⟨_, rfl, rfl⟩ (QE_eq rfl rfl) rfl ?_
           refine JA_q 19 rfl (by kernel_rfl) (by kernel_rfl) (by kernel_rfl) trivial (QE_pickF rfl rfl) rfl ?_
           refine JA_done (by kernel_rfl) ?_
           refine thenQ_n ?_
           refine JC_ifD rfl (fun c31 => ?_) (fun c31 => ?_)
           ·
            have hs : sameKey x y = true := by first | exact same_T1 (by assumption) | exact same_T2 (by assumption)
            refine JC_seq ?_
            refine JC_region ?_
            refine JO_q (QE_mv rfl) rfl ?_
            refine JO_call (first := []) (captured := []) rfl rfl rfl (at_ac D _ _ _ _) ?_
            rintro _ _ s32 h32 ⟨rfl, rfl⟩
            refine JO_st 1 [_, _] rfl rfl rfl rfl rfl rfl rfl rfl rfl ?_
            refine JO_nil ?_
            refine thenQ_n ?_
            refine JC_ret ?_
            refine blockQ_r ?_
            refine thenQ_r ?_
            refine thenQ_r ?_
            refine blockQ_r ?_
            refine blockQ_r ?_
            refine thenQ_r ?_
            refine thenQ_r ?_
            refine blockQ_r ?_
            refine thenQ_r ?_
            refine retQ_mk [_, _, _] L (.inr rfl) (.agg (us := [_, _]) 1 rfl rfl rfl rfl rfl (.nil)) rfl (Le.trans (Le.trans (Le.trans (Le.trans (Le.trans (Le.trans (Le.trans (Le.trans (Le.trans h1 h2) h3) I8.1) h10) h11) I20.1) I26.1) h28) h32) (fun sR hS2 => ?_)
            refine ⟨?_, rfl⟩
            have hf := firstNZ_none (l := x.acts) (f := fun a => actCode a x.operand) (fun i a hi h => hJ i a (by omega) h)
            have hs2 : (t.ins.take k).any (sameKey x) = true := any_take hy hmk hs
            simp only [resV]; rw [tab_hit (k := k) (c := 8) (by omega) (by omega) hI (by omega) (by simp [rowCode, hx, insCode, hm, h8, hf, hs2]) (by decide)]; done
           ·
            have hs : sameKey x y = false := same_F (by assumption) (by assumption)
            refine JC_skip ?_
            refine blockQ_n ?_
            refine thenQ_n ?_
            refine JC_region ?_
            refine JO_q (QE_mv rfl) rfl ?_
            refine JO_q (QE_add' rfl rfl (w64 (by omega) (by omega))) rfl ?_
            refine JO_q (QE_as rfl) rfl ?_
            refine JO_nil ?_
            refine thenQ_n ⟨(m + 1), [], (Keeps.cons rfl (Keeps.cons rfl (Keeps.cons rfl (Keeps.cons rfl (Keeps.cons rfl (Keeps.nil _)))))), rfl, ⟨(Le.trans I26.1 h28), ⟨by omega, below_succ hM hy hs⟩⟩, (by omega)⟩
         ·
          refine JC_exit ?_
          refine thenQ_x ?_
          refine thenQ_x ?_
          refine blockQ_x ?_
          refine blockQ_n ?_
          refine thenQ_n ?_
          refine JC_region ?_
          refine JO_q (QE_mv rfl) rfl ?_
          refine JO_q (QE_add' rfl rfl (w64 (by omega) (by omega))) rfl ?_
          refine JO_q (QE_as rfl) rfl ?_
          refine JO_nil ?_
          refine thenQ_n ⟨(k + 1), [_], (Keeps.cons rfl (Keeps.cons rfl (Keeps.cons rfl (Keeps.nil _)))), rfl, ⟨(Le.trans (Le.trans (Le.trans (Le.trans I8.1 h10) h11) I20.1) I26.1), ⟨by omega, fun i hi => by rcases Nat.lt_succ_iff_lt_or_eq.1 hi with h | rfl; exact hI i h; exact row_ok hx hm h8 (fun i a hi h => hJ i a (by omega) h) (fun i y hi h => hM i y (by omega) h)⟩⟩, (by omega)⟩
   ·
    refine JC_exit ?_
    refine thenQ_x ?_
    refine thenQ_x ?_
    refine blockQ_x ?_
    refine thenQ_n ?_
    refine JC_seq ?_
    refine JC_region ?_
    refine JO_q (QE_build [] [_, _] rfl rfl rfl rfl rfl rfl) rfl ?_
    refine JO_st 0 [_, _] rfl rfl rfl rfl rfl rfl rfl rfl rfl ?_
    refine JO_nil ?_
    refine thenQ_n ?_
    refine JC_ret ?_
    refine retQ_mk [_, _] L (.inr rfl) (.agg (us := [_, _]) 0 rfl rfl rfl rfl rfl (.nil)) rfl (Le.trans (Le.trans (Le.trans h1 h2) h3) I8.1) (fun sR hS2 => ?_)
    refine ⟨?_, rfl⟩
    simp only [resV]; rw [tab_none (by omega) (by omega) (fun i hi => hI i (by omega))]; done
end Go.Proofs.Ytpjnphonanbopaa
