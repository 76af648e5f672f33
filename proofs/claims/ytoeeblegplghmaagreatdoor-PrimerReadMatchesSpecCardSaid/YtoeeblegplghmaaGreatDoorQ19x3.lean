/- Part 3 of the proof of primerReadMatchesSpec_holds: texts V2, Ds, V3, FlI, FlJ, Dm, FlK, Dx, FlL, Dv, V18, Ea, Eb, Ed, Nv, FlM, FlN, FlP, Ga, Gb. -/
import Derived.Test.YtoeeblegplghmaaGreatDoorQ19x2
import Derived.Laws.BytesString
import Derived.Maps.AppendAt
import Derived.Laws.MakeOwn
import Derived.Laws.CopyRow
import Derived.MapKept
import Derived.Laws.RangeAny
import Derived.Lib.DecodeN
import Derived.Lib.SmallJoins
import Derived.Lib.AppendStr
import Derived.Laws.IdiomStrings
import Derived.WideLaws
import Derived.Laws.Externs
import Derived.Shelf.Slices.Empties2
set_option linter.unusedVariables false
set_option linter.unusedSimpArgs false
set_option linter.unnecessarySimpa false
namespace Go.Proofs.YtoeeblegplghmaaGreatDoor
open Go.FL
attribute [local irreducible] JC JO JA JB thenQ blockQ retQ AC fill CellsAt QE Ev Mid
set_option maxHeartbeats 1000000 in
set_option maxRecDepth 100000 in
theorem in_ac (D : Nat) (L : Hl) (s : World) (x lo hi : Int) : AC Tryz.prog D 20 [.int .i64 x, .int .i64 lo, .int .i64 hi] L s fun v L' _ => v = .bool (decide (lo ≤ x ∧ x ≤ hi)) ∧ L = L' := by
 refine AC_enter (TT := TT) (fn := Tryz.f20) TT_ok Tryz.func20 (by kernel_rfl) rfl Tryz.ntmps20 rfl (rs := [.tmp 6]) rfl [(0, _), (1, _), (2, _)] rfl ?_
 refine JC_seq ?_
 refine JC_region ?_
 refine JO_q (QE_as rfl) rfl ?_
 refine JO_nil ?_
 refine thenQ_n ?_
 refine JC_seq ?_
 refine JC_region ?_
 refine JO_q (QE_mv rfl) rfl ?_
 refine JO_q (QE_mv rfl) rfl ?_
 refine JO_q (QE_ge rfl rfl) rfl ?_
 refine JO_q (QE_mv rfl) rfl ?_
 refine JO_caseD (t := 10) rfl (fun c1 => ?_) (fun c1 => ?_)
 ·
  refine JO_gT rfl rfl ?_
  refine JO_q (QE_mv rfl) rfl ?_
  refine JO_gT rfl rfl ?_
  refine JO_q (QE_mv rfl) rfl ?_
  refine JO_gT rfl rfl ?_
  refine JO_q (QE_le rfl rfl) rfl ?_
  refine JO_q (QE_pickT rfl rfl) rfl ?_
  refine JO_q (QE_as rfl) rfl ?_
  refine JO_nil ?_
  refine thenQ_n ?_
  refine JC_ret ?_
  refine retQ_mk [] L (.inr rfl) (.tmp rfl (.nil)) rfl (Le.refl (D := D) _) (fun sR hS2 => ?_)
  exact ⟨by simp [resV, *], rfl⟩
 ·
  refine JO_gF rfl rfl rfl rfl ?_
  refine JO_gF rfl rfl rfl rfl ?_
  refine JO_gF rfl rfl rfl rfl ?_
  refine JO_q (QE_pickF rfl rfl) rfl ?_
  refine JO_q (QE_as rfl) rfl ?_
  refine JO_nil ?_
  refine thenQ_n ?_
  refine JC_ret ?_
  refine retQ_mk [] L (.inr rfl) (.tmp rfl (.nil)) rfl (Le.refl (D := D) _) (fun sR hS2 => ?_)
  exact ⟨by simp [resV, *], rfl⟩
set_option maxHeartbeats 1000000 in
set_option maxRecDepth 100000 in
theorem at_ac (D : Nat) (L : Hl) (s : World) (c i : Int) : AC Tryz.prog D 22 [.int .i64 c, .int .i64 i] L s fun v L' _ => v = .agg #[.int .i64 c, .int .i64 i] ∧ L = L' := by
 refine AC_enter (TT := TT) (fn := Tryz.f22) TT_ok Tryz.func22 (by kernel_rfl) rfl Tryz.ntmps22 rfl (rs := [.cell 4 26]) rfl [(0, _), (1, _)] rfl ?_
 refine JC_seq ?_
 refine JC_region ?_
 refine JO_allocZ rfl [_, _] rfl rfl ?_
 intro β1 s1 h1
 refine JO_nil ?_
 refine thenQ_n ?_
 refine JC_seq ?_
 refine JC_region ?_
 refine JO_q (QE_mv rfl) rfl ?_
 refine JO_q (QE_mv rfl) rfl ?_
 refine JO_q (QE_build [(_, _), (_, _)] [_, _] rfl rfl rfl rfl rfl rfl) rfl ?_
 refine JO_st 0 [_, _] rfl rfl rfl rfl rfl rfl rfl rfl rfl ?_
 refine JO_nil ?_
 refine thenQ_n ?_
 refine JC_ret ?_
 refine retQ_mk [_] L (.inr rfl) (.agg (us := [_, _]) 0 rfl rfl rfl rfl rfl (.nil)) rfl h1 (fun sR hS2 => ?_)
 exact ⟨rfl, rfl⟩
set_option maxHeartbeats 1000000 in
set_option maxRecDepth 100000 in
theorem isName_ac (D : Nat) (L : Hl) (s : World) (l : List UInt8) (m : Int) (hl : l.length ≤ 9223372036854775807) : AC Tryz.prog D 56 [St l, .int .i64 m] L s fun v L' _ => v = .bool (decide (l ≠ []) && decide ((l.length : Int) ≤ m) && charsFrom 0 l) ∧ L = L' := by
 refine AC_enter (TT := TT) (fn := Tryz.f56) TT_ok Tryz.func56 (by kernel_rfl) rfl Tryz.ntmps56 rfl (rs := [.tmp 4]) rfl [(0, _), (1, _)] rfl ?_
 refine JC_seq ?_
 refine JC_region ?_
 refine JO_q (QE_as rfl) rfl ?_
 refine JO_nil ?_
 refine thenQ_n ?_
 refine JC_seq ?_
 refine JC_seq ?_
 refine JC_region ?_
 refine JO_q (QE_mv rfl) rfl ?_
 refine JO_q (QE_lenT rfl rfl rfl) rfl ?_
 refine JO_q (QE_lt rfl rfl) rfl ?_
 refine JO_q (QE_mv rfl) rfl ?_
 refine JO_caseD (t := 11) rfl (fun c1 => ?_) (fun c1 => ?_)
 ·
  refine JO_gF rfl rfl rfl rfl ?_
  refine JO_gF rfl rfl rfl rfl ?_
  refine JO_gF rfl rfl rfl rfl ?_
  refine JO_gF rfl rfl rfl rfl ?_
  refine JO_q (QE_pickT rfl rfl) rfl ?_
  refine JO_nil ?_
  refine thenQ_n ?_
  refine JC_ifT rfl ?_
  refine JC_seq ?_
  refine JC_region ?_
  refine JO_q (QE_as rfl) rfl ?_
  refine JO_nil ?_
  refine thenQ_n ?_
  refine JC_ret ?_
  refine thenQ_r ?_
  refine retQ_mk [] L (.inr rfl) (.tmp rfl (.nil)) rfl (Le.refl (D := D) _) (fun sR hS2 => ?_)
  refine ⟨?_, rfl⟩
  have hnil : l = [] ↔ l.length = 0 := by cases l <;> simp
  have h0 : l = [] := by rw [hnil]; omega
  simp [resV, h0]; done
 ·
  refine JO_gT rfl rfl ?_
  refine JO_q (QE_mv rfl) rfl ?_
  refine JO_gT rfl rfl ?_
  refine JO_q (QE_lenT rfl rfl rfl) rfl ?_
  refine JO_gT rfl rfl ?_
  refine JO_q (QE_mv rfl) rfl ?_
  refine JO_gT rfl rfl ?_
  refine JO_q (QE_gt rfl rfl) rfl ?_
  refine JO_q (QE_pickF rfl rfl) rfl ?_
  refine JO_nil ?_
  refine thenQ_n ?_
  refine JC_ifD rfl (fun c2 => ?_) (fun c2 => ?_)
  ·
   refine JC_seq ?_
   refine JC_region ?_
   refine JO_q (QE_as rfl) rfl ?_
   refine JO_nil ?_
   refine thenQ_n ?_
   refine JC_ret ?_
   refine thenQ_r ?_
   refine retQ_mk [] L (.inr rfl) (.tmp rfl (.nil)) rfl (Le.refl (D := D) _) (fun sR hS2 => ?_)
   refine ⟨?_, rfl⟩
   have hnil : l = [] ↔ l.length = 0 := by cases l <;> simp
   have h0 : ¬ (l.length : Int) ≤ m := by omega
   simp [resV, h0]; done
  ·
   refine JC_skip ?_
   refine thenQ_n ?_
   refine JC_seq ?_
   refine JC_seq ?_
   refine JC_region ?_
   refine JO_q (QE_as rfl) rfl ?_
   refine JO_nil ?_
   refine thenQ_n ?_
   refine JC_block ?_
   refine JC_loop (γ := Nat) (fun k => [(0, _), (4, _), (5, .int .i64 (k : Int))]) (fun _ => _) (fun k tw => Le D s tw ∧ (k ≤ l.length ∧ ∀ i c, i < k → l[i]? = some c → chOK i c = true)) (fun k => l.length - k) (fun _ _ _ h hl => ⟨h.1.trans hl, h.2⟩) 0 (Keeps.cons rfl (Keeps.cons rfl (Keeps.cons rfl (Keeps.nil _)))) rfl ⟨Le.refl _, ⟨Nat.zero_le _, fun i c hi => by omega⟩⟩ ?_
   intro k s3 I3
   have hk0 := I3.2.1
   have hI := I3.2.2
   refine JC_seq ?_
   refine JC_seq ?_
   refine JC_region ?_
   refine JO_q (QE_mv rfl) rfl ?_
   refine JO_q (QE_mv rfl) rfl ?_
   refine JO_q (QE_lenT rfl rfl rfl) rfl ?_
   refine JO_q (QE_lt rfl rfl) rfl ?_
   refine JO_nil ?_
   refine thenQ_n ?_
   refine JC_ifD rfl (fun c4 => ?_) (fun c4 => ?_)
   ·
    have hk : k < l.length := by omega
    obtain ⟨ch, hch⟩ : ∃ ch, l[k]? = some ch := ⟨_, List.getElem?_eq_getElem hk⟩
    refine JC_skip ?_
    refine thenQ_n ?_
    refine JC_seq ?_
    refine JC_block ?_
    refine JC_seq ?_
    refine JC_region ?_
    refine JO_q (QE_mv rfl) rfl ?_
    refine JO_q (QE_mv rfl) rfl ?_
    refine JO_q (QE_ix rfl rfl rfl rfl hch) rfl ?_
    refine JO_q (QE_ge rfl rfl) rfl ?_
    refine JO_q (QE_mv rfl) rfl ?_
    refine JO_caseD (t := 27) rfl (fun c5 => ?_) (fun c5 => ?_)
    ·
     refine JO_gT rfl rfl ?_
     refine JO_q (QE_mv rfl) rfl ?_
     refine JO_gT rfl rfl ?_
     refine JO_q (QE_mv rfl) rfl ?_
     refine JO_gT rfl rfl ?_
     refine JO_q (QE_ix rfl rfl rfl rfl hch) rfl ?_
     refine JO_gT rfl rfl ?_
     refine JO_q (QE_le rfl rfl) rfl ?_
     refine JO_q (QE_pickT rfl rfl) rfl ?_
     refine JO_q (QE_as rfl) rfl ?_
     refine JO_nil ?_
     refine thenQ_n ?_
     refine JC_seq ?_
     refine JC_region ?_
     refine JO_q (QE_mv rfl) rfl ?_
     refine JO_q (QE_mv rfl) rfl ?_
     refine JO_q (QE_ix rfl rfl rfl rfl hch) rfl ?_
     refine JO_q (QE_ge rfl rfl) rfl ?_
     refine JO_q (QE_mv rfl) rfl ?_
     refine JO_caseD (t := 37) rfl (fun c6 => ?_) (fun c6 => ?_)
     ·
      refine JO_gT rfl rfl ?_
      refine JO_q (QE_mv rfl) rfl ?_
      refine JO_gT rfl rfl ?_
      refine JO_q (QE_mv rfl) rfl ?_
      refine JO_gT rfl rfl ?_
      refine JO_q (QE_ix rfl rfl rfl rfl hch) rfl ?_
      refine JO_gT rfl rfl ?_
      refine JO_q (QE_le rfl rfl) rfl ?_
      refine JO_q (QE_pickT rfl rfl) rfl ?_
      refine JO_q (QE_as rfl) rfl ?_
      refine JO_nil ?_
      refine thenQ_n ?_
      refine JC_seq ?_
      refine JC_region ?_
      refine JO_q (QE_mv rfl) rfl ?_
      refine JO_q (QE_not rfl) rfl ?_
      refine JO_q (QE_mv rfl) rfl ?_
      refine JO_caseN (t := 45) rfl (fun c7 => ?_) (fun c7 => ?_)
      ·
       refine JO_gT rfl rfl ?_
       refine JO_q (QE_mv rfl) rfl ?_
       refine JO_gT rfl rfl ?_
       refine JO_q (QE_mv rfl) rfl ?_
       refine JO_caseD (t := 47) rfl (fun c8 => ?_) (fun c8 => ?_)
       ·
        refine JO_gT rfl rfl ?_
        refine JO_q (QE_mv rfl) rfl ?_
        refine JO_gT rfl rfl ?_
        refine JO_q (QE_gt rfl rfl) rfl ?_
        refine JO_gT rfl rfl ?_
        refine JO_q (QE_pickT rfl rfl) rfl ?_
        refine JO_gT rfl rfl ?_
        refine JO_q (QE_not rfl) rfl ?_
        refine JO_q (QE_pickT rfl rfl) rfl ?_
        refine JO_nil ?_
        refine thenQ_n ?_
        refine JC_ifN rfl (fun c9 => ?_) (fun c9 => ?_)
        ·
         refine JC_seq ?_
         refine JC_region ?_
         refine JO_q (QE_as rfl) rfl ?_
         refine JO_nil ?_
         refine thenQ_n ?_
         refine JC_ret ?_
         refine blockQ_r ?_
         refine thenQ_r ?_
         refine thenQ_r ?_
         refine blockQ_r ?_
         refine thenQ_r ?_
         refine retQ_mk [] L (.inr rfl) (.tmp rfl (.nil)) rfl I3.1 (fun sR hS2 => ?_)
         refine ⟨?_, rfl⟩
         have hnil : l = [] ↔ l.length = 0 := by cases l <;> simp
         have h0 : l = [] := by rw [hnil]; omega
         simp [resV, h0]; done
        ·
         refine JC_skip ?_
         refine blockQ_n ?_
         refine thenQ_n ?_
         refine JC_region ?_
         refine JO_q (QE_mv rfl) rfl ?_
         refine JO_q (QE_add' rfl rfl (w64 (by omega) (by omega))) rfl ?_
         refine JO_q (QE_as rfl) rfl ?_
         refine JO_nil ?_
         have hOK : chOK k ch = true := by simp only [chOK, letB, digB, Bool.or_eq_true, Bool.and_eq_true, decide_eq_true_eq, ne_eq]; omega
         refine thenQ_n ⟨(k + 1), [], (Keeps.cons rfl (Keeps.cons rfl (Keeps.cons rfl (Keeps.nil _)))), rfl, ⟨I3.1, ⟨by omega, below_succ hI hch hOK⟩⟩, (by omega)⟩
       ·
        refine JO_gF rfl rfl rfl rfl ?_
        refine JO_gF rfl rfl rfl rfl ?_
        refine JO_gT rfl rfl ?_
        refine JO_q (QE_pickF rfl rfl) rfl ?_
        refine JO_gT rfl rfl ?_
        refine JO_q (QE_notF rfl) rfl ?_
        refine JO_q (QE_pickT rfl rfl) rfl ?_
        refine JO_nil ?_
        refine thenQ_n ?_
        refine JC_ifT rfl ?_
        refine JC_seq ?_
        refine JC_region ?_
        refine JO_q (QE_as rfl) rfl ?_
        refine JO_nil ?_
        refine thenQ_n ?_
        refine JC_ret ?_
        refine blockQ_r ?_
        refine thenQ_r ?_
        refine thenQ_r ?_
        refine blockQ_r ?_
        refine thenQ_r ?_
        refine retQ_mk [] L (.inr rfl) (.tmp rfl (.nil)) rfl I3.1 (fun sR hS2 => ?_)
        refine ⟨?_, rfl⟩
        have hnil : l = [] ↔ l.length = 0 := by cases l <;> simp
        have hb : chOK k ch = false := by
          rw [Bool.eq_false_iff]; simp only [chOK, letB, digB, Bool.or_eq_true, Bool.and_eq_true, decide_eq_true_eq, ne_eq]; omega
        simp [resV, chars_not hch hb]; done
      ·
       refine JO_gF rfl rfl rfl rfl ?_
       refine JO_gF rfl rfl rfl rfl ?_
       refine JO_gU rfl rfl rfl ?_
       refine JO_gU rfl rfl rfl ?_
       refine JO_gF rfl rfl rfl rfl ?_
       refine JO_gF rfl rfl rfl rfl ?_
       refine JO_q (QE_pickF rfl rfl) rfl ?_
       refine JO_nil ?_
       refine thenQ_n ?_
       refine JC_ifF rfl ?_
       refine JC_skip ?_
       refine blockQ_n ?_
       refine thenQ_n ?_
       refine JC_region ?_
       refine JO_q (QE_mv rfl) rfl ?_
       refine JO_q (QE_add' rfl rfl (w64 (by omega) (by omega))) rfl ?_
       refine JO_q (QE_as rfl) rfl ?_
       refine JO_nil ?_
       have hOK : chOK k ch = true := by simp only [chOK, letB, digB, Bool.or_eq_true, Bool.and_eq_true, decide_eq_true_eq, ne_eq]; omega
       refine thenQ_n ⟨(k + 1), [], (Keeps.cons rfl (Keeps.cons rfl (Keeps.cons rfl (Keeps.nil _)))), rfl, ⟨I3.1, ⟨by omega, below_succ hI hch hOK⟩⟩, (by omega)⟩
     ·
      refine JO_gF rfl rfl rfl rfl ?_
      refine JO_gF rfl rfl rfl rfl ?_
      refine JO_gF rfl rfl rfl rfl ?_
      refine JO_gF rfl rfl rfl rfl ?_
      refine JO_q (QE_pickF rfl rfl) rfl ?_
      refine JO_q (QE_as rfl) rfl ?_
      refine JO_nil ?_
      refine thenQ_n ?_
      refine JC_seq ?_
      refine JC_region ?_
      refine JO_q (QE_mv rfl) rfl ?_
      refine JO_q (QE_not rfl) rfl ?_
      refine JO_q (QE_mv rfl) rfl ?_
      refine JO_caseN (t := 45) rfl (fun c10 => ?_) (fun c10 => ?_)
      ·
       refine JO_gT rfl rfl ?_
       refine JO_q (QE_mv rfl) rfl ?_
       refine JO_gT rfl rfl ?_
       refine JO_q (QE_mv rfl) rfl ?_
       refine JO_gF rfl rfl rfl rfl ?_
       refine JO_gF rfl rfl rfl rfl ?_
       refine JO_gT rfl rfl ?_
       refine JO_q (QE_pickF rfl rfl) rfl ?_
       refine JO_gT rfl rfl ?_
       refine JO_q (QE_notF rfl) rfl ?_
       refine JO_q (QE_pickT rfl rfl) rfl ?_
       refine JO_nil ?_
       refine thenQ_n ?_
       refine JC_ifT rfl ?_
       refine JC_seq ?_
       refine JC_region ?_
       refine JO_q (QE_as rfl) rfl ?_
       refine JO_nil ?_
       refine thenQ_n ?_
       refine JC_ret ?_
       refine blockQ_r ?_
       refine thenQ_r ?_
       refine thenQ_r ?_
       refine blockQ_r ?_
       refine thenQ_r ?_
       refine retQ_mk [] L (.inr rfl) (.tmp rfl (.nil)) rfl I3.1 (fun sR hS2 => ?_)
       refine ⟨?_, rfl⟩
       have hnil : l = [] ↔ l.length = 0 := by cases l <;> simp
       have h0 : l = [] := by rw [hnil]; omega
       simp [resV, h0]; done
      ·
       refine JO_gF rfl rfl rfl rfl ?_
       refine JO_gF rfl rfl rfl rfl ?_
       refine JO_gU rfl rfl rfl ?_
       refine JO_gU rfl rfl rfl ?_
       refine JO_gF rfl rfl rfl rfl ?_
       refine JO_gF rfl rfl rfl rfl ?_
       refine JO_q (QE_pickF rfl rfl) rfl ?_
       refine JO_nil ?_
       refine thenQ_n ?_
       refine JC_ifF rfl ?_
       refine JC_skip ?_
       refine blockQ_n ?_
       refine thenQ_n ?_
       refine JC_region ?_
       refine JO_q (QE_mv rfl) rfl ?_
       refine JO_q (QE_add' rfl rfl (w64 (by omega) (by omega))) rfl ?_
       refine JO_q (QE_as rfl) rfl ?_
       refine JO_nil ?_
       have hOK : chOK k ch = true := by simp only [chOK, letB, digB, Bool.or_eq_true, Bool.and_eq_true, decide_eq_true_eq, ne_eq]; omega
       refine thenQ_n ⟨(k + 1), [], (Keeps.cons rfl (Keeps.cons rfl (Keeps.cons rfl (Keeps.nil _)))), rfl, ⟨I3.1, ⟨by omega, below_succ hI hch hOK⟩⟩, (by omega)⟩
    ·
     refine JO_gF rfl rfl rfl rfl ?_
     refine JO_gF rfl rfl rfl rfl ?_
     refine JO_gF rfl rfl rfl rfl ?_
     refine JO_gF rfl rfl rfl rfl ?_
     refine JO_q (QE_pickF rfl rfl) rfl ?_
     refine JO_q (QE_as rfl) rfl ?_
     refine JO_nil ?_
     refine thenQ_n ?_
     refine JC_seq ?_
     refine JC_region ?_
     refine JO_q (QE_mv rfl) rfl ?_
     refine JO_q (QE_mv rfl) rfl ?_
     refine JO_q (QE_ix rfl rfl rfl rfl hch) rfl ?_
     refine JO_q (QE_ge rfl rfl) rfl ?_
     refine JO_q (QE_mv rfl) rfl ?_
     refine JO_caseD (t := 37) rfl (fun c11 => ?_) (fun c11 => ?_)
     ·
      refine JO_gT rfl rfl ?_
      refine JO_q (QE_mv rfl) rfl ?_
      refine JO_gT rfl rfl ?_
      refine JO_q (QE_mv rfl) rfl ?_
      refine JO_gT rfl rfl ?_
      refine JO_q (QE_ix rfl rfl rfl rfl hch) rfl ?_
      refine JO_gT rfl rfl ?_
      refine JO_q (QE_le rfl rfl) rfl ?_
      refine JO_q (QE_pickT rfl rfl) rfl ?_
      refine JO_q (QE_as rfl) rfl ?_
      refine JO_nil ?_
      refine thenQ_n ?_
      refine JC_seq ?_
      refine JC_region ?_
      refine JO_q (QE_mv rfl) rfl ?_
      refine JO_q (QE_notF rfl) rfl ?_
      refine JO_q (QE_mv rfl) rfl ?_
      refine JO_gT rfl rfl ?_
      refine JO_q (QE_mv rfl) rfl ?_
      refine JO_gT rfl rfl ?_
      refine JO_q (QE_mv rfl) rfl ?_
      refine JO_caseD (t := 47) rfl (fun c12 => ?_) (fun c12 => ?_)
      ·
       refine JO_gT rfl rfl ?_
       refine JO_q (QE_mv rfl) rfl ?_
       refine JO_gT rfl rfl ?_
       refine JO_q (QE_gt rfl rfl) rfl ?_
       refine JO_gT rfl rfl ?_
       refine JO_q (QE_pickT rfl rfl) rfl ?_
       refine JO_gT rfl rfl ?_
       refine JO_q (QE_not rfl) rfl ?_
       refine JO_q (QE_pickT rfl rfl) rfl ?_
       refine JO_nil ?_
       refine thenQ_n ?_
       refine JC_ifN rfl (fun c13 => ?_) (fun c13 => ?_)
       ·
        refine JC_seq ?_
        refine JC_region ?_
        refine JO_q (QE_as rfl) rfl ?_
        refine JO_nil ?_
        refine thenQ_n ?_
        refine JC_ret ?_
        refine blockQ_r ?_
        refine thenQ_r ?_
        refine thenQ_r ?_
        refine blockQ_r ?_
        refine thenQ_r ?_
        refine retQ_mk [] L (.inr rfl) (.tmp rfl (.nil)) rfl I3.1 (fun sR hS2 => ?_)
        refine ⟨?_, rfl⟩
        have hnil : l = [] ↔ l.length = 0 := by cases l <;> simp
        have hb : chOK k ch = false := by
          rw [Bool.eq_false_iff]; simp only [chOK, letB, digB, Bool.or_eq_true, Bool.and_eq_true, decide_eq_true_eq, ne_eq]; omega
        simp [resV, chars_not hch hb]; done
       ·
        refine JC_skip ?_
        refine blockQ_n ?_
        refine thenQ_n ?_
        refine JC_region ?_
        refine JO_q (QE_mv rfl) rfl ?_
        refine JO_q (QE_add' rfl rfl (w64 (by omega) (by omega))) rfl ?_
        refine JO_q (QE_as rfl) rfl ?_
        refine JO_nil ?_
        have hOK : chOK k ch = true := by simp only [chOK, letB, digB, Bool.or_eq_true, Bool.and_eq_true, decide_eq_true_eq, ne_eq]; omega
        refine thenQ_n ⟨(k + 1), [], (Keeps.cons rfl (Keeps.cons rfl (Keeps.cons rfl (Keeps.nil _)))), rfl, ⟨I3.1, ⟨by omega, below_succ hI hch hOK⟩⟩, (by omega)⟩
      ·
       refine JO_gF rfl rfl rfl rfl ?_
       refine JO_gF rfl rfl rfl rfl ?_
       refine JO_gT rfl rfl ?_
       refine JO_q (QE_pickF rfl rfl) rfl ?_
       refine JO_gT rfl rfl ?_
       refine JO_q (QE_notF rfl) rfl ?_
       refine JO_q (QE_pickT rfl rfl) rfl ?_
       refine JO_nil ?_
       refine thenQ_n ?_
       refine JC_ifT rfl ?_
       refine JC_seq ?_
       refine JC_region ?_
       refine JO_q (QE_as rfl) rfl ?_
       refine JO_nil ?_
       refine thenQ_n ?_
       refine JC_ret ?_
       refine blockQ_r ?_
       refine thenQ_r ?_
       refine thenQ_r ?_
       refine blockQ_r ?_
       refine thenQ_r ?_
       refine retQ_mk [] L (.inr rfl) (.tmp rfl (.nil)) rfl I3.1 (fun sR hS2 => ?_)
       refine ⟨?_, rfl⟩
       have hnil : l = [] ↔ l.length = 0 := by cases l <;> simp
       have hb : chOK k ch = false := by
         rw [Bool.eq_false_iff]; simp only [chOK, letB, digB, Bool.or_eq_true, Bool.and_eq_true, decide_eq_true_eq, ne_eq]; omega
       simp [resV, chars_not hch hb]; done
     ·
      refine JO_gF rfl rfl rfl rfl ?_
      refine JO_gF rfl rfl rfl rfl ?_
      refine JO_gF rfl rfl rfl rfl ?_
      refine JO_gF rfl rfl rfl rfl ?_
      refine JO_q (QE_pickF rfl rfl) rfl ?_
      refine JO_q (QE_as rfl) rfl ?_
      refine JO_nil ?_
      refine thenQ_n ?_
      refine JC_seq ?_
      refine JC_region ?_
      refine JO_q (QE_mv rfl) rfl ?_
      refine JO_q (QE_notF rfl) rfl ?_
      refine JO_q (QE_mv rfl) rfl ?_
      refine JO_gT rfl rfl ?_
      refine JO_q (QE_mv rfl) rfl ?_
      refine JO_gT rfl rfl ?_
      refine JO_q (QE_mv rfl) rfl ?_
      refine JO_gF rfl rfl rfl rfl ?_
      refine JO_gF rfl rfl rfl rfl ?_
      refine JO_gT rfl rfl ?_
      refine JO_q (QE_pickF rfl rfl) rfl ?_
      refine JO_gT rfl rfl ?_
      refine JO_q (QE_notF rfl) rfl ?_
      refine JO_q (QE_pickT rfl rfl) rfl ?_
      refine JO_nil ?_
      refine thenQ_n ?_
      refine JC_ifT rfl ?_
      refine JC_seq ?_
      refine JC_region ?_
      refine JO_q (QE_as rfl) rfl ?_
      refine JO_nil ?_
      refine thenQ_n ?_
      refine JC_ret ?_
      refine blockQ_r ?_
      refine thenQ_r ?_
      refine thenQ_r ?_
      refine blockQ_r ?_
      refine thenQ_r ?_
      refine retQ_mk [] L (.inr rfl) (.tmp rfl (.nil)) rfl I3.1 (fun sR hS2 => ?_)
      refine ⟨?_, rfl⟩
      have hnil : l = [] ↔ l.length = 0 := by cases l <;> simp
      have hb : chOK k ch = false := by
        rw [Bool.eq_false_iff]; simp only [chOK, letB, digB, Bool.or_eq_true, Bool.and_eq_true, decide_eq_true_eq, ne_eq]; omega
      simp [resV, chars_not hch hb]; done
   ·
    refine JC_exit ?_
    refine thenQ_x ?_
    refine thenQ_x ?_
    refine blockQ_x ?_
    refine thenQ_n ?_
    refine JC_seq ?_
    refine JC_region ?_
    refine JO_q (QE_as rfl) rfl ?_
    refine JO_nil ?_
    refine thenQ_n ?_
    refine JC_ret ?_
    refine retQ_mk [] L (.inr rfl) (.tmp rfl (.nil)) rfl I3.1 (fun sR hS2 => ?_)
    refine ⟨?_, rfl⟩
    have hnil : l = [] ↔ l.length = 0 := by cases l <;> simp
    have hb := chars_all (fun i c hi hc => hI i c (by omega) hc)
    have h6 : (l.length : Int) ≤ m := by omega
    have h0 : ¬ l = [] := by rw [hnil]; omega
    simp [resV, hb, h6, h0]; done
set_option maxHeartbeats 1000000 in
set_option maxRecDepth 100000 in
theorem isLabel_ac (D : Nat) (L : Hl) (s : World) (l : List UInt8) (hl : l.length ≤ 9223372036854775807) : AC Tryz.prog D 29 [St l] L s fun v L' _ => v = .bool (labelB l) ∧ L = L' := by
 refine AC_enter (TT := TT) (fn := Tryz.f29) TT_ok Tryz.func29 (by kernel_rfl) rfl Tryz.ntmps29 rfl (rs := [.tmp 2]) rfl [(0, _)] rfl ?_
 refine JC_seq ?_
 refine JC_region ?_
 refine JO_q (QE_as rfl) rfl ?_
 refine JO_nil ?_
 refine thenQ_n ?_
 refine JC_seq ?_
 refine JC_region ?_
 refine JO_q (QE_mv rfl) rfl ?_
 refine JO_call (first := []) (captured := []) rfl rfl rfl (isName_ac D _ _ _ _ hl) ?_
 rintro _ _ s1 h1 ⟨rfl, rfl⟩
 refine JO_q (QE_as rfl) rfl ?_
 refine JO_nil ?_
 refine thenQ_n ?_
 refine JC_ret ?_
 refine retQ_mk [] L (.inr rfl) (.tmp rfl (.nil)) rfl h1 (fun sR hS2 => ?_)
 exact ⟨by simp only [resV, labelB]; congr 4; exact propext ⟨fun h => by omega, fun h => by omega⟩, rfl⟩
def needsS (k : Int) : List UInt8 := if k = 0 ∨ k = 13 then [116, 120] else if k = 14 ∨ k = 18 then [120, 121] else if k = 15 then [116] else if k = 16 ∨ k = 17 then [120] else [116, 120, 121]
theorem needs_t (k : Int) : (needsS k).any (fun c => decide ((c.toNat : Int) = 116)) = usesT k := by unfold needsS usesT; (repeat' split) <;> simp <;> omega
theorem needs_x (k : Int) : (needsS k).any (fun c => decide ((c.toNat : Int) = 120)) = usesX k := by unfold needsS usesX; (repeat' split) <;> simp <;> omega
theorem needs_y (k : Int) : (needsS k).any (fun c => decide ((c.toNat : Int) = 121)) = usesY k := by unfold needsS usesY; (repeat' split) <;> simp <;> omega
theorem needs_len (k : Int) : (needsS k).length ≤ 9223372036854775807 := by unfold needsS; (repeat' split) <;> simp
theorem any_hit {l : List UInt8} {p : UInt8 → Bool} {k : Nat} {c : UInt8} (hk : l[k]? = some c) (h : p c = true) : l.any p = true := List.any_eq_true.2 ⟨c, List.mem_of_getElem? hk, h⟩
theorem any_none {l : List UInt8} {p : UInt8 → Bool} (h : ∀ i c, i < l.length → l[i]? = some c → p c = false) : l.any p = false := by
  rw [List.any_eq_false]; intro c hc
  obtain ⟨i, hi, he⟩ := List.getElem_of_mem hc
  have := h i c hi (by rw [List.getElem?_eq_getElem hi, he])
  simp [this]
set_option maxHeartbeats 1000000 in
set_option maxRecDepth 100000 in
theorem needs_ac (D : Nat) (L : Hl) (s : World) (k : Int) : AC Tryz.prog D 57 [.int .i64 k] L s fun v L' _ => v = St (needsS k) ∧ L = L' := by
 refine AC_enter (TT := TT) (fn := Tryz.f57) TT_ok Tryz.func57 (by kernel_rfl) rfl Tryz.ntmps57 rfl (rs := [.tmp 2]) rfl [(0, _)] rfl ?_
 refine JC_seq ?_
 refine JC_region ?_
 refine JO_q (QE_as rfl) rfl ?_
 refine JO_nil ?_
 refine thenQ_n ?_
 refine JC_seq ?_
 refine JC_seq ?_
 refine JC_region ?_
 refine JO_q (QE_mv rfl) rfl ?_
 refine JO_q (QE_eq rfl rfl) rfl ?_
 refine JO_q (QE_mv rfl) rfl ?_
 refine JO_caseD (t := 5) rfl (fun c1 => ?_) (fun c1 => ?_)
 ·
  refine JO_gF rfl rfl rfl rfl ?_
  refine JO_gF rfl rfl rfl rfl ?_
  refine JO_q (QE_pickT rfl rfl) rfl ?_
  refine JO_nil ?_
  refine thenQ_n ?_
  refine JC_ifT rfl ?_
  refine JC_seq ?_
  refine JC_region ?_
  refine JO_q (QE_as rfl) rfl ?_
  refine JO_nil ?_
  refine thenQ_n ?_
  refine JC_ret ?_
  refine thenQ_r ?_
  refine retQ_mk [] L (.inr rfl) (.tmp rfl (.nil)) rfl (Le.refl (D := D) _) (fun sR hS2 => ?_)
  exact ⟨by simp [resV, needsS, *], rfl⟩
 ·
  refine JO_gT rfl rfl ?_
  refine JO_q (QE_mv rfl) rfl ?_
  refine JO_gT rfl rfl ?_
  refine JO_q (QE_eq rfl rfl) rfl ?_
  refine JO_q (QE_pickF rfl rfl) rfl ?_
  refine JO_nil ?_
  refine thenQ_n ?_
  refine JC_ifD rfl (fun c2 => ?_) (fun c2 => ?_)
  ·
   refine JC_seq ?_
   refine JC_region ?_
   refine JO_q (QE_as rfl) rfl ?_
   refine JO_nil ?_
   refine thenQ_n ?_
   refine JC_ret ?_
   refine thenQ_r ?_
   refine retQ_mk [] L (.inr rfl) (.tmp rfl (.nil)) rfl (Le.refl (D := D) _) (fun sR hS2 => ?_)
   exact ⟨by simp [resV, needsS, *], rfl⟩
  ·
   refine JC_skip ?_
   refine thenQ_n ?_
   refine JC_seq ?_
   refine JC_seq ?_
   refine JC_region ?_
   refine JO_q (QE_mv rfl) rfl ?_
   refine JO_q (QE_eq rfl rfl) rfl ?_
   refine JO_q (QE_mv rfl) rfl ?_
   refine JO_caseD (t := 11) rfl (fun c3 => ?_) (fun c3 => ?_)
   ·
    refine JO_gF rfl rfl rfl rfl ?_
    refine JO_gF rfl rfl rfl rfl ?_
    refine JO_q (QE_pickT rfl rfl) rfl ?_
    refine JO_nil ?_
    refine thenQ_n ?_
    refine JC_ifT rfl ?_
    refine JC_seq ?_
    refine JC_region ?_
    refine JO_q (QE_as rfl) rfl ?_
    refine JO_nil ?_
    refine thenQ_n ?_
    refine JC_ret ?_
    refine thenQ_r ?_
    refine retQ_mk [] L (.inr rfl) (.tmp rfl (.nil)) rfl (Le.refl (D := D) _) (fun sR hS2 => ?_)
    exact ⟨by simp [resV, needsS, *], rfl⟩
   ·
    refine JO_gT rfl rfl ?_
    refine JO_q (QE_mv rfl) rfl ?_
    refine JO_gT rfl rfl ?_
    refine JO_q (QE_eq rfl rfl) rfl ?_
    refine JO_q (QE_pickF rfl rfl) rfl ?_
    refine JO_nil ?_
    refine thenQ_n ?_
    refine JC_ifD rfl (fun c4 => ?_) (fun c4 => ?_)
    ·
     refine JC_seq ?_
     refine JC_region ?_
     refine JO_q (QE_as rfl) rfl ?_
     refine JO_nil ?_
     refine thenQ_n ?_
     refine JC_ret ?_
     refine thenQ_r ?_
     refine retQ_mk [] L (.inr rfl) (.tmp rfl (.nil)) rfl (Le.refl (D := D) _) (fun sR hS2 => ?_)
     exact ⟨by simp [resV, needsS, *], rfl⟩
    ·
     refine JC_skip ?_
     refine thenQ_n ?_
     refine JC_seq ?_
     refine JC_seq ?_
     refine JC_region ?_
     refine JO_q (QE_mv rfl) rfl ?_
     refine JO_q (QE_eq rfl rfl) rfl ?_
     refine JO_nil ?_
     refine thenQ_n ?_
     refine JC_ifD rfl (fun c5 => ?_) (fun c5 => ?_)
     ·
      refine JC_seq ?_
      refine JC_region ?_
      refine JO_q (QE_as rfl) rfl ?_
      refine JO_nil ?_
      refine thenQ_n ?_
      refine JC_ret ?_
      refine thenQ_r ?_
      refine retQ_mk [] L (.inr rfl) (.tmp rfl (.nil)) rfl (Le.refl (D := D) _) (fun sR hS2 => ?_)
      exact ⟨by simp [resV, needsS, *], rfl⟩
     ·
      refine JC_skip ?_
      refine thenQ_n ?_
      refine JC_seq ?_
      refine JC_seq ?_
      refine JC_region ?_
      refine JO_q (QE_mv rfl) rfl ?_
      refine JO_q (QE_eq rfl rfl) rfl ?_
      refine JO_q (QE_mv rfl) rfl ?_
      refine JO_caseD (t := 19) rfl (fun c6 => ?_) (fun c6 => ?_)
      ·
       refine JO_gF rfl rfl rfl rfl ?_
       refine JO_gF rfl rfl rfl rfl ?_
       refine JO_q (QE_pickT rfl rfl) rfl ?_
       refine JO_nil ?_
       refine thenQ_n ?_
       refine JC_ifT rfl ?_
       refine JC_seq ?_
       refine JC_region ?_
       refine JO_q (QE_as rfl) rfl ?_
       refine JO_nil ?_
       refine thenQ_n ?_
       refine JC_ret ?_
       refine thenQ_r ?_
       refine retQ_mk [] L (.inr rfl) (.tmp rfl (.nil)) rfl (Le.refl (D := D) _) (fun sR hS2 => ?_)
       exact ⟨by simp [resV, needsS, *], rfl⟩
      ·
       refine JO_gT rfl rfl ?_
       refine JO_q (QE_mv rfl) rfl ?_
       refine JO_gT rfl rfl ?_
       refine JO_q (QE_eq rfl rfl) rfl ?_
       refine JO_q (QE_pickF rfl rfl) rfl ?_
       refine JO_nil ?_
       refine thenQ_n ?_
       refine JC_ifD rfl (fun c7 => ?_) (fun c7 => ?_)
       ·
        refine JC_seq ?_
        refine JC_region ?_
        refine JO_q (QE_as rfl) rfl ?_
        refine JO_nil ?_
        refine thenQ_n ?_
        refine JC_ret ?_
        refine thenQ_r ?_
        refine retQ_mk [] L (.inr rfl) (.tmp rfl (.nil)) rfl (Le.refl (D := D) _) (fun sR hS2 => ?_)
        exact ⟨by simp [resV, needsS, *], rfl⟩
       ·
        refine JC_skip ?_
        refine thenQ_n ?_
        refine JC_seq ?_
        refine JC_region ?_
        refine JO_q (QE_as rfl) rfl ?_
        refine JO_nil ?_
        refine thenQ_n ?_
        refine JC_ret ?_
        refine retQ_mk [] L (.inr rfl) (.tmp rfl (.nil)) rfl (Le.refl (D := D) _) (fun sR hS2 => ?_)
        exact ⟨by simp [resV, needsS, *], rfl⟩
set_option maxHeartbeats 1000000 in
set_option maxRecDepth 100000 in
theorem has_ac (D : Nat) (L : Hl) (s : World) (l : List UInt8) (c : Int) (hl : l.length ≤ 9223372036854775807) : AC Tryz.prog D 58 [St l, .int .u8 c] L s fun v L' _ => v = .bool (l.any fun x => decide ((x.toNat : Int) = c)) ∧ L = L' := by
 refine AC_enter (TT := TT) (fn := Tryz.f58) TT_ok Tryz.func58 (by kernel_rfl) rfl Tryz.ntmps58 rfl (rs := [.tmp 4]) rfl [(0, _), (1, _)] rfl ?_
 refine JC_seq ?_
 refine JC_region ?_
 refine JO_q (QE_as rfl) rfl ?_
 refine JO_nil ?_
 refine thenQ_n ?_
 refine JC_seq ?_
 refine JC_seq ?_
 refine JC_region ?_
 refine JO_q (QE_as rfl) rfl ?_
 refine JO_nil ?_
 refine thenQ_n ?_
 refine JC_block ?_
 refine JC_loop (γ := Nat) (fun k => [(0, _), (1, _), (4, _), (5, .int .i64 (k : Int))]) (fun _ => _) (fun k tw => Le D s tw ∧ (k ≤ l.length ∧ ∀ i x, i < k → l[i]? = some x → decide ((x.toNat : Int) = c) = false)) (fun k => l.length - k) (fun _ _ _ h hl => ⟨h.1.trans hl, h.2⟩) 0 (Keeps.cons rfl (Keeps.cons rfl (Keeps.cons rfl (Keeps.cons rfl (Keeps.nil _))))) rfl ⟨Le.refl _, ⟨Nat.zero_le _, fun i c hi => by omega⟩⟩ ?_
 intro k s1 I1
 have hk0 := I1.2.1
 have hI := I1.2.2
 refine JC_seq ?_
 refine JC_seq ?_
 refine JC_region ?_
 refine JO_q (QE_mv rfl) rfl ?_
 refine JO_q (QE_mv rfl) rfl ?_
 refine JO_q (QE_lenT rfl rfl rfl) rfl ?_
 refine JO_q (QE_lt rfl rfl) rfl ?_
 refine JO_nil ?_
 refine thenQ_n ?_
 refine JC_ifD rfl (fun c2 => ?_) (fun c2 => ?_)
 ·
  have hk : k < l.length := by omega
  obtain ⟨ch, hch⟩ : ∃ ch, l[k]? = some ch := ⟨_, List.getElem?_eq_getElem hk⟩
  refine JC_skip ?_
  refine thenQ_n ?_
  refine JC_seq ?_
  refine JC_block ?_
  refine JC_seq ?_
  refine JC_region ?_
  refine JO_q (QE_mv rfl) rfl ?_
  refine JO_q (QE_mv rfl) rfl ?_
  refine JO_q (QE_ix rfl rfl rfl rfl hch) rfl ?_
  refine JO_q (QE_mv rfl) rfl ?_
  refine JO_q (QE_eq rfl rfl) rfl ?_
  refine JO_nil ?_
  refine thenQ_n ?_
  refine JC_ifD rfl (fun c3 => ?_) (fun c3 => ?_)
  ·
   have hz := decide_eq_true c3
   refine JC_seq ?_
   refine JC_region ?_
   refine JO_q (QE_as rfl) rfl ?_
   refine JO_nil ?_
   refine thenQ_n ?_
   refine JC_ret ?_
   refine blockQ_r ?_
   refine thenQ_r ?_
   refine thenQ_r ?_
   refine blockQ_r ?_
   refine thenQ_r ?_
   refine retQ_mk [] L (.inr rfl) (.tmp rfl (.nil)) rfl I1.1 (fun sR hS2 => ?_)
   refine ⟨?_, rfl⟩
   simp only [resV]; rw [any_hit hch hz]; done
  ·
   have hz := decide_eq_false c3
   refine JC_skip ?_
   refine blockQ_n ?_
   refine thenQ_n ?_
   refine JC_region ?_
   refine JO_q (QE_mv rfl) rfl ?_
   refine JO_q (QE_add' rfl rfl (w64 (by omega) (by omega))) rfl ?_
   refine JO_q (QE_as rfl) rfl ?_
   refine JO_nil ?_
   refine thenQ_n ⟨(k + 1), [], (Keeps.cons rfl (Keeps.cons rfl (Keeps.cons rfl (Keeps.cons rfl (Keeps.nil _))))), rfl, ⟨I1.1, ⟨by omega, below_succ hI hch hz⟩⟩, (by omega)⟩
 ·
  refine JC_exit ?_
  refine thenQ_x ?_
  refine thenQ_x ?_
  refine blockQ_x ?_
  refine thenQ_n ?_
  refine JC_seq ?_
  refine JC_region ?_
  refine JO_q (QE_as rfl) rfl ?_
  refine JO_nil ?_
  refine thenQ_n ?_
  refine JC_ret ?_
  refine retQ_mk [] L (.inr rfl) (.tmp rfl (.nil)) rfl I1.1 (fun sR hS2 => ?_)
  refine ⟨?_, rfl⟩
  simp only [resV]; rw [any_none (fun i x hi hx => hI i x (by omega) hx)]; done
set_option maxHeartbeats 1000000 in
set_option maxRecDepth 100000 in
theorem termOk_ac (D : Nat) (L : Hl) (s : World) (x : Tm) (u o : Bool) : AC Tryz.prog D 59 [.agg #[.int .i64 x.kind, .int .u32 x.val], .bool u, .bool o] L s fun v L' _ => v = .bool (termB x u o) ∧ L = L' := by
 refine AC_enter (TT := TT) (fn := Tryz.f59) TT_ok Tryz.func59 (by kernel_rfl) rfl Tryz.ntmps59 rfl (rs := [.tmp 6]) rfl [(0, _), (1, _), (2, _)] rfl ?_
 refine JC_seq ?_
 refine JC_region ?_
 refine JO_boxA rfl rfl ?_
 intro β1 s1 h1
 refine JO_q (QE_as rfl) rfl ?_
 refine JO_nil ?_
 refine thenQ_n ?_
 refine JC_seq ?_
 refine JC_seq ?_
 refine JC_region ?_
 refine JO_q (QE_mv rfl) rfl ?_
 refine JO_q (QE_not rfl) rfl ?_
 refine JO_nil ?_
 refine thenQ_n ?_
 refine JC_ifM rfl (fun c2 => ?_) (fun c2 => ?_)
 ·
  refine JC_seq ?_
  refine JC_region ?_
  refine JO_q (QE_fa0 rfl rfl rfl rfl) rfl ?_
  refine JO_q (QE_ld1 0 rfl rfl rfl rfl rfl) rfl ?_
  refine JO_q (QE_eq rfl rfl) rfl ?_
  refine JO_q (QE_mv rfl) rfl ?_
  refine JO_caseD (t := 12) rfl (fun c3 => ?_) (fun c3 => ?_)
  ·
   refine JO_gT rfl rfl ?_
   refine JO_q (QE_faB rfl rfl rfl rfl) rfl ?_
   refine JO_gT rfl rfl ?_
   refine JO_q (QE_ld1 0 rfl rfl rfl rfl rfl) rfl ?_
   refine JO_gT rfl rfl ?_
   refine JO_q (QE_eq rfl rfl) rfl ?_
   refine JO_q (QE_pickT rfl rfl) rfl ?_
   refine JO_q (QE_as rfl) rfl ?_
   refine JO_nil ?_
   refine thenQ_n ?_
   refine JC_ret ?_
   refine thenQ_r ?_
   refine retQ_mk [_] L (.inr rfl) (.tmp rfl (.nil)) rfl h1 (fun sR hS2 => ?_)
   exact ⟨by simp_all [resV, termB], rfl⟩
  ·
   refine JO_gF rfl rfl rfl rfl ?_
   refine JO_gF rfl rfl rfl rfl ?_
   refine JO_gF rfl rfl rfl rfl ?_
   refine JO_q (QE_pickF rfl rfl) rfl ?_
   refine JO_q (QE_as rfl) rfl ?_
   refine JO_nil ?_
   refine thenQ_n ?_
   refine JC_ret ?_
   refine thenQ_r ?_
   refine retQ_mk [_] L (.inr rfl) (.tmp rfl (.nil)) rfl h1 (fun sR hS2 => ?_)
   exact ⟨by simp_all [resV, termB], rfl⟩
 ·
  refine JC_skip ?_
  refine thenQ_n ?_
  refine JC_seq ?_
  refine JC_region ?_
  refine JO_q (QE_fa0 rfl rfl rfl rfl) rfl ?_
  refine JO_q (QE_ld1 0 rfl rfl rfl rfl rfl) rfl ?_
  refine JO_q (QE_eq rfl rfl) rfl ?_
  refine JO_q (QE_mv rfl) rfl ?_
  refine JO_caseD (t := 20) rfl (fun c4 => ?_) (fun c4 => ?_)
  ·
   refine JO_gF rfl rfl rfl rfl ?_
   refine JO_gF rfl rfl rfl rfl ?_
   refine JO_gF rfl rfl rfl rfl ?_
   refine JO_gF rfl rfl rfl rfl ?_
   refine JO_gU rfl rfl rfl ?_
   refine JO_gU rfl rfl rfl ?_
   refine JO_gU rfl rfl rfl ?_
   refine JO_gF rfl rfl rfl rfl ?_
   refine JO_q (QE_pickT rfl rfl) rfl ?_
   refine JO_q (QE_mv rfl) rfl ?_
   refine JO_gF rfl rfl rfl rfl ?_
   refine JO_gF rfl rfl rfl rfl ?_
   refine JO_gF rfl rfl rfl rfl ?_
   refine JO_gF rfl rfl rfl rfl ?_
   refine JO_gU rfl rfl rfl ?_
   refine JO_gU rfl rfl rfl ?_
   refine JO_gU rfl rfl rfl ?_
   refine JO_gF rfl rfl rfl rfl ?_
   refine JO_gF rfl rfl rfl rfl ?_
   refine JO_gU rfl rfl rfl ?_
   refine JO_gF rfl rfl rfl rfl ?_
   refine JO_q (QE_pickT rfl rfl) rfl ?_
   refine JO_q (QE_as rfl) rfl ?_
   refine JO_nil ?_
   refine thenQ_n ?_
   refine JC_ret ?_
   refine retQ_mk [_] L (.inr rfl) (.tmp rfl (.nil)) rfl h1 (fun sR hS2 => ?_)
   exact ⟨by simp_all [resV, termB], rfl⟩
  ·
   refine JO_gT rfl rfl ?_
   refine JO_q (QE_fa0 rfl rfl rfl rfl) rfl ?_
   refine JO_gT rfl rfl ?_
   refine JO_q (QE_ld1 0 rfl rfl rfl rfl rfl) rfl ?_
   refine JO_gT rfl rfl ?_
   refine JO_q (QE_eq rfl rfl) rfl ?_
   refine JO_gT rfl rfl ?_
   refine JO_q (QE_mv rfl) rfl ?_
   refine JO_caseD (t := 24) rfl (fun c5 => ?_) (fun c5 => ?_)
   ·
    refine JO_gT rfl rfl ?_
    refine JO_q (QE_faB rfl rfl rfl rfl) rfl ?_
    refine JO_gT rfl rfl ?_
    refine JO_q (QE_ld1 0 rfl rfl rfl rfl rfl) rfl ?_
    refine JO_gT rfl rfl ?_
    refine JO_q (QE_le rfl rfl) rfl ?_
    refine JO_gT rfl rfl ?_
    refine JO_q (QE_pickT rfl rfl) rfl ?_
    refine JO_q (QE_pickF rfl rfl) rfl ?_
    refine JO_q (QE_mv rfl) rfl ?_
    refine JO_caseD (t := 30) rfl (fun c6 => ?_) (fun c6 => ?_)
    ·
     refine JO_gF rfl rfl rfl rfl ?_
     refine JO_gF rfl rfl rfl rfl ?_
     refine JO_gF rfl rfl rfl rfl ?_
     refine JO_gF rfl rfl rfl rfl ?_
     refine JO_gU rfl rfl rfl ?_
     refine JO_gU rfl rfl rfl ?_
     refine JO_gU rfl rfl rfl ?_
     refine JO_gF rfl rfl rfl rfl ?_
     refine JO_gF rfl rfl rfl rfl ?_
     refine JO_gU rfl rfl rfl ?_
     refine JO_gF rfl rfl rfl rfl ?_
     refine JO_q (QE_pickT rfl rfl) rfl ?_
     refine JO_q (QE_as rfl) rfl ?_
     refine JO_nil ?_
     refine thenQ_n ?_
     refine JC_ret ?_
     refine retQ_mk [_] L (.inr rfl) (.tmp rfl (.nil)) rfl h1 (fun sR hS2 => ?_)
     exact ⟨by simp_all [resV, termB], rfl⟩
    ·
     refine JO_gT rfl rfl ?_
     refine JO_q (QE_fa0 rfl rfl rfl rfl) rfl ?_
     refine JO_gT rfl rfl ?_
     refine JO_q (QE_ld1 0 rfl rfl rfl rfl rfl) rfl ?_
     refine JO_gT rfl rfl ?_
     refine JO_q (QE_eq rfl rfl) rfl ?_
     refine JO_gT rfl rfl ?_
     refine JO_q (QE_mv rfl) rfl ?_
     refine JO_caseD (t := 34) rfl (fun c7 => ?_) (fun c7 => ?_)
     ·
      refine JO_gT rfl rfl ?_
      refine JO_q (QE_faB rfl rfl rfl rfl) rfl ?_
      refine JO_gT rfl rfl ?_
      refine JO_q (QE_ld1 0 rfl rfl rfl rfl rfl) rfl ?_
      refine JO_gT rfl rfl ?_
      refine JO_q (QE_eq rfl rfl) rfl ?_
      refine JO_gT rfl rfl ?_
      refine JO_q (QE_pickT rfl rfl) rfl ?_
      refine JO_gT rfl rfl ?_
      refine JO_q (QE_mv rfl) rfl ?_
      refine JO_caseD (t := 39) rfl (fun c8 => ?_) (fun c8 => ?_)
      ·
       refine JO_gT rfl rfl ?_
       refine JO_q (QE_mv rfl) rfl ?_
       refine JO_gT rfl rfl ?_
       refine JO_q (QE_pickT rfl rfl) rfl ?_
       refine JO_q (QE_pickF rfl rfl) rfl ?_
       refine JO_q (QE_as rfl) rfl ?_
       refine JO_nil ?_
       refine thenQ_n ?_
       refine JC_ret ?_
       refine retQ_mk [_] L (.inr rfl) (.tmp rfl (.nil)) rfl h1 (fun sR hS2 => ?_)
       exact ⟨by simp_all [resV, termB], rfl⟩
      ·
       refine JO_gF rfl rfl rfl rfl ?_
       refine JO_gT rfl rfl ?_
       refine JO_q (QE_pickF rfl rfl) rfl ?_
       refine JO_q (QE_pickF rfl rfl) rfl ?_
       refine JO_q (QE_as rfl) rfl ?_
       refine JO_nil ?_
       refine thenQ_n ?_
       refine JC_ret ?_
       refine retQ_mk [_] L (.inr rfl) (.tmp rfl (.nil)) rfl h1 (fun sR hS2 => ?_)
       exact ⟨by simp_all [resV, termB], rfl⟩
     ·
      refine JO_gF rfl rfl rfl rfl ?_
      refine JO_gF rfl rfl rfl rfl ?_
      refine JO_gF rfl rfl rfl rfl ?_
      refine JO_gT rfl rfl ?_
      refine JO_q (QE_pickF rfl rfl) rfl ?_
      refine JO_gT rfl rfl ?_
      refine JO_q (QE_mv rfl) rfl ?_
      refine JO_gF rfl rfl rfl rfl ?_
      refine JO_gT rfl rfl ?_
      refine JO_q (QE_pickF rfl rfl) rfl ?_
      refine JO_q (QE_pickF rfl rfl) rfl ?_
      refine JO_q (QE_as rfl) rfl ?_
      refine JO_nil ?_
      refine thenQ_n ?_
      refine JC_ret ?_
      refine retQ_mk [_] L (.inr rfl) (.tmp rfl (.nil)) rfl h1 (fun sR hS2 => ?_)
      exact ⟨by simp_all [resV, termB], rfl⟩
   ·
    refine JO_gF rfl rfl rfl rfl ?_
    refine JO_gF rfl rfl rfl rfl ?_
    refine JO_gF rfl rfl rfl rfl ?_
    refine JO_gT rfl rfl ?_
    refine JO_q (QE_pickF rfl rfl) rfl ?_
    refine JO_q (QE_pickF rfl rfl) rfl ?_
    refine JO_q (QE_mv rfl) rfl ?_
    refine JO_gT rfl rfl ?_
    refine JO_q (QE_fa0 rfl rfl rfl rfl) rfl ?_
    refine JO_gT rfl rfl ?_
    refine JO_q (QE_ld1 0 rfl rfl rfl rfl rfl) rfl ?_
    refine JO_gT rfl rfl ?_
    refine JO_q (QE_eq rfl rfl) rfl ?_
    refine JO_gT rfl rfl ?_
    refine JO_q (QE_mv rfl) rfl ?_
    refine JO_caseD (t := 34) rfl (fun c9 => ?_) (fun c9 => ?_)
    ·
     refine JO_gT rfl rfl ?_
     refine JO_q (QE_faB rfl rfl rfl rfl) rfl ?_
     refine JO_gT rfl rfl ?_
     refine JO_q (QE_ld1 0 rfl rfl rfl rfl rfl) rfl ?_
     refine JO_gT rfl rfl ?_
     refine JO_q (QE_eq rfl rfl) rfl ?_
     refine JO_gT rfl rfl ?_
     refine JO_q (QE_pickT rfl rfl) rfl ?_
     refine JO_gT rfl rfl ?_
     refine JO_q (QE_mv rfl) rfl ?_
     refine JO_caseD (t := 39) rfl (fun c10 => ?_) (fun c10 => ?_)
     ·
      refine JO_gT rfl rfl ?_
      refine JO_q (QE_mv rfl) rfl ?_
      refine JO_gT rfl rfl ?_
      refine JO_q (QE_pickT rfl rfl) rfl ?_
      refine JO_q (QE_pickF rfl rfl) rfl ?_
      refine JO_q (QE_as rfl) rfl ?_
      refine JO_nil ?_
      refine thenQ_n ?_
      refine JC_ret ?_
      refine retQ_mk [_] L (.inr rfl) (.tmp rfl (.nil)) rfl h1 (fun sR hS2 => ?_)
      exact ⟨by simp_all [resV, termB], rfl⟩
     ·
      refine JO_gF rfl rfl rfl rfl ?_
      refine JO_gT rfl rfl ?_
      refine JO_q (QE_pickF rfl rfl) rfl ?_
      refine JO_q (QE_pickF rfl rfl) rfl ?_
      refine JO_q (QE_as rfl) rfl ?_
      refine JO_nil ?_
      refine thenQ_n ?_
      refine JC_ret ?_
      refine retQ_mk [_] L (.inr rfl) (.tmp rfl (.nil)) rfl h1 (fun sR hS2 => ?_)
      exact ⟨by simp_all [resV, termB], rfl⟩
    ·
     refine JO_gF rfl rfl rfl rfl ?_
     refine JO_gF rfl rfl rfl rfl ?_
     refine JO_gF rfl rfl rfl rfl ?_
     refine JO_gT rfl rfl ?_
     refine JO_q (QE_pickF rfl rfl) rfl ?_
     refine JO_gT rfl rfl ?_
     refine JO_q (QE_mv rfl) rfl ?_
     refine JO_gF rfl rfl rfl rfl ?_
     refine JO_gT rfl rfl ?_
     refine JO_q (QE_pickF rfl rfl) rfl ?_
     refine JO_q (QE_pickF rfl rfl) rfl ?_
     refine JO_q (QE_as rfl) rfl ?_
     refine JO_nil ?_
     refine thenQ_n ?_
     refine JC_ret ?_
     refine retQ_mk [_] L (.inr rfl) (.tmp rfl (.nil)) rfl h1 (fun sR hS2 => ?_)
     exact ⟨by simp_all [resV, termB], rfl⟩
set_option maxHeartbeats 1000000 in
set_option maxRecDepth 100000 in
theorem actionCode_ac (D : Nat) (L : Hl) (s : World) (a : Ac) (o : Bool) : AC Tryz.prog D 30 [.agg #[.int .i64 a.kind, .int .i64 a.tgt, .int .i64 a.x.kind, .int .u32 a.x.val, .int .i64 a.y.kind, .int .u32 a.y.val], .bool o] L s fun v L' _ => v = .int .i64 (actCode a o) ∧ L = L' := by
 refine AC_enter (TT := TT) (fn := Tryz.f30) TT_ok Tryz.func30 (by kernel_rfl) rfl Tryz.ntmps30 rfl (rs := [.tmp 4]) rfl [(0, _), (1, _)] rfl ?_
 refine JC_seq ?_
 refine JC_region ?_
 refine JO_boxA rfl rfl ?_
 intro β1 s1 h1
 refine JO_q (QE_as rfl) rfl ?_
 refine JO_nil ?_
 refine thenQ_n ?_
 refine JC_seq ?_
 refine JC_seq ?_
 refine JC_region ?_
 refine JO_q (QE_fa0 rfl rfl rfl rfl) rfl ?_
 refine JO_q (QE_ld1 0 rfl rfl rfl rfl rfl) rfl ?_
 refine JO_call (first := []) (captured := []) rfl rfl rfl (in_ac D _ _ _ _ _) ?_
 rintro _ _ s2 h2 ⟨rfl, rfl⟩
 refine JO_q (QE_not rfl) rfl ?_
 refine JO_nil ?_
 refine thenQ_n ?_
 refine JC_ifN rfl (fun c3 => ?_) (fun c3 => ?_)
 ·
  refine JC_seq ?_
  refine JC_region ?_
  refine JO_q (QE_as rfl) rfl ?_
  refine JO_nil ?_
  refine thenQ_n ?_
  refine JC_ret ?_
  refine thenQ_r ?_
  refine retQ_mk [_] L (.inr rfl) (.tmp rfl (.nil)) rfl (Le.trans h1 h2) (fun sR hS2 => ?_)
  exact ⟨by (try simp only [needs_t, needs_x, needs_y] at *); (try simp_all [resV, actCode]) <;> grind, rfl⟩
 ·
  refine JC_skip ?_
  refine thenQ_n ?_
  refine JC_seq ?_
  refine JC_seq ?_
  refine JC_region ?_
  refine JO_q (QE_faB rfl rfl rfl rfl) rfl ?_
  refine JO_q (QE_ld1 0 rfl rfl rfl rfl rfl) rfl ?_
  refine JO_call (first := []) (captured := []) rfl rfl rfl (in_ac D _ _ _ _ _) ?_
  rintro _ _ s4 h4 ⟨rfl, rfl⟩
  refine JO_q (QE_not rfl) rfl ?_
  refine JO_nil ?_
  refine thenQ_n ?_
  refine JC_ifN rfl (fun c5 => ?_) (fun c5 => ?_)
  ·
   refine JC_seq ?_
   refine JC_region ?_
   refine JO_q (QE_as rfl) rfl ?_
   refine JO_nil ?_
   refine thenQ_n ?_
   refine JC_ret ?_
   refine thenQ_r ?_
   refine retQ_mk [_] L (.inr rfl) (.tmp rfl (.nil)) rfl (Le.trans (Le.trans h1 h2) h4) (fun sR hS2 => ?_)
   exact ⟨by (try simp only [needs_t, needs_x, needs_y] at *); (try simp_all [resV, actCode]) <;> grind, rfl⟩
  ·
   refine JC_skip ?_
   refine thenQ_n ?_
   refine JC_seq ?_
   refine JC_region ?_
   refine JO_q (QE_fa0 rfl rfl rfl rfl) rfl ?_
   refine JO_q (QE_ld1 0 rfl rfl rfl rfl rfl) rfl ?_
   refine JO_call (first := []) (captured := []) rfl rfl rfl (needs_ac D _ _ _) ?_
   rintro _ _ s6 h6 ⟨rfl, rfl⟩
   refine JO_q (QE_as rfl) rfl ?_
   refine JO_nil ?_
   refine thenQ_n ?_
   refine JC_seq ?_
   refine JC_seq ?_
   refine JC_draw drawsMixed 26 rfl _ (fun _ h => h) ?_
   intro s7 h7
   refine JA_q 0 rfl (by kernel_rfl) (by kernel_rfl) (by kernel_rfl) trivial (QE_mv rfl) rfl ?_
   refine JA_1 1 (by kernel_rfl) ?_
   refine JB_call rfl trivial (first := []) (captured := []) rfl rfl rfl (has_ac D _ _ _ _ (needs_len _)) ?_
   rintro _ _ s8 h8 ⟨rfl, rfl⟩
   refine ⟨fun _ _ h => h, ?_⟩
   refine JA_q 2 rfl (by kernel_rfl) (by kernel_rfl) (by kernel_rfl) trivial (QE_not rfl) rfl ?_
   refine JA_q 3 rfl (by kernel_rfl) (by kernel_rfl) (by kernel_rfl) trivial (QE_mv rfl) rfl ?_
   refine JA_caseM (t := 20) rfl (fun c9 => ?_) (fun c9 => ?_)
   ·
    refine JA_q 4 rfl (by kernel_rfl) (by kernel_rfl) (by kernel_rfl) ⟨_, rfl, rfl⟩ (QE_faB rfl rfl rfl rfl) rfl ?_
    refine JA_q 5 rfl (by kernel_rfl) (by kernel_rfl) (by kernel_rfl) ⟨_, rfl, rfl⟩ (QE_ld1 0 rfl rfl rfl rfl rfl) rfl ?_
    refine JA_q 6 rfl (by kernel_rfl) (by kernel_rfl) (by kernel_rfl) ⟨_, rfl, rfl⟩ (QE_ne rfl rfl) rfl ?_
    refine JA_q 7 rfl (by kernel_rfl) (by kernel_rfl) (by kernel_rfl) trivial (QE_pickT rfl rfl) rfl ?_
    refine JA_q 8 rfl (by kernel_rfl) (by kernel_rfl) (by kernel_rfl) trivial (QE_mv rfl) rfl ?_
    refine JA_caseN (t := 25) rfl (fun c10 => ?_) (fun c10 => ?_)
    ·
     refine JA_no 9 rfl (by kernel_rfl) (by kernel_rfl) (by kernel_rfl) rfl rfl rfl rfl ?_
     refine JA_no 10 rfl (by kernel_rfl) (by kernel_rfl) (by kernel_rfl) rfl rfl rfl rfl ?_
     refine JA_no 11 rfl (by kernel_rfl) (by kernel_rfl) (by kernel_rfl) rfl rfl rfl rfl ?_
     refine JA_no 12 rfl (by kernel_rfl) (by kernel_rfl) (by kernel_rfl) rfl rfl rfl rfl ?_
     refine JA_no 13 rfl (by kernel_rfl) (by kernel_rfl) (by kernel_rfl) rfl rfl rfl rfl ?_
     refine JA_no 14 rfl (by kernel_rfl) (by kernel_rfl) (by kernel_rfl) rfl rfl rfl rfl ?_
     refine JA_no 15 rfl (by kernel_rfl) (by kernel_rfl) (by kernel_rfl) rfl rfl rfl rfl ?_
     refine JA_q 16 rfl (by kernel_rfl) (by kernel_rfl) (by kernel_rfl) trivial (QE_pickT rfl rfl) rfl ?_
     refine JA_q 17 rfl (by kernel_rfl) (by kernel_rfl) (by kernel_rfl) trivial (QE_mv rfl) rfl ?_
     refine JA_no 18 rfl (by kernel_rfl) (by kernel_rfl) (by kernel_rfl) rfl rfl rfl rfl ?_
     refine JA_no 19 rfl (by kernel_rfl) (by kernel_rfl) (by kernel_rfl) rfl rfl rfl rfl ?_
     refine JA_no 20 rfl (by kernel_rfl) (by kernel_rfl) (by kernel_rfl) rfl rfl rfl rfl ?_
     refine JA_no 21 rfl (by kernel_rfl) (by kernel_rfl) (by kernel_rfl) rfl rfl rfl rfl ?_
     refine JA_no 22 rfl (by kernel_rfl) (by kernel_rfl) (by kernel_rfl) rfl rfl rfl rfl ?_
     refine JA_no 23 rfl (by kernel_rfl) (by kernel_rfl) (by kernel_rfl) rfl rfl rfl rfl ?_
     refine JA_no 24 rfl (by kernel_rfl) (by kernel_rfl) (by kernel_rfl) rfl rfl rfl rfl ?_
     refine JA_q 25 rfl (by kernel_rfl) (by kernel_rfl) (by kernel_rfl) trivial (QE_pickT rfl rfl) rfl ?_
     refine JA_done (by kernel_rfl) ?_
     refine thenQ_n ?_
     refine JC_ifT rfl ?_
     refine JC_seq ?_
     refine JC_region ?_
     refine JO_q (QE_as rfl) rfl ?_
     refine JO_nil ?_
     refine thenQ_n ?_
     refine JC_ret ?_
     refine thenQ_r ?_
     refine retQ_mk [_] L (.inr rfl) (.tmp rfl (.nil)) rfl (Le.trans (Le.trans (Le.trans (Le.trans (Le.trans h1 h2) h4) h6) h7) h8) (fun sR hS2 => ?_)
     exact ⟨by (try simp only [needs_t, needs_x, needs_y] at *); (try simp_all [resV, actCode]) <;> grind, rfl⟩
    ·
     refine JA_q 9 rfl (by kernel_rfl) (by kernel_rfl) (by kernel_rfl) ⟨_, rfl, rfl⟩ (QE_faB rfl rfl rfl rfl) rfl ?_
     refine JA_q 10 rfl (by kernel_rfl) (by kernel_rfl) (by kernel_rfl) ⟨_, rfl, rfl⟩ (QE_ldA 0 [_, _] rfl rfl rfl rfl rfl) rfl ?_
     refine JA_q 11 rfl (by kernel_rfl) (by kernel_rfl) (by kernel_rfl) ⟨_, rfl, rfl⟩ (QE_mv rfl) rfl ?_
     refine JA_q 13 rfl (by kernel_rfl) (by kernel_rfl) (by kernel_rfl) ⟨_, rfl, rfl⟩ (QE_mv rfl) rfl ?_
     refine JA_1 12 (by kernel_rfl) ?_
     refine JB_call rfl ⟨_, rfl, rfl⟩ (first := []) (captured := []) rfl rfl rfl (has_ac D _ _ _ _ (needs_len _)) ?_
     rintro _ _ s11 h11 ⟨rfl, rfl⟩
     refine ⟨fun _ _ h => h, ?_⟩
     refine JA_1 14 (by kernel_rfl) ?_
     refine JB_call rfl ⟨_, rfl, rfl⟩ (first := []) (captured := []) rfl rfl rfl (termOk_ac D _ _ _ _ _) ?_
     rintro _ _ s12 h12 ⟨rfl, rfl⟩
     refine ⟨fun _ _ h => h, ?_⟩
     refine JA_q 15 rfl (by kernel_rfl) (by kernel_rfl) (by kernel_rfl) ⟨_, rfl, rfl⟩ (QE_not rfl) rfl ?_
     refine JA_q 16 rfl (by kernel_rfl) (by kernel_rfl) (by kernel_rfl) trivial (QE_pickF rfl rfl) rfl ?_
     refine JA_q 17 rfl (by kernel_rfl) (by kernel_rfl) (by kernel_rfl) trivial (QE_mv rfl) rfl ?_
     refine JA_caseM (t := 34) rfl (fun c13 => ?_) (fun c13 => ?_)
     ·
      refine JA_no 18 rfl (by kernel_rfl) (by kernel_rfl) (by kernel_rfl) rfl rfl rfl rfl ?_
      refine JA_no 19 rfl (by kernel_rfl) (by kernel_rfl) (by kernel_rfl) rfl rfl rfl rfl ?_
      refine JA_no 20 rfl (by kernel_rfl) (by kernel_rfl) (by kernel_rfl) rfl rfl rfl rfl ?_
      refine JA_no 21 rfl (by kernel_rfl) (by kernel_rfl) (by kernel_rfl) rfl rfl rfl rfl ?_
      refine JA_no 22 rfl (by kernel_rfl) (by kernel_rfl) (by kernel_rfl) rfl rfl rfl rfl ?_
      refine JA_no 23 rfl (by kernel_rfl) (by kernel_rfl) (by kernel_rfl) rfl rfl rfl rfl ?_
      refine JA_no 24 rfl (by kernel_rfl) (by kernel_rfl) (by kernel_rfl) rfl rfl rfl rfl ?_
      refine JA_q 25 rfl (by kernel_rfl) (by kernel_rfl) (by kernel_rfl) trivial (QE_pickT rfl rfl) rfl ?_
      refine JA_done (by kernel_rfl) ?_
      refine thenQ_n ?_
      refine JC_ifT rfl ?_
      refine JC_seq ?_
      refine JC_region ?_
      refine JO_q (QE_as rfl) rfl ?_
      refine JO_nil ?_
      refine thenQ_n ?_
      refine JC_ret ?_
      refine thenQ_r ?_
      refine retQ_mk [_] L (.inr rfl) (.tmp rfl (.nil)) rfl (Le.trans (Le.trans (Le.trans (Le.trans (Le.trans (Le.trans (Le.trans h1 h2) h4) h6) h7) h8) h11) h12) (fun sR hS2 => ?_)
      exact ⟨by (try simp only [needs_t, needs_x, needs_y] at *); (try simp_all [resV, actCode]) <;> grind, rfl⟩
     ·
      refine JA_q 18 rfl (by kernel_rfl) (by kernel_rfl) (by kernel_rfl) ⟨_, rfl, rfl⟩ (QE_faB rfl rfl rfl rfl) rfl ?_
      refine JA_q 19 rfl (by kernel_rfl) (by kernel_rfl) (by kernel_rfl) ⟨_, rfl, rfl⟩ (QE_ldA 0 [_, _] rfl rfl rfl rfl rfl) rfl ?_
      refine JA_q 20 rfl (by kernel_rfl) (by kernel_rfl) (by kernel_rfl) ⟨_, rfl, rfl⟩ (QE_mv rfl) rfl ?_
      refine JA_q 22 rfl (by kernel_rfl) (by kernel_rfl) (by kernel_rfl) ⟨_, rfl, rfl⟩ (QE_mv rfl) rfl ?_
      refine JA_1 21 (by kernel_rfl) ?_
      refine JB_call rfl ⟨_, rfl, rfl⟩ (first := []) (captured := []) rfl rfl rfl (has_ac D _ _ _ _ (needs_len _)) ?_
      rintro _ _ s14 h14 ⟨rfl, rfl⟩
      refine ⟨fun _ _ h => h, ?_⟩
      refine JA_1 23 (by kernel_rfl) ?_
      refine JB_call rfl ⟨_, rfl, rfl⟩ (first := []) (captured := []) rfl rfl rfl (termOk_ac D _ _ _ _ _) ?_
      rintro _ _ s15 h15 ⟨rfl, rfl⟩
      refine ⟨fun _ _ h => h, ?_⟩
      refine JA_q 24 rfl (by kernel_rfl) (by kernel_rfl) (by kernel_rfl) ⟨_, rfl, rfl⟩ (QE_not rfl) rfl ?_
      refine JA_q 25 rfl (by kernel_rfl) (by kernel_rfl) (by kernel_rfl) trivial (QE_pickF rfl rfl) rfl ?_
      refine JA_done (by kernel_rfl) ?_
      refine thenQ_n ?_
      refine JC_ifM rfl (fun c16 => ?_) (fun c16 => ?_)
      ·
       refine JC_seq ?_
       refine JC_region ?_
       refine JO_q (QE_as rfl) rfl ?_
       refine JO_nil ?_
       refine thenQ_n ?_
       refine JC_ret ?_
       refine thenQ_r ?_
       refine retQ_mk [_] L (.inr rfl) (.tmp rfl (.nil)) rfl (Le.trans (Le.trans (Le.trans (Le.trans (Le.trans (Le.trans (Le.trans (Le.trans (Le.trans h1 h2) h4) h6) h7) h8) h11) h12) h14) h15) (fun sR hS2 => ?_)
       exact ⟨by (try simp only [needs_t, needs_x, needs_y] at *); (try simp_all [resV, actCode]) <;> grind, rfl⟩
      ·
       refine JC_skip ?_
       refine thenQ_n ?_
       refine JC_seq ?_
       refine JC_region ?_
       refine JO_q (QE_as rfl) rfl ?_
       refine JO_nil ?_
       refine thenQ_n ?_
       refine JC_ret ?_
       refine retQ_mk [_] L (.inr rfl) (.tmp rfl (.nil)) rfl (Le.trans (Le.trans (Le.trans (Le.trans (Le.trans (Le.trans (Le.trans (Le.trans (Le.trans h1 h2) h4) h6) h7) h8) h11) h12) h14) h15) (fun sR hS2 => ?_)
       exact ⟨by (try simp only [needs_t, needs_x, needs_y] at *); (try simp_all [resV, actCode]) <;> grind, rfl⟩
   ·
    refine JA_no 4 rfl (by kernel_rfl) (by kernel_rfl) (by kernel_rfl) rfl rfl rfl rfl ?_
    refine JA_no 5 rfl (by kernel_rfl) (by kernel_rfl) (by kernel_rfl) rfl rfl rfl rfl ?_
    refine JA_no 6 rfl (by kernel_rfl) (by kernel_rfl) (by kernel_rfl) rfl rfl rfl rfl ?_
    refine JA_q 7 rfl (by kernel_rfl) (by kernel_rfl) (by kernel_rfl) trivial (QE_pickF rfl rfl) rfl ?_
    refine JA_q 8 rfl (by kernel_rfl) (by kernel_rfl) (by kernel_rfl) trivial (QE_mv rfl) rfl ?_
    refine JA_q 9 rfl (by kernel_rfl) (by kernel_rfl) (by kernel_rfl) ⟨_, rfl, rfl⟩ (QE_faB rfl rfl rfl rfl) rfl ?_
    refine JA_q 10 rfl (by kernel_rfl) (by kernel_rfl) (by kernel_rfl) ⟨_, rfl, rfl⟩ (QE_ldA 0 [_, _] rfl rfl rfl rfl rfl) rfl ?_
    refine JA_q 11 rfl (by kernel_rfl) (by kernel_rfl) (by kernel_rfl) ⟨_, rfl, rfl⟩ (QE_mv rfl) rfl ?_
    refine JA_q 13 rfl (by kernel_rfl) (by kernel_rfl) (by kernel_rfl) ⟨_, rfl, rfl⟩ (QE_mv rfl) rfl ?_
    refine JA_1 12 (by kernel_rfl) ?_
    refine JB_call rfl ⟨_, rfl, rfl⟩ (first := []) (captured := []) rfl rfl rfl (has_ac D _ _ _ _ (needs_len _)) ?_
    rintro _ _ s17 h17 ⟨rfl, rfl⟩
    refine ⟨fun _ _ h => h, ?_⟩
    refine JA_1 14 (by kernel_rfl) ?_
    refine JB_call rfl ⟨_, rfl, rfl⟩ (first := []) (captured := []) rfl rfl rfl (termOk_ac D _ _ _ _ _) ?_
    rintro _ _ s18 h18 ⟨rfl, rfl⟩
    refine ⟨fun _ _ h => h, ?_⟩
    refine JA_q 15 rfl (by kernel_rfl) (by kernel_rfl) (by kernel_rfl) ⟨_, rfl, rfl⟩ (QE_not rfl) rfl ?_
    refine JA_q 16 rfl (by kernel_rfl) (by kernel_rfl) (by kernel_rfl) trivial (QE_pickF rfl rfl) rfl ?_
    refine JA_q 17 rfl (by kernel_rfl) (by kernel_rfl) (by kernel_rfl) trivial (QE_mv rfl) rfl ?_
    refine JA_caseM (t := 34) rfl (fun c19 => ?_) (fun c19 => ?_)
    ·
     refine JA_no 18 rfl (by kernel_rfl) (by kernel_rfl) (by kernel_rfl) rfl rfl rfl rfl ?_
     refine JA_no 19 rfl (by kernel_rfl) (by kernel_rfl) (by kernel_rfl) rfl rfl rfl rfl ?_
     refine JA_no 20 rfl (by kernel_rfl) (by kernel_rfl) (by kernel_rfl) rfl rfl rfl rfl ?_
     refine JA_no 21 rfl (by kernel_rfl) (by kernel_rfl) (by kernel_rfl) rfl rfl rfl rfl ?_
     refine JA_no 22 rfl (by kernel_rfl) (by kernel_rfl) (by kernel_rfl) rfl rfl rfl rfl ?_
     refine JA_no 23 rfl (by kernel_rfl) (by kernel_rfl) (by kernel_rfl) rfl rfl rfl rfl ?_
     refine JA_no 24 rfl (by kernel_rfl) (by kernel_rfl) (by kernel_rfl) rfl rfl rfl rfl ?_
     refine JA_q 25 rfl (by kernel_rfl) (by kernel_rfl) (by kernel_rfl) trivial (QE_pickT rfl rfl) rfl ?_
     refine JA_done (by kernel_rfl) ?_
     refine thenQ_n ?_
     refine JC_ifT rfl ?_
     refine JC_seq ?_
     refine JC_region ?_
     refine JO_q (QE_as rfl) rfl ?_
     refine JO_nil ?_
     refine thenQ_n ?_
     refine JC_ret ?_
     refine thenQ_r ?_
     refine retQ_mk [_] L (.inr rfl) (.tmp rfl (.nil)) rfl (Le.trans (Le.trans (Le.trans (Le.trans (Le.trans (Le.trans (Le.trans h1 h2) h4) h6) h7) h8) h17) h18) (fun sR hS2 => ?_)
     exact ⟨by (try simp only [needs_t, needs_x, needs_y] at *); (try simp_all [resV, actCode]) <;> grind, rfl⟩
    ·
     refine JA_q 18 rfl (by kernel_rfl) (by kernel_rfl) (by kernel_rfl) ⟨_, rfl, rfl⟩ (QE_faB rfl rfl rfl rfl) rfl ?_
     refine JA_q 19 rfl (by kernel_rfl) (by kernel_rfl) (by kernel_rfl) ⟨_, rfl, rfl⟩ (QE_ldA 0 [_, _] rfl rfl rfl rfl rfl) rfl ?_
     refine JA_q 20 rfl (by kernel_rfl) (by kernel_rfl) (by kernel_rfl) ⟨_, rfl, rfl⟩ (QE_mv rfl) rfl ?_
     refine JA_q 22 rfl (by kernel_rfl) (by kernel_rfl) (by kernel_rfl) ⟨_, rfl, rfl⟩ (QE_mv rfl) rfl ?_
     refine JA_1 21 (by kernel_rfl) ?_
     refine JB_call rfl ⟨_, rfl, rfl⟩ (first := []) (captured := []) rfl rfl rfl (has_ac D _ _ _ _ (needs_len _)) ?_
     rintro _ _ s20 h20 ⟨rfl, rfl⟩
     refine ⟨fun _ _ h => h, ?_⟩
     refine JA_1 23 (by kernel_rfl) ?_
     refine JB_call rfl ⟨_, rfl, rfl⟩ (first := []) (captured := []) rfl rfl rfl (termOk_ac D _ _ _ _ _) ?_
     rintro _ _ s21 h21 ⟨rfl, rfl⟩
     refine ⟨fun _ _ h => h, ?_⟩
     refine JA_q 24 rfl (by kernel_rfl) (by kernel_rfl) (by kernel_rfl) ⟨_, rfl, rfl⟩ (QE_not rfl) rfl ?_
     refine JA_q 25 rfl (by kernel_rfl) (by kernel_rfl) (by kernel_rfl) trivial (QE_pickF rfl rfl) rfl ?_
     refine JA_done (by kernel_rfl) ?_
     refine thenQ_n ?_
     refine JC_ifM rfl (fun c22 => ?_) (fun c22 => ?_)
     ·
      refine JC_seq ?_
      refine JC_region ?_
      refine JO_q (QE_as rfl) rfl ?_
      refine JO_nil ?_
      refine thenQ_n ?_
      refine JC_ret ?_
      refine thenQ_r ?_
      refine retQ_mk [_] L (.inr rfl) (.tmp rfl (.nil)) rfl (Le.trans (Le.trans (Le.trans (Le.trans (Le.trans (Le.trans (Le.trans (Le.trans (Le.trans h1 h2) h4) h6) h7) h8) h17) h18) h20) h21) (fun sR hS2 => ?_)
      exact ⟨by (try simp only [needs_t, needs_x, needs_y] at *); (try simp_all [resV, actCode]) <;> grind, rfl⟩
     ·
      refine JC_skip ?_
      refine thenQ_n ?_
      refine JC_seq ?_
      refine JC_region ?_
      refine JO_q (QE_as rfl) rfl ?_
      refine JO_nil ?_
      refine thenQ_n ?_
      refine JC_ret ?_
      refine retQ_mk [_] L (.inr rfl) (.tmp rfl (.nil)) rfl (Le.trans (Le.trans (Le.trans (Le.trans (Le.trans (Le.trans (Le.trans (Le.trans (Le.trans h1 h2) h4) h6) h7) h8) h17) h18) h20) h21) (fun sR hS2 => ?_)
      exact ⟨by (try simp only [needs_t, needs_x, needs_y] at *); (try simp_all [resV, actCode]) <;> grind, rfl⟩
set_option maxHeartbeats 1000000 in
set_option maxRecDepth 100000 in
theorem tableFault_ac (D : Nat) (L : Hl) (s : World) (t : Tab) (A : Option Addr) (n c : Nat) (hA : Inss s A n c t.ins) : AC Tryz.prog D 10 [.agg #[.int .i64 t.cells, .slice A n c]] L s fun v L' _ => v = .agg #[.int .i64 (tabFault t).1, .int .i64 (tabFault t).2] ∧ L = L' := by
 have hn := hA.1
 have hc1 := hA.2.1
 have hc2 := hA.2.2.1
 refine AC_enter (TT := TT) (fn := Tryz.f10) TT_ok Tryz.func10 (by kernel_rfl) rfl Tryz.ntmps10 rfl (rs := [.cell 2 26]) rfl [(0, _)] rfl ?_
 refine JC_seq ?_
 refine JC_region ?_
 refine JO_boxA rfl rfl ?_
 intro β1 s1 h1
 refine JO_allocZ rfl [_, _] rfl rfl ?_
 intro β2 s2 h2
 refine JO_nil ?_
 refine thenQ_n ?_
 refine JC_seq ?_
 refine JC_seq ?_
 refine JC_region ?_
 refine JO_q (QE_fa0 rfl rfl rfl rfl) rfl ?_
 refine JO_q (QE_ld1 1 rfl rfl rfl rfl rfl) rfl ?_
 refine JO_call (first := []) (captured := []) rfl rfl rfl (in_ac D _ _ _ _ _) ?_
 rintro _ _ s3 h3 ⟨rfl, rfl⟩
 refine JO_q (QE_not rfl) rfl ?_
 refine JO_nil ?_
 refine thenQ_n ?_
 refine JC_ifN rfl (fun c4 => ?_) (fun c4 => ?_)
 ·
  refine JC_seq ?_
  refine JC_region ?_
  refine JO_call (first := []) (captured := []) rfl rfl rfl (at_ac D _ _ _ _) ?_
  rintro _ _ s5 h5 ⟨rfl, rfl⟩
  refine JO_st 0 [_, _] rfl rfl rfl rfl rfl rfl rfl rfl rfl ?_
  refine JO_nil ?_
  refine thenQ_n ?_
  refine JC_ret ?_
  refine thenQ_r ?_
  refine retQ_mk [_, _] L (.inr rfl) (.agg (us := [_, _]) 0 rfl rfl rfl rfl rfl (.nil)) rfl (Le.trans (Le.trans (Le.trans h1 h2) h3) h5) (fun sR hS2 => ?_)
  refine ⟨?_, rfl⟩
  have h0 : t.cells < 1 ∨ 65536 < t.cells := by omega
  simp [resV, tabFault, h0]; done
 ·
  refine JC_skip ?_
  refine thenQ_n ?_
  refine JC_seq ?_
  refine JC_seq ?_
  refine JC_region ?_
  refine JO_q (QE_faB rfl rfl rfl rfl) rfl ?_
  refine JO_q (QE_ld1 1 rfl rfl rfl rfl rfl) rfl ?_
  refine JO_q (QE_lenS rfl rfl rfl) rfl ?_
  refine JO_q (QE_gt rfl rfl) rfl ?_
  refine JO_nil ?_
  refine thenQ_n ?_
  refine JC_ifD rfl (fun c6 => ?_) (fun c6 => ?_)
  ·
   refine JC_seq ?_
   refine JC_region ?_
   refine JO_call (first := []) (captured := []) rfl rfl rfl (at_ac D _ _ _ _) ?_
   rintro _ _ s7 h7 ⟨rfl, rfl⟩
   refine JO_st 0 [_, _] rfl rfl rfl rfl rfl rfl rfl rfl rfl ?_
   refine JO_nil ?_
   refine thenQ_n ?_
   refine JC_ret ?_
   refine thenQ_r ?_
   refine retQ_mk [_, _] L (.inr rfl) (.agg (us := [_, _]) 0 rfl rfl rfl rfl rfl (.nil)) rfl (Le.trans (Le.trans (Le.trans h1 h2) h3) h7) (fun sR hS2 => ?_)
   refine ⟨?_, rfl⟩
   have h0 : ¬ (t.cells < 1 ∨ 65536 < t.cells) := by omega
   have h1 : 64 < t.ins.length := by omega
   simp [resV, tabFault, h0, h1]; done
  ·
   refine JC_skip ?_
   refine thenQ_n ?_
   refine JC_seq ?_
   refine JC_seq ?_
   refine JC_region ?_
   refine JO_q (QE_as rfl) rfl ?_
   refine JO_nil ?_
   refine thenQ_n ?_
   refine JC_block ?_
   refine JC_loop (γ := Nat) (fun k => [(1, _), (2, _), (3, .int .i64 (k : Int))]) (fun _ => _) (fun k tw => Le D s3 tw ∧ (k ≤ n ∧ ∀ i, i < k → rowCode t.ins i = 0)) (fun k => n - k) (fun _ _ _ h hl => ⟨h.1.trans hl, h.2⟩) 0 (Keeps.cons rfl (Keeps.cons rfl (Keeps.cons rfl (Keeps.nil _)))) rfl ⟨Le.refl _, ⟨Nat.zero_le _, fun i hi => by omega⟩⟩ ?_
   intro k s8 I8
   have hk0 := I8.2.1
   have hI := I8.2.2
   refine JC_seq ?_
   refine JC_seq ?_
   refine JC_region ?_
   refine JO_q (QE_mv rfl) rfl ?_
   refine JO_q (QE_faB rfl rfl rfl rfl) rfl ?_
   refine JO_q (QE_ld1 1 rfl rfl rfl rfl rfl) rfl ?_
   refine JO_q (QE_lenS rfl rfl rfl) rfl ?_
   refine JO_q (QE_lt rfl rfl) rfl ?_
   refine JO_nil ?_
   refine thenQ_n ?_
   refine JC_ifD rfl (fun c9 => ?_) (fun c9 => ?_)
   ·
    have hk : k < n := by omega
    obtain ⟨b, off, x, A', n', c', rfl, hx, hcx, hax, hnl, hcd⟩ := Inss.at_ (hA.le (Le.trans (Le.trans (Le.trans h1 h2) h3) I8.1)) hk
    have hn' := hax.1
    have hc1' := hax.2.1
    have hc2' := hax.2.2.1
    refine JC_skip ?_
    refine thenQ_n ?_
    refine JC_seq ?_
    refine JC_block ?_
    refine JC_seq ?_
    refine JC_region ?_
    refine JO_q (QE_faB rfl rfl rfl rfl) rfl ?_
    refine JO_q (QE_ld1 1 rfl rfl rfl rfl rfl) rfl ?_
    refine JO_q (QE_mv rfl) rfl ?_
    refine JO_q (QE_iaN rfl rfl rfl rfl rfl rfl hk) rfl ?_
    refine JO_q (QE_ldsA rfl rfl rfl (hcx.le (Le.refl (D := D) _)) rfl) rfl ?_
    refine JO_allocZ rfl [_, _, _, _] rfl rfl ?_
    intro β10 s10 h10
    refine JO_st 0 [_, _, _, _] rfl rfl rfl rfl rfl rfl rfl rfl rfl ?_
    refine JO_nil ?_
    refine thenQ_n ?_
    refine JC_seq ?_
    refine JC_seq ?_
    refine JC_region ?_
    refine JO_q (QE_fa0 rfl rfl rfl rfl) rfl ?_
    refine JO_q (QE_ld1 0 rfl rfl rfl rfl rfl) rfl ?_
    refine JO_call (first := []) (captured := []) rfl rfl rfl (isLabel_ac D _ _ _ hnl) ?_
    rintro _ _ s11 h11 ⟨rfl, rfl⟩
    refine JO_q (QE_not rfl) rfl ?_
    refine JO_q (QE_mv rfl) rfl ?_
    refine JO_caseM (t := 34) rfl (fun c12 => ?_) (fun c12 => ?_)
    ·
     refine JO_gF rfl rfl rfl rfl ?_
     refine JO_gF rfl rfl rfl rfl ?_
     refine JO_gF rfl rfl rfl rfl ?_
     refine JO_q (QE_pickT rfl rfl) rfl ?_
     refine JO_q (QE_mv rfl) rfl ?_
     refine JO_gF rfl rfl rfl rfl ?_
     refine JO_gF rfl rfl rfl rfl ?_
     refine JO_gF rfl rfl rfl rfl ?_
     refine JO_q (QE_pickT rfl rfl) rfl ?_
     refine JO_nil ?_
     refine thenQ_n ?_
     refine JC_ifT rfl ?_
     have hm : mnemB x.name = false := by first | exact mnem_F1 (by assumption) | exact mnem_F2 (by assumption) | exact mnem_F3 (by assumption)
     refine JC_seq ?_
     refine JC_region ?_
     refine JO_q (QE_mv rfl) rfl ?_
     refine JO_call (first := []) (captured := []) rfl rfl rfl (at_ac D _ _ _ _) ?_
     rintro _ _ s13 h13 ⟨rfl, rfl⟩
     refine JO_st 1 [_, _] rfl rfl rfl rfl rfl rfl rfl rfl rfl ?_
     refine JO_nil ?_
     refine thenQ_n ?_
     refine JC_ret ?_
     refine thenQ_r ?_
     refine blockQ_r ?_
     refine thenQ_r ?_
     refine thenQ_r ?_
     refine blockQ_r ?_
     refine thenQ_r ?_
     refine retQ_mk [_, _, _] L (.inr rfl) (.agg (us := [_, _]) 1 rfl rfl rfl rfl rfl (.nil)) rfl (Le.trans (Le.trans (Le.trans (Le.trans (Le.trans (Le.trans h1 h2) h3) I8.1) h10) h11) h13) (fun sR hS2 => ?_)
     refine ⟨?_, rfl⟩
     simp only [resV]; rw [tab_hit (k := k) (c := 7) (by omega) (by omega) hI (by omega) (by simp [rowCode, hx, insCode, hm]) (by decide)]; done
    ·
     refine JO_gT rfl rfl ?_
     refine JO_q (QE_fa0 rfl rfl rfl rfl) rfl ?_
     refine JO_gT rfl rfl ?_
     refine JO_q (QE_ld1 0 rfl rfl rfl rfl rfl) rfl ?_
     refine JO_gT rfl rfl ?_
     refine JO_q (QE_seq rfl rfl) rfl ?_
     refine JO_q (QE_pickF rfl rfl) rfl ?_
     refine JO_q (QE_mv rfl) rfl ?_
     refine JO_caseD (t := 39) rfl (fun c14 => ?_) (fun c14 => ?_)
     ·
      refine JO_gF rfl rfl rfl rfl ?_
      refine JO_gF rfl rfl rfl rfl ?_
      refine JO_gF rfl rfl rfl rfl ?_
      refine JO_q (QE_pickT rfl rfl) rfl ?_
      refine JO_nil ?_
      refine thenQ_n ?_
      refine JC_ifT rfl ?_
      have hm : mnemB x.name = false := by first | exact mnem_F1 (by assumption) | exact mnem_F2 (by assumption) | exact mnem_F3 (by assumption)
      refine JC_seq ?_
      refine JC_region ?_
      refine JO_q (QE_mv rfl) rfl ?_
      refine JO_call (first := []) (captured := []) rfl rfl rfl (at_ac D _ _ _ _) ?_
      rintro _ _ s15 h15 ⟨rfl, rfl⟩
      refine JO_st 1 [_, _] rfl rfl rfl rfl rfl rfl rfl rfl rfl ?_
      refine JO_nil ?_
      refine thenQ_n ?_
      refine JC_ret ?_
      refine thenQ_r ?_
      refine blockQ_r ?_
      refine thenQ_r ?_
      refine thenQ_r ?_
      refine blockQ_r ?_
      refine thenQ_r ?_
      refine retQ_mk [_, _, _] L (.inr rfl) (.agg (us := [_, _]) 1 rfl rfl rfl rfl rfl (.nil)) rfl (Le.trans (Le.trans (Le.trans (Le.trans (Le.trans (Le.trans h1 h2) h3) I8.1) h10) h11) h15) (fun sR hS2 => ?_)
      refine ⟨?_, rfl⟩
      simp only [resV]; rw [tab_hit (k := k) (c := 7) (by omega) (by omega) hI (by omega) (by simp [rowCode, hx, insCode, hm]) (by decide)]; done
     ·
      refine JO_gT rfl rfl ?_
      refine JO_q (QE_fa0 rfl rfl rfl rfl) rfl ?_
      refine JO_gT rfl rfl ?_
      refine JO_q (QE_ld1 0 rfl rfl rfl rfl rfl) rfl ?_
      refine JO_gT rfl rfl ?_
      refine JO_q (QE_seq rfl rfl) rfl ?_
      refine JO_q (QE_pickF rfl rfl) rfl ?_
      refine JO_nil ?_
      refine thenQ_n ?_
      refine JC_ifD rfl (fun c16 => ?_) (fun c16 => ?_)
      ·
       have hm : mnemB x.name = false := by first | exact mnem_F1 (by assumption) | exact mnem_F2 (by assumption) | exact mnem_F3 (by assumption)
       refine JC_seq ?_
       refine JC_region ?_
       refine JO_q (QE_mv rfl) rfl ?_
       refine JO_call (first := []) (captured := []) rfl rfl rfl (at_ac D _ _ _ _) ?_
       rintro _ _ s17 h17 ⟨rfl, rfl⟩
       refine JO_st 1 [_, _] rfl rfl rfl rfl rfl rfl rfl rfl rfl ?_
       refine JO_nil ?_
       refine thenQ_n ?_
       refine JC_ret ?_
       refine thenQ_r ?_
       refine blockQ_r ?_
       refine thenQ_r ?_
       refine thenQ_r ?_
       refine blockQ_r ?_
       refine thenQ_r ?_
       refine retQ_mk [_, _, _] L (.inr rfl) (.agg (us := [_, _]) 1 rfl rfl rfl rfl rfl (.nil)) rfl (Le.trans (Le.trans (Le.trans (Le.trans (Le.trans (Le.trans h1 h2) h3) I8.1) h10) h11) h17) (fun sR hS2 => ?_)
       refine ⟨?_, rfl⟩
       simp only [resV]; rw [tab_hit (k := k) (c := 7) (by omega) (by omega) hI (by omega) (by simp [rowCode, hx, insCode, hm]) (by decide)]; done
      ·
       have hm : mnemB x.name = true := mnem_T (by assumption) (by assumption) (by assumption)
       refine JC_skip ?_
       refine thenQ_n ?_
       refine JC_seq ?_
       refine JC_seq ?_
       refine JC_region ?_
       refine JO_q (QE_faB rfl rfl rfl rfl) rfl ?_
       refine JO_q (QE_ld1 0 rfl rfl rfl rfl rfl) rfl ?_
       refine JO_q (QE_lenS rfl rfl rfl) rfl ?_
       refine JO_q (QE_gt rfl rfl) rfl ?_
       refine JO_nil ?_
       refine thenQ_n ?_
       refine JC_ifD rfl (fun c18 => ?_) (fun c18 => ?_)
       ·
        have h8 : 8 < x.acts.length := by omega
        refine JC_seq ?_
        refine JC_region ?_
        refine JO_q (QE_mv rfl) rfl ?_
        refine JO_call (first := []) (captured := []) rfl rfl rfl (at_ac D _ _ _ _) ?_
        rintro _ _ s19 h19 ⟨rfl, rfl⟩
        refine JO_st 1 [_, _] rfl rfl rfl rfl rfl rfl rfl rfl rfl ?_
        refine JO_nil ?_
        refine thenQ_n ?_
        refine JC_ret ?_
        refine thenQ_r ?_
        refine blockQ_r ?_
        refine thenQ_r ?_
        refine thenQ_r ?_
        refine blockQ_r ?_
        refine thenQ_r ?_
        refine retQ_mk [_, _, _] L (.inr rfl) (.agg (us := [_, _]) 1 rfl rfl rfl rfl rfl (.nil)) rfl (Le.trans (Le.trans (Le.trans (Le.trans (Le.trans (Le.trans h1 h2) h3) I8.1) h10) h11) h19) (fun sR hS2 => ?_)
        refine ⟨?_, rfl⟩
        simp only [resV]; rw [tab_hit (k := k) (c := 2) (by omega) (by omega) hI (by omega) (by simp [rowCode, hx, insCode, hm, h8]) (by decide)]; done
       ·
        have h8 : ¬ 8 < x.acts.length := by omega
        refine JC_skip ?_
        refine thenQ_n ?_
        refine JC_seq ?_
        refine JC_seq ?_
        refine JC_region ?_
        refine JO_q (QE_as rfl) rfl ?_
        refine JO_nil ?_
        refine thenQ_n ?_
        refine JC_block ?_
        refine JC_loop (γ := Nat) (fun j => [(1, _), (2, _), (3, _), (4, _), (5, .int .i64 (j : Int))]) (fun _ => _) (fun j tw => Le D s11 tw ∧ (j ≤ n' ∧ ∀ i a, i < j → x.acts[i]? = some a → actCode a x.operand = 0)) (fun j => n' - j) (fun _ _ _ h hl => ⟨h.1.trans hl, h.2⟩) 0 (Keeps.cons rfl (Keeps.cons rfl (Keeps.cons rfl (Keeps.cons rfl (Keeps.cons rfl (Keeps.nil _)))))) rfl ⟨Le.refl _, ⟨Nat.zero_le _, fun i c hi => by omega⟩⟩ ?_
        intro j s20 I20
        have hj0 := I20.2.1
        have hJ := I20.2.2
        refine JC_seq ?_
        refine JC_seq ?_
        refine JC_region ?_
        refine JO_q (QE_mv rfl) rfl ?_
        refine JO_q (QE_faB rfl rfl rfl rfl) rfl ?_
        refine JO_q (QE_ld1 0 rfl rfl rfl rfl rfl) rfl ?_
        refine JO_q (QE_lenS rfl rfl rfl) rfl ?_
        refine JO_q (QE_lt rfl rfl) rfl ?_
        refine JO_nil ?_
        refine thenQ_n ?_
        refine JC_ifD rfl (fun c21 => ?_) (fun c21 => ?_)
        ·
         have hj : j < n' := by omega
         obtain ⟨b2, off2, a, rfl, ha, hca, hau⟩ := Acs.at_ (hax.le (Le.trans (Le.trans h10 h11) I20.1)) hj
         refine JC_skip ?_
         refine thenQ_n ?_
         refine JC_seq ?_
         refine JC_block ?_
         refine JC_seq ?_
         refine JC_draw drawsMixed 9 rfl _ (fun _ h => h) ?_
         intro s22 h22
         refine JA_q 0 rfl (by kernel_rfl) (by kernel_rfl) (by kernel_rfl) trivial (QE_faB rfl rfl rfl rfl) rfl ?_
         refine JA_q 1 rfl (by kernel_rfl) (by kernel_rfl) (by kernel_rfl) trivial (QE_ld1 0 rfl rfl rfl rfl rfl) rfl ?_
         refine JA_q 2 rfl (by kernel_rfl) (by kernel_rfl) (by kernel_rfl) trivial (QE_mv rfl) rfl ?_
         refine JA_q 3 rfl (by kernel_rfl) (by kernel_rfl) (by kernel_rfl) trivial (QE_iaN rfl rfl rfl rfl rfl rfl hj) rfl ?_
         refine JA_q 4 rfl (by kernel_rfl) (by kernel_rfl) (by kernel_rfl) trivial (QE_ldsA rfl rfl rfl (hca.le h22) rfl) rfl ?_
         refine JA_q 5 rfl (by kernel_rfl) (by kernel_rfl) (by kernel_rfl) trivial (QE_faB rfl rfl rfl rfl) rfl ?_
         refine JA_q 6 rfl (by kernel_rfl) (by kernel_rfl) (by kernel_rfl) trivial (QE_ld1 0 rfl rfl rfl rfl rfl) rfl ?_
         refine JA_1 7 (by kernel_rfl) ?_
         refine JB_call rfl trivial (first := []) (captured := []) rfl rfl rfl (actionCode_ac D _ _ _ _) ?_
         rintro _ _ s23 h23 ⟨rfl, rfl⟩
         refine ⟨fun _ _ h => h, ?_⟩
         refine JA_q 8 rfl (by kernel_rfl) (by kernel_rfl) (by kernel_rfl) trivial (QE_as rfl) rfl ?_
         refine JA_done (by kernel_rfl) ?_
         refine thenQ_n ?_
         refine JC_seq ?_
         refine JC_region ?_
         refine JO_q (QE_mv rfl) rfl ?_
         refine JO_q (QE_ne rfl rfl) rfl ?_
         refine JO_nil ?_
         refine thenQ_n ?_
         refine JC_ifN rfl (fun c24 => ?_) (fun c24 => ?_)
         ·
          have hz : actCode a x.operand ≠ 0 := by simpa using c24
          refine JC_seq ?_
          refine JC_region ?_
          refine JO_q (QE_mv rfl) rfl ?_
          refine JO_q (QE_mv rfl) rfl ?_
          refine JO_call (first := []) (captured := []) rfl rfl rfl (at_ac D _ _ _ _) ?_
          rintro _ _ s25 h25 ⟨rfl, rfl⟩
          refine JO_st 1 [_, _] rfl rfl rfl rfl rfl rfl rfl rfl rfl ?_
          refine JO_nil ?_
          refine thenQ_n ?_
          refine JC_ret ?_
          refine blockQ_r ?_
          refine thenQ_r ?_
          refine thenQ_r ?_
          refine blockQ_r ?_
          refine thenQ_r ?_
          refine blockQ_r ?_
          refine thenQ_r ?_
          refine thenQ_r ?_
          refine blockQ_r ?_
          refine thenQ_r ?_
          refine retQ_mk [_, _, _] L (.inr rfl) (.agg (us := [_, _]) 1 rfl rfl rfl rfl rfl (.nil)) rfl (Le.trans (Le.trans (Le.trans (Le.trans (Le.trans (Le.trans (Le.trans (Le.trans (Le.trans h1 h2) h3) I8.1) h10) h11) I20.1) h22) h23) h25) (fun sR hS2 => ?_)
          refine ⟨?_, rfl⟩
          have hf := firstNZ_hit hJ ha hz
          simp only [resV]; rw [tab_hit (k := k) (c := actCode a x.operand) (by omega) (by omega) hI (by omega) (by simp [rowCode, hx, insCode, hm, h8, hf, hz]) hz]; done
         ·
          have hz : actCode a x.operand = 0 := by simpa using c24
          refine JC_skip ?_
          refine blockQ_n ?_
          refine thenQ_n ?_
          refine JC_region ?_
          refine JO_q (QE_mv rfl) rfl ?_
          refine JO_q (QE_add' rfl rfl (w64 (by omega) (by omega))) rfl ?_
          refine JO_q (QE_as rfl) rfl ?_
          refine JO_nil ?_
          refine thenQ_n ⟨(j + 1), [], (Keeps.cons rfl (Keeps.cons rfl (Keeps.cons rfl (Keeps.cons rfl (Keeps.cons rfl (Keeps.nil _)))))), rfl, ⟨(Le.trans (Le.trans I20.1 h22) h23), ⟨by omega, below_succ hJ ha hz⟩⟩, (by omega)⟩
        ·
         refine JC_exit ?_
         refine thenQ_x ?_
         refine thenQ_x ?_
         refine blockQ_x ?_
         refine thenQ_n ?_
         refine JC_seq ?_
         refine JC_region ?_
         refine JO_q (QE_as rfl) rfl ?_
         refine JO_nil ?_
         refine thenQ_n ?_
         refine JC_block ?_
         refine JC_loop (γ := Nat) (fun m => [(1, _), (2, _), (3, _), (4, _), (7, .int .i64 (m : Int))]) (fun _ => _) (fun m tw => Le D s20 tw ∧ (m ≤ k ∧ ∀ i y, i < m → t.ins[i]? = some y → sameKey x y = false)) (fun m => k - m) (fun _ _ _ h hl => ⟨h.1.trans hl, h.2⟩) 0 (Keeps.cons rfl (Keeps.cons rfl (Keeps.cons rfl (Keeps.cons rfl (Keeps.cons rfl (Keeps.nil _)))))) rfl ⟨Le.refl _, ⟨Nat.zero_le _, fun i c hi => by omega⟩⟩ ?_
         intro m s26 I26
         have hm0 := I26.2.1
         have hM := I26.2.2
         refine JC_seq ?_
         refine JC_seq ?_
         refine JC_region ?_
         refine JO_q (QE_mv rfl) rfl ?_
         refine JO_q (QE_mv rfl) rfl ?_
         refine JO_q (QE_lt rfl rfl) rfl ?_
         refine JO_nil ?_
         refine thenQ_n ?_
         refine JC_ifD rfl (fun c27 => ?_) (fun c27 => ?_)
         ·
          have hmk : m < k := by omega
          obtain ⟨b3, off3, y, A3, n3, c3, he3, hy, hcy, _, _, _⟩ := Inss.at_ (hA.le (Le.trans (Le.trans (Le.trans (Le.trans (Le.trans (Le.trans (Le.trans h1 h2) h3) I8.1) h10) h11) I20.1) I26.1)) (show m < n by omega)
          obtain ⟨rfl, rfl⟩ : b3 = b ∧ off3 = off := by injection he3 with he3; injection he3 with e1 e2; exact ⟨e1.symm, e2.symm⟩
          refine JC_skip ?_
          refine thenQ_n ?_
          refine JC_seq ?_
          refine JC_block ?_
          refine JC_seq ?_
          refine JC_draw drawsMixed 20 rfl _ (fun _ h => h) ?_
          intro s28 h28
          refine JA_q 0 rfl (by kernel_rfl) (by kernel_rfl) (by kernel_rfl) trivial (QE_faB rfl rfl rfl rfl) rfl ?_
          refine JA_q 1 rfl (by kernel_rfl) (by kernel_rfl) (by kernel_rfl) trivial (QE_ld1 2 rfl rfl rfl rfl rfl) rfl ?_
          refine JA_q 2 rfl (by kernel_rfl) (by kernel_rfl) (by kernel_rfl) trivial (QE_mv rfl) rfl ?_
          refine JA_q 3 rfl (by kernel_rfl) (by kernel_rfl) (by kernel_rfl) trivial (QE_iaN rfl rfl rfl rfl rfl rfl (show m < n by omega)) rfl ?_
          refine JA_q 4 rfl (by kernel_rfl) (by kernel_rfl) (by kernel_rfl) trivial (QE_fa0 rfl rfl rfl rfl) rfl ?_
          refine JA_q 5 rfl (by kernel_rfl) (by kernel_rfl) (by kernel_rfl) trivial (QE_ldsR0 rfl rfl rfl (hcy.le h28) rfl) rfl ?_
          refine JA_q 6 rfl (by kernel_rfl) (by kernel_rfl) (by kernel_rfl) trivial (QE_fa0 rfl rfl rfl rfl) rfl ?_
          refine JA_q 7 rfl (by kernel_rfl) (by kernel_rfl) (by kernel_rfl) trivial (QE_ld1 0 rfl rfl rfl rfl rfl) rfl ?_
          refine JA_q 8 rfl (by kernel_rfl) (by kernel_rfl) (by kernel_rfl) trivial (QE_seq rfl rfl) rfl ?_
          refine JA_q 9 rfl (by kernel_rfl) (by kernel_rfl) (by kernel_rfl) trivial (QE_mv rfl) rfl ?_
          refine JA_caseD (t := 86) rfl (fun c29 => ?_) (fun c29 => ?_)
          ·
           refine JA_no 10 rfl (by kernel_rfl) (by kernel_rfl) (by kernel_rfl) rfl rfl rfl rfl ?_
           refine JA_no 11 rfl (by kernel_rfl) (by kernel_rfl) (by kernel_rfl) rfl rfl rfl rfl ?_
           refine JA_no 12 rfl (by kernel_rfl) (by kernel_rfl) (by kernel_rfl) rfl rfl rfl rfl ?_
           refine JA_no 13 rfl (by kernel_rfl) (by kernel_rfl) (by kernel_rfl) rfl rfl rfl rfl ?_
           refine JA_no 14 rfl (by kernel_rfl) (by kernel_rfl) (by kernel_rfl) rfl rfl rfl rfl ?_
           refine JA_no 15 rfl (by kernel_rfl) (by kernel_rfl) (by kernel_rfl) rfl rfl rfl rfl ?_
           refine JA_no 16 rfl (by kernel_rfl) (by kernel_rfl) (by kernel_rfl) rfl rfl rfl rfl ?_
           refine JA_no 17 rfl (by kernel_rfl) (by kernel_rfl) (by kernel_rfl) rfl rfl rfl rfl ?_
           refine JA_no 18 rfl (by kernel_rfl) (by kernel_rfl) (by kernel_rfl) rfl rfl rfl rfl ?_
           refine JA_q 19 rfl (by kernel_rfl) (by kernel_rfl) (by kernel_rfl) trivial (QE_pickT rfl rfl) rfl ?_
           refine JA_done (by kernel_rfl) ?_
           refine thenQ_n ?_
           refine JC_ifT rfl ?_
           have hs : sameKey x y = true := by first | exact same_T1 (by assumption) | exact same_T2 (by assumption)
           refine JC_seq ?_
           refine JC_region ?_
           refine JO_q (QE_mv rfl) rfl ?_
           refine JO_call (first := []) (captured := []) rfl rfl rfl (at_ac D _ _ _ _) ?_
           rintro _ _ s30 h30 ⟨rfl, rfl⟩
           refine JO_st 1 [_, _] rfl rfl rfl rfl rfl rfl rfl rfl rfl ?_
           refine JO_nil ?_
           refine thenQ_n ?_
           refine JC_ret ?_
           refine blockQ_r ?_
           refine thenQ_r ?_
           refine thenQ_r ?_
           refine blockQ_r ?_
           refine blockQ_r ?_
           refine thenQ_r ?_
           refine thenQ_r ?_
           refine blockQ_r ?_
           refine thenQ_r ?_
           refine retQ_mk [_, _, _] L (.inr rfl) (.agg (us := [_, _]) 1 rfl rfl rfl rfl rfl (.nil)) rfl (Le.trans (Le.trans (Le.trans (Le.trans (Le.trans (Le.trans (Le.trans (Le.trans (Le.trans h1 h2) h3) I8.1) h10) h11) I20.1) I26.1) h28) h30) (fun sR hS2 => ?_)
           refine ⟨?_, rfl⟩
           have hf := firstNZ_none (l := x.acts) (f := fun a => actCode a x.operand) (fun i a hi h => hJ i a (by omega) h)
           have hs2 : (t.ins.take k).any (sameKey x) = true := any_take hy hmk hs
           simp only [resV]; rw [tab_hit (k := k) (c := 8) (by omega) (by omega) hI (by omega) (by simp [rowCode, hx, insCode, hm, h8, hf, hs2]) (by decide)]; done
          ·
           refine JA_q 10 rfl (by kernel_rfl) (by kernel_rfl) (by kernel_rfl) ⟨_, rfl, rfl⟩ (QE_faB rfl rfl rfl rfl) rfl ?_
           refine JA_q 11 rfl (by kernel_rfl) (by kernel_rfl) (by kernel_rfl) ⟨_, rfl, rfl⟩ (QE_ld1 2 rfl rfl rfl rfl rfl) rfl ?_
           refine JA_q 12 rfl (by kernel_rfl) (by kernel_rfl) (by kernel_rfl) ⟨_, rfl, rfl⟩ (QE_mv rfl) rfl ?_
           refine JA_q 13 rfl (by kernel_rfl) (by kernel_rfl) (by kernel_rfl) ⟨_, rfl, rfl⟩ (QE_iaN rfl rfl rfl rfl rfl rfl (show m < n by omega)) rfl ?_
           refine JA_q 14 rfl (by kernel_rfl) (by kernel_rfl) (by kernel_rfl) ⟨_, rfl, rfl⟩ (QE_fa rfl rfl rfl rfl) rfl ?_
           refine JA_q 15 rfl (by kernel_rfl) (by kernel_rfl) (by kernel_rfl) ⟨_, rfl, rfl⟩ (QE_ldsR 1 rfl rfl rfl (hcy.le h28) rfl) rfl ?_
           refine JA_q 16 rfl (by kernel_rfl) (by kernel_rfl) (by kernel_rfl) ⟨_, rfl, rfl⟩ (QE_faB rfl rfl rfl rfl) rfl ?_
           refine JA_q 17 rfl (by kernel_rfl) (by kernel_rfl) (by kernel_rfl) ⟨_, rfl, rfl⟩ (QE_ld1 0 rfl rfl rfl rfl rfl) rfl ?_
           refine JA_q 18 rfl (by kernel_rfl) (by kernel_rfl) (by kernel_rfl) ⟨_, rfl, rfl⟩ (QE_eq rfl rfl) rfl ?_
           refine JA_q 19 rfl (by kernel_rfl) (by kernel_rfl) (by kernel_rfl) trivial (QE_pickF rfl rfl) rfl ?_
           refine JA_done (by kernel_rfl) ?_
           refine thenQ_n ?_
           refine JC_ifD rfl (fun c31 => ?_) (fun c31 => ?_)
           ·
            have hs : sameKey x y = true := by first | exact same_T1 (by assumption) | exact same_T2 (by assumption)
            refine JC_seq ?_
            refine JC_region ?_
            refine JO_q (QE_mv rfl) rfl ?_
            refine JO_call (first := []) (captured := []) rfl rfl rfl (at_ac D _ _ _ _) ?_
            rintro _ _ s32 h32 ⟨rfl, rfl⟩
            refine JO_st 1 [_, _] rfl rfl rfl rfl rfl rfl rfl rfl rfl ?_
            refine JO_nil ?_
            refine thenQ_n ?_
            refine JC_ret ?_
            refine blockQ_r ?_
            refine thenQ_r ?_
            refine thenQ_r ?_
            refine blockQ_r ?_
            refine blockQ_r ?_
            refine thenQ_r ?_
            refine thenQ_r ?_
            refine blockQ_r ?_
            refine thenQ_r ?_
            refine retQ_mk [_, _, _] L (.inr rfl) (.agg (us := [_, _]) 1 rfl rfl rfl rfl rfl (.nil)) rfl (Le.trans (Le.trans (Le.trans (Le.trans (Le.trans (Le.trans (Le.trans (Le.trans (Le.trans h1 h2) h3) I8.1) h10) h11) I20.1) I26.1) h28) h32) (fun sR hS2 => ?_)
            refine ⟨?_, rfl⟩
            have hf := firstNZ_none (l := x.acts) (f := fun a => actCode a x.operand) (fun i a hi h => hJ i a (by omega) h)
            have hs2 : (t.ins.take k).any (sameKey x) = true := any_take hy hmk hs
            simp only [resV]; rw [tab_hit (k := k) (c := 8) (by omega) (by omega) hI (by omega) (by simp [rowCode, hx, insCode, hm, h8, hf, hs2]) (by decide)]; done
           ·
            have hs : sameKey x y = false := same_F (by assumption) (by assumption)
            refine JC_skip ?_
            refine blockQ_n ?_
            refine thenQ_n ?_
            refine JC_region ?_
            refine JO_q (QE_mv rfl) rfl ?_
            refine JO_q (QE_add' rfl rfl (w64 (by omega) (by omega))) rfl ?_
            refine JO_q (QE_as rfl) rfl ?_
            refine JO_nil ?_
            refine thenQ_n ⟨(m + 1), [], (Keeps.cons rfl (Keeps.cons rfl (Keeps.cons rfl (Keeps.cons rfl (Keeps.cons rfl (Keeps.nil _)))))), rfl, ⟨(Le.trans I26.1 h28), ⟨by omega, below_succ hM hy hs⟩⟩, (by omega)⟩
         ·
          refine JC_exit ?_
          refine thenQ_x ?_
          refine thenQ_x ?_
          refine blockQ_x ?_
          refine blockQ_n ?_
          refine thenQ_n ?_
          refine JC_region ?_
          refine JO_q (QE_mv rfl) rfl ?_
          refine JO_q (QE_add' rfl rfl (w64 (by omega) (by omega))) rfl ?_
          refine JO_q (QE_as rfl) rfl ?_
          refine JO_nil ?_
          refine thenQ_n ⟨(k + 1), [_], (Keeps.cons rfl (Keeps.cons rfl (Keeps.cons rfl (Keeps.nil _)))), rfl, ⟨(Le.trans (Le.trans (Le.trans (Le.trans I8.1 h10) h11) I20.1) I26.1), ⟨by omega, fun i hi => by rcases Nat.lt_succ_iff_lt_or_eq.1 hi with h | rfl; exact hI i h; exact row_ok hx hm h8 (fun i a hi h => hJ i a (by omega) h) (fun i y hi h => hM i y (by omega) h)⟩⟩, (by omega)⟩
   ·
    refine JC_exit ?_
    refine thenQ_x ?_
    refine thenQ_x ?_
    refine blockQ_x ?_
    refine thenQ_n ?_
    refine JC_seq ?_
    refine JC_region ?_
    refine JO_q (QE_build [] [_, _] rfl rfl rfl rfl rfl rfl) rfl ?_
    refine JO_st 0 [_, _] rfl rfl rfl rfl rfl rfl rfl rfl rfl ?_
    refine JO_nil ?_
    refine thenQ_n ?_
    refine JC_ret ?_
    refine retQ_mk [_, _] L (.inr rfl) (.agg (us := [_, _]) 0 rfl rfl rfl rfl rfl (.nil)) rfl (Le.trans (Le.trans (Le.trans h1 h2) h3) I8.1) (fun sR hS2 => ?_)
    refine ⟨?_, rfl⟩
    simp only [resV]; rw [tab_none (by omega) (by omega) (fun i hi => hI i (by omega))]; done
end Go.Proofs.YtoeeblegplghmaaGreatDoor
namespace Go.FL
open Go Go.RowKit Go.Proofs.YtoeeblegplghmaaGreatDoor
theorem bytes_fold (l : List UInt8) (r : ByteArray) : (l.map (fun x => (x.toNat : Int))).foldl (fun r n => r.push (UInt8.ofNat n.toNat)) r = ⟨r.data ++ l.toArray⟩ := by
  induction l generalizing r with
  | nil => cases r; simp
  | cons x l ih =>
    simp only [List.map_cons, List.foldl_cons, ih]
    apply ByteArray.ext
    simp [ByteArray.push]
theorem QE_b2s {P : Program} {TT : TyTab} {D : Nat} {fr : Fr} {ty : Nat} {K : Hl} {s0 : World} {x : Operand} {t t' e : Nat} {A : Option Addr} {n c : Nat} {l : List UInt8} {ti ti' te : TI} (hx : lk fr x = some (.slice A n c)) (ht : tlook TT t = some ti) (hk : ti.kind = .sl e) (he : tlook TT e = some te) (hke : te.desc = .int .u8)
    (ht' : tlook TT t' = some ti') (hk' : ti'.desc = .string) (h : Bts s0 A n c l) : QE P TT D fr (.convert t t' x) ty K s0 (St l) := fun hT dst pos af g ρ hρ L s ho hl _ => by
  obtain ⟨k1, k2, _⟩ := hT.at_ ht
  rw [hk] at k2
  simp only [TK.fits] at k2
  rw [k2] at k1
  have k3 := (hT.at_ he).1
  rw [hke] at k3
  have k4 := (hT.at_ ht').1
  rw [hk'] at k4
  have hc := run_convert_bytes_string (P := P) (fill L s) t t' e A n c k1 k3 k4
  simp only [execOp, hρ x _ hx, Sem.run_bind, hc]
  cases A with
  | none =>
    have : l = [] := by
      cases l with
      | nil => rfl
      | cons y l => obtain ⟨b, off, cs, h1, _⟩ := h.2.2.2 0 y rfl; cases h1
    subst this
    simp [Conv.bytesToString]
    rfl
  | some a =>
    have hcells : ∀ j v, (l.map (fun x => Value.int .u8 (x.toNat : Int)))[j]? = some v → (fill L s).cell? (a.add j) = some v := fun j v hj => by
      rw [List.getElem?_map] at hj
      cases hx : l[j]? with
      | none => simp [hx] at hj
      | some y =>
        simp [hx] at hj
        obtain ⟨b, off, cs, h1, h2, h3, rfl⟩ := h.2.2.2 j y hx
        injection h1 with h1; subst h1
        have := h2 0 _ rfl
        rw [add_lit, ← hj]
        simpa using fill_cell ho (hl.cell this)
    have hload := run_loadCells_list (P := P) (fill L s) a (l.map (fun x => Value.int .u8 (x.toNat : Int))) hcells
    rw [List.length_map, ← h.1] at hload
    have hr := run_bytesToString (P := P) (fill L s) a n c (l.map (fun x => (x.toNat : Int))) (by rw [hload, List.map_map]; rfl)
    rw [hr, bytes_fold]
    have he : (⟨ByteArray.empty.data ++ l.toArray⟩ : ByteArray) = ⟨l.toArray⟩ := by apply ByteArray.ext; exact Array.empty_append
    simp only [Result.andThen_ok, Sem.run_pure, he]
end Go.FL
namespace Go.Proofs.YtoeeblegplghmaaGreatDoor
open Go Go.FL
theorem same_lists {α : Type} {l m : List α} (hl : l.length = m.length) (h : ∀ i x, i < l.length → l[i]? = some x → m[i]? = some x) : l = m := by
  apply List.ext_getElem?
  intro i
  by_cases hi : i < l.length
  · rw [h i _ hi (List.getElem?_eq_getElem hi), List.getElem?_eq_getElem hi]
  · rw [List.getElem?_eq_none (by omega), List.getElem?_eq_none (by omega)]
theorem diff_lists {α : Type} {l m : List α} {i : Nat} {x y : α} (h1 : l[i]? = some x) (h2 : m[i]? = some y) (h : x ≠ y) : l ≠ m := fun e => by
  subst e; rw [h1] at h2; injection h2; contradiction
theorem firstBad_zero (f : Nat → Int) (m j : Nat) : (firstBad f m j).1 = 0 → (firstBad f m j).2 = 0 := by
  induction m generalizing j with
  | zero => intro _; rfl
  | succ m ih =>
    simp only [firstBad]
    split
    · intro h; contradiction
    · exact ih _
theorem tab_zero (t : Tab) : (tabFault t).1 = 0 → (tabFault t).2 = 0 := by
  unfold tabFault
  split
  · intro h; cases h
  split
  · intro h; cases h
  · exact firstBad_zero _ _ _
end Go.Proofs.YtoeeblegplghmaaGreatDoor
namespace Go.Proofs.YtoeeblegplghmaaGreatDoor
open Go.FL
attribute [local irreducible] JC JO JA JB thenQ blockQ retQ AC fill CellsAt QE Ev Mid
set_option maxHeartbeats 1000000 in
set_option maxRecDepth 100000 in
theorem sameActions_ac (D : Nat) (L : Hl) (s : World) (A : Option Addr) (n c : Nat) (l : List Ac) (hA : Acs s A n c l) (A1 : Option Addr) (n1 c1 : Nat) (l1 : List Ac) (hB : Acs s A1 n1 c1 l1) : AC Tryz.prog D 41 [.slice A n c, .slice A1 n1 c1] L s fun v L' _ => v = .bool (decide (l = l1)) ∧ L = L' := by
 have hn := hA.1
 have hc1 := hA.2.1
 have hc2 := hA.2.2.1
 have hn1 := hB.1
 refine AC_enter (TT := TT) (fn := Tryz.f41) TT_ok Tryz.func41 (by kernel_rfl) rfl Tryz.ntmps41 rfl (rs := [.tmp 4]) rfl [(0, _), (1, _)] rfl ?_
 refine JC_seq ?_
 refine JC_region ?_
 refine JO_q (QE_as rfl) rfl ?_
 refine JO_nil ?_
 refine thenQ_n ?_
 refine JC_seq ?_
 refine JC_seq ?_
 refine JC_region ?_
 refine JO_q (QE_mv rfl) rfl ?_
 refine JO_q (QE_lenS rfl rfl rfl) rfl ?_
 refine JO_q (QE_mv rfl) rfl ?_
 refine JO_q (QE_lenS rfl rfl rfl) rfl ?_
 refine JO_q (QE_ne rfl rfl) rfl ?_
 refine JO_nil ?_
 refine thenQ_n ?_
 refine JC_ifN rfl (fun c1 => ?_) (fun c1 => ?_)
 ·
  refine JC_seq ?_
  refine JC_region ?_
  refine JO_q (QE_as rfl) rfl ?_
  refine JO_nil ?_
  refine thenQ_n ?_
  refine JC_ret ?_
  refine thenQ_r ?_
  refine retQ_mk [] L (.inr rfl) (.tmp rfl (.nil)) rfl (Le.refl (D := D) _) (fun sR hS2 => ?_)
  refine ⟨?_, rfl⟩
  have h0 : l ≠ l1 := fun e => by subst e; omega
  simp [resV, h0]; done
 ·
  refine JC_skip ?_
  refine thenQ_n ?_
  refine JC_seq ?_
  refine JC_seq ?_
  refine JC_region ?_
  refine JO_q (QE_as rfl) rfl ?_
  refine JO_nil ?_
  refine thenQ_n ?_
  refine JC_block ?_
  refine JC_loop (γ := Nat) (fun k => [(0, _), (1, _), (4, _), (5, .int .i64 (k : Int))]) (fun _ => _) (fun k tw => Le D s tw ∧ (k ≤ n ∧ ∀ i x, i < k → l[i]? = some x → l1[i]? = some x)) (fun k => n - k) (fun _ _ _ h hl => ⟨h.1.trans hl, h.2⟩) 0 (Keeps.cons rfl (Keeps.cons rfl (Keeps.cons rfl (Keeps.cons rfl (Keeps.nil _))))) rfl ⟨Le.refl _, ⟨Nat.zero_le _, fun i c hi => by omega⟩⟩ ?_
  intro k s2 I2
  have hk0 := I2.2.1
  have hI := I2.2.2
  refine JC_seq ?_
  refine JC_seq ?_
  refine JC_region ?_
  refine JO_q (QE_mv rfl) rfl ?_
  refine JO_q (QE_mv rfl) rfl ?_
  refine JO_q (QE_lenS rfl rfl rfl) rfl ?_
  refine JO_q (QE_lt rfl rfl) rfl ?_
  refine JO_nil ?_
  refine thenQ_n ?_
  refine JC_ifD rfl (fun c3 => ?_) (fun c3 => ?_)
  ·
   have hk : k < n := by omega
   obtain ⟨b, off, x, rfl, hx, hcx, _⟩ := Acs.at_ (hA.le I2.1) hk
   obtain ⟨b1, off1, y, rfl, hy, hcy, _⟩ := Acs.at_ (hB.le I2.1) (show k < n1 by omega)
   refine JC_skip ?_
   refine thenQ_n ?_
   refine JC_seq ?_
   refine JC_block ?_
   refine JC_seq ?_
   refine JC_draw drawsMixed 9 rfl _ (fun _ h => h) ?_
   intro s4 h4
   refine JA_q 0 rfl (by kernel_rfl) (by kernel_rfl) (by kernel_rfl) trivial (QE_mv rfl) rfl ?_
   refine JA_q 1 rfl (by kernel_rfl) (by kernel_rfl) (by kernel_rfl) trivial (QE_mv rfl) rfl ?_
   refine JA_q 2 rfl (by kernel_rfl) (by kernel_rfl) (by kernel_rfl) trivial (QE_iaN rfl rfl rfl rfl rfl rfl hk) rfl ?_
   refine JA_q 3 rfl (by kernel_rfl) (by kernel_rfl) (by kernel_rfl) trivial (QE_ldsA rfl rfl rfl (hcx.le h4) rfl) rfl ?_
   refine JA_q 4 rfl (by kernel_rfl) (by kernel_rfl) (by kernel_rfl) trivial (QE_mv rfl) rfl ?_
   refine JA_q 5 rfl (by kernel_rfl) (by kernel_rfl) (by kernel_rfl) trivial (QE_mv rfl) rfl ?_
   refine JA_q 6 rfl (by kernel_rfl) (by kernel_rfl) (by kernel_rfl) trivial (QE_iaN rfl rfl rfl rfl rfl rfl (show k < n1 by omega)) rfl ?_
   refine JA_q 7 rfl (by kernel_rfl) (by kernel_rfl) (by kernel_rfl) trivial (QE_ldsA rfl rfl rfl (hcy.le h4) rfl) rfl ?_
   refine JA_q 8 rfl (by kernel_rfl) (by kernel_rfl) (by kernel_rfl) trivial (QE_ane rfl rfl (eqAction _ _)) rfl ?_
   refine JA_done (by kernel_rfl) ?_
   refine thenQ_n ?_
   refine JC_ifN rfl (fun c5 => ?_) (fun c5 => ?_)
   ·
    have hE : x ≠ y := by assumption
    refine JC_seq ?_
    refine JC_region ?_
    refine JO_q (QE_as rfl) rfl ?_
    refine JO_nil ?_
    refine thenQ_n ?_
    refine JC_ret ?_
    refine blockQ_r ?_
    refine thenQ_r ?_
    refine thenQ_r ?_
    refine blockQ_r ?_
    refine thenQ_r ?_
    refine retQ_mk [] L (.inr rfl) (.tmp rfl (.nil)) rfl (Le.trans I2.1 h4) (fun sR hS2 => ?_)
    refine ⟨?_, rfl⟩
    have h0 : l ≠ l1 := diff_lists hx hy hE
    simp [resV, h0]; done
   ·
    have hE : x = y := by simpa using c5
    refine JC_skip ?_
    refine blockQ_n ?_
    refine thenQ_n ?_
    refine JC_region ?_
    refine JO_q (QE_mv rfl) rfl ?_
    refine JO_q (QE_add' rfl rfl (w64 (by omega) (by omega))) rfl ?_
    refine JO_q (QE_as rfl) rfl ?_
    refine JO_nil ?_
    refine thenQ_n ⟨(k + 1), [], (Keeps.cons rfl (Keeps.cons rfl (Keeps.cons rfl (Keeps.cons rfl (Keeps.nil _))))), rfl, ⟨(Le.trans I2.1 h4), ⟨by omega, below_succ hI hx (hE ▸ hy)⟩⟩, (by omega)⟩
  ·
   refine JC_exit ?_
   refine thenQ_x ?_
   refine thenQ_x ?_
   refine blockQ_x ?_
   refine thenQ_n ?_
   refine JC_seq ?_
   refine JC_region ?_
   refine JO_q (QE_as rfl) rfl ?_
   refine JO_nil ?_
   refine thenQ_n ?_
   refine JC_ret ?_
   refine retQ_mk [] L (.inr rfl) (.tmp rfl (.nil)) rfl I2.1 (fun sR hS2 => ?_)
   refine ⟨?_, rfl⟩
   have h0 : l = l1 := same_lists (by omega) (fun i x hi h => hI i x (by omega) h)
   simp [resV, h0]; done
set_option maxHeartbeats 1000000 in
set_option maxRecDepth 100000 in
theorem sameTable_ac (D : Nat) (L : Hl) (s : World) (t : Tab) (A : Option Addr) (n c : Nat) (hA : Inss s A n c t.ins) (t1 : Tab) (A1 : Option Addr) (n1 c1 : Nat) (hB : Inss s A1 n1 c1 t1.ins) : AC Tryz.prog D 16 [.agg #[.int .i64 t.cells, .slice A n c], .agg #[.int .i64 t1.cells, .slice A1 n1 c1]] L s fun v L' _ => v = .bool (decide (t = t1)) ∧ L = L' := by
 have hn := hA.1
 have hc1 := hA.2.1
 have hc2 := hA.2.2.1
 have hn1 := hB.1
 have hT : t = t1 ↔ t.cells = t1.cells ∧ t.ins = t1.ins := by cases t; cases t1; simp
 refine AC_enter (TT := TT) (fn := Tryz.f16) TT_ok Tryz.func16 (by kernel_rfl) rfl Tryz.ntmps16 rfl (rs := [.tmp 4]) rfl [(0, _), (1, _)] rfl ?_
 refine JC_seq ?_
 refine JC_region ?_
 refine JO_boxA rfl rfl ?_
 intro β1 s1 h1
 refine JO_boxA rfl rfl ?_
 intro β2 s2 h2
 refine JO_q (QE_as rfl) rfl ?_
 refine JO_nil ?_
 refine thenQ_n ?_
 refine JC_seq ?_
 refine JC_seq ?_
 refine JC_region ?_
 refine JO_q (QE_fa0 rfl rfl rfl rfl) rfl ?_
 refine JO_q (QE_ld1 1 rfl rfl rfl rfl rfl) rfl ?_
 refine JO_q (QE_fa0 rfl rfl rfl rfl) rfl ?_
 refine JO_q (QE_ld1 0 rfl rfl rfl rfl rfl) rfl ?_
 refine JO_q (QE_ne rfl rfl) rfl ?_
 refine JO_q (QE_mv rfl) rfl ?_
 refine JO_caseN (t := 13) rfl (fun c3 => ?_) (fun c3 => ?_)
 ·
  refine JO_gF rfl rfl rfl rfl ?_
  refine JO_gF rfl rfl rfl rfl ?_
  refine JO_gF rfl rfl rfl rfl ?_
  refine JO_gF rfl rfl rfl rfl ?_
  refine JO_gF rfl rfl rfl rfl ?_
  refine JO_gF rfl rfl rfl rfl ?_
  refine JO_gF rfl rfl rfl rfl ?_
  refine JO_q (QE_pickT rfl rfl) rfl ?_
  refine JO_nil ?_
  refine thenQ_n ?_
  refine JC_ifT rfl ?_
  refine JC_seq ?_
  refine JC_region ?_
  refine JO_q (QE_as rfl) rfl ?_
  refine JO_nil ?_
  refine thenQ_n ?_
  refine JC_ret ?_
  refine thenQ_r ?_
  refine retQ_mk [_, _] L (.inr rfl) (.tmp rfl (.nil)) rfl (Le.trans h1 h2) (fun sR hS2 => ?_)
  refine ⟨?_, rfl⟩
  have h0 : ¬ t = t1 := fun e => by subst e; omega
  simp [resV, h0]; done
 ·
  refine JO_gT rfl rfl ?_
  refine JO_q (QE_faB rfl rfl rfl rfl) rfl ?_
  refine JO_gT rfl rfl ?_
  refine JO_q (QE_ld1 1 rfl rfl rfl rfl rfl) rfl ?_
  refine JO_gT rfl rfl ?_
  refine JO_q (QE_lenS rfl rfl rfl) rfl ?_
  refine JO_gT rfl rfl ?_
  refine JO_q (QE_faB rfl rfl rfl rfl) rfl ?_
  refine JO_gT rfl rfl ?_
  refine JO_q (QE_ld1 0 rfl rfl rfl rfl rfl) rfl ?_
  refine JO_gT rfl rfl ?_
  refine JO_q (QE_lenS rfl rfl rfl) rfl ?_
  refine JO_gT rfl rfl ?_
  refine JO_q (QE_ne rfl rfl) rfl ?_
  refine JO_q (QE_pickF rfl rfl) rfl ?_
  refine JO_nil ?_
  refine thenQ_n ?_
  refine JC_ifN rfl (fun c4 => ?_) (fun c4 => ?_)
  ·
   refine JC_seq ?_
   refine JC_region ?_
   refine JO_q (QE_as rfl) rfl ?_
   refine JO_nil ?_
   refine thenQ_n ?_
   refine JC_ret ?_
   refine thenQ_r ?_
   refine retQ_mk [_, _] L (.inr rfl) (.tmp rfl (.nil)) rfl (Le.trans h1 h2) (fun sR hS2 => ?_)
   refine ⟨?_, rfl⟩
   have h0 : ¬ t = t1 := fun e => by subst e; omega
   simp [resV, h0]; done
  ·
   refine JC_skip ?_
   refine thenQ_n ?_
   refine JC_seq ?_
   refine JC_seq ?_
   refine JC_region ?_
   refine JO_q (QE_as rfl) rfl ?_
   refine JO_nil ?_
   refine thenQ_n ?_
   refine JC_block ?_
   refine JC_loop (γ := Nat) (fun k => [(2, _), (3, _), (4, _), (5, .int .i64 (k : Int))]) (fun _ => _) (fun k tw => Le D s2 tw ∧ (k ≤ n ∧ ∀ i x, i < k → t.ins[i]? = some x → t1.ins[i]? = some x)) (fun k => n - k) (fun _ _ _ h hl => ⟨h.1.trans hl, h.2⟩) 0 (Keeps.cons rfl (Keeps.cons rfl (Keeps.cons rfl (Keeps.cons rfl (Keeps.nil _))))) rfl ⟨Le.refl _, ⟨Nat.zero_le _, fun i c hi => by omega⟩⟩ ?_
   intro k s5 I5
   have hk0 := I5.2.1
   have hI := I5.2.2
   refine JC_seq ?_
   refine JC_seq ?_
   refine JC_region ?_
   refine JO_q (QE_mv rfl) rfl ?_
   refine JO_q (QE_faB rfl rfl rfl rfl) rfl ?_
   refine JO_q (QE_ld1 1 rfl rfl rfl rfl rfl) rfl ?_
   refine JO_q (QE_lenS rfl rfl rfl) rfl ?_
   refine JO_q (QE_lt rfl rfl) rfl ?_
   refine JO_nil ?_
   refine thenQ_n ?_
   refine JC_ifD rfl (fun c6 => ?_) (fun c6 => ?_)
   ·
    have hk : k < n := by omega
    obtain ⟨b, off, x, A2, n2, c2, rfl, hx, hcx, hax, _⟩ := Inss.at_ (hA.le (Le.trans (Le.trans h1 h2) I5.1)) hk
    obtain ⟨b1, off1, y, A3, n3, c3, rfl, hy, hcy, hay, _⟩ := Inss.at_ (hB.le (Le.trans (Le.trans h1 h2) I5.1)) (show k < n1 by omega)
    refine JC_skip ?_
    refine thenQ_n ?_
    refine JC_seq ?_
    refine JC_block ?_
    refine JC_seq ?_
    refine JC_region ?_
    refine JO_q (QE_faB rfl rfl rfl rfl) rfl ?_
    refine JO_q (QE_ld1 1 rfl rfl rfl rfl rfl) rfl ?_
    refine JO_q (QE_mv rfl) rfl ?_
    refine JO_q (QE_iaN rfl rfl rfl rfl rfl rfl hk) rfl ?_
    refine JO_q (QE_ldsA rfl rfl rfl (hcx.le (Le.refl (D := D) _)) rfl) rfl ?_
    refine JO_allocZ rfl [_, _, _, _] rfl rfl ?_
    intro β7 s7 h7
    refine JO_st 0 [_, _, _, _] rfl rfl rfl rfl rfl rfl rfl rfl rfl ?_
    refine JO_nil ?_
    refine thenQ_n ?_
    refine JC_seq ?_
    refine JC_region ?_
    refine JO_q (QE_faB rfl rfl rfl rfl) rfl ?_
    refine JO_q (QE_ld1 1 rfl rfl rfl rfl rfl) rfl ?_
    refine JO_q (QE_mv rfl) rfl ?_
    refine JO_q (QE_iaN rfl rfl rfl rfl rfl rfl (show k < n1 by omega)) rfl ?_
    refine JO_q (QE_ldsA rfl rfl rfl (hcy.le h7) rfl) rfl ?_
    refine JO_allocZ rfl [_, _, _, _] rfl rfl ?_
    intro β8 s8 h8
    refine JO_st 0 [_, _, _, _] rfl rfl rfl rfl rfl rfl rfl rfl rfl ?_
    refine JO_nil ?_
    refine thenQ_n ?_
    refine JC_seq ?_
    refine JC_region ?_
    refine JO_q (QE_fa0 rfl rfl rfl rfl) rfl ?_
    refine JO_q (QE_ld1 1 rfl rfl rfl rfl rfl) rfl ?_
    refine JO_q (QE_fa0 rfl rfl rfl rfl) rfl ?_
    refine JO_q (QE_ld1 0 rfl rfl rfl rfl rfl) rfl ?_
    refine JO_q (QE_sne rfl rfl) rfl ?_
    refine JO_q (QE_mv rfl) rfl ?_
    refine JO_caseN (t := 44) rfl (fun c9 => ?_) (fun c9 => ?_)
    ·
     refine JO_gF rfl rfl rfl rfl ?_
     refine JO_gF rfl rfl rfl rfl ?_
     refine JO_gF rfl rfl rfl rfl ?_
     refine JO_gF rfl rfl rfl rfl ?_
     refine JO_gF rfl rfl rfl rfl ?_
     refine JO_q (QE_pickT rfl rfl) rfl ?_
     refine JO_q (QE_mv rfl) rfl ?_
     refine JO_gF rfl rfl rfl rfl ?_
     refine JO_gF rfl rfl rfl rfl ?_
     refine JO_gF rfl rfl rfl rfl ?_
     refine JO_gF rfl rfl rfl rfl ?_
     refine JO_gF rfl rfl rfl rfl ?_
     refine JO_q (QE_pickT rfl rfl) rfl ?_
     refine JO_q (QE_mv rfl) rfl ?_
     refine JO_gF rfl rfl rfl rfl ?_
     refine JO_gF rfl rfl rfl rfl ?_
     refine JO_gF rfl rfl rfl rfl ?_
     refine JO_gF rfl rfl rfl rfl ?_
     refine JO_gF rfl rfl rfl rfl ?_
     refine JO_gF rfl rfl rfl rfl ?_
     refine JO_q (QE_pickT rfl rfl) rfl ?_
     refine JO_nil ?_
     refine thenQ_n ?_
     refine JC_ifT rfl ?_
     have hE : x ≠ y := by rintro rfl; simp_all
     refine JC_seq ?_
     refine JC_region ?_
     refine JO_q (QE_as rfl) rfl ?_
     refine JO_nil ?_
     refine thenQ_n ?_
     refine JC_ret ?_
     refine blockQ_r ?_
     refine thenQ_r ?_
     refine thenQ_r ?_
     refine blockQ_r ?_
     refine thenQ_r ?_
     refine retQ_mk [_, _, _, _] L (.inr rfl) (.tmp rfl (.nil)) rfl (Le.trans (Le.trans (Le.trans (Le.trans h1 h2) I5.1) h7) h8) (fun sR hS2 => ?_)
     refine ⟨?_, rfl⟩
     have h0 : ¬ t = t1 := fun e => by rw [hT] at e; exact diff_lists hx hy hE e.2
     simp [resV, h0]; done
    ·
     refine JO_gT rfl rfl ?_
     refine JO_q (QE_faB rfl rfl rfl rfl) rfl ?_
     refine JO_gT rfl rfl ?_
     refine JO_q (QE_ld1 1 rfl rfl rfl rfl rfl) rfl ?_
     refine JO_gT rfl rfl ?_
     refine JO_q (QE_faB rfl rfl rfl rfl) rfl ?_
     refine JO_gT rfl rfl ?_
     refine JO_q (QE_ld1 0 rfl rfl rfl rfl rfl) rfl ?_
     refine JO_gT rfl rfl ?_
     refine JO_q (QE_ne rfl rfl) rfl ?_
     refine JO_q (QE_pickF rfl rfl) rfl ?_
     refine JO_q (QE_mv rfl) rfl ?_
     refine JO_caseN (t := 51) rfl (fun c10 => ?_) (fun c10 => ?_)
     ·
      refine JO_gF rfl rfl rfl rfl ?_
      refine JO_gF rfl rfl rfl rfl ?_
      refine JO_gF rfl rfl rfl rfl ?_
      refine JO_gF rfl rfl rfl rfl ?_
      refine JO_gF rfl rfl rfl rfl ?_
      refine JO_q (QE_pickT rfl rfl) rfl ?_
      refine JO_q (QE_mv rfl) rfl ?_
      refine JO_gF rfl rfl rfl rfl ?_
      refine JO_gF rfl rfl rfl rfl ?_
      refine JO_gF rfl rfl rfl rfl ?_
      refine JO_gF rfl rfl rfl rfl ?_
      refine JO_gF rfl rfl rfl rfl ?_
      refine JO_gF rfl rfl rfl rfl ?_
      refine JO_q (QE_pickT rfl rfl) rfl ?_
      refine JO_nil ?_
      refine thenQ_n ?_
      refine JC_ifT rfl ?_
      have hE : x ≠ y := by rintro rfl; simp_all
      refine JC_seq ?_
      refine JC_region ?_
      refine JO_q (QE_as rfl) rfl ?_
      refine JO_nil ?_
      refine thenQ_n ?_
      refine JC_ret ?_
      refine blockQ_r ?_
      refine thenQ_r ?_
      refine thenQ_r ?_
      refine blockQ_r ?_
      refine thenQ_r ?_
      refine retQ_mk [_, _, _, _] L (.inr rfl) (.tmp rfl (.nil)) rfl (Le.trans (Le.trans (Le.trans (Le.trans h1 h2) I5.1) h7) h8) (fun sR hS2 => ?_)
      refine ⟨?_, rfl⟩
      have h0 : ¬ t = t1 := fun e => by rw [hT] at e; exact diff_lists hx hy hE e.2
      simp [resV, h0]; done
     ·
      refine JO_gT rfl rfl ?_
      refine JO_q (QE_faB rfl rfl rfl rfl) rfl ?_
      refine JO_gT rfl rfl ?_
      refine JO_q (QE_ld1 1 rfl rfl rfl rfl rfl) rfl ?_
      refine JO_gT rfl rfl ?_
      refine JO_q (QE_faB rfl rfl rfl rfl) rfl ?_
      refine JO_gT rfl rfl ?_
      refine JO_q (QE_ld1 0 rfl rfl rfl rfl rfl) rfl ?_
      refine JO_gT rfl rfl ?_
      refine JO_q (QE_bne rfl rfl rfl rfl) rfl ?_
      refine JO_q (QE_pickF rfl rfl) rfl ?_
      refine JO_q (QE_mv rfl) rfl ?_
      refine JO_caseN (t := 58) rfl (fun c11 => ?_) (fun c11 => ?_)
      ·
       refine JO_gF rfl rfl rfl rfl ?_
       refine JO_gF rfl rfl rfl rfl ?_
       refine JO_gF rfl rfl rfl rfl ?_
       refine JO_gF rfl rfl rfl rfl ?_
       refine JO_gF rfl rfl rfl rfl ?_
       refine JO_gF rfl rfl rfl rfl ?_
       refine JO_q (QE_pickT rfl rfl) rfl ?_
       refine JO_nil ?_
       refine thenQ_n ?_
       refine JC_ifT rfl ?_
       have hE : x ≠ y := by rintro rfl; simp_all
       refine JC_seq ?_
       refine JC_region ?_
       refine JO_q (QE_as rfl) rfl ?_
       refine JO_nil ?_
       refine thenQ_n ?_
       refine JC_ret ?_
       refine blockQ_r ?_
       refine thenQ_r ?_
       refine thenQ_r ?_
       refine blockQ_r ?_
       refine thenQ_r ?_
       refine retQ_mk [_, _, _, _] L (.inr rfl) (.tmp rfl (.nil)) rfl (Le.trans (Le.trans (Le.trans (Le.trans h1 h2) I5.1) h7) h8) (fun sR hS2 => ?_)
       refine ⟨?_, rfl⟩
       have h0 : ¬ t = t1 := fun e => by rw [hT] at e; exact diff_lists hx hy hE e.2
       simp [resV, h0]; done
      ·
       refine JO_gT rfl rfl ?_
       refine JO_q (QE_faB rfl rfl rfl rfl) rfl ?_
       refine JO_gT rfl rfl ?_
       refine JO_q (QE_ld1 1 rfl rfl rfl rfl rfl) rfl ?_
       refine JO_gT rfl rfl ?_
       refine JO_q (QE_faB rfl rfl rfl rfl) rfl ?_
       refine JO_gT rfl rfl ?_
       refine JO_q (QE_ld1 0 rfl rfl rfl rfl rfl) rfl ?_
       refine JO_gT rfl rfl ?_
       refine JO_call (first := []) (captured := []) rfl rfl rfl (sameActions_ac D _ _ _ _ _ _ (hax.le (Le.trans h7 h8)) _ _ _ _ (hay.le (Le.trans h7 h8))) ?_
       rintro _ _ s12 h12 ⟨rfl, rfl⟩
       refine JO_gT rfl rfl ?_
       refine JO_q (QE_not rfl) rfl ?_
       refine JO_q (QE_pickF rfl rfl) rfl ?_
       refine JO_nil ?_
       refine thenQ_n ?_
       refine JC_ifN rfl (fun c13 => ?_) (fun c13 => ?_)
       ·
        have hE : x ≠ y := by rintro rfl; simp_all
        refine JC_seq ?_
        refine JC_region ?_
        refine JO_q (QE_as rfl) rfl ?_
        refine JO_nil ?_
        refine thenQ_n ?_
        refine JC_ret ?_
        refine blockQ_r ?_
        refine thenQ_r ?_
        refine thenQ_r ?_
        refine blockQ_r ?_
        refine thenQ_r ?_
        refine retQ_mk [_, _, _, _] L (.inr rfl) (.tmp rfl (.nil)) rfl (Le.trans (Le.trans (Le.trans (Le.trans (Le.trans h1 h2) I5.1) h7) h8) h12) (fun sR hS2 => ?_)
        refine ⟨?_, rfl⟩
        have h0 : ¬ t = t1 := fun e => by rw [hT] at e; exact diff_lists hx hy hE e.2
        simp [resV, h0]; done
       ·
        have hE : x = y := by obtain ⟨x1, x2, x3, x4⟩ := x; obtain ⟨y1, y2, y3, y4⟩ := y; simp_all
        refine JC_skip ?_
        refine blockQ_n ?_
        refine thenQ_n ?_
        refine JC_region ?_
        refine JO_q (QE_mv rfl) rfl ?_
        refine JO_q (QE_add' rfl rfl (w64 (by omega) (by omega))) rfl ?_
        refine JO_q (QE_as rfl) rfl ?_
        refine JO_nil ?_
        refine thenQ_n ⟨(k + 1), [_, _], (Keeps.cons rfl (Keeps.cons rfl (Keeps.cons rfl (Keeps.cons rfl (Keeps.nil _))))), rfl, ⟨(Le.trans (Le.trans (Le.trans I5.1 h7) h8) h12), ⟨by omega, below_succ hI hx (hE ▸ hy)⟩⟩, (by omega)⟩
   ·
    refine JC_exit ?_
    refine thenQ_x ?_
    refine thenQ_x ?_
    refine blockQ_x ?_
    refine thenQ_n ?_
    refine JC_seq ?_
    refine JC_region ?_
    refine JO_q (QE_as rfl) rfl ?_
    refine JO_nil ?_
    refine thenQ_n ?_
    refine JC_ret ?_
    refine retQ_mk [_, _] L (.inr rfl) (.tmp rfl (.nil)) rfl (Le.trans (Le.trans h1 h2) I5.1) (fun sR hS2 => ?_)
    refine ⟨?_, rfl⟩
    have h0 : t = t1 := hT.2 ⟨by omega, same_lists (by omega) (fun i x hi h => hI i x (by omega) h)⟩
    simp [resV, h0]; done
end Go.Proofs.YtoeeblegplghmaaGreatDoor
namespace Go.FL
open Go Go.RowKit
variable {D : Nat}
theorem of_grown {L L' : Hl} {s w' : World} (h : OKL D L s) (hos : w'.os = s.os) (htp : w'.tape = s.tape) (hout : w'.output = s.output) (hsz : s.heap.size ≤ w'.heap.size) (hnd : (L'.map (·.1)).Nodup)
    (hin : ∀ x ∈ L', w'.heap[x.1]? = some x.2) (hkeys : ∀ x ∈ L', x.1 ∈ L.map (·.1) ∨ s.heap.size ≤ x.1) (hold : ∀ k, k < s.heap.size → k ∉ L.map (·.1) → w'.heap[k]? = s.heap[k]?) :
    w' = fill L' (blank D L' w') ∧ OKL D L' (blank D L' w') ∧ Le D s (blank D L' w') := by
  have hlt : ∀ x ∈ L', x.1 < w'.heap.size := fun x hx => by
    have := hin x hx
    rcases Nat.lt_or_ge x.1 w'.heap.size with h1 | h1
    · exact h1
    · rw [Array.getElem?_eq_none h1] at this; cases this
  have hok : OKL D L' (blank D L' w') := ⟨hnd, fun x hx => blank_mem hlt (List.mem_map.2 ⟨x, hx, rfl⟩)⟩
  refine ⟨world_eq (heap_ext fun k => ?_) ?_ ?_ ?_ ?_, hok, ⟨?_, ?_, ?_, by rw [blank_size]; exact hsz, fun k hk => ?_⟩⟩
  · by_cases hk : k ∈ L'.map (·.1)
    · obtain ⟨x, hx, rfl⟩ := List.mem_map.1 hk
      rw [fill_mem hok hx, hin x hx]
    · rw [fill_other hk, blank_other hk]
  · rw [fill_tape, blank_tape]
  · rw [fill_drawn, blank_drawn]
  · rw [fill_os, blank_os]
  · rw [fill_output, blank_output]
  · rw [blank_os, hos]
  · rw [blank_tape, htp]
  · rw [blank_output, hout]
  · by_cases hd : s.heap[k]? = some (dum D)
    · exact .inl hd
    · have hk1 := not_key h hd
      have hk2 : k ∉ L'.map (·.1) := fun hm => by
        obtain ⟨x, hx, rfl⟩ := List.mem_map.1 hm
        rcases hkeys x hx with h1 | h1
        · exact hk1 h1
        · omega
      exact .inr (by rw [blank_other hk2, hold k hk hk1])
inductive Own (e sz : Nat) : Hl → Value → Nat → List Value → Prop
  | nil : FL.Own e sz [] (.slice none 0 0) 0 []
  | blk (b cap n : Nat) (xs ys : List Value) (hn : xs.length = n * sz) (hc : xs.length + ys.length = cap * sz) (hnc : n ≤ cap) (hm : cap ≤ 9223372036854775807) : FL.Own e sz [(b, cb (xs ++ ys) e)] (.slice (some ⟨b, 0, none⟩) n cap) n xs
def Row (s : World) (A : Option Addr) (m sz : Nat) (news : List Value) : Prop :=
  news.length = m * sz ∧ (∀ u ∈ news, u.oneCell' = true) ∧ ∀ j u, news[j]? = some u → ∃ b off, A = some ⟨b, off, none⟩ ∧ s.cell? ⟨b, off + j, none⟩ = some u
theorem Row.of_cells {s : World} {b off m sz : Nat} {news : List Value} (h : CellsAt s b off news) (hl : news.length = m * sz) (h1 : news.all (·.oneCell') = true) : Row s (some ⟨b, off, none⟩) m sz news :=
  ⟨hl, fun u hu => List.all_eq_true.1 h1 u hu, fun j u hj => ⟨b, off, rfl, h j u hj⟩⟩
theorem Row.le {s s' : World} {A : Option Addr} {m sz : Nat} {news : List Value} (h : Row s A m sz news) (hl : Le D s s') : Row s' A m sz news :=
  ⟨h.1, h.2.1, fun j u hj => by obtain ⟨b, off, h1, h2⟩ := h.2.2 j u hj; exact ⟨b, off, h1, hl.cell h2⟩⟩
theorem Own.owns {e sz : Nat} {A : Hl} {v : Value} {n : Nat} {xs : List Value} (h : FL.Own e sz A v n xs) {w : World} (hw : ∀ x ∈ A, w.heap[x.1]? = some x.2) : w.ownsRow 0 e sz v n xs := by
  cases h with
  | nil => exact World.ownsRow_nil w 0 e sz
  | blk b cap n xs ys hn hc hnc hm =>
    refine ⟨hn, .inr ⟨b, cap, (xs ++ ys).toArray, rfl, Nat.zero_le _, hw _ (List.mem_cons_self ..), hnc, by simpa [maxLen] using hm, by simpa using hc, ?_⟩⟩
    rw [← hn]; simp
theorem Own.key {e sz : Nat} {A : Hl} {v : Value} {n : Nat} {xs : List Value} (h : FL.Own e sz A v n xs) (k : Nat) : k ∈ A.map (·.1) ↔ v.ownBlock = some k := by
  cases h with
  | nil => simp [Value.ownBlock]
  | blk b cap n xs ys => simp [Value.ownBlock, eq_comm]
theorem Own.of_owns {e sz : Nat} {w : World} {v : Value} {n : Nat} {xs : List Value} (h : w.ownsRow 0 e sz v n xs) : ∃ A, FL.Own e sz A v n xs ∧ ∀ x ∈ A, w.heap[x.1]? = some x.2 := by
  obtain ⟨h1, h2⟩ := h
  rcases h2 with ⟨rfl, rfl⟩ | ⟨g, cap, cur, rfl, _, hg, hnc, hcm, hcs, ht⟩
  · have : xs = [] := List.eq_nil_of_length_eq_zero (by simpa using h1)
    subst this
    exact ⟨[], .nil, fun x hx => by cases hx⟩
  · have he : cur = (xs ++ cur.toList.drop (n * sz)).toArray := by
      rw [← ht, List.take_append_drop]
    have hcs' : xs.length + (cur.toList.drop (n * sz)).length = cap * sz := by
      rw [← hcs, ← List.length_append]
      have := congrArg Array.size he
      simpa using this.symm
    refine ⟨[(g, cb (xs ++ cur.toList.drop (n * sz)) e)], .blk g cap n xs _ h1 hcs' hnc (by simpa [maxLen] using hcm), fun x hx => ?_⟩
    simp only [List.mem_singleton] at hx
    subst hx
    rw [hg, cb, ← he]
theorem mem_mid {B A L0 : Hl} {x : Nat × Obj} : x ∈ B ++ (A ++ L0) ↔ x ∈ B ∨ x ∈ A ∨ x ∈ L0 := by simp
theorem of_row {B A A' L0 : Hl} {s w' : World} {e sz : Nat} {v v' : Value} {n n' : Nat} {xs xs' : List Value} (h : OKL D (B ++ (A ++ L0)) s) (hO : FL.Own e sz A v n xs) (hO' : FL.Own e sz A' v' n' xs') (hA' : ∀ x ∈ A', w'.heap[x.1]? = some x.2)
    (hg : (fill (B ++ (A ++ L0)) s).grownBy w' v.ownBlock) (hat : v'.ownBlock = v.ownBlock ∨ v'.ownBlock = some s.heap.size) :
    w' = fill (B ++ (A' ++ L0)) (blank D (B ++ (A' ++ L0)) w') ∧ OKL D (B ++ (A' ++ L0)) (blank D (B ++ (A' ++ L0)) w') ∧ Le D s (blank D (B ++ (A' ++ L0)) w') := by
  have hnd := h.nd
  have hkA' : ∀ k, k ∈ A'.map (·.1) → k ∈ A.map (·.1) ∨ k = s.heap.size := fun k hk => by
    rw [hO'.key] at hk
    rcases hat with h1 | h1
    · exact .inl ((hO.key k).2 (h1 ▸ hk))
    · rw [h1] at hk; injection hk with hk; exact .inr hk.symm
  have hsize := hg.size
  rw [fill_size] at hsize
  have hlt : ∀ x ∈ B ++ (A ++ L0), x.1 < s.heap.size := fun x hx => h.lt hx
  simp only [List.map_append, List.nodup_append, List.mem_append] at hnd
  obtain ⟨nB, ⟨nA, nL, dAL⟩, dB⟩ := hnd
  have hrest : ∀ x, x ∈ B ∨ x ∈ L0 → w'.heap[x.1]? = some x.2 := fun x hx => by
    have hmem : x ∈ B ++ (A ++ L0) := mem_mid.2 (by rcases hx with h1 | h1; exact .inl h1; exact .inr (.inr h1))
    rw [hg.block x.1 (by rw [fill_size]; exact hlt x hmem), fill_mem h hmem]
    intro he
    have hk := (hO.key x.1).2 he.symm
    rcases hx with h1 | h1
    · exact dB _ (List.mem_map.2 ⟨x, h1, rfl⟩) _ (.inl hk) rfl
    · exact dAL _ hk _ (List.mem_map.2 ⟨x, h1, rfl⟩) rfl
  refine of_grown h (hg.os.trans (fill_os _ _)) (hg.tape.trans (fill_tape _ _)) (hg.output.trans (fill_output _ _)) hsize ?_ ?_ ?_ ?_
  · have nA' : (A'.map (·.1)).Nodup := by cases hO' <;> simp
    simp only [List.map_append, List.nodup_append, List.mem_append]
    refine ⟨nB, ⟨nA', nL, fun a ha b hb he => ?_⟩, fun a ha b hb he => ?_⟩
    · subst he
      rcases hkA' a ha with h1 | h1
      · exact dAL _ h1 _ hb rfl
      · obtain ⟨x, hx, rfl⟩ := List.mem_map.1 hb
        have := hlt x (mem_mid.2 (.inr (.inr hx))); omega
    · subst he
      rcases hb with hb | hb
      · rcases hkA' a hb with h1 | h1
        · exact dB _ ha _ (.inl h1) rfl
        · obtain ⟨x, hx, rfl⟩ := List.mem_map.1 ha
          have := hlt x (mem_mid.2 (.inl hx)); omega
      · exact dB _ ha _ (.inr hb) rfl
  · intro x hx
    rcases mem_mid.1 hx with h1 | h1 | h1
    · exact hrest x (.inl h1)
    · exact hA' x h1
    · exact hrest x (.inr h1)
  · intro x hx
    rcases mem_mid.1 hx with h1 | h1 | h1
    · exact .inl (List.mem_map.2 ⟨x, mem_mid.2 (.inl h1), rfl⟩)
    · rcases hkA' x.1 (List.mem_map.2 ⟨x, h1, rfl⟩) with h2 | h2
      · exact .inl (by rw [List.map_append, List.map_append]; simp only [List.mem_append]; exact .inr (.inl h2))
      · exact .inr (by omega)
    · exact .inl (List.mem_map.2 ⟨x, mem_mid.2 (.inr (.inr h1)), rfl⟩)
  · intro k hk hn
    rw [hg.block k (by rw [fill_size]; exact hk), fill_other hn]
    intro he
    exact hn (by rw [List.map_append, List.map_append]; simp only [List.mem_append]; exact .inr (.inl ((hO.key k).2 he.symm)))
section
variable {P : Program} {TT : TyTab} {n : Nat} {Q : APost} {fr : Fr} {L L' K : Hl} {s s' s0 : World} {ops : Array Oper} {rest : List Oper} {d ty : Nat} {op : Op} {pos : String} {af : Array Edge} {v : Value}
theorem Ev_app {t e m c k sz : Nat} {x y : Operand} {ti te : TI} {A1 : Option Addr} {news xs : List Value} (B A L0 : Hl) (hT : TabOK P TT) (hx : lk fr x = some v) (hy : lk fr y = some (.slice A1 m c)) (ht : tlook TT t = some ti) (hk : ti.kind = .sl e) (he : tlook TT e = some te) (hsz : te.size = sz)
    (hO : FL.Own e sz A v k xs) (hR : Row s A1 m sz news) (h63 : (k + m) * te.bytes ≤ 140737488355328 ∧ k + m ≤ 9223372036854775807) (ho : OKL D (B ++ (A ++ L0)) s) :
    ∃ v' A' s', Ev P TT D fr (.call { callee := .builtin .append, args := #[x, y], argTypes := #[t, t] }) ty (B ++ (A ++ L0)) s (.value v') (B ++ (A' ++ L0)) s' ∧ Le D s s' ∧ FL.Own e sz A' v' (k + m) (xs ++ news) := by
  have hok := hT.at_ ht
  obtain ⟨k1, k2, _⟩ := hok
  rw [hk] at k2
  simp only [TK.fits] at k2
  rw [k2] at k1
  have hte := hT.at_ he
  obtain ⟨i, i1, i2, i3, i4⟩ := info_of hte
  have hpos : 0 < te.size := hte.2.2.2.2.2.1
  have hzs : te.zero.cells.size = te.size := by rw [zero_cells hte]; simpa using hte.2.2.2.1
  have hin : ∀ x ∈ A, (fill (B ++ (A ++ L0)) s).heap[x.1]? = some x.2 := fun x hx => fill_mem ho (mem_mid.2 (.inr (.inl hx)))
  have hown := hO.owns hin
  by_cases hm : m = 0
  · subst hm
    have hn : news = [] := List.eq_nil_of_length_eq_zero (by simpa using hR.1)
    subst hn
    refine ⟨v, A, s, fun hT ho dst pos af g ρ hρ => ⟨?_, ho⟩, Le.refl _, by simpa using hO⟩
    have hle : ∀ (A2 : Option Addr) (w : World), (Builtin.firstCells te.size 0 (.slice A2 0 c)).run P w = .ok #[] w := fun A2 w => by
      cases A2 <;> simp [Builtin.firstCells, loadCells, loadCellsFrom]
    cases hO with
    | nil => simp [execOp, resolve, invoke, builtin, Builtin.append_, hρ x _ hx, hρ y _ hy, run_underlying k1, run_sizeOf' hte, Builtin.lenOf, hle]
    | blk b cap n xs ys hn hc hnc hm => simp [execOp, resolve, invoke, builtin, Builtin.append_, hρ x _ hx, hρ y _ hy, run_underlying k1, run_sizeOf' hte, Builtin.lenOf, hle, hnc, storeCells]
  · have h0 : ∃ b off, A1 = some ⟨b, off, none⟩ ∧ CellsAt s b off news := by
      have hl : 0 < news.length := by rw [hR.1, ← hsz]; exact Nat.mul_pos (Nat.pos_of_ne_zero hm) hpos
      obtain ⟨b, off, h1, _⟩ := hR.2.2 0 news[0] (List.getElem?_eq_getElem hl)
      refine ⟨b, off, h1, fun j u hj => ?_⟩
      obtain ⟨b', off', h1', h2⟩ := hR.2.2 j u hj
      rw [h1] at h1'
      injection h1' with h1'; injection h1' with e1 e2; subst e1; subst e2
      exact h2
    obtain ⟨b, off, rfl, hcells⟩ := h0
    obtain ⟨v', w', hrun, hown', hgr, _, hat⟩ := run_append_own_at (P := P) (fill (B ++ (A ++ L0)) s) 0 t ty e i te.zero sz te.bytes k1 i1 i4 (i2.trans hsz) i3 (by rw [hzs, hsz]) (by rw [← hsz]; exact hpos) v k xs hown ⟨b, off, none⟩ m c news hR.1
      (fun j u hj => by rw [add_lit]; exact fill_cell ho (hcells j u hj)) hR.2.1 (by simpa [maxLen] using h63.2) h63.1 (Nat.zero_le _)
    obtain ⟨A', hO', hA'⟩ := Own.of_owns hown'
    rw [fill_size] at hat
    obtain ⟨r1, r2, r3⟩ := of_row (D := D) ho hO hO' hA' hgr hat
    refine ⟨v', A', blank D (B ++ (A' ++ L0)) w', fun hT ho dst pos af g ρ hρ => ⟨?_, r2⟩, r3, hO'⟩
    rw [← r1]
    simp only [execOp, resolve, invoke, builtin, Sem.run_bind, Sem.run_pure, Result.andThen_ok, List.map_toArray, List.map_cons, List.map_nil, hρ x _ hx, hρ y _ hy, hrun]
theorem JO_app {t e m c k sz : Nat} {x y : Operand} {ti te : TI} {A1 : Option Addr} {news xs : List Value} (B A L0 : Hl) (hL : L = B ++ (A ++ L0)) (hx : lk fr x = some v) (hy : lk fr y = some (.slice A1 m c)) (ht : tlook TT t = some ti) (hk : ti.kind = .sl e) (he : tlook TT e = some te) (hsz : te.size = sz)
    (hO : FL.Own e sz A v k xs) (hR : Row s A1 m sz news) (h63 : (k + m) * te.bytes ≤ 140737488355328 ∧ k + m ≤ 9223372036854775807) (hd : Nat.blt d n = true)
    (kk : ∀ v' A' s', Le D s s' → FL.Own e sz A' v' (k + m) (xs ++ news) → JO P TT D n ops Q rest ((d, v') :: fr) (B ++ (A' ++ L0)) s') :
    JO P TT D n ops Q (⟨some d, .call { callee := .builtin .append, args := #[x, y], argTypes := #[t, t] }, ty, pos, af, none⟩ :: rest) fr L s := fun hT a hr ho => by
  subst hL
  obtain ⟨v', A', s', h1, h2, h3⟩ := Ev_app (ty := ty) B A L0 hT hx hy ht hk he hsz hO hR h63 ho
  exact JO_ev hd h1 (kk v' A' s' h2 h3) hT a hr ho
end
end Go.FL
namespace Go.FL
open Go Go.RowKit
structure KeyK (κ : Type) [DecidableEq κ] (d : TypeDesc) (kf : κ → Value) : Prop where
  same : ∀ a b, Instr.sameNow d (kf a) (kf b) = some (decide (a = b))
  bits : ∀ a, Instr.sameBits 10000 (kf a) (kf a) = true
  check : ∀ (P : Program) (w : World) (t : Nat) (e : Bool) (a : κ), P.underlying t = some d → (Instr.checkKey e 10000 t (kf a)).run P w = .ok () w
theorem KeyK.int (k : IntKind) : KeyK Int (.int k) (Value.int k) :=
  ⟨fun a b => by simp [Instr.sameNow]; rfl, fun a => by simp [Instr.sameBits], fun P w t e a h => by unfold Instr.checkKey; simp [run_underlying h]⟩
end Go.FL
namespace Go.Proofs.YtoeeblegplghmaaGreatDoor
open Go Go.FL
def wv (l : List Int) : List Value := l.map (Value.int .u32)
def bv (l : List UInt8) : List Value := l.map fun x => Value.int .u8 (x.toNat : Int)
theorem bv_len (l : List UInt8) : (bv l).length = l.length := by simp [bv]
theorem Wds.row {s : World} {A : Option Addr} {n c : Nat} {l : List Int} (h : Wds s A n c l) : Row s A n 1 (wv l) :=
  ⟨by simp [wv, h.1], fun u hu => by simp [wv] at hu; obtain ⟨x, _, rfl⟩ := hu; rfl, fun j u hj => by
    simp only [wv, List.getElem?_map] at hj
    cases hx : l[j]? with
    | none => simp [hx] at hj
    | some x =>
      simp [hx] at hj; subst hj
      obtain ⟨b, off, cs, h1, h2, _, rfl, _⟩ := h.2.2.2 j x hx
      exact ⟨b, off, h1, by simpa using h2 0 _ rfl⟩⟩
theorem Bts.row {s : World} {A : Option Addr} {n c : Nat} {l : List UInt8} (h : Bts s A n c l) : Row s A n 1 (bv l) :=
  ⟨by simp [bv, h.1], fun u hu => by simp [bv] at hu; obtain ⟨x, _, rfl⟩ := hu; rfl, fun j u hj => by
    simp only [bv, List.getElem?_map] at hj
    cases hx : l[j]? with
    | none => simp [hx] at hj
    | some x =>
      simp [hx] at hj; subst hj
      obtain ⟨b, off, cs, h1, h2, _, rfl⟩ := h.2.2.2 j x hx
      exact ⟨b, off, h1, by simpa using h2 0 _ rfl⟩⟩
theorem Bts.nil (s : World) (A : Option Addr) (c : Nat) (hc : c ≤ 9223372036854775807) : Bts s A 0 c [] := ⟨rfl, Nat.zero_le _, hc, fun i x h => by cases h⟩
theorem Wds.nil (s : World) (A : Option Addr) (c : Nat) (hc : c ≤ 9223372036854775807) : Wds s A 0 c [] := ⟨rfl, Nat.zero_le _, hc, fun i x h => by cases h⟩
theorem Own.slice {e sz : Nat} {A : Hl} {v : Value} {n : Nat} {xs : List Value} (h : FL.Own e sz A v n xs) : ∃ Ad c, v = .slice Ad n c ∧ n ≤ c ∧ c ≤ 9223372036854775807 := by
  cases h with
  | nil => exact ⟨none, 0, rfl, Nat.le_refl _, by omega⟩
  | blk b cap n xs ys hn hc hnc hm => exact ⟨_, cap, rfl, hnc, hm⟩
theorem Own.bts {e : Nat} {A : Hl} {Ad : Option Addr} {n c : Nat} {l : List UInt8} {s : World} (h : FL.Own e 1 A (.slice Ad n c) n (bv l)) (hp : ∀ b zs t, (b, cb zs t) ∈ A → CellsAt s b 0 zs) : Bts s Ad n c l := by
  generalize hv : Value.slice Ad n c = v at h
  generalize hx : bv l = xs at h
  cases h with
  | nil =>
    injection hv with e1 e2 e3
    have : l = [] := by cases l with
      | nil => rfl
      | cons y l => simp [bv] at hx
    subst this; subst e3; exact Bts.nil s Ad 0 (by omega)
  | blk b cap n xs ys hn hc hnc hm =>
    injection hv with e1 e2 e3
    subst e1; subst e3; subst hx
    refine ⟨by simpa [bv] using hn.symm, hnc, hm, fun i x hi => ⟨b, 0, [.int .u8 (x.toNat : Int)], rfl, fun j u hj => ?_, rfl, rfl⟩⟩
    have hc := hp b _ e (List.mem_cons_self ..)
    cases j with
    | zero =>
      simp at hj; subst hj
      have := hc i (.int .u8 (x.toNat : Int)) (by rw [List.getElem?_append_left (by simp [bv]; exact (List.getElem?_eq_some_iff.1 hi).1)]; simp [bv, hi])
      simpa using this
    | succ j => simp at hj
theorem Wds.u32 {s : World} {A : Option Addr} {n c : Nat} {l : List Int} (h : Wds s A n c l) : ∀ x ∈ l, U32 x := fun x hx => by
  obtain ⟨i, hi⟩ := List.getElem?_of_mem hx
  obtain ⟨b, off, cs, h1, h2, _, rfl, h4⟩ := h.2.2.2 i x hi
  exact h4
theorem Bts.tail {s : World} {A : Option Addr} {n c : Nat} {x : UInt8} {l : List UInt8} (h : Bts s A n c (x :: l)) : Bts s (if c = 1 then A else A.map (·.add (1 * 1))) (n - 1) (c - 1) l :=
  ⟨by have := h.1; simp at this; omega, by have := h.2.1; omega, by have := h.2.2.1; omega, fun i y hi => by
    obtain ⟨b, off, cs, h1, h2, h3, h4⟩ := h.2.2.2 (i + 1) y (by simpa using hi)
    have hl : i < l.length := (List.getElem?_eq_some_iff.1 hi).1
    have hn := h.1
    simp at hn
    have hc := h.2.1
    subst h1
    refine ⟨b, off + 1, cs, ?_, ?_, h3, h4⟩
    · rw [if_neg (by omega)]; simp [add_lit]
    · rw [show off + 1 + i * 1 = off + (i + 1) * 1 by omega]; exact h2⟩
def w32 (x : Int) : Int := x % 4294967296
def comp (k x y : Int) : Int :=
  if k = 1 then w32 (x + y) else if k = 2 then w32 (x - y) else if k = 3 then w32 (x * y) else if k = 4 then x / y else if k = 5 then x % y
  else if k = 6 then ((x.toNat &&& y.toNat : Nat) : Int) else if k = 7 then ((x.toNat ||| y.toNat : Nat) : Int) else if k = 8 then ((x.toNat ^^^ y.toNat : Nat) : Int)
  else if k = 9 then (((x.toNat <<< y.toNat) % 4294967296 : Nat) : Int) else if k = 10 then ((x.toNat >>> y.toNat : Nat) : Int)
  else if k = 11 then (if x = y then 1 else 0) else if k = 12 then (if x < y then 1 else 0) else x
end Go.Proofs.YtoeeblegplghmaaGreatDoor
namespace Go.FL
open Go Go.RowKit
section
variable {P : Program} {TT : TyTab} {D n : Nat} {Q : APost} {fr : Fr} {L : Hl} {s : World}
inductive Suf (fr : Fr) : Fr → Prop
  | refl : Suf fr fr
  | push {d : Nat} {v : Value} {fr' : Fr} (hd : (flook fr d).isNone = true) (h : Suf fr fr') : Suf fr ((d, v) :: fr')
theorem Suf.keeps {fr fr' : Fr} (h : Suf fr fr') : Keeps fr' fr := by
  induction h with
  | refl => exact fun _ _ h => h
  | @push d v fr' hd _ ih =>
    intro t u hu
    rw [flook_cons]
    by_cases he : d = t
    · subst he; rw [hu] at hd; cases hd
    · rw [if_neg he]; exact ih t u hu
def MidB (D : Nat) (s : World) (fr : Fr) (L : Hl) (t : Nat) (p : Prop) [Decidable p] : Fr → Hl → World → Prop := fun fr' L' s' => Le D s s' ∧ L' = L ∧ Keeps fr' ((t, .bool (decide p)) :: fr)
theorem MidB.mk {t : Nat} {p : Prop} [Decidable p] {fr' : Fr} {s' : World} {b : Bool} (hl : Le D s s') (hS : Suf fr fr') (ht : flook fr' t = some (.bool b)) (hb : b = decide p) : MidB D s fr L t p fr' L s' := by
  subst hb; exact ⟨hl, rfl, Keeps.cons ht hS.keeps⟩
theorem JC_cutB {x y : Code} (t : Nat) (p : Prop) [Decidable p] (h1 : JC P TT D n (thenQ (MidB D s fr L t p) Q) x fr L s)
    (h2 : ∀ s', Le D s s' → JC P TT D n Q y ((t, .bool (decide p)) :: fr) L s') : JC P TT D n Q (.seq x y) fr L s := fun ht a hr ho =>
  wp_seq (wp_mono (h1 ht a hr ho) fun e a w ⟨fr', L', s', k1, k2, k3, k4⟩ => by
    cases e with
    | normal =>
      subst k3
      obtain ⟨j1, j2, j3⟩ := k4
      subst j2
      exact h2 s' j1 ht a (k1.sub j3) k2
    | _ => exact ⟨fr', L', s', k1, k2, k3, k4⟩)
def MidN {γ : Type} (D : Nat) (s : World) (fr : Fr) (L : Hl) (new : γ → Fr) (B : γ → Hl) (I : γ → World → Prop) : Fr → Hl → World → Prop := fun fr' L' s' => ∃ g A, Le D s s' ∧ L'.Perm (A ++ (B g ++ L)) ∧ I g s' ∧ Keeps fr' (new g ++ fr)
theorem MidN.mk {γ : Type} {new : γ → Fr} {B : γ → Hl} {I : γ → World → Prop} {fr' : Fr} {L' : Hl} {s' : World} (g : γ) (A : Hl) (hl : Le D s s') (hK : Keeps fr' (new g ++ fr)) (hp : L'.Perm (A ++ (B g ++ L))) (hI : I g s') : MidN D s fr L new B I fr' L' s' := ⟨g, A, hl, hp, hI, hK⟩
def Pub (M : Hl) (s : World) : Prop := ∀ b zs t, (b, cb zs t) ∈ M → CellsAt s b 0 zs
theorem Pub.nil (s : World) : Pub [] s := fun _ _ _ h => by cases h
theorem Pub.tail {x : Nat × Obj} {M : Hl} {s : World} (h : Pub (x :: M) s) : Pub M s := fun b zs t hm => h b zs t (List.mem_cons_of_mem _ hm)
theorem Pub.left {A B : Hl} {s : World} (h : Pub (A ++ B) s) : Pub A s := fun b zs t hm => h b zs t (List.mem_append_left _ hm)
theorem Pub.right {A B : Hl} {s : World} (h : Pub (A ++ B) s) : Pub B s := fun b zs t hm => h b zs t (List.mem_append_right _ hm)
theorem Pub.le {D : Nat} {A : Hl} {s s' : World} (h : Pub A s) (hl : Le D s s') : Pub A s' := fun b zs t hm => (h b zs t hm).le hl
theorem AC.pubW {f : FuncId} {args : List Value} {R : Value → World → Prop} (h : AC P D f args L s (fun v L' s' => ∃ M', L' = M' ++ L ∧ ∀ s2, Le D s' s2 → Pub M' s2 → R v s2)) :
    AC P D f args L s (fun v L' s' => L = L' ∧ R v s') := by
  refine ⟨h.1, fun ho => (h.2 ho).mono ?_⟩
  rintro e w' ⟨v, L', s', h1, rfl, h3, h4, M', rfl, h6⟩
  obtain ⟨d1, d2, d3⟩ := drop_own h3
  refine ⟨v, L, fill M' s', h1, d1, d2, h4.trans d3, rfl, h6 _ d3 fun b zs t hm j u hj => ?_⟩
  rw [mem_cell h3.left hm, Nat.zero_add]; exact hj
end
end Go.FL
namespace Go.Proofs.YtoeeblegplghmaaGreatDoor
open Go Go.FL
inductive All2 {α β : Type} (R : α → β → Prop) : List α → List β → Prop
  | nil : All2 R [] []
  | cons {a : α} {b : β} {l : List α} {m : List β} (h : R a b) (k : All2 R l m) : All2 R (a :: l) (b :: m)
theorem sl_lit {α : Type} {sz : Nat} {R : World → α → List Value → Prop} {s : World} {b : Nat} {l : List α} {css : List (List Value)} (h : All2 (fun x cs => cs.length = sz ∧ R s x cs) l css) :
    ∀ off, CellsAt s b off css.flatten → ∀ i x, l[i]? = some x → ∃ cs, CellsAt s b (off + i * sz) cs ∧ cs.length = sz ∧ R s x cs := by
  induction h with
  | nil => intro off _ i x hi; cases hi
  | @cons a c l m h k ih =>
    intro off hc i x hi
    have h1 : CellsAt s b off c := fun j v hj => hc j v (by rw [List.flatten_cons, List.getElem?_append_left (List.getElem?_eq_some_iff.1 hj).1]; exact hj)
    have h2 : CellsAt s b (off + sz) m.flatten := fun j v hj => by
      have := hc (sz + j) v (by rw [List.flatten_cons, List.getElem?_append_right (by omega), h.1]; simpa using hj)
      rwa [← Nat.add_assoc] at this
    cases i with
    | zero => simp at hi; subst hi; exact ⟨c, by simpa using h1, h.1, h.2⟩
    | succ i =>
      obtain ⟨cs, k1, k2⟩ := ih (off + sz) h2 i x (by simpa using hi)
      exact ⟨cs, by rw [Nat.succ_mul]; rwa [show off + sz + i * sz = off + (i * sz + sz) by omega] at k1, k2⟩
theorem Sl.lit {α : Type} {sz : Nat} {R : World → α → List Value → Prop} {s : World} {b : Nat} {l : List α} (css : List (List Value)) {zs : List Value} (hc : CellsAt s b 0 zs) (hz : css.flatten = zs) (h : All2 (fun x cs => cs.length = sz ∧ R s x cs) l css) (n : Nat) (hn : n = l.length) (hm : n ≤ 9223372036854775807) : Sl sz R s (some ⟨b, 0, none⟩) n n l :=
  ⟨hn, Nat.le_refl _, hm, fun i x hi => by
    obtain ⟨cs, h1, h2⟩ := sl_lit h 0 (hz ▸ hc) i x hi
    exact ⟨b, 0, cs, rfl, h1, h2⟩⟩
theorem bts_pub {s : World} {b cc : Nat} {l : List UInt8} {yc : List Value} (hp : CellsAt s b 0 (bv l ++ yc)) (h1 : l.length + yc.length = cc) (h2 : cc ≤ 9223372036854775807) : Bts s (some ⟨b, 0, none⟩) l.length cc l :=
  Own.bts (e := 0) (A := [(b, cb (bv l ++ yc) 0)]) (.blk b cc l.length (bv l) yc (by simp [bv]) (by rw [bv_len]; omega) (by omega) h2) (fun b zs t hm => by
    simp only [List.mem_singleton, Prod.mk.injEq, cb, Obj.cells.injEq] at hm
    obtain ⟨rfl, h, rfl, _⟩ := hm
    have e : zs = bv l ++ yc := by simpa using h
    rw [e]; exact hp)
end Go.Proofs.YtoeeblegplghmaaGreatDoor
namespace Go.FL
open Go Go.RowKit
theorem JC_pubX {P : Program} {TT : TyTab} {D n : Nat} {Q : APost} {fr : Fr} {s : World} {c : Code} (X A Y : Hl) (h : ∀ s', Le D s s' → Pub A s' → JC P TT D n Q c fr (X ++ Y) s') : JC P TT D n Q c fr (X ++ (A ++ Y)) s := fun ht a hr ho => by
  have hp : (X ++ (A ++ Y)).Perm (A ++ (X ++ Y)) := by
    rw [← List.append_assoc, ← List.append_assoc]
    exact (List.perm_append_comm).append_right Y
  rw [fill_perm hp _ ho]
  have ho2 := ho.perm hp
  obtain ⟨e, d1, d2⟩ := drop_own ho2
  rw [e]
  refine h _ d2 (fun b zs t hm j u hj => ?_) ht a hr d1
  rw [mem_cell ho2.left hm, Nat.zero_add]; exact hj
end Go.FL
namespace Go.Proofs.YtoeeblegplghmaaGreatDoor
open Go Go.FL
theorem All2.len {α β : Type} {R : α → β → Prop} {l : List α} {m : List β} (h : All2 R l m) : l.length = m.length := by
  induction h with
  | nil => rfl
  | cons _ _ ih => simp [ih]
theorem All2.mono {α β : Type} {R R' : α → β → Prop} {l : List α} {m : List β} (h : All2 R l m) (hr : ∀ a b, R a b → R' a b) : All2 R' l m := by
  induction h with
  | nil => exact .nil
  | cons h _ ih => exact .cons (hr _ _ h) ih
theorem All2.snoc {α β : Type} {R : α → β → Prop} {l : List α} {m : List β} {a : α} {b : β} (h : All2 R l m) (k : R a b) : All2 R (l ++ [a]) (m ++ [b]) := by
  induction h with
  | nil => exact .cons k .nil
  | cons h _ ih => exact .cons h ih
theorem Own.rows {α : Type} {e sz : Nat} {A : Hl} {Ad : Option Addr} {n c : Nat} {css : List (List Value)} {l : List α} {R : World → α → List Value → Prop} {s : World} (h : FL.Own e sz A (.slice Ad n c) n css.flatten) (hp : Pub A s) (ha : All2 (fun x cs => cs.length = sz ∧ R s x cs) l css) (hn : n = l.length) : Sl sz R s Ad n c l := by
  generalize hv : Value.slice Ad n c = v at h
  generalize hx : css.flatten = xs at h
  cases h with
  | nil =>
    injection hv with e1 e2 e3
    subst e1; subst e3
    have : l = [] := List.eq_nil_of_length_eq_zero hn.symm
    subst this
    exact ⟨rfl, Nat.le_refl _, by omega, fun i x h => by cases h⟩
  | blk b cap n xs ys h1 h2 h3 h4 =>
    injection hv with e1 e2 e3
    subst e1; subst e3; subst hx
    have hc : CellsAt s b 0 css.flatten := fun j v hj => hp b _ e (List.mem_cons_self ..) j v (by rw [List.getElem?_append_left (List.getElem?_eq_some_iff.1 hj).1]; exact hj)
    exact ⟨hn, h3, h4, fun i x hi => by
      obtain ⟨cs, k1, k2⟩ := sl_lit ha 0 hc i x hi
      exact ⟨b, 0, cs, rfl, k1, k2⟩⟩
def Strs (s : World) (A : Option Addr) (n c : Nat) (l : List (List UInt8)) : Prop := Sl 1 (fun _ x cs => cs = [St x] ∧ x.length ≤ 9223372036854775807) s A n c l
theorem Strs.le {D : Nat} {s s' : World} {A : Option Addr} {n c : Nat} {l : List (List UInt8)} (h : Strs s A n c l) (hl : Le D s s') : Strs s' A n c l := Sl.le (fun _ _ h => h) h hl
theorem Strs.at_ {s : World} {A : Option Addr} {n c k : Nat} {l : List (List UInt8)} (h : Strs s A n c l) (hk : k < n) : ∃ b off x, A = some ⟨b, off, none⟩ ∧ l[k]? = some x ∧ CellsAt s b (off + k) [St x] ∧ x.length ≤ 9223372036854775807 := by
  have hl : k < l.length := by rw [← h.1]; exact hk
  obtain ⟨b, off, cs, h1, h2, _, rfl, h4⟩ := h.2.2.2 k l[k] (List.getElem?_eq_getElem hl)
  exact ⟨b, off, l[k], h1, List.getElem?_eq_getElem hl, by simpa using h2, h4⟩
end Go.Proofs.YtoeeblegplghmaaGreatDoor
namespace Go.Proofs.YtoeeblegplghmaaGreatDoor
open Go Go.FL
def findB (l : List UInt8) (c : Int) : Int := idxOf (fun x => decide ((x.toNat : Int) = c)) l 0
def sb (l : List (List UInt8)) : List Value := l.map fun x => St x
theorem sb_len (l : List (List UInt8)) : (sb l).length = l.length := by simp [sb]
theorem sb_snoc (l : List (List UInt8)) (x : List UInt8) : sb (l ++ [x]) = sb l ++ [St x] := by simp [sb]
theorem Own.strs {e : Nat} {A : Hl} {Ad : Option Addr} {n c : Nat} {l : List (List UInt8)} {s : World} (h : FL.Own e 1 A (.slice Ad n c) n (sb l)) (hu : ∀ x ∈ l, x.length ≤ 9223372036854775807) (hp : Pub A s) (hn : n = l.length) : Strs s Ad n c l := by
  have he : sb l = (l.map fun x => [St x]).flatten := by
    clear h hu hn
    induction l with
    | nil => rfl
    | cons x r ih => simp [sb] at ih ⊢; exact ih
  rw [he] at h
  refine Own.rows h hp ?_ hn
  clear h he hn
  induction l with
  | nil => exact .nil
  | cons x r ih => exact .cons ⟨rfl, rfl, hu x (List.mem_cons_self ..)⟩ (ih fun y hy => hu y (List.mem_cons_of_mem _ hy))
end Go.Proofs.YtoeeblegplghmaaGreatDoor
namespace Go.Proofs.YtoeeblegplghmaaGreatDoor
open Go.FL
attribute [local irreducible] JC JO JA JB thenQ blockQ retQ AC fill CellsAt QE Ev Mid
set_option maxHeartbeats 1000000 in
set_option maxRecDepth 100000 in
theorem find7_ac (D : Nat) (L : Hl) (s : World) (l : List UInt8) (c : Int) (hl : l.length ≤ 9223372036854775807) : AC Tryz.prog D 95 [St l, .int .u8 c] L s fun v L' _ => v = .int .i64 (findB l c) ∧ L = L' := by
 refine AC_enter (TT := TT) (fn := Tryz.f95) TT_ok Tryz.func95 (by kernel_rfl) rfl Tryz.ntmps95 rfl (rs := [.tmp 4]) rfl [(0, _), (1, _)] rfl ?_
 refine JC_seq ?_
 refine JC_region ?_
 refine JO_q (QE_as rfl) rfl ?_
 refine JO_nil ?_
 refine thenQ_n ?_
 refine JC_seq ?_
 refine JC_seq ?_
 refine JC_region ?_
 refine JO_q (QE_as rfl) rfl ?_
 refine JO_nil ?_
 refine thenQ_n ?_
 refine JC_block ?_
 refine JC_loop (γ := Nat) (fun k => [(0, _), (1, _), (4, _), (5, .int .i64 (k : Int))]) (fun _ => _) (fun k tw => Le D s tw ∧ (k ≤ l.length ∧ ∀ i x, i < k → l[i]? = some x → decide ((x.toNat : Int) = c) = false)) (fun k => l.length - k) (fun _ _ _ h hl => ⟨h.1.trans hl, h.2⟩) 0 (Keeps.cons rfl (Keeps.cons rfl (Keeps.cons rfl (Keeps.cons rfl (Keeps.nil _))))) rfl ⟨Le.refl _, ⟨Nat.zero_le _, fun i c hi => by omega⟩⟩ ?_
 intro k s1 I1
 have hk0 := I1.2.1
 have hI := I1.2.2
 refine JC_seq ?_
 refine JC_seq ?_
 refine JC_region ?_
 refine JO_q (QE_mv rfl) rfl ?_
 refine JO_q (QE_mv rfl) rfl ?_
 refine JO_q (QE_lenT rfl rfl rfl) rfl ?_
 refine JO_q (QE_lt rfl rfl) rfl ?_
 refine JO_nil ?_
 refine thenQ_n ?_
 refine JC_ifD rfl (fun c2 => ?_) (fun c2 => ?_)
 ·
  have hk : k < l.length := by omega
  obtain ⟨ch, hch⟩ : ∃ ch, l[k]? = some ch := ⟨_, List.getElem?_eq_getElem hk⟩
  refine JC_skip ?_
  refine thenQ_n ?_
  refine JC_seq ?_
  refine JC_block ?_
  refine JC_seq ?_
  refine JC_region ?_
  refine JO_q (QE_mv rfl) rfl ?_
  refine JO_q (QE_mv rfl) rfl ?_
  refine JO_q (QE_ix rfl rfl rfl rfl hch) rfl ?_
  refine JO_q (QE_mv rfl) rfl ?_
  refine JO_q (QE_eq rfl rfl) rfl ?_
  refine JO_nil ?_
  refine thenQ_n ?_
  refine JC_ifD rfl (fun c3 => ?_) (fun c3 => ?_)
  ·
   have hne := c3
   refine JC_seq ?_
   refine JC_region ?_
   refine JO_q (QE_mv rfl) rfl ?_
   refine JO_q (QE_as rfl) rfl ?_
   refine JO_nil ?_
   refine thenQ_n ?_
   refine JC_ret ?_
   refine blockQ_r ?_
   refine thenQ_r ?_
   refine thenQ_r ?_
   refine blockQ_r ?_
   refine thenQ_r ?_
   refine retQ_mk [] L (.inr rfl) (.tmp rfl (.nil)) rfl I1.1 (fun sR hS2 => ?_)
   refine ⟨?_, rfl⟩
   simp [resV, findB, idxOf_hit hI hch (decide_eq_true hne)]; done
  ·
   have hne := c3
   refine JC_skip ?_
   refine blockQ_n ?_
   refine thenQ_n ?_
   refine JC_region ?_
   refine JO_q (QE_mv rfl) rfl ?_
   refine JO_q (QE_add' rfl rfl (w64 (by omega) (by omega))) rfl ?_
   refine JO_q (QE_as rfl) rfl ?_
   refine JO_nil ?_
   refine thenQ_n ⟨(k + 1), [], (Keeps.cons rfl (Keeps.cons rfl (Keeps.cons rfl (Keeps.cons rfl (Keeps.nil _))))), rfl, ⟨I1.1, ⟨by omega, below_succ hI hch (decide_eq_false hne)⟩⟩, (by omega)⟩
 ·
  refine JC_exit ?_
  refine thenQ_x ?_
  refine thenQ_x ?_
  refine blockQ_x ?_
  refine thenQ_n ?_
  refine JC_seq ?_
  refine JC_region ?_
  refine JO_q (QE_as rfl) rfl ?_
  refine JO_nil ?_
  refine thenQ_n ?_
  refine JC_ret ?_
  refine retQ_mk [] L (.inr rfl) (.tmp rfl (.nil)) rfl I1.1 (fun sR hS2 => ?_)
  refine ⟨?_, rfl⟩
  simp [resV, findB, idxOf_none (fun i a hi h => hI i a (by omega) h)]; done
theorem Strs.get {s : World} {b off n c k : Nat} {l : List (List UInt8)} {x : List UInt8} (h : Strs s (some ⟨b, off, none⟩) n c l) (hk : l[k]? = some x) : k < n ∧ CellsAt s b (off + k) [St x] ∧ x.length ≤ 9223372036854775807 := by
  obtain ⟨b', off', cs, h1, h2, _, rfl, h4⟩ := h.2.2.2 k x hk
  injection h1 with h1; injection h1 with e1 e2; subst e1; subst e2
  exact ⟨by rw [h.1]; exact (List.getElem?_eq_some_iff.1 hk).1, by simpa using h2, h4⟩
section
variable (D : Nat) (L : Hl) (s : World) (k : Int)
theorem hasT_ac : AC Tryz.prog D 58 [St (needsS k), .int .u8 116] L s fun v L' _ => v = .bool (usesT k) ∧ L = L' := by have h := has_ac D L s (needsS k) 116 (needs_len k); rw [needs_t] at h; exact h
theorem hasX_ac : AC Tryz.prog D 58 [St (needsS k), .int .u8 120] L s fun v L' _ => v = .bool (usesX k) ∧ L = L' := by have h := has_ac D L s (needsS k) 120 (needs_len k); rw [needs_x] at h; exact h
theorem hasY_ac : AC Tryz.prog D 58 [St (needsS k), .int .u8 121] L s fun v L' _ => v = .bool (usesY k) ∧ L = L' := by have h := has_ac D L s (needsS k) 121 (needs_len k); rw [needs_y] at h; exact h
end
end Go.Proofs.YtoeeblegplghmaaGreatDoor
namespace Go.FL
open Go Go.RowKit
section
variable {P : Program} {D : Nat} {L : Hl} {s : World}
theorem AC.of_calls {f : FuncId} {args : List Value} {R : Value → Hl → World → Prop} (hf : FnOK P f)
    (h : OKL D L s → Calls P f args.toArray (fill L s) fun e w' => ∃ v, e = .returned v ∧ Below (fill L s).heap.size (fill L s) w' ∧ ∀ s', w' = fill L s' → Le D s s' → (∀ k, s.heap.size ≤ k → s'.heap[k]? = w'.heap[k]?) → R v L s') : AC P D f args L s R :=
  ⟨hf, fun ho => (h ho).mono fun e w' ⟨v, he, hb, hr⟩ => by
    obtain ⟨e1, o1, l1⟩ := of_ext ho hb
    refine ⟨v, L, blank D L w', he, e1, o1, l1, hr _ e1 l1 fun k hk => blank_other fun hm => ?_⟩
    obtain ⟨x, hx, rfl⟩ := List.mem_map.1 hm
    have := ho.lt hx
    omega⟩
theorem below_refl (w : World) : Below w.heap.size w w := Below.refl _ _
theorem below_dn {B : Nat} {a w : World} (h : Below B a w) (n : Nat) : Below B a (w.drewN n) := h.trans ⟨rfl, rfl, rfl, Nat.le_refl _, fun _ _ => rfl⟩
theorem mark_free' (l : List Obj) : ∃ D, ∀ E, D ≤ E → ∀ o ∈ l, o ≠ dum E := by
  induction l with
  | nil => exact ⟨0, fun _ _ _ h => by cases h⟩
  | cons x l ih =>
    obtain ⟨D, h⟩ := ih
    by_cases hx : ∃ E, x = dum E
    · obtain ⟨E0, rfl⟩ := hx
      refine ⟨D + E0 + 1, fun E hE o ho => ?_⟩
      rcases List.mem_cons.1 ho with rfl | ho
      · intro e; simp only [dum] at e; injection e; omega
      · exact h E (by omega) o ho
    · refine ⟨D, fun E hE o ho => ?_⟩
      rcases List.mem_cons.1 ho with rfl | ho
      · exact fun e => hx ⟨E, e⟩
      · exact h E hE o ho
theorem mark_world' (W : World) : ∃ D, ∀ k : Nat, W.heap[k]? ≠ some (dum D) := by
  obtain ⟨D, h⟩ := mark_free' W.heap.toList
  refine ⟨D, fun k hk => h D (Nat.le_refl _) _ ?_ rfl⟩
  rw [← Array.getElem?_toList] at hk
  exact List.mem_of_getElem? hk
theorem calls_of_AC {f : FuncId} {args : List Value} {W : World} {v0 : Value} (h : ∀ D, AC P D f args [] W fun v L' _ => v = v0 ∧ [] = L') :
    Calls P f args.toArray W fun e w' => e = .returned v0 ∧ Below W.heap.size W w' := by
  obtain ⟨D, hD⟩ := mark_world' W
  refine ((h D).2 ⟨List.nodup_nil, fun _ h => by cases h⟩).mono ?_
  rintro e w' ⟨v, L', s', he, hw, _, hl, hv, hL⟩
  subst hL
  have hw' : w' = s' := hw
  subst hw'
  refine ⟨by rw [he, hv], ⟨hl.os, hl.tape, hl.output, hl.size, fun k hk => ?_⟩⟩
  rcases hl.block k hk with h1 | h1
  · exact absurd h1 (hD k)
  · exact h1
theorem AC.fn {f : FuncId} {args : List Value} {R : Value → Hl → World → Prop} (h : AC P D f args L s R) : FnOK P f := h.1
end
end Go.FL
namespace Go.Proofs.YtoeeblegplghmaaGreatDoor
open Go Go.FL Go.RowKit
def fnd (c : UInt8) : List UInt8 → Option Nat
  | [] => none
  | x :: l => if x = c then some 0 else (fnd c l).map (· + 1)
def fndI : Option Nat → Int
  | none => -1
  | some i => (i : Int)
theorem fnd_lt {c : UInt8} {l : List UInt8} {i : Nat} (h : fnd c l = some i) : i < l.length := by
  induction l generalizing i with
  | nil => cases h
  | cons x l ih =>
    simp only [fnd] at h
    split at h
    · injection h with h; subst h; simp
    · cases h' : fnd c l with
      | none => rw [h'] at h; cases h
      | some j => rw [h'] at h; simp at h; have := ih h'; simp; omega
theorem indexByte_fnd (l : List UInt8) (c : UInt8) : Lib.indexByte l c = fndI (fnd c l) := by
  induction l with
  | nil => rfl
  | cons x l ih =>
    simp only [Lib.indexByte, fnd]
    by_cases h : x = c
    · simp [h, fndI]
    · simp only [beq_iff_eq, h, if_false, ih]
      cases fnd c l with
      | none => simp [fndI]
      | some i =>
        have h1 : ¬ (i : Int) = -1 := by omega
        show (if (i : Int) = -1 then (-1 : Int) else (i : Int) + 1) = ((i + 1 : Nat) : Int)
        rw [if_neg h1]; rfl
theorem u8_eq {x c : UInt8} : x = c ↔ (x.toNat : Int) = (c.toNat : Int) := by
  constructor
  · rintro rfl; rfl
  · intro h; exact UInt8.toNat_inj.1 (by omega)
end Go.Proofs.YtoeeblegplghmaaGreatDoor
namespace Go.Proofs.YtoeeblegplghmaaGreatDoor
open Go Go.FL Go.RowKit
structure GW (s : World) : Prop where
  pow : ∃ ty fz, s.heap[Tryz.laysM171_ren.g 17]? = some (.cells (Lib.pow10Tab.map fun z => Value.int .u64 z).toArray ty fz)
  es : ∃ t p, s.cell? ⟨Tryz.laysPu14_ren.g 0, 0, none⟩ = some (.iface t p)
  er : ∃ t p, s.cell? ⟨Tryz.laysPu14_ren.g 1, 0, none⟩ = some (.iface t p)
theorem heap_le {D : Nat} {s s' : World} {k : Nat} {cs : Array Value} {ty : TypeId} {fz : Nat × Nat} (h : s.heap[k]? = some (.cells cs ty fz)) (hl : Le D s s') : s'.heap[k]? = some (.cells cs ty fz) := by
  have hk : k < s.heap.size := by
    rcases Nat.lt_or_ge k s.heap.size with h1 | h1
    · exact h1
    · rw [Array.getElem?_eq_none h1] at h; cases h
  rcases hl.block k hk with h1 | h1
  · rw [h] at h1; simp [dum] at h1
  · rw [h1, h]
theorem GW.le {D : Nat} {s s' : World} (h : GW s) (hl : Le D s s') : GW s' := by
  obtain ⟨⟨t, f, h1⟩, ⟨t2, p2, h2⟩, ⟨t3, p3, h3⟩⟩ := h
  exact ⟨⟨t, f, heap_le h1 hl⟩, ⟨t2, p2, hl.cell h2⟩, ⟨t3, p3, hl.cell h3⟩⟩
theorem tab_of {w : World} {nm : String} (hg : Tryz.prog.globalNamed nm = some (Tryz.laysM171_ren.g 17)) (h : GW w) : Lib.TabIs Tryz.prog w nm .u64 Lib.pow10Tab := by
  obtain ⟨t, f, h1⟩ := h.pow
  simp only [Lib.TabIs, World.var?, hg, Option.bind_some, h1]
section
variable (D : Nat) (L : Hl) (s : World)
theorem fnok_itoa : FnOK Tryz.prog 49 := ⟨_, Tryz.func49, by kernel_rfl, by kernel_rfl⟩
theorem fnok_parse : FnOK Tryz.prog 89 := ⟨_, Tryz.func89, by kernel_rfl, by kernel_rfl⟩
theorem fnok_fields : FnOK Tryz.prog 62 := ⟨_, Tryz.func62, by kernel_rfl, by kernel_rfl⟩
theorem fnok_suffix : FnOK Tryz.prog 66 := ⟨_, Tryz.func66, by kernel_rfl, by kernel_rfl⟩
theorem itoa_ac (hG : GW s) (n : Int) (h0 : -9223372036854775808 ≤ n) (h1 : n ≤ 9223372036854775807) : AC Tryz.prog D 49 [.int .i64 n] L s fun v L' _ => v = St (Lib.itoa n) ∧ L = L' :=
  AC.of_calls fnok_itoa fun ho => (Any.strconv_Itoa Tryz.laysM171 n h0 h1 (fill L s) (tab_of Tryz.laysM171.m17 (hG.le (fill_le ho)))).mono fun e w' ⟨he, k, os, hw⟩ => by
    refine ⟨_, he, ?_, fun s' _ _ _ => ⟨rfl, rfl⟩⟩
    rw [hw]
    exact ⟨rfl, rfl, rfl, by simp [Sort.grow], fun j hj => by simp [Sort.grow, Array.getElem?_append_left hj]⟩
def endsB (c : UInt8) (l : List UInt8) : Bool := decide (l.getLast? = some c)
theorem suffix_one (l : List UInt8) (c : UInt8) : Lib.hasSuffix l [c] = endsB c l := by
  rw [Lib.hasSuffix, endsB]
  rw [Bool.eq_iff_iff, List.isSuffixOf_iff_suffix, decide_eq_true_eq]
  constructor
  · rintro ⟨t, rfl⟩; simp
  · intro h
    obtain ⟨t, ht⟩ := List.getLast?_eq_some_iff.1 h
    exact ⟨t, ht.symm⟩
theorem cutSuffix_ac (l : List UInt8) (c : UInt8) (hl : l.length ≤ 9223372036854775807) : AC Tryz.prog D 66 [St l, St [c]] L s fun v L' _ => v = .tuple #[St (if endsB c l then l.dropLast else l), .bool (endsB c l)] ∧ L = L' :=
  AC.of_calls fnok_suffix fun _ => (Any.strings_CutSuffix Tryz.lays104 ⟨l.toArray⟩ ⟨#[c]⟩ (fill L s) (by simpa [Lib.size_eq] using hl)).mono fun e w' ⟨he, hw⟩ => by
    refine ⟨_, he, by rw [hw]; exact below_refl _, fun s' _ _ _ => ⟨?_, rfl⟩⟩
    show Value.tuple #[.string ⟨(Lib.trimSuffix l [c]).toArray⟩, .bool (Lib.hasSuffix l [c])] = _
    rw [Lib.trimSuffix, suffix_one]
    simp [List.dropLast_eq_take]
inductive PuV : List UInt8 → Value → Prop
  | ok (l : List UInt8) (u : Nat) (h : Lib.parseUintB 32 l = .ok u) : PuV l (.tuple #[.int .u64 u, .nilIface])
  | bad (l : List UInt8) (h : ∀ u, Lib.parseUintB 32 l ≠ .ok u) (n : Int) (t : TypeId) (p : Value) : PuV l (.tuple #[.int .u64 n, .iface t p])
theorem parse_ac (hG : GW s) (l : List UInt8) (hl : l.length ≤ 281474976710656) : AC Tryz.prog D 89 [St l, .int .i64 10, .int .i64 32] L s fun v L' _ => PuV l v ∧ L = L' :=
  AC.of_calls fnok_parse fun ho => by
    have hw := hG.le (fill_le ho)
    have hs : (⟨l.toArray⟩ : ByteArray).size ≤ 281474976710656 := by simpa [Lib.size_eq] using hl
    by_cases hok : ∃ u, Lib.parseUintB 32 l = .ok u
    · obtain ⟨u, hp⟩ := hok
      refine (Any.strconv_ParseUint_10_at32_ok Tryz.laysPu14 ⟨l.toArray⟩ (by omega) u hp (fill L s)).mono fun e w' ⟨he, hw'⟩ => ⟨_, he, ?_, fun s' _ _ _ => ⟨.ok l u hp, rfl⟩⟩
      rcases hw' with rfl | rfl
      · exact below_refl _
      · exact Go.Joins.below_bytesWorld _ _ _ _ (Nat.le_refl _)
    · have hno : ∀ u, Lib.parseUintB 32 l ≠ .ok u := fun u h => hok ⟨u, h⟩
      by_cases hr : Lib.parseUintB 32 l = .range
      · obtain ⟨te, pe, h1⟩ := hw.er
        refine (Any.strconv_ParseUint_10_at32_range Tryz.laysPu14 ⟨l.toArray⟩ hs hr _ (fill L s) h1 (.inr ⟨te, pe, rfl⟩)).mono fun e w' ⟨N, he, _, _, hb⟩ => ⟨_, he, hb, fun s' _ _ _ => ⟨.bad l hno _ _ _, rfl⟩⟩
      · obtain ⟨te, pe, h1⟩ := hw.es
        refine (Any.strconv_ParseUint_10_at32_syntax Tryz.laysPu14 ⟨l.toArray⟩ hs (by cases h : Lib.parseUintB 32 l <;> simp_all) _ (fill L s) h1 (.inr ⟨te, pe, rfl⟩)).mono fun e w' ⟨N, he, _, _, hb⟩ => ⟨_, he, hb, fun s' _ _ _ => ⟨.bad l hno _ _ _, rfl⟩⟩
end
end Go.Proofs.YtoeeblegplghmaaGreatDoor
namespace Go.FL
open Go Go.RowKit
theorem QE_slA {P : Program} {TT : TyTab} {D : Nat} {fr : Fr} {ty : Nat} {K : Hl} {s0 : World} {t e b m : Nat} {x y : Operand} {ti te : TI} {ik : IntKind} {j : Nat} (hx : lk fr x = some (.pointer (some ⟨b, 0, none⟩))) (hy : lk fr y = some (.int ik (j : Int))) (ht : tlook TT t = some ti) (hk : ti.kind = .ar m e) (he : tlook TT e = some te) (hj : j ≤ m) :
    QE P TT D fr (.slice t x none (some y) none) ty K s0 (.slice (some ⟨b, 0, none⟩) j m) :=
  QE.pure fun hT dst pos af g ρ hρ w => by
    have hb : (Instr.sliceBounds false m m none (some (.int ik (j : Int))) none).run P w = .ok (0, j, m) w := by simp [Instr.sliceBounds, bound_ok hj]
    have hu : P.underlying t = some (.array m e) := by
      obtain ⟨h1, h2, _⟩ := hT.at_ ht
      rw [hk] at h2
      rw [h1]
      exact congrArg some h2
    have hr : (Instr.sliceAt t (.pointer (some ⟨b, 0, none⟩)) none (some (.int ik (j : Int))) none).run P w = .ok (.slice (some ⟨b, 0, none⟩) j m) w := by
      simp [Instr.sliceAt, Instr.sureAddr, run_underlying hu, hb, run_sizeOf' (hT.at_ he), Addr.add]
    simp only [execOp, hρ x _ hx, Option.map_none, Option.map_some, hρ y _ hy, Sem.run_bind, hr, Result.andThen_ok, Sem.run_pure]
theorem fill_drewN (L : Hl) (s : World) (n : Nat) : (fill L s).drewN n = fill L (s.drewN n) := by
  induction L with
  | nil => rfl
  | cons x L ih => show setBlk ((fill L s).drewN n) x.1 x.2 = setBlk (fill L (s.drewN n)) x.1 x.2; rw [ih]
theorem Le.drewN {D : Nat} (s : World) (n : Nat) : Le D s (s.drewN n) := ⟨rfl, rfl, rfl, Nat.le_refl _, fun _ _ => .inr rfl⟩
theorem mapBlock_set (w : World) (b ty : Nat) (zs : List Value) (f : Array Value → Array Value) : Sort.mapBlock (setBlk w b (cb zs ty)) b f = setBlk w b (cb (f zs.toArray).toList ty) := by
  refine world_eq (heap_ext fun k => ?_) rfl rfl rfl rfl
  show ((w.heap.setIfInBounds b _).modify b _)[k]? = (w.heap.setIfInBounds b _)[k]?
  rw [Array.getElem?_modify]
  by_cases hk : b = k
  · subst hk
    rw [if_pos rfl, Array.getElem?_setIfInBounds_self, Array.getElem?_setIfInBounds_self]
    split
    · simp [Sort.onCells, cb]
    · rfl
  · rw [if_neg hk, Array.getElem?_setIfInBounds_ne hk, Array.getElem?_setIfInBounds_ne hk]
end Go.FL
namespace Go.Proofs.YtoeeblegplghmaaGreatDoor
open Go Go.FL Go.RowKit
section
variable (D : Nat) (L : Hl) (s : World)
theorem fnok_small : FnOK Tryz.prog 111 := ⟨_, Tryz.func111, by kernel_rfl, by kernel_rfl⟩
theorem fnok_nd : FnOK Tryz.prog 112 := ⟨_, Tryz.func112, by kernel_rfl, by kernel_rfl⟩
theorem fnok_fmt : FnOK Tryz.prog 113 := ⟨_, Tryz.func113, by kernel_rfl, by kernel_rfl⟩
theorem small_ac (u : Nat) (h : u < 100) : AC Tryz.prog D 111 [.int .i64 (u : Int)] L s fun v L' _ => v = St (Lib.decDigits u) ∧ L = L' :=
  AC.of_calls fnok_small fun _ => (Any.internal_strconv_small Tryz.lays283 u h (fill L s)).mono fun e w' ⟨he, hw⟩ => ⟨_, he, by rw [hw]; exact below_refl _, fun s' _ _ _ => ⟨rfl, rfl⟩⟩
theorem nd_ac (hG : GW s) (u : Nat) (h1 : 1 ≤ u) (h2 : u < 4294967296) : AC Tryz.prog D 112 [.int .u64 (u : Int)] L s fun v L' _ => v = .int .i64 (Lib.nDigits u : Int) ∧ L = L' :=
  AC.of_calls fnok_nd fun ho => (Any.internal_strconv_numDigits Tryz.laysM284 u h1 (by omega) (fill L s) (tab_of Tryz.laysM284.m17 (hG.le (fill_le ho)))).mono fun e w' ⟨he, hw⟩ => ⟨_, he, by rw [hw]; exact below_refl _, fun s' _ _ _ => ⟨rfl, rfl⟩⟩
theorem nd_le {u : Nat} (h : u < 4294967296) : Lib.nDigits u ≤ 20 := by
  by_cases h1 : 1 ≤ u
  · have := Lib.numDigits_eq u h1 (by omega); split at this <;> omega
  · obtain rfl : u = 0 := by omega
    rw [Lib.nDigits]; simp
def z24 : List Value := List.replicate 24 (.int .u8 0)
theorem format_ac (u : Nat) (h2 : u < 4294967296) (b ty : Nat) : AC Tryz.prog D 113 [.slice (some ⟨b, 0, none⟩) (Lib.nDigits u) 24, .int .u64 (u : Int)] ((b, cb z24 ty) :: L) s
    fun v L' _ => v = .tuple #[] ∧ ∃ ys, L' = (b, cb (bv (Lib.decDigits u) ++ ys) ty) :: L ∧ (Lib.decDigits u).length + ys.length = 24 := by
  refine ⟨fnok_fmt, fun ho => ?_⟩
  have hnd := nd_le h2
  have hblk : (fill ((b, cb z24 ty) :: L) s).heap[b]? = some (cb z24 ty) := fill_mem ho (List.mem_cons_self ..)
  have hH : Sort.Holds (fun (x : UInt8) => Value.int .u8 (x.toNat : Int)) (fill ((b, cb z24 ty) :: L) s) b 0 (Array.replicate (Lib.nDigits u) (0 : UInt8)) := by
    intro j hj
    have hj' : j < Lib.nDigits u := by simpa using hj
    refine ⟨?_, by unfold World.frozen?; rw [hblk]; simp [cb]⟩
    rw [Nat.zero_add, mem_cell ho (List.mem_cons_self ..), getElem!_pos _ j hj, z24, List.getElem?_replicate, if_pos (by omega)]
    simp
  have h := Any.internal_strconv_formatBase10 Tryz.lays285 b 0 24 u (Array.replicate (Lib.nDigits u) 0) _ hH (by rw [Array.size_replicate]; exact Lib.lt_pow_nDigits u) (by omega) (by rw [Array.size_replicate]; omega)
  rw [Array.size_replicate] at h
  refine h.mono ?_
  rintro e w' ⟨he, n, v', dk, hw, hF⟩
  have hsz : dk.size = Lib.nDigits u := hF.size
  have hlen : (Lib.decDigits u).length = Lib.nDigits u := Lib.decDigits_length u
  have hcells : (Sort.putCells (fun (x : UInt8) => Value.int .u8 (x.toNat : Int)) 0 dk z24.toArray).toList = bv (Lib.decDigits u) ++ List.replicate (24 - Lib.nDigits u) (.int .u8 0) := by
    apply List.ext_getElem?
    intro k
    simp only [Sort.putCells, Array.toList_mapIdx, List.getElem?_mapIdx, Nat.zero_le, true_and, Nat.zero_add, Nat.sub_zero]
    by_cases hk : k < Lib.nDigits u
    · rw [List.getElem?_append_left (by simp [bv]; omega)]
      have h24 : z24[k]? = some (.int .u8 0) := by rw [z24, List.getElem?_replicate, if_pos (by omega)]
      rw [h24]
      simp only [Option.map_some, hsz, hk, if_true, bv, List.getElem?_map]
      rw [List.getElem?_eq_getElem (by omega), ← Lib.row_is_numeral hF k (by omega)]
      rfl
    · rw [List.getElem?_append_right (by simp [bv]; omega)]
      have hk' : ¬ k < dk.size := by omega
      have hbl : (bv (Lib.decDigits u)).length = Lib.nDigits u := by simp [bv, hlen]
      rw [hbl]
      by_cases h24 : k < 24
      · have e1 : z24[k]? = some (.int .u8 0) := by rw [z24, List.getElem?_replicate, if_pos (by omega)]
        rw [e1]
        simp [hk', List.getElem?_replicate]
        omega
      · have e1 : z24[k]? = none := by simp [z24]; omega
        rw [e1]
        simp [List.getElem?_replicate]
        omega
  have hworld : w' = fill ((b, cb (bv (Lib.decDigits u) ++ List.replicate (24 - Lib.nDigits u) (.int .u8 0)) ty) :: L) (s.drewN n) := by
    rw [hw, Sort.putRow]
    show (Sort.mapBlock (setBlk (fill L s) b (cb z24 ty)) b _).drewN n = _
    rw [mapBlock_set, hcells]
    exact fill_drewN ((b, cb (bv (Lib.decDigits u) ++ List.replicate (24 - Lib.nDigits u) (.int .u8 0)) ty) :: L) s n
  exact ⟨_, _, _, he, hworld, ⟨ho.nd, fun x hx => by
    rcases List.mem_cons.1 hx with rfl | hx
    · exact ho.dm (b, cb z24 ty) (List.mem_cons_self ..)
    · exact ho.dm x (List.mem_cons_of_mem _ hx)⟩, Le.drewN s n, rfl, _, rfl, by simp; omega⟩
end
end Go.Proofs.YtoeeblegplghmaaGreatDoor
namespace Go.Proofs.YtoeeblegplghmaaGreatDoor
open Go Go.FL Go.RowKit
theorem num_dec {l : List UInt8} {u : Nat} (h : Lib.parseUintB 32 l = .ok u) : decide (Lib.decDigits u = l) = (numL l).isSome := by
  by_cases hd : Lib.decDigits u = l
  · rw [(parse_num l u).1 ⟨h, hd⟩, decide_eq_true hd]; rfl
  · rw [decide_eq_false hd]
    cases hn : numL l with
    | none => rfl
    | some v =>
      obtain ⟨h1, h2⟩ := (parse_num l v).2 hn
      rw [h] at h1; injection h1 with h1; subst h1
      exact absurd h2 hd
theorem num_not {l : List UInt8} (h : ∀ u, Lib.parseUintB 32 l ≠ .ok u) : numL l = none := by
  cases hn : numL l with
  | none => rfl
  | some v => exact absurd ((parse_num l v).2 hn).1 (h v)
theorem num_val {l : List UInt8} {u v : Nat} (h : Lib.parseUintB 32 l = .ok u) (hn : numL l = some v) : u = v := by
  have h1 := ((parse_num l v).2 hn).1
  rw [h] at h1; injection h1
theorem wrapU32 (n : Int) : U32 (IntKind.u32.wrap n) := by rw [IntKind.wrap_u32]; exact ⟨by omega, by omega⟩
theorem wrap_small {n : Nat} (h : n < 4294967296) : IntKind.u32.wrap (n : Int) = (n : Int) := by rw [IntKind.wrap_u32]; omega
theorem Strs.tail {s : World} {A : Option Addr} {n c : Nat} {x : List UInt8} {l : List (List UInt8)} (h : Strs s A n c (x :: l)) : ∃ A1 n1 c1, (Value.slice (if c = 1 then A else A.map (·.add (1 * 1))) (n - 1) (c - 1)) = Value.slice A1 n1 c1 ∧ Strs s A1 n1 c1 l := by
  refine ⟨_, _, _, rfl, ?_, ?_, ?_, fun i y hy => ?_⟩
  · have := h.1; simp at this; omega
  · have := h.2.1; omega
  · have := h.2.2.1; omega
  · obtain ⟨b, off, cs, h1, h2, h3, h4⟩ := h.2.2.2 (i + 1) y (by simpa using hy)
    have hc : ¬ c = 1 := by
      have := h.1; have := h.2.1
      have := (List.getElem?_eq_some_iff.1 hy).1
      simp at *; omega
    rw [if_neg hc, h1]
    exact ⟨b, off + 1, cs, rfl, by rw [show off + 1 + i * 1 = off + (i + 1) * 1 by omega]; exact h2, h3, h4⟩
theorem Strs.head {s : World} {A : Option Addr} {n c : Nat} {l : List (List UInt8)} (h : Strs s A n c l) (hn : 0 < n) : ∃ b off x r, A = some ⟨b, off, none⟩ ∧ l = x :: r ∧ CellsAt s b (off + 0) [St x] ∧ x.length ≤ 9223372036854775807 := by
  obtain ⟨b, off, x, h1, h2, h3, h4⟩ := Strs.at_ h hn
  obtain ⟨r, hr⟩ : ∃ r, l = x :: r := by
    cases l with
    | nil => cases h2
    | cons y r => simp at h2; subst h2; exact ⟨r, rfl⟩
  exact ⟨b, off, x, r, h1, hr, h3, h4⟩
end Go.Proofs.YtoeeblegplghmaaGreatDoor
namespace Go.FL
open Go Go.RowKit
section
variable {P : Program} {TT : TyTab} {D n : Nat} {Q : APost} {fr : Fr} {L : Hl} {s : World}
def MidF {γ : Type} (D : Nat) (s : World) (fr : Fr) (X : Hl) (H : γ → Hl) (I : γ → World → Prop) : Fr → Hl → World → Prop := fun fr' L' s' => ∃ g A, Le D s s' ∧ L'.Perm (A ++ (X ++ H g)) ∧ I g s' ∧ Keeps fr' fr
theorem MidF.mk {γ : Type} {X : Hl} {H : γ → Hl} {I : γ → World → Prop} {fr' : Fr} {L' : Hl} {s' : World} (g : γ) (A : Hl) (hl : Le D s s') (hK : Keeps fr' fr) (hp : L'.Perm (A ++ (X ++ H g))) (hI : I g s') : MidF D s fr X H I fr' L' s' := ⟨g, A, hl, hp, hI, hK⟩
end
end Go.FL
namespace Go.Proofs.YtoeeblegplghmaaGreatDoor
open Go Go.FL
theorem flat_at {css : List (List Value)} {sz : Nat} (hl : ∀ cs ∈ css, cs.length = sz) {j : Nat} {u : Value} (h : css.flatten[j]? = some u) : ∃ i cs r, css[i]? = some cs ∧ cs[r]? = some u ∧ j = i * sz + r := by
  induction css generalizing j with
  | nil => cases h
  | cons c m ih =>
    have hc := hl c (List.mem_cons_self ..)
    rw [List.flatten_cons] at h
    by_cases hj : j < c.length
    · rw [List.getElem?_append_left hj] at h
      exact ⟨0, c, j, rfl, h, by omega⟩
    · rw [List.getElem?_append_right (by omega)] at h
      obtain ⟨i, cs, r, h1, h2, h3⟩ := ih (fun x hx => hl x (List.mem_cons_of_mem _ hx)) h
      exact ⟨i + 1, cs, r, by simpa using h1, h2, by rw [Nat.succ_mul]; omega⟩
def acv (l : List Ac) : List Value := (l.map Ac.cs).flatten
theorem acv_snoc (l : List Ac) (a : Ac) : acv (l ++ [a]) = acv l ++ a.cs := by simp [acv]
theorem acv_len (l : List Ac) : (acv l).length = l.length * 6 := by
  induction l with
  | nil => rfl
  | cons a r ih => simp only [acv, List.map_cons, List.flatten_cons, List.length_append, List.length_cons] at ih ⊢; rw [ih]; simp only [Ac.cs, List.length_cons, List.length_nil]; omega
theorem Acs.row {s : World} {A : Option Addr} {n c : Nat} {l : List Ac} (h : Acs s A n c l) : Row s A n 6 (acv l) := by
  refine ⟨by rw [acv_len, h.1], fun u hu => ?_, fun j u hj => ?_⟩
  · obtain ⟨cs, h1, h2⟩ := List.mem_flatten.1 hu
    obtain ⟨a, _, rfl⟩ := List.mem_map.1 h1
    simp only [Ac.cs, List.mem_cons, List.not_mem_nil, or_false] at h2
    rcases h2 with rfl | rfl | rfl | rfl | rfl | rfl <;> rfl
  · obtain ⟨i, cs, r, h1, h2, h3⟩ := flat_at (sz := 6) (fun cs hcs => by obtain ⟨a, _, rfl⟩ := List.mem_map.1 hcs; rfl) hj
    rw [List.getElem?_map] at h1
    cases ha : l[i]? with
    | none => simp [ha] at h1
    | some a =>
      simp [ha] at h1
      subst h1
      obtain ⟨b, off, cs, k1, k2, _, k3, _⟩ := h.2.2.2 i a ha
      subst k3
      refine ⟨b, off, k1, ?_⟩
      have := k2 r u h2
      rwa [Nat.add_assoc, ← h3] at this
theorem Own.acs {e : Nat} {A : Hl} {Ad : Option Addr} {n c : Nat} {l : List Ac} {s : World} (h : FL.Own e 6 A (.slice Ad n c) n (acv l)) (hu : ∀ a ∈ l, U32 a.x.val ∧ U32 a.y.val) (hp : Pub A s) (hn : n = l.length) : Acs s Ad n c l := by
  refine Own.rows (css := l.map Ac.cs) h hp ?_ hn
  clear h hn
  induction l with
  | nil => exact .nil
  | cons a r ih => exact .cons ⟨rfl, rfl, hu a (List.mem_cons_self ..)⟩ (ih fun b hb => hu b (List.mem_cons_of_mem _ hb))
theorem Acs.u {s : World} {A : Option Addr} {n c : Nat} {l : List Ac} (h : Acs s A n c l) : ∀ a ∈ l, U32 a.x.val ∧ U32 a.y.val := fun a ha => by
  obtain ⟨i, hi⟩ := List.getElem?_of_mem ha
  obtain ⟨_, _, _, _, _, _, _, h5⟩ := h.2.2.2 i a hi
  exact h5
def Tms (s : World) (A : Option Addr) (n c : Nat) (l : List Tm) : Prop := Sl 2 (fun _ x cs => cs = [.int .i64 x.kind, .int .u32 x.val] ∧ U32 x.val) s A n c l
theorem Tms.le {D : Nat} {s s' : World} {A : Option Addr} {n c : Nat} {l : List Tm} (h : Tms s A n c l) (hl : Le D s s') : Tms s' A n c l := Sl.le (fun _ _ h => h) h hl
theorem Tms.at_ {s : World} {A : Option Addr} {n c k : Nat} {l : List Tm} (h : Tms s A n c l) (hk : k < n) : ∃ b off x, A = some ⟨b, off, none⟩ ∧ l[k]? = some x ∧ CellsAt s b (off + k * 2) [.int .i64 x.kind, .int .u32 x.val] ∧ U32 x.val := by
  have hl : k < l.length := by rw [← h.1]; exact hk
  obtain ⟨b, off, cs, h1, h2, _, rfl, h4⟩ := h.2.2.2 k l[k] (List.getElem?_eq_getElem hl)
  exact ⟨b, off, l[k], h1, List.getElem?_eq_getElem hl, h2, h4⟩
end Go.Proofs.YtoeeblegplghmaaGreatDoor
namespace Go.FL
open Go Go.RowKit
def Obl (Φ : Nat → Value → World → Prop) (ds : List Nat) (s : World) (K : Fr → Prop) : List Nat → Fr → Prop
  | [], fr => K fr
  | j :: r, fr => ∀ u, Φ j u s → Obl Φ ds s K r ((ds.getD j 0, u) :: fr)
inductive Fct where
  | eq (v : Value)
  | row (len : Nat) (vs : List Value)
def Fct.holds : Fct → Value → World → Prop
  | .eq u, v, _ => v = u
  | .row len vs, v, s => ∃ b, v = .slice (some ⟨b, 0, none⟩) len len ∧ CellsAt s b 0 vs
theorem Fct.le {D : Nat} (fs : List Fct) (i : Nat) (v : Value) (s s' : World) (h : (fs.getD i (.eq undef)).holds v s) (hl : Le D s s') : (fs.getD i (.eq undef)).holds v s' := by
  generalize fs.getD i (.eq undef) = f at h ⊢
  cases f with
  | eq u => exact h
  | row len vs => obtain ⟨b, h1, h2⟩ := h; exact ⟨b, h1, h2.le hl⟩
def AllLt (p : Nat → Prop) : Nat → Prop
  | 0 => True
  | m + 1 => AllLt p m ∧ p m
theorem AllLt.get {p : Nat → Prop} {m : Nat} (h : AllLt p m) : ∀ i, i < m → p i := by
  induction m with
  | zero => intro i hi; omega
  | succ m ih =>
    intro i hi
    rcases Nat.lt_succ_iff_lt_or_eq.1 hi with h1 | rfl
    · exact ih h.1 i h1
    · exact h.2
section
variable {P : Program} {TT : TyTab} {D n : Nat} {Q : APost} {fr : Fr} {L : Hl} {s : World}
theorem FrRel.more {a : Act} (hr : FrRel n a fr) {d : Nat} {u : Value} (h1 : d < n) (h2 : a.tmps[d]? = some u) : FrRel n a ((d, u) :: fr) := by
  refine ⟨hr.size, hr.defers, fun t ht v hv => ?_, fun t v hv => ?_⟩
  · rw [flook_cons] at hv
    split at hv
    · rename_i he; subst he; simp at hv; subst hv; exact h2
    · exact hr.slot t ht v hv
  · rw [flook_cons] at hv
    split at hv
    · rename_i he; subst he; exact h1
    · exact hr.top t v hv
theorem Obl.apply {Φ : Nat → Value → World → Prop} {ds : List Nat} {K : Fr → Prop} {a : Act} {js : List Nat} (hr : FrRel n a fr) (h : Obl Φ ds s K js fr) (hj : ∀ j ∈ js, ds.getD j 0 < n ∧ ∃ v, a.tmps[ds.getD j 0]? = some v ∧ Φ j v s) : ∃ fr', FrRel n a fr' ∧ K fr' := by
  induction js generalizing fr with
  | nil => exact ⟨fr, hr, h⟩
  | cons j r ih =>
    obtain ⟨h1, v, h2, h3⟩ := hj j (List.mem_cons_self ..)
    exact ih (hr.more h1 h2) (h v h3) fun x hx => hj x (List.mem_cons_of_mem _ hx)
end
end Go.FL
namespace Go.FL
open Go Go.RowKit
section
variable {P : Program} {TT : TyTab} {D n : Nat} {Q : APost} {fr : Fr} {L L' K : Hl} {s s' s0 : World} {ops : Array Oper} {rest : List Oper} {d ty : Nat} {op : Op} {pos : String} {af : Array Edge} {v : Value}
theorem QE_sadd {x y : Operand} {a b : List UInt8} {t t' : Nat} (hx : lk fr x = some (St a)) (hy : lk fr y = some (St b)) (h : a.length + b.length ≤ 9223372036854775807) : QE P TT D fr (.binOp .add t x y t') ty K s0 (St (a ++ b)) :=
  QE.pure fun _ dst pos af g ρ hρ w => by
    have h1 : ¬ (9223372036854775807 < ((a.length : Int) + (b.length : Int))) := by omega
    have e : (⟨a.toArray⟩ : ByteArray) ++ ⟨b.toArray⟩ = ⟨(a ++ b).toArray⟩ := by
      apply ByteArray.ext; simp
    simp [execOp, hρ x _ hx, hρ y _ hy, eqGuard, binOp, Op.stringOp, ByteArray.size, h1, e]
def EqNil (e : Value) (b : Bool) : Prop := (e = .nilIface ∧ b = true) ∨ ∃ u p, e = .iface u p ∧ b = false
theorem QE_inil {x : Operand} {e : Value} {b : Bool} {t t' : Nat} (hu : P.underlying t = some (.interface (P.methodsAt t))) (hx : lk fr x = some e) (hE : EqNil e b) : QE P TT D fr (.binOp .eql t x (.const .nilIface) t') ty K s0 (.bool b) :=
  QE.pure fun _ dst pos af g ρ hρ w => by
    have hc := hρ (.const .nilIface) _ rfl
    rcases hE with ⟨rfl, rfl⟩ | ⟨u, p, rfl, rfl⟩
    · simp [execOp, hρ x _ hx, hc, eqGuard_nil_constR, run_eql_nil_nil w t hu]
    · simp [execOp, hρ x _ hx, hc, eqGuard, run_eql_held_nil w t u p hu]
theorem s2b_world (ho : OKL D L s) (o : Obj) : (fill L s).drew.alloc o = fill L (fill [(s.heap.size, o)] (s.drew.alloc (dum D))) ∧ OKL D L (fill [(s.heap.size, o)] (s.drew.alloc (dum D))) ∧ Le D s (fill [(s.heap.size, o)] (s.drew.alloc (dum D))) := by
  obtain ⟨h1, h2, h3⟩ := alloc_fill ho.drew o
  obtain ⟨d1, d2, d3⟩ := drop_own (A := [(s.drew.heap.size, o)]) (B := L) h2
  rw [drew_fill, h1]
  exact ⟨d1, d2, (Le.drew s).trans (h3.trans d3)⟩
end
end Go.FL
namespace Go.FL
open Go Go.RowKit Go.Proofs.YtoeeblegplghmaaGreatDoor
section
variable {P : Program} {TT : TyTab} {D n : Nat} {Q : APost} {fr : Fr} {L L' K : Hl} {s s' s0 : World} {ops : Array Oper} {rest : List Oper} {d ty : Nat} {op : Op} {pos : String} {af : Array Edge} {v : Value}
theorem s2b_bts {e c : Nat} {l : List UInt8} (ho : OKL D L s) (fz : Nat × Nat) (hc : l.length ≤ c) (hc2 : c ≤ 9223372036854775807) : Bts (fill [(s.heap.size, Obj.cells (bytesRow ⟨l.toArray⟩ c) e fz)] (s.drew.alloc (dum D))) (some ⟨s.heap.size, 0, none⟩) l.length c l := by
  refine ⟨rfl, hc, hc2, fun i x hx => ⟨s.heap.size, 0, [.int .u8 (x.toNat : Int)], rfl, ?_, rfl, rfl⟩⟩
  refine CellsAt.one ?_
  have h1 : (fill [(s.heap.size, Obj.cells (bytesRow ⟨l.toArray⟩ c) e fz)] (s.drew.alloc (dum D))).heap[s.heap.size]? = some (Obj.cells (bytesRow ⟨l.toArray⟩ c) e fz) := by
    show (setBlk (s.drew.alloc (dum D)) s.heap.size _).heap[s.heap.size]? = _
    refine setBlk_same _ ?_
    show s.heap.size < (s.heap.push _).size
    simp
  obtain ⟨hi, rfl⟩ := List.getElem?_eq_some_iff.1 hx
  have h2 := bytesRow_at ⟨l.toArray⟩ c i (by simpa using hi)
  simp only [World.cell?, h1, Nat.zero_add, Nat.mul_one]
  simpa using h2
theorem JO_s2b {t t' e : Nat} {x : Operand} {l : List UInt8} {ti ti' te : TI} (hx : lk fr x = some (St l)) (ht : tlook TT t = some ti) (hk : ti.desc = .string) (ht' : tlook TT t' = some ti') (hk' : ti'.kind = .sl e) (he : tlook TT e = some te) (hke : te.desc = .int .u8) (hl : l.length ≤ 9223372036854775807) (hd : Nat.blt d n = true)
    (k : ∀ A c s', Le D s s' → Bts s' A l.length c l → JO P TT D n ops Q rest ((d, .slice A l.length c) :: fr) L s') :
    JO P TT D n ops Q (⟨some d, .convert t t' x, ty, pos, af, none⟩ :: rest) fr L s := fun hT a hr ho => by
  obtain ⟨k1, k2, _⟩ := hT.at_ ht'
  rw [hk'] at k2
  simp only [TK.fits] at k2
  rw [k2] at k1
  have u1 := (hT.at_ ht).1; rw [hk] at u1
  have u2 := (hT.at_ he).1; rw [hke] at u2
  have hsz : (⟨l.toArray⟩ : ByteArray).size = l.length := by simp [ByteArray.size]
  have hrun := run_bytes_of_string (P := P) (fill L s) t t' e ⟨l.toArray⟩ u1 k1 u2
  rw [hsz, fill_size] at hrun
  obtain ⟨w1, w2, w3⟩ := s2b_world ho (Obj.cells (bytesRow ⟨l.toArray⟩ (grownCap (fill L s) l.length 0 e)) e ((bytesRow ⟨l.toArray⟩ (grownCap (fill L s) l.length 0 e)).size, (bytesRow ⟨l.toArray⟩ (grownCap (fill L s) l.length 0 e)).size + 1))
  refine JO_ev (v := .slice (some ⟨s.heap.size, 0, none⟩) l.length (grownCap (fill L s) l.length 0 e)) hd (fun hT _ dst pos af g ρ hρ => ⟨?_, w2⟩) (k _ _ _ w3 (s2b_bts ho _ (grownCap_ge ..) (by have := grownCap_le_maxLen (fill L s) l.length 0 e (by simpa [maxLen] using hl); simpa [maxLen] using this))) hT a hr ho
  rw [← w1]
  simp only [execOp, hρ x _ hx, Sem.run_bind, hrun, Result.andThen_ok, Sem.run_pure]
end
end Go.FL
namespace Go.FL
open Go Go.RowKit
section
variable {P : Program} {TT : TyTab} {D n : Nat} {Q : APost} {fr : Fr} {L : Hl} {s : World}
inductive SufO (ks : List Nat) (fr : Fr) : Fr → Prop
  | refl : SufO ks fr fr
  | push {d : Nat} {v : Value} {fr' : Fr} (hd : ((flook fr d).isNone || ks.any (Nat.beq d)) = true) (h : SufO ks fr fr') : SufO ks fr ((d, v) :: fr')
theorem SufO.at_ {ks : List Nat} {fr fr' : Fr} (h : SufO ks fr fr') {t : Nat} {v : Value} (ht : ks.any (Nat.beq t) = false) (hv : flook fr t = some v) : flook fr' t = some v := by
  induction h with
  | refl => exact hv
  | @push d u fr' hd _ ih =>
    rw [flook_cons]
    by_cases he : d = t
    · subst he; rw [hv, ht] at hd; cases hd
    · rw [if_neg he]; exact ih
theorem flook_none {l : Fr} {t : Nat} (h : flook l t = none) : (l.map (·.1)).any (Nat.beq t) = false := by
  induction l with
  | nil => rfl
  | cons x l ih =>
    obtain ⟨d, v⟩ := x
    rw [flook_cons] at h
    by_cases he : d = t
    · rw [if_pos he] at h; cases h
    · rw [if_neg he] at h
      simp only [List.map_cons, List.any_cons, ih h, Bool.or_false]
      cases hb : Nat.beq t d with
      | false => rfl
      | true => exact absurd (Nat.eq_of_beq_eq_true hb).symm he
theorem keepsO {new fr fr' : Fr} (h1 : Keeps fr' new) (h2 : SufO (new.map (·.1)) fr fr') : Keeps fr' (new ++ fr) := by
  intro t v h
  rw [flook_append] at h
  cases hn : flook new t with
  | none => rw [hn] at h; exact h2.at_ (flook_none hn) h
  | some u => rw [hn] at h; exact h1 t v (by rw [hn]; exact h)
def MidG {γ : Type} (D : Nat) (s : World) (fr : Fr) (new : γ → Fr) (X : Hl) (H : γ → Hl) (I : γ → World → Prop) : Fr → Hl → World → Prop := fun fr' L' s' => ∃ g A, Le D s s' ∧ L'.Perm (A ++ (X ++ H g)) ∧ I g s' ∧ Keeps fr' (new g ++ fr)
theorem MidG.mk {γ : Type} {new : γ → Fr} {X : Hl} {H : γ → Hl} {I : γ → World → Prop} {fr' : Fr} {L' : Hl} {s' : World} (g : γ) (A : Hl) (hl : Le D s s') (hK : Keeps fr' (new g)) (hS : SufO ((new g).map (·.1)) fr fr') (hp : L'.Perm (A ++ (X ++ H g))) (hI : I g s') : MidG D s fr new X H I fr' L' s' := ⟨g, A, hl, hp, hI, keepsO hK hS⟩
end
end Go.FL
namespace Go.FL
open Go Go.RowKit
theorem AC.perm {P : Program} {D : Nat} {f : FuncId} {args : List Value} {L L1 : Hl} {s : World} {R R' : Value → Hl → World → Prop} (hp : L.Perm L1) (h : AC P D f args L1 s R) (hq : ∀ v L1' s', R v L1' s' → ∃ L', L1'.Perm L' ∧ R' v L' s') : AC P D f args L s R' :=
  ⟨h.1, fun ho => by
    rw [fill_perm hp _ ho]
    refine (h.2 (ho.perm hp)).mono ?_
    rintro e w' ⟨v, L1', s', he, hw, hok, hl, hr⟩
    obtain ⟨L', h1, h2⟩ := hq v L1' s' hr
    exact ⟨v, L', s', he, by rw [hw, fill_perm h1 _ hok], hok.perm h1, hl, h2⟩⟩
end Go.FL
namespace Go.Proofs.YtoeeblegplghmaaGreatDoor
open Go Go.FL Go.RowKit
theorem bytes_ext (l : List UInt8) (a b : Nat) : (⟨l.toArray⟩ : ByteArray).extract a b = ⟨((l.drop a).take (b - a)).toArray⟩ := by
  apply ByteArray.ext
  simp [ByteArray.data_extract]
theorem blk_high {x : UInt8} (h : 128 ≤ x.toNat) : isBlk x = false := by
  rw [Bool.eq_false_iff]; intro e; have := isBlk_iff.1 e; omega
theorem cells_strs {s' : World} {A : Nat} {l : List (List UInt8)} {ty : TypeId} {fz : Nat × Nat} (h : s'.heap[A]? = some (.cells ((l.map fun x => (⟨x.toArray⟩ : ByteArray)).map Value.string).toArray ty fz)) (hu : ∀ x ∈ l, x.length ≤ 9223372036854775807) (hn : l.length ≤ 9223372036854775807) : Strs s' (some ⟨A, 0, none⟩) l.length l.length l := by
  refine ⟨rfl, Nat.le_refl _, hn, fun i x hi => ⟨A, 0, [St x], rfl, ?_, rfl, rfl, hu x (List.mem_of_getElem? hi)⟩⟩
  refine CellsAt.one ?_
  simp [World.cell?, h, hi]
theorem ba_get {l : List UInt8} {pos : Nat} (h : pos < (⟨l.toArray⟩ : ByteArray).size) : ∃ c, l[pos]? = some c ∧ (⟨l.toArray⟩ : ByteArray)[pos]'h = c := by
  have h' : pos < l.length := by simpa [Lib.size_eq] using h
  exact ⟨l[pos], List.getElem?_eq_getElem h', by simp [ByteArray.getElem_eq_getElem_data]⟩
theorem high_run (l : List UInt8) (pos : Nat) (hp : pos < l.length) (c : UInt8) (hc : l[pos]? = some c) (ha : ¬ c.toNat < 128) :
    ∃ K, (Utf8.decode ⟨l.toArray⟩ pos).2 = K ∧ 1 ≤ K ∧ pos + K ≤ l.length ∧ ∀ x ∈ (l.drop pos).take K, isBlk x = false := by
  have hsz : (⟨l.toArray⟩ : ByteArray).size = l.length := by simp [Lib.size_eq]
  have g : ∀ i, (⟨l.toArray⟩ : ByteArray).get! i = l.getD i 0 := by
    intro i
    show (l.toArray)[i]! = _
    simp [List.getD_eq_getElem?_getD]
    rfl
  have hd := Lib.decode_at ⟨l.toArray⟩ pos
  rw [hsz, g, g, g, g] at hd
  have h0 : l.getD pos 0 = c := by simp [List.getD_eq_getElem?_getD, hc]
  rw [h0] at hd
  have key : ∀ (K : Nat), 1 ≤ K → K ≤ 4 → pos + K ≤ l.length → (∀ j, 1 ≤ j → j < K → 128 ≤ (l.getD (pos + j) 0).toNat) → ∀ x ∈ (l.drop pos).take K, isBlk x = false := by
    intro K h1 h4 hK hall x hx
    obtain ⟨j, hj, hxj⟩ := List.mem_iff_getElem.1 hx
    have hjK : j < K := by simp at hj; omega
    have hv : l.getD (pos + j) 0 = x := by
      rw [← hxj]; simp [List.getD_eq_getElem?_getD]
      rw [List.getElem?_eq_getElem (by omega)]; rfl
    by_cases hj0 : j = 0
    · subst hj0; simp only [Nat.add_zero] at hv; rw [h0] at hv; subst hv; exact blk_high (by omega)
    · have := hall j (by omega) hjK
      rw [hv] at this
      exact blk_high this
  refine ⟨_, rfl, ?_⟩
  rw [hd]
  unfold Lib.decodeN
  rw [if_neg ha]
  split
  · rename_i h2
    split
    · refine ⟨by simp only; omega, by simp only; omega, key 2 (by omega) (by omega) (by omega) (fun j h1 hj => ?_)⟩
      obtain rfl : j = 1 := by omega
      omega
    · exact ⟨by simp only; omega, by simp only; omega, key 1 (by omega) (by omega) (by omega) (fun j h1 hj => by omega)⟩
  · split
    · rename_i h2 h3
      split
      · refine ⟨by simp only; omega, by simp only; omega, key 3 (by omega) (by omega) (by omega) (fun j h1 hj => ?_)⟩
        rcases (by omega : j = 1 ∨ j = 2) with rfl | rfl <;> omega
      · exact ⟨by simp only; omega, by simp only; omega, key 1 (by omega) (by omega) (by omega) (fun j h1 hj => by omega)⟩
    · split
      · rename_i h2 h3 h4
        split
        · refine ⟨by simp only; omega, by simp only; omega, key 4 (by omega) (by omega) (by omega) (fun j h1 hj => ?_)⟩
          rcases (by omega : j = 1 ∨ j = 2 ∨ j = 3) with rfl | rfl | rfl <;> omega
        · exact ⟨by simp only; omega, by simp only; omega, key 1 (by omega) (by omega) (by omega) (fun j h1 hj => by omega)⟩
      · exact ⟨by simp only; omega, by simp only; omega, key 1 (by omega) (by omega) (by omega) (fun j h1 hj => by omega)⟩
def blkR (x : Nat) : Bool := decide ((x : Int) = 32 ∨ (x : Int) = 10)
def pieceL (l : List UInt8) (x : Nat × Nat) : List UInt8 := (l.drop x.1).take (x.2 - x.1)
def curL (l : List UInt8) (pos : Nat) : Option Nat → List UInt8
  | none => []
  | some a => (l.drop a).take (pos - a)
theorem take_more (l : List UInt8) {a pos K : Nat} (h : a ≤ pos) : (l.drop a).take (pos + K - a) = (l.drop a).take (pos - a) ++ (l.drop pos).take K := by
  have : pos + K - a = (pos - a) + K := by omega
  rw [this, List.take_add, List.drop_drop]
  have e : a + (pos - a) = pos := by omega
  rw [e]
theorem spans_end (l : List UInt8) (pos : Nat) (st : Option Nat) (acc : List (Nat × Nat)) (h : l.length ≤ pos) (hst : ∀ a, st = some a → a < pos ∧ pos ≤ l.length) :
    (Lib.closeSpans ⟨l.toArray⟩ (acc, st)).map (pieceL l) = acc.map (pieceL l) ++ fw (curL l pos st) (l.drop pos) := by
  have hsz : (⟨l.toArray⟩ : ByteArray).size = l.length := by simp [Lib.size_eq]
  rw [List.drop_of_length_le h]
  cases st with
  | none => simp [Lib.closeSpans, curL, fw]
  | some a =>
    obtain ⟨h1, h2⟩ := hst a rfl
    have hp : pos = l.length := by omega
    subst hp
    have hne : (l.drop a).take (l.length - a) ≠ [] := by
      intro e
      have := congrArg List.length e
      simp at this; omega
    simp [Lib.closeSpans, curL, fw, hne, pieceL, hsz]
theorem spans_fld (l : List UInt8) (f pos : Nat) (st : Option Nat) (acc : List (Nat × Nat)) (h : l.length ≤ pos + f) (hst : ∀ a, st = some a → a < pos ∧ pos ≤ l.length) :
    (Lib.closeSpans ⟨l.toArray⟩ (Lib.spansFromP blkR ⟨l.toArray⟩ f pos st acc)).map (pieceL l) = acc.map (pieceL l) ++ fw (curL l pos st) (l.drop pos) := by
  have hsz : (⟨l.toArray⟩ : ByteArray).size = l.length := by simp [Lib.size_eq]
  induction f generalizing pos st acc with
  | zero => exact spans_end l pos st acc (by omega) hst
  | succ f ih =>
    by_cases hp : pos < (⟨l.toArray⟩ : ByteArray).size
    · obtain ⟨c, hc, hg⟩ := ba_get hp
      have hpl : pos < l.length := by omega
      have hd : l.drop pos = c :: l.drop (pos + 1) := by
        obtain ⟨h1, h2⟩ := List.getElem?_eq_some_iff.1 hc
        rw [List.drop_eq_getElem_cons h1, h2]
      -- a piece without blanks goes on
      have go : ∀ K, (Utf8.decode ⟨l.toArray⟩ pos).2 = K → blkR (Utf8.decode ⟨l.toArray⟩ pos).1 = false → 1 ≤ K → pos + K ≤ l.length → (∀ x ∈ (l.drop pos).take K, isBlk x = false) →
          (Lib.closeSpans ⟨l.toArray⟩ (Lib.spansFromP blkR ⟨l.toArray⟩ (f + 1) pos st acc)).map (pieceL l) = acc.map (pieceL l) ++ fw (curL l pos st) (l.drop pos) := by
        intro K hK hb h1 h2 hall
        have hrun : fw (curL l pos st) (l.drop pos) = fw (curL l pos st ++ (l.drop pos).take K) (l.drop (pos + K)) := by
          conv => lhs; rw [← List.take_append_drop K (l.drop pos), List.drop_drop]
          exact fw_run _ _ _ hall
        rw [hrun]
        simp only [Lib.spansFromP, hp, if_true, hb, hK, Bool.false_eq_true, if_false]
        cases st with
        | none =>
          simp only
          rw [ih (pos + K) (some pos) acc (by omega) (fun a ha => by injection ha with ha; omega)]
          simp only [curL, List.nil_append]
          congr 3
          omega
        | some a =>
          obtain ⟨ha1, ha2⟩ := hst a rfl
          simp only
          rw [ih (pos + K) (some a) acc (by omega) (fun a' ha => by injection ha with ha; omega)]
          simp only [curL]
          rw [take_more l (by omega)]
      by_cases ha : c.toNat < 128
      · have e := decode_ascii ⟨l.toArray⟩ pos hp (by rw [hg]; exact ha)
        rw [hg] at e
        by_cases h32 : isBlk c = true
        · have hb : blkR (Utf8.decode ⟨l.toArray⟩ pos).1 = true := by rw [e]; exact decide_eq_true (isBlk_iff.1 h32)
          rw [hd]
          simp only [Lib.spansFromP, hp, if_true, hb]
          cases st with
          | none =>
            simp only [e]
            rw [ih (pos + 1) none acc (by omega) (fun a ha => by cases ha)]
            simp [curL, fw, h32]
          | some a =>
            obtain ⟨ha1, ha2⟩ := hst a rfl
            have hne : (l.drop a).take (pos - a) ≠ [] := by
              intro e
              have := congrArg List.length e
              simp at this; omega
            simp only [e]
            rw [ih (pos + 1) none _ (by omega) (fun a ha => by cases ha)]
            simp [curL, fw, h32, hne, pieceL]
        · refine go 1 (by rw [e]) ?_ (by omega) (by omega) ?_
          · rw [e]
            simp only [blkR, decide_eq_false_iff_not]
            exact fun h => h32 (isBlk_iff.2 h)
          · rw [hd]; simpa using h32
      · obtain ⟨K, hK, h1, h2, h3⟩ := high_run l pos hpl c hc ha
        refine go K hK ?_ h1 h2 h3
        have := (decode_high ⟨l.toArray⟩ pos hp (by rw [hg]; omega)).1
        simp only [blkR, decide_eq_false_iff_not]
        omega
    · rw [Lib.spansFromP_end _ _ _ _ _ _ hp]
      exact spans_end l pos st acc (by omega) hst
theorem goFields (l : List UInt8) : Lib.goFieldsP blkR ⟨l.toArray⟩ = (flds l).map fun x => ⟨x.toArray⟩ := by
  have hsz : (⟨l.toArray⟩ : ByteArray).size = l.length := by simp [Lib.size_eq]
  have h := spans_fld l (⟨l.toArray⟩ : ByteArray).size 0 none [] (by omega) (fun a ha => by cases ha)
  simp only [List.map_nil, List.nil_append, curL, List.drop_zero] at h
  show (Lib.closeSpans ⟨l.toArray⟩ (Lib.spansFromP blkR ⟨l.toArray⟩ (⟨l.toArray⟩ : ByteArray).size 0 none [])).map (fun x => (⟨l.toArray⟩ : ByteArray).extract x.1 x.2) = _
  rw [flds, ← h, List.map_map]
  congr 1
  funext x
  simp only [Function.comp, bytes_ext, pieceL]
structure GP (s : World) : Prop where
  gw : GW s
  asc : ∃ ty fz, s.heap[0]? = some (.cells (Lib.asciiSpaceTab.map fun z => Value.int .u8 z).toArray ty fz)
theorem GP.le {D : Nat} {s s' : World} (h : GP s) (hl : Le D s s') : GP s' := by
  obtain ⟨h1, ⟨t, f, h2⟩⟩ := h
  exact ⟨h1.le hl, ⟨t, f, heap_le h2 hl⟩⟩
theorem asc_of {w : World} (h : GP w) : Lib.TabIs Tryz.prog w "strings.asciiSpace" .u8 Lib.asciiSpaceTab := by
  obtain ⟨t, f, h1⟩ := h.asc
  have hg : Tryz.prog.globalNamed "strings.asciiSpace" = some 0 := by kernel_rfl
  simp only [Lib.TabIs, World.var?, hg, Option.bind_some, h1]
section
variable (D : Nat) (L : Hl) (s : World)
theorem fnok_sfields : FnOK Tryz.prog 48 := ⟨_, Tryz.func48, by kernel_rfl, by kernel_rfl⟩
theorem fnok_join : FnOK Tryz.prog 28 := ⟨_, Tryz.func28, by kernel_rfl, by kernel_rfl⟩
theorem fnok_hsuf : FnOK Tryz.prog 71 := ⟨_, Tryz.func71, by kernel_rfl, by kernel_rfl⟩
theorem fnok_ixb : FnOK Tryz.prog 101 := ⟨_, Tryz.func101, by kernel_rfl, by kernel_rfl⟩
theorem fnok_six : FnOK Tryz.prog 107 := ⟨_, Tryz.func107, by kernel_rfl, by kernel_rfl⟩
theorem fnok_seq : FnOK Tryz.prog 68 := ⟨_, Tryz.func68, by kernel_rfl, by kernel_rfl⟩
theorem hasSuffix_ac (l : List UInt8) (c : UInt8) (hl : l.length ≤ 9223372036854775807) : AC Tryz.prog D 71 [St l, St [c]] L s fun v L' _ => v = .bool (endsB c l) ∧ L = L' :=
  AC.of_calls fnok_hsuf fun _ => (Any.strings_HasSuffix Tryz.lays100 ⟨l.toArray⟩ ⟨#[c]⟩ (fill L s) (by simpa [Lib.size_eq] using hl)).mono fun e w' ⟨he, hw⟩ => by
    refine ⟨_, he, by rw [hw]; exact below_refl _, fun s' _ _ _ => ⟨?_, rfl⟩⟩
    show Value.bool (Lib.hasSuffix l [c]) = _
    rw [suffix_one]
theorem ixByte_ac (l : List UInt8) (c : UInt8) : AC Tryz.prog D 101 [St l, .int .u8 (c.toNat : Int)] L s fun v L' _ => v = .int .i64 (fndI (fnd c l)) ∧ L = L' :=
  AC.of_calls fnok_ixb fun _ => (Any.strings_IndexByte Tryz.lays137 ⟨l.toArray⟩ (c.toNat : Int) (fill L s)).mono fun e w' ⟨he, hw⟩ => by
    refine ⟨_, he, by rw [hw]; exact below_refl _, fun s' _ _ _ => ⟨?_, rfl⟩⟩
    show Value.int .i64 (Lib.indexByte l (c.toNat : Int).toNat.toUInt8) = _
    rw [Int.toNat_natCast, indexByte_fnd]
    congr 3
    exact UInt8.ofNat_toNat
theorem sindex_ac (l : List UInt8) (c : UInt8) : AC Tryz.prog D 107 [St l, St [c]] L s fun v L' _ => v = .int .i64 (fndI (fnd c l)) ∧ L = L' :=
  AC.of_calls fnok_six fun _ => (Any.strings_Index_one Tryz.lays143 ⟨l.toArray⟩ c (fill L s)).mono fun e w' ⟨he, hw⟩ => by
    refine ⟨_, he, by rw [hw]; exact below_refl _, fun s' _ _ _ => ⟨?_, rfl⟩⟩
    show Value.int .i64 (Lib.indexByte l c) = _
    rw [indexByte_fnd]
end
end Go.Proofs.YtoeeblegplghmaaGreatDoor
namespace Go.Proofs.YtoeeblegplghmaaGreatDoor
open Go Go.FL Go.RowKit
theorem ok_ascii0 : ∀ n, n < 256 → okC (UInt8.ofNat n) = true → n < 128 ∧ Lib.isSp (UInt8.ofNat n) = isBlk (UInt8.ofNat n) := by decide +kernel
theorem ok_ascii {c : UInt8} (h : okC c = true) : c.toNat < 128 ∧ Lib.isSp c = isBlk c := by
  have := ok_ascii0 c.toNat c.toNat_lt
  rw [UInt8.ofNat_toNat] at this
  exact this h
theorem fieldsGo_fw : ∀ (l cur : List UInt8), okT l = true → Lib.fieldsGo cur l = fw cur l := by
  intro l
  induction l with
  | nil => intro cur _; simp [Lib.fieldsGo, fw, List.isEmpty_iff]
  | cons c r ih =>
    intro cur h
    simp only [okT, List.all_cons, Bool.and_eq_true] at h
    rw [Lib.fieldsGo, fw, (ok_ascii h.1).2, ih _ h.2, ih _ h.2]
    simp only [List.isEmpty_iff]
theorem fields_flds {l : List UInt8} (h : okT l = true) : Lib.fields l = flds l := fieldsGo_fw l [] h
theorem join_lib : ∀ (ws : List (List UInt8)), Lib.join ws [32] = joinW ws
  | [] => rfl
  | [x] => by simp [Lib.join, joinW, List.intercalate]
  | x :: y :: r => by
    have := join_lib (y :: r)
    simp only [Lib.join, List.intercalate, List.intersperse_cons_cons, List.flatten_cons] at this ⊢
    rw [joinW, ← this]; simp
theorem joinN_lib : ∀ (ws : List (List UInt8)), Lib.join ws [10] = joinN ws
  | [] => rfl
  | [x] => by simp [Lib.join, joinN, List.intercalate]
  | x :: y :: r => by
    have := joinN_lib (y :: r)
    simp only [Lib.join, List.intercalate, List.intersperse_cons_cons, List.flatten_cons] at this ⊢
    rw [joinN, ← this]; simp
section
variable (D : Nat) (L : Hl) (s : World)
theorem fieldsO_ac (hG : GP s) (l : List UInt8) (hl : l.length ≤ 4000000) (hok : okT l = true) : AC Tryz.prog D 48 [St l] L s fun v L' _ => ∃ β, L' = (β, cb (sb (flds l)) 9) :: L ∧ v = .slice (some ⟨β, 0, none⟩) (flds l).length (flds l).length :=
  ⟨fnok_sfields, fun ho => by
    have hsz : (⟨l.toArray⟩ : ByteArray).size = l.length := by simp [Lib.size_eq]
    refine (Any.strings_Fields Tryz.lays157 (by kernel_rfl) (by kernel_rfl) ⟨l.toArray⟩ (fill L s) (by omega) (fun j b hj => ?_) (asc_of (hG.le (fill_le ho)))).mono ?_
    · have hm : b ∈ l := List.mem_of_getElem? (by simpa using hj)
      exact (ok_ascii (List.all_eq_true.1 hok b hm)).1
    · rintro e w' ⟨he, hw⟩
      have hf : Lib.fields (⟨l.toArray⟩ : ByteArray).data.toList = flds l := fields_flds hok
      obtain ⟨h1, h2, h3⟩ := alloc_fill ho (cb (sb (flds l)) 9)
      refine ⟨_, _, _, he, ?_, h2, h3, s.heap.size, rfl, ?_⟩
      · rw [hw, hf, ← h1]; rfl
      · rw [hf, fill_size]⟩
theorem strs_cells {A : Option Addr} {n c : Nat} {ws : List (List UInt8)} {w : World} (h : Strs s A n c ws) (hl : Le D s w) {b off : Nat} (hA : A = some ⟨b, off, none⟩) : ∀ (j : Nat) (x : ByteArray), (ws.map fun x => (⟨x.toArray⟩ : ByteArray))[j]? = some x → w.cell? ⟨b, off + j, none⟩ = some (.string x) := by
  intro j x hj
  rw [List.getElem?_map] at hj
  obtain ⟨y, hy, rfl⟩ := Option.map_eq_some_iff.1 hj
  obtain ⟨b', off', cs, h1, h2, _, rfl, _⟩ := h.2.2.2 j y hy
  rw [hA] at h1; injection h1 with h1; injection h1 with e1 e2; subst e1; subst e2
  exact hl.cell (by simpa using h2 0 (St y) rfl)
theorem join1_ac (A : Option Addr) (n c : Nat) (ws : List (List UInt8)) (hS : Strs s A n c ws) (sep : UInt8) (hlen : (Lib.join ws [sep]).length ≤ 140737488355328) (hn : ws.length ≤ 140737488355328) : AC Tryz.prog D 28 [.slice A n c, St [sep]] L s fun v L' _ => v = St (Lib.join ws [sep]) ∧ L = L' := by
  obtain rfl := hS.1
  by_cases h0 : ws = []
  · subst h0
    refine AC.of_calls fnok_join fun _ => (Any.strings_Join_none Tryz.lays156 Tryz.Builder_Extra_156 A c ⟨#[sep]⟩ (fill L s)).mono fun e w' ⟨he, hw⟩ => ?_
    exact ⟨_, he, by rw [hw]; exact below_refl _, fun s' _ _ _ => ⟨rfl, rfl⟩⟩
  · obtain ⟨x, r, rfl⟩ : ∃ x r, ws = x :: r := by cases ws with
      | nil => exact absurd rfl h0
      | cons x r => exact ⟨x, r, rfl⟩
    obtain ⟨b, off, cs, hA, hc, _, rfl, _⟩ := hS.2.2.2 0 x rfl
    subst hA
    have hmap : ((x :: r).map fun x => (⟨x.toArray⟩ : ByteArray)).map (·.data.toList) = x :: r := by
      rw [List.map_map]; exact List.map_id'' (fun _ => rfl) _
    refine AC.of_calls fnok_join fun ho => ?_
    have hbk : b < (fill L s).heap.size := by rw [fill_size]; exact cell_lt (hc 0 (St x) rfl)
    have := Any.strings_Join Tryz.lays156 Tryz.Builder_Extra_156 b off c ((x :: r).map fun x => (⟨x.toArray⟩ : ByteArray)) ⟨#[sep]⟩ (fill L s) (strs_cells D s hS (fill_le ho) rfl) hbk (by rw [List.length_map]; exact hn) (by rw [List.length_map]; exact hS.2.1) (by rw [hmap]; exact hlen)
    rw [List.length_map, hmap] at this
    refine this.mono fun e w' ⟨he, hb⟩ => ⟨_, he, hb, fun s' _ _ _ => ⟨rfl, rfl⟩⟩
theorem sequal_ac (A : Option Addr) (n c : Nat) (ws : List (List UInt8)) (hS : Strs s A n c ws) (A1 : Option Addr) (n1 c1 : Nat) (us : List (List UInt8)) (hU : Strs s A1 n1 c1 us) : AC Tryz.prog D 68 [.slice A n c, .slice A1 n1 c1] L s fun v L' _ => v = .bool (decide (ws = us)) ∧ L = L' := by
  obtain rfl := hS.1
  obtain rfl := hU.1
  have hb1 := hS.2.2.1
  have hb2 := hU.2.2.1
  have hn1 := hS.2.1
  have hn2 := hU.2.1
  by_cases h0 : ws = []
  · subst h0
    refine AC.of_calls fnok_seq fun _ => (Any.slices_Equal_string_empty Tryz.lays193 A A1 c us.length c1 (fill L s) (by omega)).mono fun e w' ⟨he, hw⟩ => ?_
    refine ⟨_, he, by rw [hw]; exact below_refl _, fun s' _ _ _ => ⟨?_, rfl⟩⟩
    cases us <;> simp
  · by_cases h1 : us = []
    · subst h1
      obtain ⟨x, r, rfl⟩ : ∃ x r, ws = x :: r := by cases ws with
        | nil => exact absurd rfl h0
        | cons x r => exact ⟨x, r, rfl⟩
      obtain ⟨b, off, cs, hA, hc, _, rfl, _⟩ := hS.2.2.2 0 x rfl
      subst hA
      refine AC.of_calls fnok_seq fun _ => (Any.slices_Equal_string_lens Tryz.lays193 (some ⟨b, off, none⟩) A1 (x :: r).length c 0 c1 (fill L s) (by simp)).mono fun e w' ⟨he, hw⟩ => ?_
      exact ⟨_, he, by rw [hw]; exact below_refl _, fun s' _ _ _ => ⟨by simp, rfl⟩⟩
    · obtain ⟨x, r, rfl⟩ : ∃ x r, ws = x :: r := by cases ws with
        | nil => exact absurd rfl h0
        | cons x r => exact ⟨x, r, rfl⟩
      obtain ⟨y, q, rfl⟩ : ∃ y q, us = y :: q := by cases us with
        | nil => exact absurd rfl h1
        | cons x r => exact ⟨x, r, rfl⟩
      obtain ⟨b, off, cs, hA, hc, _, rfl, _⟩ := hS.2.2.2 0 x rfl
      obtain ⟨b1, off1, cs1, hA1, hc1, _, rfl, _⟩ := hU.2.2.2 0 y rfl
      subst hA; subst hA1
      refine AC.of_calls fnok_seq fun ho => ?_
      have g : ∀ {A : Option Addr} {n c b off : Nat} {ws : List (List UInt8)}, Strs s A n c ws → A = some ⟨b, off, none⟩ → ∀ j, j < (ws.map fun x => (⟨x.toArray⟩ : ByteArray)).length → (fill L s).cell? ⟨b, off + j, none⟩ = some (.string ((ws.map fun x => (⟨x.toArray⟩ : ByteArray)).getD j ByteArray.empty)) := fun hh hA j hj => by
        refine strs_cells D s hh (fill_le ho) hA j _ ?_
        rw [List.getD_eq_getElem?_getD, List.getElem?_eq_getElem hj]; rfl
      have := Any.slices_Equal_string Tryz.lays193 b off (x :: r).length c b1 off1 (y :: q).length c1 ((x :: r).map fun x => (⟨x.toArray⟩ : ByteArray)) ((y :: q).map fun x => (⟨x.toArray⟩ : ByteArray)) (fill L s) (by simp) (by simp) (by omega) (by omega) (g hS rfl) (g hU rfl)
      refine this.mono fun e w' ⟨he, k, hw⟩ => ⟨_, he, by rw [hw]; exact below_dn (below_refl _) k, fun s' _ _ _ => ⟨?_, rfl⟩⟩
      have e1 : ((x :: r).map fun x => (⟨x.toArray⟩ : ByteArray)).take (x :: r).length = (x :: r).map fun x => (⟨x.toArray⟩ : ByteArray) := List.take_of_length_le (by simp)
      have e2 : ((y :: q).map fun x => (⟨x.toArray⟩ : ByteArray)).take (y :: q).length = (y :: q).map fun x => (⟨x.toArray⟩ : ByteArray) := List.take_of_length_le (by simp)
      rw [e1, e2]
      congr 1
      rw [decide_eq_decide]
      constructor
      · intro h
        have := congrArg (List.map (·.data.toList)) h
        have hid : ∀ l : List (List UInt8), (l.map fun x => (⟨x.toArray⟩ : ByteArray)).map (·.data.toList) = l := fun l => by rw [List.map_map]; exact List.map_id'' (fun _ => rfl) _
        rwa [hid, hid] at this
      · intro h; rw [h]
end
end Go.Proofs.YtoeeblegplghmaaGreatDoor
