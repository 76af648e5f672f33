/- The law PrimerTextMatchesSpec: for every input it returns true, and its arguments read behind the call as they read before; what the package-level variables of the library hold is tied tgt the text of the program. Part 6 of the proof of primerTextMatchesSpec_holds: texts P17, P18, P19, P20, P21, Rk, Ri, Rx, Q18. -/
import Derived.Test.YtoeeblegplghmaaGreatDoorQ18x5
import Derived.ProofKit
import Derived.OpenShut
import Derived.SizedLaws
import Derived.Deep.Slices
import Derived.Test.YtoeeblegplghmaaGreatDoorRows
import Derived.Lay
import Derived.Lib.LaidTab
import Derived.Stop.LaidErr
import Derived.SevenTiedAt
import Derived.Test.YtoeeblegplghmaaGreatDoorCards
import Derived.Test.YtoeeblegplghmaaGreatDoorTie
set_option linter.unusedVariables false
set_option linter.unusedSimpArgs false
set_option linter.unnecessarySimpa false
namespace Go.Proofs.YtoeeblegplghmaaGreatDoor
open Go.FL
attribute [local irreducible] JC JO JA JB thenQ blockQ retQ AC fill CellsAt QE Ev Mid
theorem dec_more {w : Nat} (h : ¬ w < 10) : Lib.decDigits w = Lib.decDigits (w / 10) ++ Lib.decDigits (w % 10) := by
  rw [Lib.decDigits, dif_neg h, Lib.decDigits_one (i := w % 10) (by omega)]
theorem rem10 (n : Nat) : Value.int .u32 ((n : Int).tmod 10) = .int .u32 ((n % 10 : Nat) : Int) := by rw [Int.tmod_eq_emod_of_nonneg (by omega)]; rfl
theorem quo10 {n : Nat} (h : n < 4294967296) : Value.int .u32 (IntKind.u32.wrap ((n : Int).tdiv 10)) = .int .u32 ((n / 10 : Nat) : Int) := by
  rw [Int.tdiv_eq_ediv_of_nonneg (by omega), IntKind.wrap_u32]; congr 1; omega
theorem dig48 {n : Nat} (h : n < 10) : Value.int .u8 (IntKind.u8.wrap (IntKind.u32.wrap (48 + (n : Int)))) = .int .u8 ((UInt8.ofNat (48 + n)).toNat : Int) := by
  rw [IntKind.wrap_u32, IntKind.wrap_u8]; congr 1; simp only [UInt8.toNat_ofNat']; omega
theorem bts_lit {s : World} {b : Nat} {l : List UInt8} (h : CellsAt s b 0 (bv l)) (hl : l.length ≤ 1000) : Bts s (some ⟨b, 0, none⟩) l.length l.length l := bts_pub (yc := []) (cc := l.length) (by simpa using h) (by simp) (by omega)
theorem fld_hit {l : List UInt8} {i f : Nat} (hf : f < i) (hc : i = l.length ∨ ∃ ch, l[i]? = some ch ∧ isBlk ch = true) : fw ((l.drop f).take (i - f)) (l.drop i) = ((l.drop f).take (i - f)) :: fw ((l.drop (i + 1)).take (i + 1 - (i + 1))) (l.drop (i + 1)) := by
  rw [Nat.sub_self, List.take_zero]
  rcases hc with rfl | ⟨ch, h1, h2⟩
  · rw [fw_end hf, show l.drop (l.length + 1) = [] from List.drop_of_length_le (by omega)]; rfl
  · exact fw_hit h1 h2 hf
theorem fld_skip {l : List UInt8} {i : Nat} (hc : i = l.length ∨ ∃ ch, l[i]? = some ch ∧ isBlk ch = true) : fw ((l.drop i).take (i - i)) (l.drop i) = fw ((l.drop (i + 1)).take (i + 1 - (i + 1))) (l.drop (i + 1)) := by
  rw [Nat.sub_self, Nat.sub_self, List.take_zero, List.take_zero]
  rcases hc with rfl | ⟨ch, h1, h2⟩
  · rw [List.drop_of_length_le (Nat.le_refl _), List.drop_of_length_le (by omega)]
  · exact fw_skip h1 h2
theorem fld_end {l : List UInt8} : fw ((l.drop (l.length + 1)).take (l.length + 1 - (l.length + 1))) (l.drop (l.length + 1)) = [] := by
  rw [Nat.sub_self, List.take_zero, List.drop_of_length_le (by omega)]; rfl
set_option maxHeartbeats 2000000 in
set_option maxRecDepth 100000 in
theorem rfieldsO_ac (D : Nat) (L : Hl) (s : World) (l : List UInt8) (hl : l.length ≤ 4000000) : AC Tryz.prog D 19 [St l] L s fun v L' s' => ∃ M', L' = M' ++ L ∧ ∀ s2, Le D s' s2 → Pub M' s2 → ∃ A n c', v = .slice A n c' ∧ Strs s2 A n c' (flds l) := by
 refine AC_enter (TT := TT) (fn := Tryz.f19) TT_ok Tryz.func19 (by kernel_rfl) rfl Tryz.ntmps19 rfl (rs := [.tmp 2]) rfl [(0, _)] rfl ?_
 refine JC_seq ?_
 refine JC_region ?_
 refine JO_q (QE_as rfl) rfl ?_
 refine JO_nil ?_
 refine thenQ_n ?_
 refine JC_seq ?_
 refine JC_region ?_
 refine JO_q (QE_as rfl) rfl ?_
 refine JO_nil ?_
 refine thenQ_n ?_
 refine JC_seq ?_
 refine JC_region ?_
 refine JO_q (QE_as rfl) rfl ?_
 refine JO_nil ?_
 refine thenQ_n ?_
 refine JC_seq ?_
 refine JC_seq ?_
 refine JC_region ?_
 refine JO_q (QE_as rfl) rfl ?_
 refine JO_nil ?_
 refine thenQ_n ?_
 refine JC_block ?_
 refine JC_loop (γ := Nat × Nat × Value × Hl × List (List UInt8)) (fun g => [(0, _), (2, _), (3, g.2.2.1), (4, .int .i64 (g.2.1 : Int)), (5, .int .i64 (g.1 : Int))]) (fun g => g.2.2.2.1 ++ L) (fun g tw => Le D s tw ∧ (g.1 ≤ l.length + 1 ∧ g.2.1 ≤ g.1 ∧ (l.length < g.1 → g.2.1 = g.1) ∧ FL.Own 9 1 g.2.2.2.1 g.2.2.1 g.2.2.2.2.length (sb g.2.2.2.2) ∧ g.2.2.2.2.length ≤ g.1 ∧ flds l = g.2.2.2.2 ++ fw ((l.drop g.2.1).take (g.1 - g.2.1)) (l.drop g.1))) (fun g => l.length + 1 - g.1) (fun _ _ _ h hl => ⟨h.1.trans hl, h.2⟩) (0, 0, .slice none 0 0, [], []) (Keeps.cons rfl (Keeps.cons rfl (Keeps.cons rfl (Keeps.cons rfl (Keeps.cons rfl (Keeps.nil _)))))) rfl ⟨Le.refl _, ⟨Nat.zero_le _, Nat.le_refl _, fun h => by simp only at h; omega, FL.Own.nil, Nat.le_refl _, by simp [flds]⟩⟩ ?_
 intro g s1 I1
 obtain ⟨i, f, vo, Mo, out⟩ := g
 obtain ⟨hi0, hf, hfe, hO, hol, hS⟩ := I1.2
 simp only at hi0 hf hfe hO hol hS
 dsimp only
 refine JC_seq ?_
 refine JC_seq ?_
 refine JC_region ?_
 refine JO_q (QE_mv rfl) rfl ?_
 refine JO_q (QE_mv rfl) rfl ?_
 refine JO_q (QE_lenT rfl rfl rfl) rfl ?_
 refine JO_q (QE_le rfl rfl) rfl ?_
 refine JO_nil ?_
 refine thenQ_n ?_
 refine JC_ifD rfl (fun c2 => ?_) (fun c2 => ?_)
 ·
  refine JC_skip ?_
  refine thenQ_n ?_
  refine JC_seq ?_
  refine JC_block ?_
  refine JC_seq ?_
  refine JC_seq ?_
  refine JC_region ?_
  refine JO_q (QE_mv rfl) rfl ?_
  refine JO_q (QE_mv rfl) rfl ?_
  refine JO_q (QE_lenT rfl rfl rfl) rfl ?_
  refine JO_q (QE_lt rfl rfl) rfl ?_
  refine JO_q (QE_mv rfl) rfl ?_
  refine JO_caseD (t := 16) rfl (fun c3 => ?_) (fun c3 => ?_)
  ·
   refine JO_gT rfl rfl ?_
   refine JO_q (QE_mv rfl) rfl ?_
   refine JO_gT rfl rfl ?_
   refine JO_q (QE_mv rfl) rfl ?_
   refine JO_gT rfl rfl ?_
   obtain ⟨ch, hch⟩ : ∃ ch, l[i]? = some ch := ⟨_, List.getElem?_eq_getElem (by omega)⟩
   refine JO_q (QE_ix rfl rfl rfl rfl hch) rfl ?_
   refine JO_gT rfl rfl ?_
   refine JO_q (QE_ne rfl rfl) rfl ?_
   refine JO_q (QE_pickT rfl rfl) rfl ?_
   refine JO_q (QE_mv rfl) rfl ?_
   refine JO_caseN (t := 22) rfl (fun c4 => ?_) (fun c4 => ?_)
   ·
    refine JO_gT rfl rfl ?_
    refine JO_q (QE_mv rfl) rfl ?_
    refine JO_gT rfl rfl ?_
    refine JO_q (QE_mv rfl) rfl ?_
    refine JO_gT rfl rfl ?_
    refine JO_q (QE_ix rfl rfl rfl rfl hch) rfl ?_
    refine JO_gT rfl rfl ?_
    refine JO_q (QE_ne rfl rfl) rfl ?_
    refine JO_q (QE_pickT rfl rfl) rfl ?_
    refine JO_nil ?_
    refine thenQ_n ?_
    refine JC_ifN rfl (fun c5 => ?_) (fun c5 => ?_)
    ·
     have hb : isBlk ch = false := Bool.eq_false_iff.2 (fun h => by have := isBlk_iff.1 h; omega)
     refine JC_exit ?_
     refine thenQ_x ?_
     refine blockQ_x ?_
     refine thenQ_n ?_
     refine JC_region ?_
     refine JO_q (QE_mv rfl) rfl ?_
     refine JO_q (QE_add' rfl rfl (w64 (by omega) (by omega))) rfl ?_
     refine JO_q (QE_as rfl) rfl ?_
     refine JO_nil ?_
     refine thenQ_n ⟨(i + 1, f, vo, Mo, out), [], (Keeps.cons rfl (Keeps.cons rfl (Keeps.cons rfl (Keeps.cons rfl (Keeps.cons rfl (Keeps.nil _)))))), rfl, ⟨I1.1, by
       first
       | exact ⟨by simp only; omega, by simp only; omega, fun h => by simp only at h; omega, hO, by simp only; omega, by simp only; rw [hS, fw_miss hch hb hf]⟩
       | exact ⟨by simp only; omega, Nat.le_refl _, fun _ => rfl, by simp only [List.length_append, List.length_cons, List.length_nil, sb_snoc]; exact oq, by simp only [List.length_append, List.length_cons, List.length_nil]; omega, by simp only; rw [hS, fld_hit h30 hcase]; simp⟩
       | exact ⟨by simp only; omega, Nat.le_refl _, fun _ => rfl, hO, by simp only; omega, by simp only; rw [hS, show f = i by omega, fld_skip hcase]⟩⟩, (by simp only; omega)⟩
    ·
     have hcase : (i = l.length) ∨ ∃ ch, l[i]? = some ch ∧ isBlk ch = true := by
       first
       | exact .inl (by omega)
       | exact .inr ⟨ch, hch, isBlk_iff.2 (by omega)⟩
     refine JC_skip ?_
     refine thenQ_n ?_
     refine JC_seq ?_
     refine JC_seq ?_
     refine JC_region ?_
     refine JO_q (QE_mv rfl) rfl ?_
     refine JO_q (QE_mv rfl) rfl ?_
     refine JO_q (QE_gt rfl rfl) rfl ?_
     refine JO_nil ?_
     refine thenQ_n ?_
     refine JC_ifD rfl (fun c6 => ?_) (fun c6 => ?_)
     ·
      have h30 : f < i := by omega
      refine JC_region ?_
      refine JO_q (QE_mv rfl) rfl ?_
      refine JO_q (QE_mv rfl) rfl ?_
      refine JO_q (QE_mv rfl) rfl ?_
      refine JO_q (QE_mv rfl) rfl ?_
      refine JO_q (QE_stLH rfl rfl rfl rfl rfl (by omega) (by omega)) rfl ?_
      refine JO_bs [(_, _)] [_] rfl rfl rfl rfl rfl rfl rfl rfl rfl ?_
      intro βn s7 h7 hcb
      refine JO_app (sz := 1) [] Mo L rfl rfl rfl rfl rfl rfl rfl hO (Row.of_cells (hcb.le (Le.refl (D := D) _)) rfl rfl) ⟨by simp [ti9]; omega, by omega⟩ rfl ?_
      intro vq Mq s8 h8 oq
      obtain ⟨Avq, cvq, rfl, _, _⟩ := Own.slice oq
      simp only [List.nil_append]
      refine JO_q (QE_as rfl) rfl ?_
      refine JO_nil ?_
      refine thenQ_n ?_
      refine JC_region ?_
      refine JO_q (QE_mv rfl) rfl ?_
      refine JO_q (QE_add' rfl rfl (w64 (by omega) (by omega))) rfl ?_
      refine JO_q (QE_as rfl) rfl ?_
      refine JO_nil ?_
      refine blockQ_n ?_
      refine thenQ_n ?_
      refine JC_region ?_
      refine JO_q (QE_mv rfl) rfl ?_
      refine JO_q (QE_add' rfl rfl (w64 (by omega) (by omega))) rfl ?_
      refine JO_q (QE_as rfl) rfl ?_
      refine JO_nil ?_
      refine thenQ_n ⟨(i + 1, i + 1, .slice Avq (out.length + 1) cvq, Mq, out ++ [(l.drop f).take (i - f)]), [], (Keeps.cons rfl (Keeps.cons rfl (Keeps.cons rfl (Keeps.cons rfl (Keeps.cons rfl (Keeps.nil _)))))), rfl, ⟨(Le.trans (Le.trans I1.1 h7) h8), by
        first
        | exact ⟨by simp only; omega, by simp only; omega, fun h => by simp only at h; omega, hO, by simp only; omega, by simp only; rw [hS, fw_miss hch hb hf]⟩
        | exact ⟨by simp only; omega, Nat.le_refl _, fun _ => rfl, by simp only [List.length_append, List.length_cons, List.length_nil, sb_snoc]; exact oq, by simp only [List.length_append, List.length_cons, List.length_nil]; omega, by simp only; rw [hS, fld_hit h30 hcase]; simp⟩
        | exact ⟨by simp only; omega, Nat.le_refl _, fun _ => rfl, hO, by simp only; omega, by simp only; rw [hS, show f = i by omega, fld_skip hcase]⟩⟩, (by simp only; omega)⟩
     ·
      have h30 : ¬ f < i := by omega
      refine JC_skip ?_
      refine thenQ_n ?_
      refine JC_region ?_
      refine JO_q (QE_mv rfl) rfl ?_
      refine JO_q (QE_add' rfl rfl (w64 (by omega) (by omega))) rfl ?_
      refine JO_q (QE_as rfl) rfl ?_
      refine JO_nil ?_
      refine blockQ_n ?_
      refine thenQ_n ?_
      refine JC_region ?_
      refine JO_q (QE_mv rfl) rfl ?_
      refine JO_q (QE_add' rfl rfl (w64 (by omega) (by omega))) rfl ?_
      refine JO_q (QE_as rfl) rfl ?_
      refine JO_nil ?_
      refine thenQ_n ⟨(i + 1, i + 1, vo, Mo, out), [], (Keeps.cons rfl (Keeps.cons rfl (Keeps.cons rfl (Keeps.cons rfl (Keeps.cons rfl (Keeps.nil _)))))), rfl, ⟨I1.1, by
        first
        | exact ⟨by simp only; omega, by simp only; omega, fun h => by simp only at h; omega, hO, by simp only; omega, by simp only; rw [hS, fw_miss hch hb hf]⟩
        | exact ⟨by simp only; omega, Nat.le_refl _, fun _ => rfl, by simp only [List.length_append, List.length_cons, List.length_nil, sb_snoc]; exact oq, by simp only [List.length_append, List.length_cons, List.length_nil]; omega, by simp only; rw [hS, fld_hit h30 hcase]; simp⟩
        | exact ⟨by simp only; omega, Nat.le_refl _, fun _ => rfl, hO, by simp only; omega, by simp only; rw [hS, show f = i by omega, fld_skip hcase]⟩⟩, (by simp only; omega)⟩
   ·
    refine JO_gF rfl rfl rfl rfl ?_
    refine JO_gF rfl rfl rfl rfl ?_
    refine JO_gF rfl rfl rfl rfl ?_
    refine JO_gF rfl rfl rfl rfl ?_
    refine JO_q (QE_pickF rfl rfl) rfl ?_
    refine JO_nil ?_
    refine thenQ_n ?_
    refine JC_ifF rfl ?_
    have hcase : (i = l.length) ∨ ∃ ch, l[i]? = some ch ∧ isBlk ch = true := by
      first
      | exact .inl (by omega)
      | exact .inr ⟨ch, hch, isBlk_iff.2 (by omega)⟩
    refine JC_skip ?_
    refine thenQ_n ?_
    refine JC_seq ?_
    refine JC_seq ?_
    refine JC_region ?_
    refine JO_q (QE_mv rfl) rfl ?_
    refine JO_q (QE_mv rfl) rfl ?_
    refine JO_q (QE_gt rfl rfl) rfl ?_
    refine JO_nil ?_
    refine thenQ_n ?_
    refine JC_ifD rfl (fun c9 => ?_) (fun c9 => ?_)
    ·
     have h30 : f < i := by omega
     refine JC_region ?_
     refine JO_q (QE_mv rfl) rfl ?_
     refine JO_q (QE_mv rfl) rfl ?_
     refine JO_q (QE_mv rfl) rfl ?_
     refine JO_q (QE_mv rfl) rfl ?_
     refine JO_q (QE_stLH rfl rfl rfl rfl rfl (by omega) (by omega)) rfl ?_
     refine JO_bs [(_, _)] [_] rfl rfl rfl rfl rfl rfl rfl rfl rfl ?_
     intro βn s10 h10 hcb
     refine JO_app (sz := 1) [] Mo L rfl rfl rfl rfl rfl rfl rfl hO (Row.of_cells (hcb.le (Le.refl (D := D) _)) rfl rfl) ⟨by simp [ti9]; omega, by omega⟩ rfl ?_
     intro vq Mq s11 h11 oq
     obtain ⟨Avq, cvq, rfl, _, _⟩ := Own.slice oq
     simp only [List.nil_append]
     refine JO_q (QE_as rfl) rfl ?_
     refine JO_nil ?_
     refine thenQ_n ?_
     refine JC_region ?_
     refine JO_q (QE_mv rfl) rfl ?_
     refine JO_q (QE_add' rfl rfl (w64 (by omega) (by omega))) rfl ?_
     refine JO_q (QE_as rfl) rfl ?_
     refine JO_nil ?_
     refine blockQ_n ?_
     refine thenQ_n ?_
     refine JC_region ?_
     refine JO_q (QE_mv rfl) rfl ?_
     refine JO_q (QE_add' rfl rfl (w64 (by omega) (by omega))) rfl ?_
     refine JO_q (QE_as rfl) rfl ?_
     refine JO_nil ?_
     refine thenQ_n ⟨(i + 1, i + 1, .slice Avq (out.length + 1) cvq, Mq, out ++ [(l.drop f).take (i - f)]), [], (Keeps.cons rfl (Keeps.cons rfl (Keeps.cons rfl (Keeps.cons rfl (Keeps.cons rfl (Keeps.nil _)))))), rfl, ⟨(Le.trans (Le.trans I1.1 h10) h11), by
       first
       | exact ⟨by simp only; omega, by simp only; omega, fun h => by simp only at h; omega, hO, by simp only; omega, by simp only; rw [hS, fw_miss hch hb hf]⟩
       | exact ⟨by simp only; omega, Nat.le_refl _, fun _ => rfl, by simp only [List.length_append, List.length_cons, List.length_nil, sb_snoc]; exact oq, by simp only [List.length_append, List.length_cons, List.length_nil]; omega, by simp only; rw [hS, fld_hit h30 hcase]; simp⟩
       | exact ⟨by simp only; omega, Nat.le_refl _, fun _ => rfl, hO, by simp only; omega, by simp only; rw [hS, show f = i by omega, fld_skip hcase]⟩⟩, (by simp only; omega)⟩
    ·
     have h30 : ¬ f < i := by omega
     refine JC_skip ?_
     refine thenQ_n ?_
     refine JC_region ?_
     refine JO_q (QE_mv rfl) rfl ?_
     refine JO_q (QE_add' rfl rfl (w64 (by omega) (by omega))) rfl ?_
     refine JO_q (QE_as rfl) rfl ?_
     refine JO_nil ?_
     refine blockQ_n ?_
     refine thenQ_n ?_
     refine JC_region ?_
     refine JO_q (QE_mv rfl) rfl ?_
     refine JO_q (QE_add' rfl rfl (w64 (by omega) (by omega))) rfl ?_
     refine JO_q (QE_as rfl) rfl ?_
     refine JO_nil ?_
     refine thenQ_n ⟨(i + 1, i + 1, vo, Mo, out), [], (Keeps.cons rfl (Keeps.cons rfl (Keeps.cons rfl (Keeps.cons rfl (Keeps.cons rfl (Keeps.nil _)))))), rfl, ⟨I1.1, by
       first
       | exact ⟨by simp only; omega, by simp only; omega, fun h => by simp only at h; omega, hO, by simp only; omega, by simp only; rw [hS, fw_miss hch hb hf]⟩
       | exact ⟨by simp only; omega, Nat.le_refl _, fun _ => rfl, by simp only [List.length_append, List.length_cons, List.length_nil, sb_snoc]; exact oq, by simp only [List.length_append, List.length_cons, List.length_nil]; omega, by simp only; rw [hS, fld_hit h30 hcase]; simp⟩
       | exact ⟨by simp only; omega, Nat.le_refl _, fun _ => rfl, hO, by simp only; omega, by simp only; rw [hS, show f = i by omega, fld_skip hcase]⟩⟩, (by simp only; omega)⟩
  ·
   refine JO_gF rfl rfl rfl rfl ?_
   refine JO_gF rfl rfl rfl rfl ?_
   refine JO_gF rfl rfl rfl rfl ?_
   refine JO_gF rfl rfl rfl rfl ?_
   refine JO_q (QE_pickF rfl rfl) rfl ?_
   refine JO_q (QE_mv rfl) rfl ?_
   refine JO_gF rfl rfl rfl rfl ?_
   refine JO_gF rfl rfl rfl rfl ?_
   refine JO_gF rfl rfl rfl rfl ?_
   refine JO_gF rfl rfl rfl rfl ?_
   refine JO_q (QE_pickF rfl rfl) rfl ?_
   refine JO_nil ?_
   refine thenQ_n ?_
   refine JC_ifF rfl ?_
   have hcase : (i = l.length) ∨ ∃ ch, l[i]? = some ch ∧ isBlk ch = true := by
     first
     | exact .inl (by omega)
     | exact .inr ⟨ch, hch, isBlk_iff.2 (by omega)⟩
   refine JC_skip ?_
   refine thenQ_n ?_
   refine JC_seq ?_
   refine JC_seq ?_
   refine JC_region ?_
   refine JO_q (QE_mv rfl) rfl ?_
   refine JO_q (QE_mv rfl) rfl ?_
   refine JO_q (QE_gt rfl rfl) rfl ?_
   refine JO_nil ?_
   refine thenQ_n ?_
   refine JC_ifD rfl (fun c12 => ?_) (fun c12 => ?_)
   ·
    have h30 : f < i := by omega
    refine JC_region ?_
    refine JO_q (QE_mv rfl) rfl ?_
    refine JO_q (QE_mv rfl) rfl ?_
    refine JO_q (QE_mv rfl) rfl ?_
    refine JO_q (QE_mv rfl) rfl ?_
    refine JO_q (QE_stLH rfl rfl rfl rfl rfl (by omega) (by omega)) rfl ?_
    refine JO_bs [(_, _)] [_] rfl rfl rfl rfl rfl rfl rfl rfl rfl ?_
    intro βn s13 h13 hcb
    refine JO_app (sz := 1) [] Mo L rfl rfl rfl rfl rfl rfl rfl hO (Row.of_cells (hcb.le (Le.refl (D := D) _)) rfl rfl) ⟨by simp [ti9]; omega, by omega⟩ rfl ?_
    intro vq Mq s14 h14 oq
    obtain ⟨Avq, cvq, rfl, _, _⟩ := Own.slice oq
    simp only [List.nil_append]
    refine JO_q (QE_as rfl) rfl ?_
    refine JO_nil ?_
    refine thenQ_n ?_
    refine JC_region ?_
    refine JO_q (QE_mv rfl) rfl ?_
    refine JO_q (QE_add' rfl rfl (w64 (by omega) (by omega))) rfl ?_
    refine JO_q (QE_as rfl) rfl ?_
    refine JO_nil ?_
    refine blockQ_n ?_
    refine thenQ_n ?_
    refine JC_region ?_
    refine JO_q (QE_mv rfl) rfl ?_
    refine JO_q (QE_add' rfl rfl (w64 (by omega) (by omega))) rfl ?_
    refine JO_q (QE_as rfl) rfl ?_
    refine JO_nil ?_
    refine thenQ_n ⟨(i + 1, i + 1, .slice Avq (out.length + 1) cvq, Mq, out ++ [(l.drop f).take (i - f)]), [], (Keeps.cons rfl (Keeps.cons rfl (Keeps.cons rfl (Keeps.cons rfl (Keeps.cons rfl (Keeps.nil _)))))), rfl, ⟨(Le.trans (Le.trans I1.1 h13) h14), by
      first
      | exact ⟨by simp only; omega, by simp only; omega, fun h => by simp only at h; omega, hO, by simp only; omega, by simp only; rw [hS, fw_miss hch hb hf]⟩
      | exact ⟨by simp only; omega, Nat.le_refl _, fun _ => rfl, by simp only [List.length_append, List.length_cons, List.length_nil, sb_snoc]; exact oq, by simp only [List.length_append, List.length_cons, List.length_nil]; omega, by simp only; rw [hS, fld_hit h30 hcase]; simp⟩
      | exact ⟨by simp only; omega, Nat.le_refl _, fun _ => rfl, hO, by simp only; omega, by simp only; rw [hS, show f = i by omega, fld_skip hcase]⟩⟩, (by simp only; omega)⟩
   ·
    have h30 : ¬ f < i := by omega
    refine JC_skip ?_
    refine thenQ_n ?_
    refine JC_region ?_
    refine JO_q (QE_mv rfl) rfl ?_
    refine JO_q (QE_add' rfl rfl (w64 (by omega) (by omega))) rfl ?_
    refine JO_q (QE_as rfl) rfl ?_
    refine JO_nil ?_
    refine blockQ_n ?_
    refine thenQ_n ?_
    refine JC_region ?_
    refine JO_q (QE_mv rfl) rfl ?_
    refine JO_q (QE_add' rfl rfl (w64 (by omega) (by omega))) rfl ?_
    refine JO_q (QE_as rfl) rfl ?_
    refine JO_nil ?_
    refine thenQ_n ⟨(i + 1, i + 1, vo, Mo, out), [], (Keeps.cons rfl (Keeps.cons rfl (Keeps.cons rfl (Keeps.cons rfl (Keeps.cons rfl (Keeps.nil _)))))), rfl, ⟨I1.1, by
      first
      | exact ⟨by simp only; omega, by simp only; omega, fun h => by simp only at h; omega, hO, by simp only; omega, by simp only; rw [hS, fw_miss hch hb hf]⟩
      | exact ⟨by simp only; omega, Nat.le_refl _, fun _ => rfl, by simp only [List.length_append, List.length_cons, List.length_nil, sb_snoc]; exact oq, by simp only [List.length_append, List.length_cons, List.length_nil]; omega, by simp only; rw [hS, fld_hit h30 hcase]; simp⟩
      | exact ⟨by simp only; omega, Nat.le_refl _, fun _ => rfl, hO, by simp only; omega, by simp only; rw [hS, show f = i by omega, fld_skip hcase]⟩⟩, (by simp only; omega)⟩
 ·
  have hiE : i = l.length + 1 := by omega
  subst hiE
  obtain rfl := hfe (by omega)
  rw [fld_end, List.append_nil] at hS
  obtain ⟨Ao, co, rfl, _, _⟩ := Own.slice hO
  refine JC_exit ?_
  refine thenQ_x ?_
  refine thenQ_x ?_
  refine blockQ_x ?_
  refine thenQ_n ?_
  refine JC_seq ?_
  refine JC_region ?_
  refine JO_q (QE_mv rfl) rfl ?_
  refine JO_q (QE_as rfl) rfl ?_
  refine JO_nil ?_
  refine thenQ_n ?_
  refine JC_ret ?_
  refine retQ_mk [] _ (.inr rfl) (.tmp rfl (.nil)) rfl I1.1 (fun sR hS2 => ?_)
  refine ⟨_, rfl, fun s2 hs2 hp => ⟨_, _, _, rfl, ?_⟩⟩
  rw [hS]
  exact Own.strs hO (fun x hx => by rw [← hS] at hx; have := flds_short l x hx; omega) hp rfl
theorem rfields_ac (D : Nat) (L : Hl) (s : World) (l : List UInt8) (hl : l.length ≤ 4000000) : AC Tryz.prog D 19 [St l] L s fun v L' s' => L = L' ∧ ∃ A n c', v = .slice A n c' ∧ Strs s' A n c' (flds l) := AC.pubW (rfieldsO_ac D L s l hl)
set_option maxHeartbeats 1000000 in
set_option maxRecDepth 100000 in
theorem decimalI_ac (D : Nat) (L : Hl) (s : World) (w : Nat) (hw : w < 4294967296) (ih : ∀ w', w' < w → ∀ (L : Hl) (s : World), AC Tryz.prog D 43 [.int .u32 (w' : Int)] L s fun v L' _ => v = St (Lib.decDigits w') ∧ L = L') : AC Tryz.prog D 43 [.int .u32 (w : Int)] L s fun v L' _ => v = St (Lib.decDigits w) ∧ L = L' := by
 refine AC_enter (TT := TT) (fn := Tryz.f43) TT_ok Tryz.func43 (by kernel_rfl) rfl Tryz.ntmps43 rfl (rs := [.tmp 2]) rfl [(0, _)] rfl ?_
 refine JC_seq ?_
 refine JC_region ?_
 refine JO_q (QE_as rfl) rfl ?_
 refine JO_nil ?_
 refine thenQ_n ?_
 refine JC_seq ?_
 refine JC_seq ?_
 refine JC_region ?_
 refine JO_q (QE_mv rfl) rfl ?_
 refine JO_q (QE_lt rfl rfl) rfl ?_
 refine JO_nil ?_
 refine thenQ_n ?_
 refine JC_ifD rfl (fun c1 => ?_) (fun c1 => ?_)
 ·
  have hw1 : w < 10 := by omega
  refine JC_seq ?_
  refine JC_region ?_
  refine JO_q (QE_mv rfl) rfl ?_
  refine JO_q (QE_add rfl rfl) rfl ?_
  refine JO_q (QE_cast (QE_conv rfl rfl rfl rfl rfl) (dig48 hw1)) rfl ?_
  refine JO_bs [(_, _)] [_] rfl rfl rfl rfl rfl rfl rfl rfl rfl ?_
  intro βn s2 h2 hcb
  refine JO_q (QE_b2s rfl rfl rfl rfl rfl rfl rfl (bts_lit (l := [UInt8.ofNat (48 + w)]) (hcb.le (Le.refl (D := D) _)) (by simp))) rfl ?_
  refine JO_q (QE_as rfl) rfl ?_
  refine JO_nil ?_
  refine thenQ_n ?_
  refine JC_ret ?_
  refine thenQ_r ?_
  refine retQ_mk [] L (.inr rfl) (.tmp rfl (.nil)) rfl h2 (fun sR hS2 => ?_)
  exact ⟨by rw [Lib.decDigits_one hw1]; rfl, rfl⟩
 ·
  have hw1 : ¬ w < 10 := by omega
  have hl1 := dec_len (u := w / 10) (by omega)
  have hl2 := dec_len (u := w % 10) (by omega)
  refine JC_skip ?_
  refine thenQ_n ?_
  refine JC_seq ?_
  refine JC_region ?_
  refine JO_q (QE_mv rfl) rfl ?_
  refine JO_q (QE_cast (QE_quo rfl rfl (by decide)) (quo10 hw)) rfl ?_
  refine JO_call (first := []) (captured := []) rfl rfl rfl (ih (w / 10) (by omega) _ _) ?_
  rintro _ _ s3 h3 ⟨rfl, rfl⟩
  refine JO_q (QE_mv rfl) rfl ?_
  refine JO_q (QE_cast (QE_rem rfl rfl (by decide)) (rem10 w)) rfl ?_
  refine JO_call (first := []) (captured := []) rfl rfl rfl (ih (w % 10) (by omega) _ _) ?_
  rintro _ _ s4 h4 ⟨rfl, rfl⟩
  refine JO_q (QE_sadd rfl rfl (by omega)) rfl ?_
  refine JO_q (QE_as rfl) rfl ?_
  refine JO_nil ?_
  refine thenQ_n ?_
  refine JC_ret ?_
  refine retQ_mk [] L (.inr rfl) (.tmp rfl (.nil)) rfl (Le.trans h3 h4) (fun sR hS2 => ?_)
  exact ⟨by rw [dec_more hw1]; rfl, rfl⟩
theorem decimal_ac (D : Nat) (w : Nat) (hw : w < 4294967296) : ∀ (L : Hl) (s : World), AC Tryz.prog D 43 [.int .u32 (w : Int)] L s fun v L' _ => v = St (Lib.decDigits w) ∧ L = L' := by
  induction w using Nat.strongRecOn with
  | _ w ih => exact fun L s => decimalI_ac D L s w hw fun w' h => ih w' h (by omega)
set_option maxHeartbeats 1000000 in
set_option maxRecDepth 100000 in
theorem rterm_ac (D : Nat) (L : Hl) (s : World) (x : Tm) (hx : TmG x) : AC Tryz.prog D 87 [.agg #[.int .i64 x.kind, .int .u32 x.val]] L s fun v L' _ => v = St (termS x) ∧ L = L' := by
 have hu := hx.u32
 obtain ⟨k, v0⟩ := x
 obtain ⟨v, rfl⟩ := Int.eq_ofNat_of_zero_le hx.nn
 have hu2 := hu.2
 simp only at hu2
 refine AC_enter (TT := TT) (fn := Tryz.f87) TT_ok Tryz.func87 (by kernel_rfl) rfl Tryz.ntmps87 rfl (rs := [.tmp 2]) rfl [(0, _)] rfl ?_
 refine JC_seq ?_
 refine JC_region ?_
 refine JO_boxA rfl rfl ?_
 intro β1 s1 h1
 refine JO_q (QE_as rfl) rfl ?_
 refine JO_nil ?_
 refine thenQ_n ?_
 refine JC_seq ?_
 refine JC_seq ?_
 refine JC_region ?_
 refine JO_q (QE_fa0 rfl rfl rfl rfl) rfl ?_
 refine JO_q (QE_ld1 0 rfl rfl rfl rfl rfl) rfl ?_
 refine JO_q (QE_eq rfl rfl) rfl ?_
 refine JO_nil ?_
 refine thenQ_n ?_
 refine JC_ifD rfl (fun c2 => ?_) (fun c2 => ?_)
 ·
  have hk : k = 1 := c2
  have hv : v ≤ 4 := by rcases hx with ⟨h, _⟩ | ⟨_, _, h⟩ | ⟨h, _⟩ <;> simp only at h <;> omega
  refine JC_seq ?_
  refine JC_region ?_
  refine JO_q (QE_faB rfl rfl rfl rfl) rfl ?_
  refine JO_q (QE_ld1 0 rfl rfl rfl rfl rfl) rfl ?_
  refine JO_q (QE_faB rfl rfl rfl rfl) rfl ?_
  refine JO_q (QE_ld1 0 rfl rfl rfl rfl rfl) rfl ?_
  refine JO_q (QE_add' (c := ((v + 1 : Nat) : Int)) rfl rfl (w32n (by omega))) rfl ?_
  refine JO_q (QE_stLH (l := abcB) rfl rfl rfl rfl rfl (by omega) (by show v + 1 ≤ 5; omega)) rfl ?_
  refine JO_q (QE_as rfl) rfl ?_
  refine JO_nil ?_
  refine thenQ_n ?_
  refine JC_ret ?_
  refine thenQ_r ?_
  refine retQ_mk [_] L (.inr rfl) (.tmp rfl (.nil)) rfl h1 (fun sR hS2 => ?_)
  refine ⟨?_, rfl⟩
  first
    | (simp only [resV, termS, hk, if_true]; rw [reg_cut hv]; done)
    | (simp only [resV, termS, hk, hk2, if_true, if_false]; first | rfl | done)
 ·
  have hk : ¬ k = 1 := c2
  refine JC_skip ?_
  refine thenQ_n ?_
  refine JC_seq ?_
  refine JC_seq ?_
  refine JC_region ?_
  refine JO_q (QE_fa0 rfl rfl rfl rfl) rfl ?_
  refine JO_q (QE_ld1 0 rfl rfl rfl rfl rfl) rfl ?_
  refine JO_q (QE_eq rfl rfl) rfl ?_
  refine JO_nil ?_
  refine thenQ_n ?_
  refine JC_ifD rfl (fun c3 => ?_) (fun c3 => ?_)
  ·
   have hk2 : k = 2 := c3
   refine JC_seq ?_
   refine JC_region ?_
   refine JO_q (QE_as rfl) rfl ?_
   refine JO_nil ?_
   refine thenQ_n ?_
   refine JC_ret ?_
   refine thenQ_r ?_
   refine retQ_mk [_] L (.inr rfl) (.tmp rfl (.nil)) rfl h1 (fun sR hS2 => ?_)
   refine ⟨?_, rfl⟩
   first
     | (simp only [resV, termS, hk, if_true]; rw [reg_cut hv]; done)
     | (simp only [resV, termS, hk, hk2, if_true, if_false]; first | rfl | done)
  ·
   have hk2 : ¬ k = 2 := c3
   refine JC_skip ?_
   refine thenQ_n ?_
   refine JC_seq ?_
   refine JC_region ?_
   refine JO_q (QE_faB rfl rfl rfl rfl) rfl ?_
   refine JO_q (QE_ld1 0 rfl rfl rfl rfl rfl) rfl ?_
   refine JO_call (first := []) (captured := []) rfl rfl rfl (decimal_ac D v (by omega) _ _) ?_
   rintro _ _ s4 h4 ⟨rfl, rfl⟩
   refine JO_q (QE_as rfl) rfl ?_
   refine JO_nil ?_
   refine thenQ_n ?_
   refine JC_ret ?_
   refine retQ_mk [_] L (.inr rfl) (.tmp rfl (.nil)) rfl (Le.trans h1 h4) (fun sR hS2 => ?_)
   refine ⟨?_, rfl⟩
   first
     | (simp only [resV, termS, hk, if_true]; rw [reg_cut hv]; done)
     | (simp only [resV, termS, hk, hk2, if_true, if_false]; first | rfl | done)
def opNames : List (List UInt8) := [[], [115, 117, 109], [100, 105, 102, 102, 101, 114, 101, 110, 99, 101], [112, 114, 111, 100, 117, 99, 116], [113, 117, 111, 116, 105, 101, 110, 116], [114, 101, 109, 97, 105, 110, 100, 101, 114]]
def opN (k : Nat) : List UInt8 := opNames.getD k []
theorem nm_at {s : World} {b k : Nat} (h : CellsAt s b 0 (opNames.map fun x => St x)) (hk : k < 6) : CellsAt s b (0 + k) [St (opN k)] := by
  unfold CellsAt at h
  exact CellsAt.one (h k (St (opN k)) (by rw [List.getElem?_map, opN, List.getD_eq_getElem?_getD, List.getElem?_eq_getElem (show k < opNames.length from hk)]; rfl))
theorem opN_len (k : Nat) (h : k < 6) : (opN k).length ≤ 10 := by
  have h0 : ∀ k, k < 6 → (opN k).length ≤ 10 := by decide
  exact h0 k h
set_option maxHeartbeats 4000000 in
set_option maxRecDepth 100000 in
theorem rsent_ac (D : Nat) (L : Hl) (s : World) (a : Ac) (hk0 : 0 ≤ a.kind ∧ a.kind < 20) (ha : AcT a) : AC Tryz.prog D 61 [.agg #[.int .i64 a.kind, .int .i64 a.tgt, .int .i64 a.x.kind, .int .u32 a.x.val, .int .i64 a.y.kind, .int .u32 a.y.val]] L s fun v L' _ => v = St (joinW (wordsA a)) ∧ L = L' := by
 obtain ⟨ak, ato, ax, ay⟩ := a
 obtain ⟨k, rfl⟩ := Int.eq_ofNat_of_zero_le hk0.1
 obtain ⟨tn, rfl⟩ := Int.eq_ofNat_of_zero_le ha.1.1
 have hk : k < 20 := by have := hk0.2; simp only at this; omega
 have htn : tn ≤ 4 := by have := ha.1.2; simp only at this; omega
 have hkl := (term_part ha.2.1).2.1
 have hyl := (term_part ha.2.2).2.1
 simp only at hkl hyl
 have hrl : ((abcB.drop tn).take (tn + 1 - tn)).length ≤ 1 := by rw [reg_cut htn]; exact reg_short _
 dsimp only
 refine AC_enter (TT := TT) (fn := Tryz.f61) TT_ok Tryz.func61 (by kernel_rfl) rfl Tryz.ntmps61 rfl (rs := [.tmp 2]) rfl [(0, _)] rfl ?_
 refine JC_seq ?_
 refine JC_region ?_
 refine JO_boxA rfl rfl ?_
 intro β1 s1 h1
 refine JO_q (QE_as rfl) rfl ?_
 refine JO_nil ?_
 refine thenQ_n ?_
 refine JC_seq ?_
 refine JC_region ?_
 refine JO_q (QE_faB rfl rfl rfl rfl) rfl ?_
 refine JO_q (QE_ld1 0 rfl rfl rfl rfl rfl) rfl ?_
 refine JO_q (QE_faB rfl rfl rfl rfl) rfl ?_
 refine JO_q (QE_ld1 0 rfl rfl rfl rfl rfl) rfl ?_
 refine JO_q (QE_add' (c := ((tn + 1 : Nat) : Int)) rfl rfl (by rw [w64 (by omega) (by omega)]; omega)) rfl ?_
 refine JO_q (QE_stLH (l := abcB) rfl rfl rfl rfl rfl (by omega) (by show tn + 1 ≤ 5; omega)) rfl ?_
 refine JO_q (QE_as rfl) rfl ?_
 refine JO_nil ?_
 refine thenQ_n ?_
 refine JC_seq ?_
 refine JC_region ?_
 refine JO_q (QE_faB rfl rfl rfl rfl) rfl ?_
 refine JO_q (QE_ldA 0 [_, _] rfl rfl rfl rfl rfl) rfl ?_
 refine JO_call (first := []) (captured := []) rfl rfl rfl (rterm_ac D _ _ ax ha.2.1) ?_
 rintro _ _ s2 h2 ⟨rfl, rfl⟩
 refine JO_q (QE_as rfl) rfl ?_
 refine JO_nil ?_
 refine thenQ_n ?_
 refine JC_seq ?_
 refine JC_region ?_
 refine JO_q (QE_faB rfl rfl rfl rfl) rfl ?_
 refine JO_q (QE_ldA 0 [_, _] rfl rfl rfl rfl rfl) rfl ?_
 refine JO_call (first := []) (captured := []) rfl rfl rfl (rterm_ac D _ _ ay ha.2.2) ?_
 rintro _ _ s3 h3 ⟨rfl, rfl⟩
 refine JO_q (QE_as rfl) rfl ?_
 refine JO_nil ?_
 refine thenQ_n ?_
 refine JC_seq ?_
 refine JC_region ?_
 refine JO_bs [(_, _), (_, _), (_, _), (_, _), (_, _), (_, _)] [_, _, _, _, _, _] rfl rfl rfl rfl rfl rfl rfl rfl rfl ?_
 intro βn s4 h4 hcb
 refine JO_q (QE_as rfl) rfl ?_
 refine JO_nil ?_
 refine thenQ_n ?_
 refine JC_seq ?_
 refine JC_seq ?_
 refine JC_region ?_
 refine JO_q (QE_fa0 rfl rfl rfl rfl) rfl ?_
 refine JO_q (QE_ld1 0 rfl rfl rfl rfl rfl) rfl ?_
 refine JO_call (first := []) (captured := []) rfl rfl rfl (in_ac D _ _ _ _ _) ?_
 rintro _ _ s5 h5 ⟨rfl, rfl⟩
 refine JO_nil ?_
 refine thenQ_n ?_
 refine JC_ifD rfl (fun c6 => ?_) (fun c6 => ?_)
 ·
  have hk15 : k = 1 ∨ k = 2 ∨ k = 3 ∨ k = 4 ∨ k = 5 := by have := c6; omega
  have hol := opN_len k (by omega)
  refine JC_seq ?_
  refine JC_region ?_
  refine JO_q (QE_mv rfl) rfl ?_
  refine JO_q (QE_fa0 rfl rfl rfl rfl) rfl ?_
  refine JO_q (QE_ld1 0 rfl rfl rfl rfl rfl) rfl ?_
  refine JO_q (QE_ia1 rfl rfl rfl rfl rfl rfl (show k < 6 by omega)) rfl ?_
  refine JO_q (QE_ldsR0 rfl rfl rfl (nm_at (hcb.le h5) (show k < 6 by omega)) rfl) rfl ?_
  refine JO_q (QE_sadd rfl rfl (by simp only [List.length_append, List.length_cons, List.length_nil]; omega)) rfl ?_
  refine JO_q (QE_sadd rfl rfl (by simp only [List.length_append, List.length_cons, List.length_nil]; omega)) rfl ?_
  refine JO_q (QE_mv rfl) rfl ?_
  refine JO_q (QE_sadd rfl rfl (by simp only [List.length_append, List.length_cons, List.length_nil]; omega)) rfl ?_
  refine JO_q (QE_sadd rfl rfl (by simp only [List.length_append, List.length_cons, List.length_nil]; omega)) rfl ?_
  refine JO_q (QE_mv rfl) rfl ?_
  refine JO_q (QE_sadd rfl rfl (by simp only [List.length_append, List.length_cons, List.length_nil]; omega)) rfl ?_
  refine JO_q (QE_sadd rfl rfl (by simp only [List.length_append, List.length_cons, List.length_nil]; omega)) rfl ?_
  refine JO_q (QE_mv rfl) rfl ?_
  refine JO_q (QE_sadd rfl rfl (by simp only [List.length_append, List.length_cons, List.length_nil]; omega)) rfl ?_
  refine JO_q (QE_sadd rfl rfl (by simp only [List.length_append, List.length_cons, List.length_nil]; omega)) rfl ?_
  refine JO_q (QE_as rfl) rfl ?_
  refine JO_nil ?_
  refine thenQ_n ?_
  refine JC_ret ?_
  refine thenQ_r ?_
  refine retQ_mk [_] L (.inr rfl) (.tmp rfl (.nil)) rfl (Le.trans (Le.trans (Le.trans (Le.trans h1 h2) h3) h4) h5) (fun sR hS2 => ?_)
  refine ⟨?_, rfl⟩
  try simp only [reg_cut htn]
  first
    | (rcases hk15 with rfl | rfl | rfl | rfl | rfl <;> (simp [resV, wordsA, sentK, sentI, genI, joinW, opN, opNames]; done))
    | (simp [resV, wordsA, sentK, sentI, genI, joinW]; done)
 ·
  have hn15 : ¬ (1 ≤ k ∧ k ≤ 5) := by have := c6; omega
  refine JC_skip ?_
  refine thenQ_n ?_
  refine JC_seq ?_
  refine JC_seq ?_
  refine JC_region ?_
  refine JO_q (QE_fa0 rfl rfl rfl rfl) rfl ?_
  refine JO_q (QE_ld1 0 rfl rfl rfl rfl rfl) rfl ?_
  refine JO_nil ?_
  refine thenQ_n ?_
  refine JC_block ?_
  refine JC_seq ?_
  refine JC_region ?_
  refine JO_q (QE_eq rfl rfl) rfl ?_
  refine JO_q (QE_as rfl) rfl ?_
  refine JO_nil ?_
  refine thenQ_n ?_
  refine JC_ifD rfl (fun c7 => ?_) (fun c7 => ?_)
  ·
   have hkE : k = 0 := by omega
   subst hkE
   refine JC_seq ?_
   refine JC_region ?_
   refine JO_q (QE_mv rfl) rfl ?_
   refine JO_q (QE_sadd rfl rfl (by simp only [List.length_append, List.length_cons, List.length_nil]; omega)) rfl ?_
   refine JO_q (QE_sadd rfl rfl (by simp only [List.length_append, List.length_cons, List.length_nil]; omega)) rfl ?_
   refine JO_q (QE_mv rfl) rfl ?_
   refine JO_q (QE_sadd rfl rfl (by simp only [List.length_append, List.length_cons, List.length_nil]; omega)) rfl ?_
   refine JO_q (QE_sadd rfl rfl (by simp only [List.length_append, List.length_cons, List.length_nil]; omega)) rfl ?_
   refine JO_q (QE_as rfl) rfl ?_
   refine JO_nil ?_
   refine thenQ_n ?_
   refine JC_ret ?_
   refine blockQ_r ?_
   refine thenQ_r ?_
   refine retQ_mk [_] L (.inr rfl) (.tmp rfl (.nil)) rfl (Le.trans (Le.trans (Le.trans (Le.trans h1 h2) h3) h4) h5) (fun sR hS2 => ?_)
   refine ⟨?_, rfl⟩
   try simp only [reg_cut htn]
   first
     | (rcases hk15 with rfl | rfl | rfl | rfl | rfl <;> (simp [resV, wordsA, sentK, sentI, genI, joinW, opN, opNames]; done))
     | (simp [resV, wordsA, sentK, sentI, genI, joinW]; done)
  ·
   refine JC_seq ?_
   refine JC_region ?_
   refine JO_q (QE_eq rfl rfl) rfl ?_
   refine JO_q (QE_as rfl) rfl ?_
   refine JO_nil ?_
   refine thenQ_n ?_
   refine JC_ifD rfl (fun c8 => ?_) (fun c8 => ?_)
   ·
    have hkE : k = 6 := by omega
    subst hkE
    refine JC_seq ?_
    refine JC_region ?_
    refine JO_q (QE_mv rfl) rfl ?_
    refine JO_q (QE_sadd rfl rfl (by simp only [List.length_append, List.length_cons, List.length_nil]; omega)) rfl ?_
    refine JO_q (QE_sadd rfl rfl (by simp only [List.length_append, List.length_cons, List.length_nil]; omega)) rfl ?_
    refine JO_q (QE_mv rfl) rfl ?_
    refine JO_q (QE_sadd rfl rfl (by simp only [List.length_append, List.length_cons, List.length_nil]; omega)) rfl ?_
    refine JO_q (QE_sadd rfl rfl (by simp only [List.length_append, List.length_cons, List.length_nil]; omega)) rfl ?_
    refine JO_q (QE_mv rfl) rfl ?_
    refine JO_q (QE_sadd rfl rfl (by simp only [List.length_append, List.length_cons, List.length_nil]; omega)) rfl ?_
    refine JO_q (QE_sadd rfl rfl (by simp only [List.length_append, List.length_cons, List.length_nil]; omega)) rfl ?_
    refine JO_q (QE_as rfl) rfl ?_
    refine JO_nil ?_
    refine thenQ_n ?_
    refine JC_ret ?_
    refine blockQ_r ?_
    refine thenQ_r ?_
    refine retQ_mk [_] L (.inr rfl) (.tmp rfl (.nil)) rfl (Le.trans (Le.trans (Le.trans (Le.trans h1 h2) h3) h4) h5) (fun sR hS2 => ?_)
    refine ⟨?_, rfl⟩
    try simp only [reg_cut htn]
    first
      | (rcases hk15 with rfl | rfl | rfl | rfl | rfl <;> (simp [resV, wordsA, sentK, sentI, genI, joinW, opN, opNames]; done))
      | (simp [resV, wordsA, sentK, sentI, genI, joinW]; done)
   ·
    refine JC_seq ?_
    refine JC_region ?_
    refine JO_q (QE_eq rfl rfl) rfl ?_
    refine JO_q (QE_as rfl) rfl ?_
    refine JO_nil ?_
    refine thenQ_n ?_
    refine JC_ifD rfl (fun c9 => ?_) (fun c9 => ?_)
    ·
     have hkE : k = 7 := by omega
     subst hkE
     refine JC_seq ?_
     refine JC_region ?_
     refine JO_q (QE_mv rfl) rfl ?_
     refine JO_q (QE_sadd rfl rfl (by simp only [List.length_append, List.length_cons, List.length_nil]; omega)) rfl ?_
     refine JO_q (QE_sadd rfl rfl (by simp only [List.length_append, List.length_cons, List.length_nil]; omega)) rfl ?_
     refine JO_q (QE_mv rfl) rfl ?_
     refine JO_q (QE_sadd rfl rfl (by simp only [List.length_append, List.length_cons, List.length_nil]; omega)) rfl ?_
     refine JO_q (QE_sadd rfl rfl (by simp only [List.length_append, List.length_cons, List.length_nil]; omega)) rfl ?_
     refine JO_q (QE_mv rfl) rfl ?_
     refine JO_q (QE_sadd rfl rfl (by simp only [List.length_append, List.length_cons, List.length_nil]; omega)) rfl ?_
     refine JO_q (QE_sadd rfl rfl (by simp only [List.length_append, List.length_cons, List.length_nil]; omega)) rfl ?_
     refine JO_q (QE_as rfl) rfl ?_
     refine JO_nil ?_
     refine thenQ_n ?_
     refine JC_ret ?_
     refine blockQ_r ?_
     refine thenQ_r ?_
     refine retQ_mk [_] L (.inr rfl) (.tmp rfl (.nil)) rfl (Le.trans (Le.trans (Le.trans (Le.trans h1 h2) h3) h4) h5) (fun sR hS2 => ?_)
     refine ⟨?_, rfl⟩
     try simp only [reg_cut htn]
     first
       | (rcases hk15 with rfl | rfl | rfl | rfl | rfl <;> (simp [resV, wordsA, sentK, sentI, genI, joinW, opN, opNames]; done))
       | (simp [resV, wordsA, sentK, sentI, genI, joinW]; done)
    ·
     refine JC_seq ?_
     refine JC_region ?_
     refine JO_q (QE_eq rfl rfl) rfl ?_
     refine JO_q (QE_as rfl) rfl ?_
     refine JO_nil ?_
     refine thenQ_n ?_
     refine JC_ifD rfl (fun c10 => ?_) (fun c10 => ?_)
     ·
      have hkE : k = 8 := by omega
      subst hkE
      refine JC_seq ?_
      refine JC_region ?_
      refine JO_q (QE_mv rfl) rfl ?_
      refine JO_q (QE_sadd rfl rfl (by simp only [List.length_append, List.length_cons, List.length_nil]; omega)) rfl ?_
      refine JO_q (QE_sadd rfl rfl (by simp only [List.length_append, List.length_cons, List.length_nil]; omega)) rfl ?_
      refine JO_q (QE_mv rfl) rfl ?_
      refine JO_q (QE_sadd rfl rfl (by simp only [List.length_append, List.length_cons, List.length_nil]; omega)) rfl ?_
      refine JO_q (QE_sadd rfl rfl (by simp only [List.length_append, List.length_cons, List.length_nil]; omega)) rfl ?_
      refine JO_q (QE_mv rfl) rfl ?_
      refine JO_q (QE_sadd rfl rfl (by simp only [List.length_append, List.length_cons, List.length_nil]; omega)) rfl ?_
      refine JO_q (QE_sadd rfl rfl (by simp only [List.length_append, List.length_cons, List.length_nil]; omega)) rfl ?_
      refine JO_q (QE_as rfl) rfl ?_
      refine JO_nil ?_
      refine thenQ_n ?_
      refine JC_ret ?_
      refine blockQ_r ?_
      refine thenQ_r ?_
      refine retQ_mk [_] L (.inr rfl) (.tmp rfl (.nil)) rfl (Le.trans (Le.trans (Le.trans (Le.trans h1 h2) h3) h4) h5) (fun sR hS2 => ?_)
      refine ⟨?_, rfl⟩
      try simp only [reg_cut htn]
      first
        | (rcases hk15 with rfl | rfl | rfl | rfl | rfl <;> (simp [resV, wordsA, sentK, sentI, genI, joinW, opN, opNames]; done))
        | (simp [resV, wordsA, sentK, sentI, genI, joinW]; done)
     ·
      refine JC_seq ?_
      refine JC_region ?_
      refine JO_q (QE_eq rfl rfl) rfl ?_
      refine JO_q (QE_as rfl) rfl ?_
      refine JO_nil ?_
      refine thenQ_n ?_
      refine JC_ifD rfl (fun c11 => ?_) (fun c11 => ?_)
      ·
       have hkE : k = 9 := by omega
       subst hkE
       refine JC_seq ?_
       refine JC_region ?_
       refine JO_q (QE_mv rfl) rfl ?_
       refine JO_q (QE_sadd rfl rfl (by simp only [List.length_append, List.length_cons, List.length_nil]; omega)) rfl ?_
       refine JO_q (QE_sadd rfl rfl (by simp only [List.length_append, List.length_cons, List.length_nil]; omega)) rfl ?_
       refine JO_q (QE_mv rfl) rfl ?_
       refine JO_q (QE_sadd rfl rfl (by simp only [List.length_append, List.length_cons, List.length_nil]; omega)) rfl ?_
       refine JO_q (QE_sadd rfl rfl (by simp only [List.length_append, List.length_cons, List.length_nil]; omega)) rfl ?_
       refine JO_q (QE_mv rfl) rfl ?_
       refine JO_q (QE_sadd rfl rfl (by simp only [List.length_append, List.length_cons, List.length_nil]; omega)) rfl ?_
       refine JO_q (QE_sadd rfl rfl (by simp only [List.length_append, List.length_cons, List.length_nil]; omega)) rfl ?_
       refine JO_q (QE_as rfl) rfl ?_
       refine JO_nil ?_
       refine thenQ_n ?_
       refine JC_ret ?_
       refine blockQ_r ?_
       refine thenQ_r ?_
       refine retQ_mk [_] L (.inr rfl) (.tmp rfl (.nil)) rfl (Le.trans (Le.trans (Le.trans (Le.trans h1 h2) h3) h4) h5) (fun sR hS2 => ?_)
       refine ⟨?_, rfl⟩
       try simp only [reg_cut htn]
       first
         | (rcases hk15 with rfl | rfl | rfl | rfl | rfl <;> (simp [resV, wordsA, sentK, sentI, genI, joinW, opN, opNames]; done))
         | (simp [resV, wordsA, sentK, sentI, genI, joinW]; done)
      ·
       refine JC_seq ?_
       refine JC_region ?_
       refine JO_q (QE_eq rfl rfl) rfl ?_
       refine JO_q (QE_as rfl) rfl ?_
       refine JO_nil ?_
       refine thenQ_n ?_
       refine JC_ifD rfl (fun c12 => ?_) (fun c12 => ?_)
       ·
        have hkE : k = 10 := by omega
        subst hkE
        refine JC_seq ?_
        refine JC_region ?_
        refine JO_q (QE_mv rfl) rfl ?_
        refine JO_q (QE_sadd rfl rfl (by simp only [List.length_append, List.length_cons, List.length_nil]; omega)) rfl ?_
        refine JO_q (QE_sadd rfl rfl (by simp only [List.length_append, List.length_cons, List.length_nil]; omega)) rfl ?_
        refine JO_q (QE_mv rfl) rfl ?_
        refine JO_q (QE_sadd rfl rfl (by simp only [List.length_append, List.length_cons, List.length_nil]; omega)) rfl ?_
        refine JO_q (QE_sadd rfl rfl (by simp only [List.length_append, List.length_cons, List.length_nil]; omega)) rfl ?_
        refine JO_q (QE_mv rfl) rfl ?_
        refine JO_q (QE_sadd rfl rfl (by simp only [List.length_append, List.length_cons, List.length_nil]; omega)) rfl ?_
        refine JO_q (QE_sadd rfl rfl (by simp only [List.length_append, List.length_cons, List.length_nil]; omega)) rfl ?_
        refine JO_q (QE_as rfl) rfl ?_
        refine JO_nil ?_
        refine thenQ_n ?_
        refine JC_ret ?_
        refine blockQ_r ?_
        refine thenQ_r ?_
        refine retQ_mk [_] L (.inr rfl) (.tmp rfl (.nil)) rfl (Le.trans (Le.trans (Le.trans (Le.trans h1 h2) h3) h4) h5) (fun sR hS2 => ?_)
        refine ⟨?_, rfl⟩
        try simp only [reg_cut htn]
        first
          | (rcases hk15 with rfl | rfl | rfl | rfl | rfl <;> (simp [resV, wordsA, sentK, sentI, genI, joinW, opN, opNames]; done))
          | (simp [resV, wordsA, sentK, sentI, genI, joinW]; done)
       ·
        refine JC_seq ?_
        refine JC_region ?_
        refine JO_q (QE_eq rfl rfl) rfl ?_
        refine JO_q (QE_as rfl) rfl ?_
        refine JO_nil ?_
        refine thenQ_n ?_
        refine JC_ifD rfl (fun c13 => ?_) (fun c13 => ?_)
        ·
         have hkE : k = 11 := by omega
         subst hkE
         refine JC_seq ?_
         refine JC_region ?_
         refine JO_q (QE_mv rfl) rfl ?_
         refine JO_q (QE_sadd rfl rfl (by simp only [List.length_append, List.length_cons, List.length_nil]; omega)) rfl ?_
         refine JO_q (QE_sadd rfl rfl (by simp only [List.length_append, List.length_cons, List.length_nil]; omega)) rfl ?_
         refine JO_q (QE_mv rfl) rfl ?_
         refine JO_q (QE_sadd rfl rfl (by simp only [List.length_append, List.length_cons, List.length_nil]; omega)) rfl ?_
         refine JO_q (QE_sadd rfl rfl (by simp only [List.length_append, List.length_cons, List.length_nil]; omega)) rfl ?_
         refine JO_q (QE_mv rfl) rfl ?_
         refine JO_q (QE_sadd rfl rfl (by simp only [List.length_append, List.length_cons, List.length_nil]; omega)) rfl ?_
         refine JO_q (QE_sadd rfl rfl (by simp only [List.length_append, List.length_cons, List.length_nil]; omega)) rfl ?_
         refine JO_q (QE_as rfl) rfl ?_
         refine JO_nil ?_
         refine thenQ_n ?_
         refine JC_ret ?_
         refine blockQ_r ?_
         refine thenQ_r ?_
         refine retQ_mk [_] L (.inr rfl) (.tmp rfl (.nil)) rfl (Le.trans (Le.trans (Le.trans (Le.trans h1 h2) h3) h4) h5) (fun sR hS2 => ?_)
         refine ⟨?_, rfl⟩
         try simp only [reg_cut htn]
         first
           | (rcases hk15 with rfl | rfl | rfl | rfl | rfl <;> (simp [resV, wordsA, sentK, sentI, genI, joinW, opN, opNames]; done))
           | (simp [resV, wordsA, sentK, sentI, genI, joinW]; done)
        ·
         refine JC_seq ?_
         refine JC_region ?_
         refine JO_q (QE_eq rfl rfl) rfl ?_
         refine JO_q (QE_as rfl) rfl ?_
         refine JO_nil ?_
         refine thenQ_n ?_
         refine JC_ifD rfl (fun c14 => ?_) (fun c14 => ?_)
         ·
          have hkE : k = 12 := by omega
          subst hkE
          refine JC_seq ?_
          refine JC_region ?_
          refine JO_q (QE_mv rfl) rfl ?_
          refine JO_q (QE_sadd rfl rfl (by simp only [List.length_append, List.length_cons, List.length_nil]; omega)) rfl ?_
          refine JO_q (QE_sadd rfl rfl (by simp only [List.length_append, List.length_cons, List.length_nil]; omega)) rfl ?_
          refine JO_q (QE_mv rfl) rfl ?_
          refine JO_q (QE_sadd rfl rfl (by simp only [List.length_append, List.length_cons, List.length_nil]; omega)) rfl ?_
          refine JO_q (QE_sadd rfl rfl (by simp only [List.length_append, List.length_cons, List.length_nil]; omega)) rfl ?_
          refine JO_q (QE_mv rfl) rfl ?_
          refine JO_q (QE_sadd rfl rfl (by simp only [List.length_append, List.length_cons, List.length_nil]; omega)) rfl ?_
          refine JO_q (QE_sadd rfl rfl (by simp only [List.length_append, List.length_cons, List.length_nil]; omega)) rfl ?_
          refine JO_q (QE_as rfl) rfl ?_
          refine JO_nil ?_
          refine thenQ_n ?_
          refine JC_ret ?_
          refine blockQ_r ?_
          refine thenQ_r ?_
          refine retQ_mk [_] L (.inr rfl) (.tmp rfl (.nil)) rfl (Le.trans (Le.trans (Le.trans (Le.trans h1 h2) h3) h4) h5) (fun sR hS2 => ?_)
          refine ⟨?_, rfl⟩
          try simp only [reg_cut htn]
          first
            | (rcases hk15 with rfl | rfl | rfl | rfl | rfl <;> (simp [resV, wordsA, sentK, sentI, genI, joinW, opN, opNames]; done))
            | (simp [resV, wordsA, sentK, sentI, genI, joinW]; done)
         ·
          refine JC_seq ?_
          refine JC_region ?_
          refine JO_q (QE_eq rfl rfl) rfl ?_
          refine JO_q (QE_as rfl) rfl ?_
          refine JO_nil ?_
          refine thenQ_n ?_
          refine JC_ifD rfl (fun c15 => ?_) (fun c15 => ?_)
          ·
           have hkE : k = 13 := by omega
           subst hkE
           refine JC_seq ?_
           refine JC_region ?_
           refine JO_q (QE_mv rfl) rfl ?_
           refine JO_q (QE_sadd rfl rfl (by simp only [List.length_append, List.length_cons, List.length_nil]; omega)) rfl ?_
           refine JO_q (QE_sadd rfl rfl (by simp only [List.length_append, List.length_cons, List.length_nil]; omega)) rfl ?_
           refine JO_q (QE_mv rfl) rfl ?_
           refine JO_q (QE_sadd rfl rfl (by simp only [List.length_append, List.length_cons, List.length_nil]; omega)) rfl ?_
           refine JO_q (QE_sadd rfl rfl (by simp only [List.length_append, List.length_cons, List.length_nil]; omega)) rfl ?_
           refine JO_q (QE_as rfl) rfl ?_
           refine JO_nil ?_
           refine thenQ_n ?_
           refine JC_ret ?_
           refine blockQ_r ?_
           refine thenQ_r ?_
           refine retQ_mk [_] L (.inr rfl) (.tmp rfl (.nil)) rfl (Le.trans (Le.trans (Le.trans (Le.trans h1 h2) h3) h4) h5) (fun sR hS2 => ?_)
           refine ⟨?_, rfl⟩
           try simp only [reg_cut htn]
           first
             | (rcases hk15 with rfl | rfl | rfl | rfl | rfl <;> (simp [resV, wordsA, sentK, sentI, genI, joinW, opN, opNames]; done))
             | (simp [resV, wordsA, sentK, sentI, genI, joinW]; done)
          ·
           refine JC_seq ?_
           refine JC_region ?_
           refine JO_q (QE_eq rfl rfl) rfl ?_
           refine JO_q (QE_as rfl) rfl ?_
           refine JO_nil ?_
           refine thenQ_n ?_
           refine JC_ifD rfl (fun c16 => ?_) (fun c16 => ?_)
           ·
            have hkE : k = 14 := by omega
            subst hkE
            refine JC_seq ?_
            refine JC_region ?_
            refine JO_q (QE_mv rfl) rfl ?_
            refine JO_q (QE_sadd rfl rfl (by simp only [List.length_append, List.length_cons, List.length_nil]; omega)) rfl ?_
            refine JO_q (QE_sadd rfl rfl (by simp only [List.length_append, List.length_cons, List.length_nil]; omega)) rfl ?_
            refine JO_q (QE_mv rfl) rfl ?_
            refine JO_q (QE_sadd rfl rfl (by simp only [List.length_append, List.length_cons, List.length_nil]; omega)) rfl ?_
            refine JO_q (QE_sadd rfl rfl (by simp only [List.length_append, List.length_cons, List.length_nil]; omega)) rfl ?_
            refine JO_q (QE_as rfl) rfl ?_
            refine JO_nil ?_
            refine thenQ_n ?_
            refine JC_ret ?_
            refine blockQ_r ?_
            refine thenQ_r ?_
            refine retQ_mk [_] L (.inr rfl) (.tmp rfl (.nil)) rfl (Le.trans (Le.trans (Le.trans (Le.trans h1 h2) h3) h4) h5) (fun sR hS2 => ?_)
            refine ⟨?_, rfl⟩
            try simp only [reg_cut htn]
            first
              | (rcases hk15 with rfl | rfl | rfl | rfl | rfl <;> (simp [resV, wordsA, sentK, sentI, genI, joinW, opN, opNames]; done))
              | (simp [resV, wordsA, sentK, sentI, genI, joinW]; done)
           ·
            refine JC_seq ?_
            refine JC_region ?_
            refine JO_q (QE_eq rfl rfl) rfl ?_
            refine JO_q (QE_as rfl) rfl ?_
            refine JO_nil ?_
            refine thenQ_n ?_
            refine JC_ifD rfl (fun c17 => ?_) (fun c17 => ?_)
            ·
             have hkE : k = 15 := by omega
             subst hkE
             refine JC_seq ?_
             refine JC_region ?_
             refine JO_q (QE_mv rfl) rfl ?_
             refine JO_q (QE_sadd rfl rfl (by simp only [List.length_append, List.length_cons, List.length_nil]; omega)) rfl ?_
             refine JO_q (QE_sadd rfl rfl (by simp only [List.length_append, List.length_cons, List.length_nil]; omega)) rfl ?_
             refine JO_q (QE_as rfl) rfl ?_
             refine JO_nil ?_
             refine thenQ_n ?_
             refine JC_ret ?_
             refine blockQ_r ?_
             refine thenQ_r ?_
             refine retQ_mk [_] L (.inr rfl) (.tmp rfl (.nil)) rfl (Le.trans (Le.trans (Le.trans (Le.trans h1 h2) h3) h4) h5) (fun sR hS2 => ?_)
             refine ⟨?_, rfl⟩
             try simp only [reg_cut htn]
             first
               | (rcases hk15 with rfl | rfl | rfl | rfl | rfl <;> (simp [resV, wordsA, sentK, sentI, genI, joinW, opN, opNames]; done))
               | (simp [resV, wordsA, sentK, sentI, genI, joinW]; done)
            ·
             refine JC_seq ?_
             refine JC_region ?_
             refine JO_q (QE_eq rfl rfl) rfl ?_
             refine JO_q (QE_as rfl) rfl ?_
             refine JO_nil ?_
             refine thenQ_n ?_
             refine JC_ifD rfl (fun c18 => ?_) (fun c18 => ?_)
             ·
              have hkE : k = 16 := by omega
              subst hkE
              refine JC_seq ?_
              refine JC_region ?_
              refine JO_q (QE_mv rfl) rfl ?_
              refine JO_q (QE_sadd rfl rfl (by simp only [List.length_append, List.length_cons, List.length_nil]; omega)) rfl ?_
              refine JO_q (QE_sadd rfl rfl (by simp only [List.length_append, List.length_cons, List.length_nil]; omega)) rfl ?_
              refine JO_q (QE_as rfl) rfl ?_
              refine JO_nil ?_
              refine thenQ_n ?_
              refine JC_ret ?_
              refine blockQ_r ?_
              refine thenQ_r ?_
              refine retQ_mk [_] L (.inr rfl) (.tmp rfl (.nil)) rfl (Le.trans (Le.trans (Le.trans (Le.trans h1 h2) h3) h4) h5) (fun sR hS2 => ?_)
              refine ⟨?_, rfl⟩
              try simp only [reg_cut htn]
              first
                | (rcases hk15 with rfl | rfl | rfl | rfl | rfl <;> (simp [resV, wordsA, sentK, sentI, genI, joinW, opN, opNames]; done))
                | (simp [resV, wordsA, sentK, sentI, genI, joinW]; done)
             ·
              refine JC_seq ?_
              refine JC_region ?_
              refine JO_q (QE_eq rfl rfl) rfl ?_
              refine JO_q (QE_as rfl) rfl ?_
              refine JO_nil ?_
              refine thenQ_n ?_
              refine JC_ifD rfl (fun c19 => ?_) (fun c19 => ?_)
              ·
               have hkE : k = 17 := by omega
               subst hkE
               refine JC_seq ?_
               refine JC_region ?_
               refine JO_q (QE_mv rfl) rfl ?_
               refine JO_q (QE_sadd rfl rfl (by simp only [List.length_append, List.length_cons, List.length_nil]; omega)) rfl ?_
               refine JO_q (QE_sadd rfl rfl (by simp only [List.length_append, List.length_cons, List.length_nil]; omega)) rfl ?_
               refine JO_q (QE_as rfl) rfl ?_
               refine JO_nil ?_
               refine thenQ_n ?_
               refine JC_ret ?_
               refine blockQ_r ?_
               refine thenQ_r ?_
               refine retQ_mk [_] L (.inr rfl) (.tmp rfl (.nil)) rfl (Le.trans (Le.trans (Le.trans (Le.trans h1 h2) h3) h4) h5) (fun sR hS2 => ?_)
               refine ⟨?_, rfl⟩
               try simp only [reg_cut htn]
               first
                 | (rcases hk15 with rfl | rfl | rfl | rfl | rfl <;> (simp [resV, wordsA, sentK, sentI, genI, joinW, opN, opNames]; done))
                 | (simp [resV, wordsA, sentK, sentI, genI, joinW]; done)
              ·
               refine JC_seq ?_
               refine JC_region ?_
               refine JO_q (QE_eq rfl rfl) rfl ?_
               refine JO_q (QE_as rfl) rfl ?_
               refine JO_nil ?_
               refine thenQ_n ?_
               refine JC_ifD rfl (fun c20 => ?_) (fun c20 => ?_)
               ·
                have hkE : k = 18 := by omega
                subst hkE
                refine JC_seq ?_
                refine JC_region ?_
                refine JO_q (QE_mv rfl) rfl ?_
                refine JO_q (QE_sadd rfl rfl (by simp only [List.length_append, List.length_cons, List.length_nil]; omega)) rfl ?_
                refine JO_q (QE_sadd rfl rfl (by simp only [List.length_append, List.length_cons, List.length_nil]; omega)) rfl ?_
                refine JO_q (QE_mv rfl) rfl ?_
                refine JO_q (QE_sadd rfl rfl (by simp only [List.length_append, List.length_cons, List.length_nil]; omega)) rfl ?_
                refine JO_q (QE_sadd rfl rfl (by simp only [List.length_append, List.length_cons, List.length_nil]; omega)) rfl ?_
                refine JO_q (QE_as rfl) rfl ?_
                refine JO_nil ?_
                refine thenQ_n ?_
                refine JC_ret ?_
                refine blockQ_r ?_
                refine thenQ_r ?_
                refine retQ_mk [_] L (.inr rfl) (.tmp rfl (.nil)) rfl (Le.trans (Le.trans (Le.trans (Le.trans h1 h2) h3) h4) h5) (fun sR hS2 => ?_)
                refine ⟨?_, rfl⟩
                try simp only [reg_cut htn]
                first
                  | (rcases hk15 with rfl | rfl | rfl | rfl | rfl <;> (simp [resV, wordsA, sentK, sentI, genI, joinW, opN, opNames]; done))
                  | (simp [resV, wordsA, sentK, sentI, genI, joinW]; done)
               ·
                have hkE : k = 19 := by omega
                subst hkE
                refine JC_skip ?_
                refine blockQ_n ?_
                refine thenQ_n ?_
                refine JC_seq ?_
                refine JC_region ?_
                refine JO_q (QE_mv rfl) rfl ?_
                refine JO_q (QE_sadd rfl rfl (by simp only [List.length_append, List.length_cons, List.length_nil]; omega)) rfl ?_
                refine JO_q (QE_sadd rfl rfl (by simp only [List.length_append, List.length_cons, List.length_nil]; omega)) rfl ?_
                refine JO_q (QE_mv rfl) rfl ?_
                refine JO_q (QE_sadd rfl rfl (by simp only [List.length_append, List.length_cons, List.length_nil]; omega)) rfl ?_
                refine JO_q (QE_sadd rfl rfl (by simp only [List.length_append, List.length_cons, List.length_nil]; omega)) rfl ?_
                refine JO_q (QE_mv rfl) rfl ?_
                refine JO_q (QE_sadd rfl rfl (by simp only [List.length_append, List.length_cons, List.length_nil]; omega)) rfl ?_
                refine JO_q (QE_sadd rfl rfl (by simp only [List.length_append, List.length_cons, List.length_nil]; omega)) rfl ?_
                refine JO_q (QE_as rfl) rfl ?_
                refine JO_nil ?_
                refine thenQ_n ?_
                refine JC_ret ?_
                refine retQ_mk [_] L (.inr rfl) (.tmp rfl (.nil)) rfl (Le.trans (Le.trans (Le.trans (Le.trans h1 h2) h3) h4) h5) (fun sR hS2 => ?_)
                refine ⟨?_, rfl⟩
                try simp only [reg_cut htn]
                first
                  | (rcases hk15 with rfl | rfl | rfl | rfl | rfl <;> (simp [resV, wordsA, sentK, sentI, genI, joinW, opN, opNames]; done))
                  | (simp [resV, wordsA, sentK, sentI, genI, joinW]; done)
end Go.Proofs.YtoeeblegplghmaaGreatDoor
namespace Go.Proofs.YtoeeblegplghmaaGreatDoor
open Go.FL
attribute [local irreducible] JC JO JA JB thenQ blockQ retQ AC fill CellsAt QE Ev Mid
def orderB : List UInt8 := [32, 97, 98, 99, 100, 101, 102, 103, 104, 105, 106, 107, 108, 109, 110, 111, 112, 113, 114, 115, 116, 117, 118, 119, 120, 121, 122, 65, 66, 67, 68, 69, 70, 71, 72, 73, 74, 75, 76, 77, 78, 79, 80, 81, 82, 83, 84, 85, 86, 87, 88, 89, 90, 48, 49, 50, 51, 52, 53, 54, 55, 56, 57, 46, 44, 59, 58]
theorem val_find0 : ∀ n, n < 256 → findB orderB (((UInt8.ofNat n).toNat : Nat) : Int) = valC (UInt8.ofNat n) := by decide +kernel
theorem val_find (c : UInt8) : findB orderB (c.toNat : Int) = valC c := by
  have := val_find0 c.toNat c.toNat_lt
  rwa [UInt8.ofNat_toNat] at this
theorem join_cell (c : Int) : joinW (cellW c) = joinW (machL.take 3) ++ 32 :: (decS c ++ 32 :: joinW (machL.drop 4)) := by
  rw [cellW, List.set_eq_take_append_cons_drop, if_pos (by rw [mach_len]; decide), join_app _ _ (by intro h; have := congrArg List.length h; rw [List.length_take, mach_len] at this; simp at this) (by simp)]
  congr 2
theorem open_fin {a b : List UInt8} {X : List UInt8} {c : Int} (hX : X = decS c) (ha : a = joinW (machL.take 3) ++ [32]) (hb : b = 32 :: joinW (machL.drop 4)) : a ++ (X ++ b) = joinW (cellW c) := by
  rw [join_cell, ha, hb, hX, List.append_assoc]; rfl
theorem joinN_snoc : ∀ (l : List (List UInt8)) (x : List UInt8), l ≠ [] → joinN (l ++ [x]) = joinN l ++ 10 :: x
  | [], _, h => absurd rfl h
  | [y], x, _ => rfl
  | y :: z :: r, x, _ => by
    have := joinN_snoc (z :: r) x (by simp)
    show y ++ 10 :: joinN ((z :: r) ++ [x]) = (y ++ 10 :: joinN (z :: r)) ++ 10 :: x
    rw [this, List.append_assoc]; rfl
theorem flds_lined {ws : List (List UInt8)} (h : ∀ w ∈ ws, bare1 w) {cn : Nat} (hc : chkS (joinW ws) = (cn : Int)) : flds (((joinW ws ++ [32, 67, 104, 101, 99, 107, 32]) ++ Lib.decDigits cn) ++ [46]) = withC ws := by
  have h1 := flds_row h (cn : Int) []
  rw [List.append_nil, flds_nil, List.append_nil] at h1
  rw [withC, hc, ← h1, ← flds_end _ 10 rfl]
  congr 1
  simp [rowP, cCheck, decS]
theorem linesT_size {t : Tab} (hT : TabP t) : sizeW (linesT t) ≤ 60000 := by
  have h1 := paras_len t.ins hT.ins
  have h2 := lines_len (withC (cellW t.cells))
  have h3 := withC_size (cellW t.cells)
  have h4 := para_size hT (cellW t.cells) (by simp [parasT])
  have h5 := hT.len
  rw [linesT, parasT, List.map_cons, sizeW_cons]
  omega
theorem take_size (l : List (List UInt8)) (k : Nat) : sizeW (l.take k) ≤ sizeW l := by
  have h := sizeW_app (l.take k) (l.drop k)
  rw [List.take_append_drop] at h; omega
theorem linesT_at {t : Tab} {k : Nat} {x : Ins} (h : t.ins[k]? = some x) : joinN ((linesT t).take (k + 1 + 1)) = (joinN ((linesT t).take (k + 1)) ++ [10]) ++ linesW (withC (insW x)) := by
  have hl : (linesT t)[k + 1]? = some (linesW (withC (insW x))) := by rw [linesT, parasT, List.map_cons, List.getElem?_cons_succ, List.map_map, List.getElem?_map, h]; rfl
  obtain ⟨hk, he⟩ := List.getElem?_eq_some_iff.1 hl
  rw [List.take_succ_eq_append_getElem hk, he, joinN_snoc _ _ (by intro e; have := congrArg List.length e; rw [List.length_take] at this; simp at this; rw [this] at hk; simp at hk), List.append_assoc]; rfl
set_option maxHeartbeats 1000000 in
set_option maxRecDepth 100000 in
theorem rhead_ac (D : Nat) (L : Hl) (s : World) (c : Int) (hu : U32 c) (nm : List UInt8) (hn : nm.length ≤ 1000000) (o : Bool) : AC Tryz.prog D 60 [.int .u32 c, St nm, .bool o] L s fun v L' _ => v = St (joinW (headW c nm o)) ∧ L = L' := by
 obtain ⟨u, rfl⟩ := Int.eq_ofNat_of_zero_le hu.1
 have hu2 := hu.2
 have hdl := dec_len (u := u) (by omega)
 refine AC_enter (TT := TT) (fn := Tryz.f60) TT_ok Tryz.func60 (by kernel_rfl) rfl Tryz.ntmps60 rfl (rs := [.tmp 6]) rfl [(0, _), (1, _), (2, _)] rfl ?_
 refine JC_seq ?_
 refine JC_region ?_
 refine JO_q (QE_as rfl) rfl ?_
 refine JO_nil ?_
 refine thenQ_n ?_
 refine JC_seq ?_
 refine JC_region ?_
 refine JO_q (QE_mv rfl) rfl ?_
 refine JO_call (first := []) (captured := []) rfl rfl rfl (decimal_ac D u (by omega) _ _) ?_
 rintro _ _ s1 h1 ⟨rfl, rfl⟩
 refine JO_q (QE_sadd rfl rfl (by simp only [List.length_append, List.length_cons, List.length_nil]; omega)) rfl ?_
 refine JO_q (QE_sadd rfl rfl (by simp only [List.length_append, List.length_cons, List.length_nil]; omega)) rfl ?_
 refine JO_q (QE_mv rfl) rfl ?_
 refine JO_q (QE_sadd rfl rfl (by simp only [List.length_append, List.length_cons, List.length_nil]; omega)) rfl ?_
 refine JO_q (QE_sadd rfl rfl (by simp only [List.length_append, List.length_cons, List.length_nil]; omega)) rfl ?_
 refine JO_q (QE_as rfl) rfl ?_
 refine JO_nil ?_
 refine thenQ_n ?_
 refine JC_seq ?_
 refine JC_seq ?_
 refine JC_region ?_
 refine JO_q (QE_mv rfl) rfl ?_
 refine JO_nil ?_
 refine thenQ_n ?_
 refine JC_if rfl (fun c2 => ?_) (fun c2 => ?_)
 ·
  have ho : o = true := c2
  refine JC_seq ?_
  refine JC_region ?_
  refine JO_q (QE_mv rfl) rfl ?_
  refine JO_q (QE_sadd rfl rfl (by simp only [List.length_append, List.length_cons, List.length_nil]; omega)) rfl ?_
  refine JO_q (QE_as rfl) rfl ?_
  refine JO_nil ?_
  refine thenQ_n ?_
  refine JC_ret ?_
  refine thenQ_r ?_
  refine retQ_mk [] L (.inr rfl) (.tmp rfl (.nil)) rfl h1 (fun sR hS2 => ?_)
  exact ⟨by rw [join_head, ho]; simp [resV, decS, anB], rfl⟩
 ·
  have ho : o = false := c2
  refine JC_skip ?_
  refine thenQ_n ?_
  refine JC_seq ?_
  refine JC_region ?_
  refine JO_q (QE_mv rfl) rfl ?_
  refine JO_q (QE_sadd rfl rfl (by simp only [List.length_append, List.length_cons, List.length_nil]; omega)) rfl ?_
  refine JO_q (QE_as rfl) rfl ?_
  refine JO_nil ?_
  refine thenQ_n ?_
  refine JC_ret ?_
  refine retQ_mk [] L (.inr rfl) (.tmp rfl (.nil)) rfl h1 (fun sR hS2 => ?_)
  exact ⟨by rw [join_head, ho]; simp [resV, decS, anB], rfl⟩
set_option maxHeartbeats 2000000 in
set_option maxRecDepth 100000 in
theorem rdesc_ac (D : Nat) (L : Hl) (s : World) (x : Ins) (A : Option Addr) (n c : Nat) (hA : Acs s A n c x.acts) (hx : InsP x) : AC Tryz.prog D 33 [.agg #[St x.name, .int .u32 x.code, .bool x.operand, .slice A n c]] L s fun v L' _ => v = St (joinW (insW x)) ∧ L = L' := by
 have hn := hA.1
 have hfew := hx.few
 have hnm := hx.nm
 simp only [labelB, Bool.and_eq_true, decide_eq_true_eq] at hnm
 refine AC_enter (TT := TT) (fn := Tryz.f33) TT_ok Tryz.func33 (by kernel_rfl) rfl Tryz.ntmps33 rfl (rs := [.tmp 2]) rfl [(0, _)] rfl ?_
 refine JC_seq ?_
 refine JC_region ?_
 refine JO_boxA rfl rfl ?_
 intro β1 s1 h1
 refine JO_q (QE_as rfl) rfl ?_
 refine JO_nil ?_
 refine thenQ_n ?_
 refine JC_seq ?_
 refine JC_region ?_
 refine JO_q (QE_faB rfl rfl rfl rfl) rfl ?_
 refine JO_q (QE_ld1 0 rfl rfl rfl rfl rfl) rfl ?_
 refine JO_q (QE_fa0 rfl rfl rfl rfl) rfl ?_
 refine JO_q (QE_ld1 0 rfl rfl rfl rfl rfl) rfl ?_
 refine JO_q (QE_faB rfl rfl rfl rfl) rfl ?_
 refine JO_q (QE_ld1 0 rfl rfl rfl rfl rfl) rfl ?_
 refine JO_call (first := []) (captured := []) rfl rfl rfl (rhead_ac D _ _ x.code hx.code x.name (by omega) x.operand) ?_
 rintro _ _ s2 h2 ⟨rfl, rfl⟩
 refine JO_q (QE_as rfl) rfl ?_
 refine JO_nil ?_
 refine thenQ_n ?_
 refine JC_seq ?_
 refine JC_seq ?_
 refine JC_region ?_
 refine JO_q (QE_as rfl) rfl ?_
 refine JO_nil ?_
 refine thenQ_n ?_
 refine JC_block ?_
 refine JC_loop (γ := Nat × List UInt8) (fun g => [(1, _), (2, _), (3, St g.2), (4, .int .i64 (g.1 : Int))]) (fun _ => _) (fun g tw => Le D s2 tw ∧ (g.1 ≤ n ∧ g.2 = joinW (headW x.code x.name x.operand) ++ ((x.acts.take g.1).map fun a => 32 :: joinW (wordsA a)).flatten)) (fun g => n - g.1) (fun _ _ _ h hl => ⟨h.1.trans hl, h.2⟩) (0, joinW (headW x.code x.name x.operand)) (Keeps.cons rfl (Keeps.cons rfl (Keeps.cons rfl (Keeps.cons rfl (Keeps.nil _))))) rfl ⟨Le.refl _, ⟨Nat.zero_le _, by simp⟩⟩ ?_
 intro g s3 I3
 obtain ⟨k, sv⟩ := g
 obtain ⟨hk0, hE⟩ := I3.2
 simp only at hk0 hE
 dsimp only
 have hsl : sv.length ≤ 700 := by
   have h1 := join_ins (x := x) (x.acts.take k) (headW x.code x.name x.operand) (by simp [headW]) (fun a ha => hx.acts a (List.mem_of_mem_take ha))
   rw [hE, ← h1]
   exact Nat.le_trans (join_len _) (part_size hx k)
 refine JC_seq ?_
 refine JC_seq ?_
 refine JC_region ?_
 refine JO_q (QE_mv rfl) rfl ?_
 refine JO_q (QE_faB rfl rfl rfl rfl) rfl ?_
 refine JO_q (QE_ld1 0 rfl rfl rfl rfl rfl) rfl ?_
 refine JO_q (QE_lenS rfl rfl rfl) rfl ?_
 refine JO_q (QE_lt rfl rfl) rfl ?_
 refine JO_nil ?_
 refine thenQ_n ?_
 refine JC_ifD rfl (fun c4 => ?_) (fun c4 => ?_)
 ·
  have hk : k < n := by omega
  obtain ⟨b, off, a, rfl, ha, hca, _⟩ := Acs.at_ (hA.le (Le.trans (Le.trans h1 h2) I3.1)) hk
  have haC := hx.acts a (List.mem_of_getElem? ha)
  have hwz := words_size haC
  have hwl := join_len (wordsA a)
  refine JC_skip ?_
  refine thenQ_n ?_
  refine JC_seq ?_
  refine JC_block ?_
  refine JC_region ?_
  refine JO_q (QE_mv rfl) rfl ?_
  refine JO_q (QE_sadd rfl rfl (by simp only [List.length_append, List.length_cons, List.length_nil]; omega)) rfl ?_
  refine JO_q (QE_faB rfl rfl rfl rfl) rfl ?_
  refine JO_q (QE_ld1 0 rfl rfl rfl rfl rfl) rfl ?_
  refine JO_q (QE_mv rfl) rfl ?_
  refine JO_q (QE_iaN rfl rfl rfl rfl rfl rfl hk) rfl ?_
  refine JO_q (QE_ldsA rfl rfl rfl (hca.le (Le.refl (D := D) _)) rfl) rfl ?_
  refine JO_call (first := []) (captured := []) rfl rfl rfl (rsent_ac D _ _ a haC.1 haC.2.1) ?_
  rintro _ _ s5 h5 ⟨rfl, rfl⟩
  refine JO_q (QE_sadd rfl rfl (by simp only [List.length_append, List.length_cons, List.length_nil]; omega)) rfl ?_
  refine JO_q (QE_as rfl) rfl ?_
  refine JO_nil ?_
  refine blockQ_n ?_
  refine thenQ_n ?_
  refine JC_region ?_
  refine JO_q (QE_mv rfl) rfl ?_
  refine JO_q (QE_add' rfl rfl (w64 (by omega) (by omega))) rfl ?_
  refine JO_q (QE_as rfl) rfl ?_
  refine JO_nil ?_
  refine thenQ_n ⟨(k + 1, (sv ++ [32]) ++ joinW (wordsA a)), [], (Keeps.cons rfl (Keeps.cons rfl (Keeps.cons rfl (Keeps.cons rfl (Keeps.nil _))))), rfl, ⟨(Le.trans I3.1 h5), ⟨by simp only; omega, by
    obtain ⟨hj, he⟩ := List.getElem?_eq_some_iff.1 ha
    simp only; rw [hE, List.take_succ_eq_append_getElem hj, he, List.map_append, List.flatten_append]; simp⟩⟩, (by simp only; omega)⟩
 ·
  have hfin : sv = joinW (insW x) := by
    rw [hE, List.take_of_length_le (by omega), insW, join_ins (x := x) x.acts (headW x.code x.name x.operand) (by simp [headW]) hx.acts]
  refine JC_exit ?_
  refine thenQ_x ?_
  refine thenQ_x ?_
  refine blockQ_x ?_
  refine thenQ_n ?_
  refine JC_seq ?_
  refine JC_region ?_
  refine JO_q (QE_mv rfl) rfl ?_
  refine JO_q (QE_as rfl) rfl ?_
  refine JO_nil ?_
  refine thenQ_n ?_
  refine JC_ret ?_
  refine retQ_mk [_] L (.inr rfl) (.tmp rfl (.nil)) rfl (Le.trans (Le.trans h1 h2) I3.1) (fun sR hS2 => ?_)
  exact ⟨by rw [hfin]; rfl, rfl⟩
set_option maxHeartbeats 1000000 in
set_option maxRecDepth 100000 in
theorem rval_ac (D : Nat) (L : Hl) (s : World) (c : UInt8) : AC Tryz.prog D 74 [.int .u8 (c.toNat : Int)] L s fun v L' _ => v = .int .i64 (valC c) ∧ L = L' := by
 refine AC_enter (TT := TT) (fn := Tryz.f74) TT_ok Tryz.func74 (by kernel_rfl) rfl Tryz.ntmps74 rfl (rs := [.tmp 2]) rfl [(0, _)] rfl ?_
 refine JC_seq ?_
 refine JC_region ?_
 refine JO_q (QE_as rfl) rfl ?_
 refine JO_nil ?_
 refine thenQ_n ?_
 refine JC_seq ?_
 refine JC_region ?_
 refine JO_q (QE_mv rfl) rfl ?_
 refine JO_call (first := []) (captured := []) rfl rfl rfl (find7_ac D _ _ orderB _ (by decide)) ?_
 rintro _ _ s1 h1 ⟨rfl, rfl⟩
 refine JO_q (QE_as rfl) rfl ?_
 refine JO_nil ?_
 refine thenQ_n ?_
 refine JC_ret ?_
 refine retQ_mk [] L (.inr rfl) (.tmp rfl (.nil)) rfl h1 (fun sR hS2 => ?_)
 exact ⟨by rw [val_find]; rfl, rfl⟩
set_option maxHeartbeats 1000000 in
set_option maxRecDepth 100000 in
theorem rcheck_ac (D : Nat) (L : Hl) (s : World) (l : List UInt8) (hl : l.length ≤ 4000000) : AC Tryz.prog D 42 [St l] L s fun v L' _ => v = .int .i64 (if okT l = true then chkS l else -1) ∧ L = L' := by
 refine AC_enter (TT := TT) (fn := Tryz.f42) TT_ok Tryz.func42 (by kernel_rfl) rfl Tryz.ntmps42 rfl (rs := [.tmp 2]) rfl [(0, _)] rfl ?_
 refine JC_seq ?_
 refine JC_region ?_
 refine JO_q (QE_as rfl) rfl ?_
 refine JO_nil ?_
 refine thenQ_n ?_
 refine JC_seq ?_
 refine JC_region ?_
 refine JO_q (QE_as rfl) rfl ?_
 refine JO_nil ?_
 refine thenQ_n ?_
 refine JC_seq ?_
 refine JC_seq ?_
 refine JC_region ?_
 refine JO_q (QE_as rfl) rfl ?_
 refine JO_nil ?_
 refine thenQ_n ?_
 refine JC_block ?_
 refine JC_loop (γ := Nat) (fun k => [(0, _), (2, _), (3, .int .i64 (sumF 0 (l.take k))), (4, .int .i64 (k : Int))]) (fun _ => _) (fun k tw => Le D s tw ∧ (k ≤ l.length ∧ (∀ i c, i < k → l[i]? = some c → okC c = true) ∧ 0 ≤ sumF 0 (l.take k) ∧ sumF 0 (l.take k) ≤ 264000000 * (k : Int))) (fun k => l.length - k) (fun _ _ _ h hl => ⟨h.1.trans hl, h.2⟩) 0 (Keeps.cons rfl (Keeps.cons rfl (Keeps.cons rfl (Keeps.cons rfl (Keeps.nil _))))) rfl ⟨Le.refl _, ⟨Nat.zero_le _, fun i c hi => by omega, by simp [sumF], by simp [sumF]⟩⟩ ?_
 intro k s1 I1
 obtain ⟨hk0, hI, hs1, hs2⟩ := I1.2
 refine JC_seq ?_
 refine JC_seq ?_
 refine JC_region ?_
 refine JO_q (QE_mv rfl) rfl ?_
 refine JO_q (QE_mv rfl) rfl ?_
 refine JO_q (QE_lenT rfl rfl rfl) rfl ?_
 refine JO_q (QE_lt rfl rfl) rfl ?_
 refine JO_nil ?_
 refine thenQ_n ?_
 refine JC_ifD rfl (fun c2 => ?_) (fun c2 => ?_)
 ·
  have hk : k < l.length := by omega
  obtain ⟨ch, hch⟩ : ∃ ch, l[k]? = some ch := ⟨_, List.getElem?_eq_getElem hk⟩
  refine JC_skip ?_
  refine thenQ_n ?_
  refine JC_seq ?_
  refine JC_block ?_
  refine JC_seq ?_
  refine JC_region ?_
  refine JO_q (QE_mv rfl) rfl ?_
  refine JO_q (QE_mv rfl) rfl ?_
  refine JO_q (QE_ix rfl rfl rfl rfl hch) rfl ?_
  refine JO_call (first := []) (captured := []) rfl rfl rfl (rval_ac D _ _ ch) ?_
  rintro _ _ s3 h3 ⟨rfl, rfl⟩
  refine JO_q (QE_as rfl) rfl ?_
  refine JO_nil ?_
  refine thenQ_n ?_
  refine JC_seq ?_
  refine JC_seq ?_
  refine JC_region ?_
  refine JO_q (QE_mv rfl) rfl ?_
  refine JO_q (QE_lt rfl rfl) rfl ?_
  refine JO_nil ?_
  refine thenQ_n ?_
  refine JC_ifD rfl (fun c4 => ?_) (fun c4 => ?_)
  ·
   have hbad : okC ch = false := decide_eq_false (by omega)
   refine JC_seq ?_
   refine JC_region ?_
   refine JO_q (QE_as rfl) rfl ?_
   refine JO_nil ?_
   refine thenQ_n ?_
   refine JC_ret ?_
   refine thenQ_r ?_
   refine blockQ_r ?_
   refine thenQ_r ?_
   refine thenQ_r ?_
   refine blockQ_r ?_
   refine thenQ_r ?_
   refine retQ_mk [] L (.inr rfl) (.tmp rfl (.nil)) rfl (Le.trans I1.1 h3) (fun sR hS2 => ?_)
   refine ⟨?_, rfl⟩
   first
     | (rw [okT_bad hch hbad]; rfl)
     | (have hokT := okT_all (fun i c hi hc => hI i c hi hc)
        have e : (sumF 0 l).tmod 9973 = chkS l := Int.tmod_eq_emod_of_nonneg hs1
        simp only [resV, hokT, if_true, e])
  ·
   have hok : okC ch = true := decide_eq_true (by omega)
   have hmb := mul_bound (val_le hok) (show k + 1 ≤ 4000000 by omega)
   rw [Int.mul_comm] at hmb
   refine JC_skip ?_
   refine thenQ_n ?_
   refine JC_region ?_
   refine JO_q (QE_mv rfl) rfl ?_
   refine JO_q (QE_mv rfl) rfl ?_
   refine JO_q (QE_add' rfl rfl (w64 (by omega) (by omega))) rfl ?_
   refine JO_q (QE_mv rfl) rfl ?_
   refine JO_q (QE_mul' rfl rfl (w64 (by omega) (by omega))) rfl ?_
   refine JO_q (QE_add' rfl rfl (w64 (by omega) (by omega))) rfl ?_
   refine JO_q (QE_as rfl) rfl ?_
   refine JO_nil ?_
   refine blockQ_n ?_
   refine thenQ_n ?_
   refine JC_region ?_
   refine JO_q (QE_mv rfl) rfl ?_
   refine JO_q (QE_add' rfl rfl (w64 (by omega) (by omega))) rfl ?_
   refine JO_q (QE_as rfl) rfl ?_
   refine JO_nil ?_
   refine thenQ_n ⟨(k + 1), [], (Keeps.cons rfl (Keeps.cons rfl (Keeps.cons (by rw [sumF_take hch, Int.mul_comm (valC ch)]; rfl) (Keeps.cons rfl (Keeps.nil _))))), rfl, ⟨(Le.trans I1.1 h3), ⟨by omega, below_succ hI hch hok, by rw [sumF_take hch, Int.mul_comm]; omega, by rw [sumF_take hch, Int.mul_comm]; omega⟩⟩, (by omega)⟩
 ·
  have hkE : k = l.length := by omega
  subst hkE
  rw [List.take_length] at *
  refine JC_exit ?_
  refine thenQ_x ?_
  refine thenQ_x ?_
  refine blockQ_x ?_
  refine thenQ_n ?_
  refine JC_seq ?_
  refine JC_region ?_
  refine JO_q (QE_mv rfl) rfl ?_
  refine JO_q (QE_rem rfl rfl (by omega)) rfl ?_
  refine JO_q (QE_as rfl) rfl ?_
  refine JO_nil ?_
  refine thenQ_n ?_
  refine JC_ret ?_
  refine retQ_mk [] L (.inr rfl) (.tmp rfl (.nil)) rfl I1.1 (fun sR hS2 => ?_)
  refine ⟨?_, rfl⟩
  first
    | (rw [okT_bad hch hbad]; rfl)
    | (have hokT := okT_all (fun i c hi hc => hI i c hi hc)
       have e : (sumF 0 l).tmod 9973 = chkS l := Int.tmod_eq_emod_of_nonneg hs1
       simp only [resV, hokT, if_true, e])
set_option maxHeartbeats 2000000 in
set_option maxRecDepth 100000 in
theorem rlined_ac (D : Nat) (L : Hl) (s : World) (ws : List (List UInt8)) (hok : ∀ w ∈ ws, okW w) (hz : sizeW ws ≤ 1000000) : AC Tryz.prog D 31 [St (joinW ws)] L s fun v L' _ => v = St (linesW (withC ws)) ∧ L = L' := by
 have hjl := join_len ws
 have hokT : okT (joinW ws) = true := join_ok fun w hw => (hok w hw).2.1
 obtain ⟨cn, hcn⟩ := Int.eq_ofNat_of_zero_le (chk_lt (joinW ws)).1
 have hc2 := (chk_lt (joinW ws)).2
 have hdl := (dec_len (u := cn) (by omega)).2
 have hwc := withC_size ws
 refine AC_enter (TT := TT) (fn := Tryz.f31) TT_ok Tryz.func31 (by kernel_rfl) rfl Tryz.ntmps31 rfl (rs := [.tmp 2]) rfl [(0, _)] rfl ?_
 refine JC_seq ?_
 refine JC_region ?_
 refine JO_q (QE_as rfl) rfl ?_
 refine JO_nil ?_
 refine thenQ_n ?_
 refine JC_seq ?_
 refine JC_region ?_
 refine JO_q (QE_mv rfl) rfl ?_
 refine JO_q (QE_sadd rfl rfl (by simp only [List.length_append, List.length_cons, List.length_nil]; omega)) rfl ?_
 refine JO_q (QE_mv rfl) rfl ?_
 refine JO_call (first := []) (captured := []) rfl rfl rfl (rcheck_ac D _ _ (joinW ws) (by omega)) ?_
 rintro _ _ s1 h1 ⟨rfl, rfl⟩
 rw [if_pos hokT, hcn]
 refine JO_q (QE_conv' rfl rfl rfl rfl rfl (show IntKind.u32.wrap (cn : Int) = (cn : Int) by rw [IntKind.wrap_u32]; omega)) rfl ?_
 refine JO_call (first := []) (captured := []) rfl rfl rfl (decimal_ac D cn (by omega) _ _) ?_
 rintro _ _ s2 h2 ⟨rfl, rfl⟩
 refine JO_q (QE_sadd rfl rfl (by simp only [List.length_append, List.length_cons, List.length_nil]; omega)) rfl ?_
 refine JO_q (QE_sadd rfl rfl (by simp only [List.length_append, List.length_cons, List.length_nil]; omega)) rfl ?_
 refine JO_call (first := []) (captured := []) rfl rfl rfl (rfields_ac D _ _ _ (by simp only [List.length_append, List.length_cons, List.length_nil]; omega)) ?_
 rintro _ _ s3 h3 ⟨rfl, A, n, c, rfl, hF⟩
 rw [flds_lined (fun w hw => (hok w hw).1) hcn] at hF
 have hn := hF.1
 have hcap := hF.2.1
 have hcap2 := hF.2.2.1
 refine JO_q (QE_as rfl) rfl ?_
 refine JO_nil ?_
 refine thenQ_n ?_
 refine JC_seq ?_
 refine JC_region ?_
 refine JO_q (QE_as rfl) rfl ?_
 refine JO_nil ?_
 refine thenQ_n ?_
 refine JC_seq ?_
 refine JC_region ?_
 refine JO_q (QE_as rfl) rfl ?_
 refine JO_nil ?_
 refine thenQ_n ?_
 refine JC_seq ?_
 refine JC_seq ?_
 refine JC_region ?_
 refine JO_q (QE_as rfl) rfl ?_
 refine JO_nil ?_
 refine thenQ_n ?_
 refine JC_block ?_
 refine JC_loop (γ := Nat × List UInt8 × List UInt8) (fun g => [(2, _), (3, _), (4, St g.2.1), (5, St g.2.2), (6, .int .i64 (g.1 : Int))]) (fun _ => _) (fun g tw => Le D s3 tw ∧ (g.1 ≤ n ∧ g.2.1.length + g.2.2.length + 1 + sizeW ((withC ws).drop g.1) ≤ 1 + sizeW (withC ws) ∧ lnF g.2.1 g.2.2 ((withC ws).drop g.1) = linesW (withC ws))) (fun g => n - g.1) (fun _ _ _ h hl => ⟨h.1.trans hl, h.2⟩) (0, [], []) (Keeps.cons rfl (Keeps.cons rfl (Keeps.cons rfl (Keeps.cons rfl (Keeps.cons rfl (Keeps.nil _)))))) rfl ⟨Le.refl _, ⟨Nat.zero_le _, by simp, rfl⟩⟩ ?_
 intro g s4 I4
 obtain ⟨k, tx, ln⟩ := g
 obtain ⟨hk0, hzz, hS1⟩ := I4.2
 simp only at hk0 hzz hS1
 dsimp only
 refine JC_seq ?_
 refine JC_seq ?_
 refine JC_region ?_
 refine JO_q (QE_mv rfl) rfl ?_
 refine JO_q (QE_mv rfl) rfl ?_
 refine JO_q (QE_lenS rfl rfl rfl) rfl ?_
 refine JO_q (QE_lt rfl rfl) rfl ?_
 refine JO_nil ?_
 refine thenQ_n ?_
 refine JC_ifD rfl (fun c5 => ?_) (fun c5 => ?_)
 ·
  have hk : k < n := by omega
  obtain ⟨b, off, w, rfl, hw, hcw, _⟩ := Strs.at_ (hF.le I4.1) hk
  rw [drop_at hw] at hzz hS1
  rw [sizeW_cons] at hzz
  refine JC_skip ?_
  refine thenQ_n ?_
  refine JC_seq ?_
  refine JC_block ?_
  refine JC_seq ?_
  refine JC_seq ?_
  refine JC_region ?_
  refine JO_q (QE_mv rfl) rfl ?_
  refine JO_q (QE_sne rfl rfl) rfl ?_
  refine JO_q (QE_mv rfl) rfl ?_
  refine JO_caseN (t := 24) rfl (fun c6 => ?_) (fun c6 => ?_)
  ·
   refine JO_gT rfl rfl ?_
   refine JO_q (QE_mv rfl) rfl ?_
   refine JO_gT rfl rfl ?_
   refine JO_q (QE_lenT rfl rfl rfl) rfl ?_
   refine JO_gT rfl rfl ?_
   refine JO_q (QE_add' rfl rfl (w64 (by omega) (by omega))) rfl ?_
   refine JO_gT rfl rfl ?_
   refine JO_q (QE_mv rfl) rfl ?_
   refine JO_gT rfl rfl ?_
   refine JO_q (QE_mv rfl) rfl ?_
   refine JO_gT rfl rfl ?_
   refine JO_q (QE_ia1 rfl rfl rfl rfl rfl rfl hk) rfl ?_
   refine JO_gT rfl rfl ?_
   refine JO_q (QE_ldsR0 rfl rfl rfl (hcw.le (Le.refl (D := D) _)) rfl) rfl ?_
   refine JO_gT rfl rfl ?_
   refine JO_q (QE_lenT rfl rfl rfl) rfl ?_
   refine JO_gT rfl rfl ?_
   refine JO_q (QE_add' rfl rfl (w64 (by omega) (by omega))) rfl ?_
   refine JO_gT rfl rfl ?_
   refine JO_q (QE_gt rfl rfl) rfl ?_
   refine JO_q (QE_pickT rfl rfl) rfl ?_
   refine JO_nil ?_
   refine thenQ_n ?_
   refine JC_ifD rfl (fun c7 => ?_) (fun c7 => ?_)
   ·
    have h35 : 72 < ln.length + 1 + w.length := by omega
    refine JC_seq ?_
    refine JC_region ?_
    refine JO_q (QE_mv rfl) rfl ?_
    refine JO_q (QE_mv rfl) rfl ?_
    refine JO_q (QE_sadd rfl rfl (by first | omega | (simp only [List.length_append, List.length_cons, List.length_nil]; omega))) rfl ?_
    refine JO_q (QE_sadd rfl rfl (by first | omega | (simp only [List.length_append, List.length_cons, List.length_nil]; omega))) rfl ?_
    refine JO_q (QE_as rfl) rfl ?_
    refine JO_nil ?_
    refine thenQ_n ?_
    refine JC_region ?_
    refine JO_q (QE_as rfl) rfl ?_
    refine JO_nil ?_
    refine thenQ_n ?_
    refine JC_seq ?_
    refine JC_seq ?_
    refine JC_region ?_
    refine JO_q (QE_mv rfl) rfl ?_
    refine JO_q (QE_cast (v' := .bool false) (QE_sne rfl rfl) (bF rfl)) rfl ?_
    refine JO_nil ?_
    refine thenQ_n ?_
    refine JC_ifF rfl ?_
    refine JC_skip ?_
    refine thenQ_n ?_
    refine JC_region ?_
    refine JO_q (QE_mv rfl) rfl ?_
    refine JO_q (QE_mv rfl) rfl ?_
    refine JO_q (QE_mv rfl) rfl ?_
    refine JO_q (QE_ia1 rfl rfl rfl rfl rfl rfl hk) rfl ?_
    refine JO_q (QE_ldsR0 rfl rfl rfl (hcw.le (Le.refl (D := D) _)) rfl) rfl ?_
    refine JO_q (QE_sadd rfl rfl (by first | omega | (simp only [List.length_append, List.length_cons, List.length_nil]; omega))) rfl ?_
    refine JO_q (QE_as rfl) rfl ?_
    refine JO_nil ?_
    refine blockQ_n ?_
    refine thenQ_n ?_
    refine JC_region ?_
    refine JO_q (QE_mv rfl) rfl ?_
    refine JO_q (QE_add' rfl rfl (w64 (by omega) (by omega))) rfl ?_
    refine JO_q (QE_as rfl) rfl ?_
    refine JO_nil ?_
    refine thenQ_n ⟨(k + 1, (tx ++ ln) ++ [10], [] ++ w), [], (Keeps.cons rfl (Keeps.cons rfl (Keeps.cons rfl (Keeps.cons rfl (Keeps.cons rfl (Keeps.nil _)))))), rfl, ⟨I4.1, by
      first
      | exact ⟨by simp only; omega, by simp only [List.length_append, List.length_cons, List.length_nil]; omega, by simp only; rw [← hS1, lnF, if_neg (by assumption), if_pos h35]; simp⟩
      | exact ⟨by simp only; omega, by simp only [List.length_append, List.length_cons, List.length_nil]; omega, by simp only; rw [← hS1, lnF, if_neg h41, if_neg (by assumption)]; simp⟩
      | exact absurd (by assumption) h41
      | exact absurd h41 (by assumption)
      | exact ⟨by simp only; omega, by simp only [List.length_append, List.length_cons, List.length_nil]; omega, by subst h41; simp only; rw [← hS1, lnF, if_pos rfl]; rfl⟩⟩, (by simp only; omega)⟩
   ·
    try have h35 : ¬ 72 < ln.length + 1 + w.length := by omega
    refine JC_skip ?_
    refine thenQ_n ?_
    refine JC_seq ?_
    refine JC_seq ?_
    refine JC_region ?_
    refine JO_q (QE_mv rfl) rfl ?_
    refine JO_q (QE_sne rfl rfl) rfl ?_
    refine JO_nil ?_
    refine thenQ_n ?_
    refine JC_ifN rfl (fun c8 => ?_) (fun c8 => ?_)
    ·
     have h41 : ¬ ln = [] := c8
     refine JC_region ?_
     refine JO_q (QE_mv rfl) rfl ?_
     refine JO_q (QE_sadd rfl rfl (by first | omega | (simp only [List.length_append, List.length_cons, List.length_nil]; omega))) rfl ?_
     refine JO_q (QE_as rfl) rfl ?_
     refine JO_nil ?_
     refine thenQ_n ?_
     refine JC_region ?_
     refine JO_q (QE_mv rfl) rfl ?_
     refine JO_q (QE_mv rfl) rfl ?_
     refine JO_q (QE_mv rfl) rfl ?_
     refine JO_q (QE_ia1 rfl rfl rfl rfl rfl rfl hk) rfl ?_
     refine JO_q (QE_ldsR0 rfl rfl rfl (hcw.le (Le.refl (D := D) _)) rfl) rfl ?_
     refine JO_q (QE_sadd rfl rfl (by first | omega | (simp only [List.length_append, List.length_cons, List.length_nil]; omega))) rfl ?_
     refine JO_q (QE_as rfl) rfl ?_
     refine JO_nil ?_
     refine blockQ_n ?_
     refine thenQ_n ?_
     refine JC_region ?_
     refine JO_q (QE_mv rfl) rfl ?_
     refine JO_q (QE_add' rfl rfl (w64 (by omega) (by omega))) rfl ?_
     refine JO_q (QE_as rfl) rfl ?_
     refine JO_nil ?_
     refine thenQ_n ⟨(k + 1, tx, (ln ++ [32]) ++ w), [], (Keeps.cons rfl (Keeps.cons rfl (Keeps.cons rfl (Keeps.cons rfl (Keeps.cons rfl (Keeps.nil _)))))), rfl, ⟨I4.1, by
       first
       | exact ⟨by simp only; omega, by simp only [List.length_append, List.length_cons, List.length_nil]; omega, by simp only; rw [← hS1, lnF, if_neg (by assumption), if_pos h35]; simp⟩
       | exact ⟨by simp only; omega, by simp only [List.length_append, List.length_cons, List.length_nil]; omega, by simp only; rw [← hS1, lnF, if_neg h41, if_neg (by assumption)]; simp⟩
       | exact absurd (by assumption) h41
       | exact absurd h41 (by assumption)
       | exact ⟨by simp only; omega, by simp only [List.length_append, List.length_cons, List.length_nil]; omega, by subst h41; simp only; rw [← hS1, lnF, if_pos rfl]; rfl⟩⟩, (by simp only; omega)⟩
    ·
     have h41 : ln = [] := c8
     refine JC_skip ?_
     refine thenQ_n ?_
     refine JC_region ?_
     refine JO_q (QE_mv rfl) rfl ?_
     refine JO_q (QE_mv rfl) rfl ?_
     refine JO_q (QE_mv rfl) rfl ?_
     refine JO_q (QE_ia1 rfl rfl rfl rfl rfl rfl hk) rfl ?_
     refine JO_q (QE_ldsR0 rfl rfl rfl (hcw.le (Le.refl (D := D) _)) rfl) rfl ?_
     refine JO_q (QE_sadd rfl rfl (by first | omega | (simp only [List.length_append, List.length_cons, List.length_nil]; omega))) rfl ?_
     refine JO_q (QE_as rfl) rfl ?_
     refine JO_nil ?_
     refine blockQ_n ?_
     refine thenQ_n ?_
     refine JC_region ?_
     refine JO_q (QE_mv rfl) rfl ?_
     refine JO_q (QE_add' rfl rfl (w64 (by omega) (by omega))) rfl ?_
     refine JO_q (QE_as rfl) rfl ?_
     refine JO_nil ?_
     refine thenQ_n ⟨(k + 1, tx, ln ++ w), [], (Keeps.cons rfl (Keeps.cons rfl (Keeps.cons rfl (Keeps.cons rfl (Keeps.cons rfl (Keeps.nil _)))))), rfl, ⟨I4.1, by
       first
       | exact ⟨by simp only; omega, by simp only [List.length_append, List.length_cons, List.length_nil]; omega, by simp only; rw [← hS1, lnF, if_neg (by assumption), if_pos h35]; simp⟩
       | exact ⟨by simp only; omega, by simp only [List.length_append, List.length_cons, List.length_nil]; omega, by simp only; rw [← hS1, lnF, if_neg h41, if_neg (by assumption)]; simp⟩
       | exact absurd (by assumption) h41
       | exact absurd h41 (by assumption)
       | exact ⟨by simp only; omega, by simp only [List.length_append, List.length_cons, List.length_nil]; omega, by subst h41; simp only; rw [← hS1, lnF, if_pos rfl]; rfl⟩⟩, (by simp only; omega)⟩
  ·
   refine JO_gF rfl rfl rfl rfl ?_
   refine JO_gF rfl rfl rfl rfl ?_
   refine JO_gF rfl rfl rfl rfl ?_
   refine JO_gF rfl rfl rfl rfl ?_
   refine JO_gF rfl rfl rfl rfl ?_
   refine JO_gF rfl rfl rfl rfl ?_
   refine JO_gF rfl rfl rfl rfl ?_
   refine JO_gF rfl rfl rfl rfl ?_
   refine JO_gF rfl rfl rfl rfl ?_
   refine JO_gF rfl rfl rfl rfl ?_
   refine JO_q (QE_pickF rfl rfl) rfl ?_
   refine JO_nil ?_
   refine thenQ_n ?_
   refine JC_ifF rfl ?_
   try have h35 : ¬ 72 < ln.length + 1 + w.length := by omega
   refine JC_skip ?_
   refine thenQ_n ?_
   refine JC_seq ?_
   refine JC_seq ?_
   refine JC_region ?_
   refine JO_q (QE_mv rfl) rfl ?_
   refine JO_q (QE_sne rfl rfl) rfl ?_
   refine JO_nil ?_
   refine thenQ_n ?_
   refine JC_ifN rfl (fun c9 => ?_) (fun c9 => ?_)
   ·
    have h41 : ¬ ln = [] := c9
    refine JC_region ?_
    refine JO_q (QE_mv rfl) rfl ?_
    refine JO_q (QE_sadd rfl rfl (by first | omega | (simp only [List.length_append, List.length_cons, List.length_nil]; omega))) rfl ?_
    refine JO_q (QE_as rfl) rfl ?_
    refine JO_nil ?_
    refine thenQ_n ?_
    refine JC_region ?_
    refine JO_q (QE_mv rfl) rfl ?_
    refine JO_q (QE_mv rfl) rfl ?_
    refine JO_q (QE_mv rfl) rfl ?_
    refine JO_q (QE_ia1 rfl rfl rfl rfl rfl rfl hk) rfl ?_
    refine JO_q (QE_ldsR0 rfl rfl rfl (hcw.le (Le.refl (D := D) _)) rfl) rfl ?_
    refine JO_q (QE_sadd rfl rfl (by first | omega | (simp only [List.length_append, List.length_cons, List.length_nil]; omega))) rfl ?_
    refine JO_q (QE_as rfl) rfl ?_
    refine JO_nil ?_
    refine blockQ_n ?_
    refine thenQ_n ?_
    refine JC_region ?_
    refine JO_q (QE_mv rfl) rfl ?_
    refine JO_q (QE_add' rfl rfl (w64 (by omega) (by omega))) rfl ?_
    refine JO_q (QE_as rfl) rfl ?_
    refine JO_nil ?_
    refine thenQ_n ⟨(k + 1, tx, (ln ++ [32]) ++ w), [], (Keeps.cons rfl (Keeps.cons rfl (Keeps.cons rfl (Keeps.cons rfl (Keeps.cons rfl (Keeps.nil _)))))), rfl, ⟨I4.1, by
      first
      | exact ⟨by simp only; omega, by simp only [List.length_append, List.length_cons, List.length_nil]; omega, by simp only; rw [← hS1, lnF, if_neg (by assumption), if_pos h35]; simp⟩
      | exact ⟨by simp only; omega, by simp only [List.length_append, List.length_cons, List.length_nil]; omega, by simp only; rw [← hS1, lnF, if_neg h41, if_neg (by assumption)]; simp⟩
      | exact absurd (by assumption) h41
      | exact absurd h41 (by assumption)
      | exact ⟨by simp only; omega, by simp only [List.length_append, List.length_cons, List.length_nil]; omega, by subst h41; simp only; rw [← hS1, lnF, if_pos rfl]; rfl⟩⟩, (by simp only; omega)⟩
   ·
    have h41 : ln = [] := c9
    refine JC_skip ?_
    refine thenQ_n ?_
    refine JC_region ?_
    refine JO_q (QE_mv rfl) rfl ?_
    refine JO_q (QE_mv rfl) rfl ?_
    refine JO_q (QE_mv rfl) rfl ?_
    refine JO_q (QE_ia1 rfl rfl rfl rfl rfl rfl hk) rfl ?_
    refine JO_q (QE_ldsR0 rfl rfl rfl (hcw.le (Le.refl (D := D) _)) rfl) rfl ?_
    refine JO_q (QE_sadd rfl rfl (by first | omega | (simp only [List.length_append, List.length_cons, List.length_nil]; omega))) rfl ?_
    refine JO_q (QE_as rfl) rfl ?_
    refine JO_nil ?_
    refine blockQ_n ?_
    refine thenQ_n ?_
    refine JC_region ?_
    refine JO_q (QE_mv rfl) rfl ?_
    refine JO_q (QE_add' rfl rfl (w64 (by omega) (by omega))) rfl ?_
    refine JO_q (QE_as rfl) rfl ?_
    refine JO_nil ?_
    refine thenQ_n ⟨(k + 1, tx, ln ++ w), [], (Keeps.cons rfl (Keeps.cons rfl (Keeps.cons rfl (Keeps.cons rfl (Keeps.cons rfl (Keeps.nil _)))))), rfl, ⟨I4.1, by
      first
      | exact ⟨by simp only; omega, by simp only [List.length_append, List.length_cons, List.length_nil]; omega, by simp only; rw [← hS1, lnF, if_neg (by assumption), if_pos h35]; simp⟩
      | exact ⟨by simp only; omega, by simp only [List.length_append, List.length_cons, List.length_nil]; omega, by simp only; rw [← hS1, lnF, if_neg h41, if_neg (by assumption)]; simp⟩
      | exact absurd (by assumption) h41
      | exact absurd h41 (by assumption)
      | exact ⟨by simp only; omega, by simp only [List.length_append, List.length_cons, List.length_nil]; omega, by subst h41; simp only; rw [← hS1, lnF, if_pos rfl]; rfl⟩⟩, (by simp only; omega)⟩
 ·
  have hkE : k = n := by omega
  subst hkE
  rw [hn, List.drop_length, lnF] at hS1
  rw [hn, List.drop_length, sizeW_nil] at hzz
  refine JC_exit ?_
  refine thenQ_x ?_
  refine thenQ_x ?_
  refine blockQ_x ?_
  refine thenQ_n ?_
  refine JC_seq ?_
  refine JC_region ?_
  refine JO_q (QE_mv rfl) rfl ?_
  refine JO_q (QE_mv rfl) rfl ?_
  refine JO_q (QE_sadd rfl rfl (by first | omega | (simp only [List.length_append, List.length_cons, List.length_nil]; omega))) rfl ?_
  refine JO_q (QE_sadd rfl rfl (by first | omega | (simp only [List.length_append, List.length_cons, List.length_nil]; omega))) rfl ?_
  refine JO_q (QE_as rfl) rfl ?_
  refine JO_nil ?_
  refine thenQ_n ?_
  refine JC_ret ?_
  refine retQ_mk [] L (.inr rfl) (.tmp rfl (.nil)) rfl (Le.trans (Le.trans (Le.trans h1 h2) h3) I4.1) (fun sR hS2 => ?_)
  refine ⟨?_, rfl⟩
  rw [← hS1]; rfl
end Go.Proofs.YtoeeblegplghmaaGreatDoor
namespace Go.Proofs.YtoeeblegplghmaaGreatDoor
open Go.FL
attribute [local irreducible] JC JO JA JB thenQ blockQ retQ AC fill CellsAt QE Ev Mid
def opP0 : List UInt8 := [84, 104, 101, 32, 109, 97, 99, 104, 105, 110, 101, 32, 104, 97, 115, 32]
def opPs : List (List UInt8) := [[32, 99, 101, 108, 108, 115, 32, 119, 105, 116, 104, 32, 116, 104, 101, 32, 110, 117, 109, 98, 101, 114, 115, 32, 48, 44, 32, 49, 44, 32, 50, 32, 97, 110, 100, 32, 115, 111, 32, 111, 110, 44, 32, 97, 110, 100, 32, 116, 104, 101, 32, 114, 101, 103, 105, 115, 116, 101, 114, 115, 32, 65, 44, 32, 66, 44, 32, 67, 44, 32, 68, 32, 97, 110, 100, 32, 80, 46],
  [32, 69, 97, 99, 104, 32, 99, 101, 108, 108, 32, 97, 110, 100, 32, 101, 97, 99, 104, 32, 114, 101, 103, 105, 115, 116, 101, 114, 32, 104, 111, 108, 100, 115, 32, 97, 32, 110, 117, 109, 98, 101, 114, 32, 116, 104, 97, 116, 32, 105, 115, 32, 108, 101, 115, 115, 32, 116, 104, 97, 110, 32, 52, 50, 57, 52, 57, 54, 55, 50, 57, 54, 59, 32, 111, 102, 32, 97, 32, 115, 117, 109, 44, 32, 97, 32, 100, 105, 102, 102, 101, 114, 101, 110, 99, 101, 32, 111, 114, 32, 97, 32, 112, 114, 111, 100, 117, 99, 116, 32, 111, 110, 108, 121, 32, 116, 104, 101, 32, 114, 101, 109, 97, 105, 110, 100, 101, 114, 32, 111, 102, 32, 97, 32, 100, 105, 118, 105, 115, 105, 111, 110, 32, 98, 121, 32, 52, 50, 57, 52, 57, 54, 55, 50, 57, 54, 32, 105, 115, 32, 107, 101, 112, 116, 46],
  [32, 65, 116, 32, 102, 105, 114, 115, 116, 32, 116, 104, 101, 32, 110, 117, 109, 98, 101, 114, 115, 32, 111, 102, 32, 116, 104, 101, 32, 112, 114, 111, 103, 114, 97, 109, 32, 97, 114, 101, 32, 105, 110, 32, 116, 104, 101, 32, 99, 101, 108, 108, 115, 32, 102, 114, 111, 109, 32, 48, 32, 111, 110, 44, 32, 97, 110, 100, 32, 48, 32, 105, 115, 32, 105, 110, 32, 97, 108, 108, 32, 111, 116, 104, 101, 114, 32, 99, 101, 108, 108, 115, 32, 97, 110, 100, 32, 105, 110, 32, 116, 104, 101, 32, 114, 101, 103, 105, 115, 116, 101, 114, 115, 46],
  [32, 84, 111, 32, 109, 97, 107, 101, 32, 97, 32, 115, 116, 101, 112, 44, 32, 102, 105, 110, 100, 32, 116, 104, 101, 32, 105, 110, 115, 116, 114, 117, 99, 116, 105, 111, 110, 32, 119, 104, 111, 115, 101, 32, 99, 111, 100, 101, 32, 105, 115, 32, 105, 110, 32, 116, 104, 101, 32, 99, 101, 108, 108, 32, 119, 105, 116, 104, 32, 116, 104, 101, 32, 110, 117, 109, 98, 101, 114, 32, 80, 44, 32, 97, 110, 100, 32, 97, 100, 100, 32, 49, 32, 116, 111, 32, 80, 59, 32, 105, 102, 32, 116, 104, 101, 32, 105, 110, 115, 116, 114, 117, 99, 116, 105, 111, 110, 32, 104, 97, 115, 32, 97, 110, 32, 111, 112, 101, 114, 97, 110, 100, 44, 32, 116, 104, 105, 115, 32, 105, 115, 32, 116, 104, 101, 32, 110, 117, 109, 98, 101, 114, 32, 78, 32, 105, 110, 32, 116, 104, 101, 32, 99, 101, 108, 108, 32, 119, 105, 116, 104, 32, 116, 104, 101, 32, 110, 101, 119, 32, 110, 117, 109, 98, 101, 114, 32, 80, 44, 32, 97, 110, 100, 32, 49, 32, 105, 115, 32, 97, 100, 100, 101, 100, 32, 116, 111, 32, 80, 32, 97, 103, 97, 105, 110, 46],
  [32, 84, 104, 101, 110, 32, 100, 111, 32, 119, 104, 97, 116, 32, 105, 116, 115, 32, 115, 101, 110, 116, 101, 110, 99, 101, 115, 32, 115, 97, 121, 44, 32, 111, 110, 101, 32, 97, 102, 116, 101, 114, 32, 97, 110, 111, 116, 104, 101, 114, 46, 32, 83, 116, 111, 112, 32, 105, 102, 32, 116, 104, 101, 114, 101, 32, 105, 115, 32, 110, 111, 32, 115, 117, 99, 104, 32, 105, 110, 115, 116, 114, 117, 99, 116, 105, 111, 110, 32, 111, 114, 32, 110, 111, 32, 115, 117, 99, 104, 32, 99, 101, 108, 108, 44, 32, 111, 114, 32, 105, 102, 32, 97, 32, 100, 105, 118, 105, 115, 111, 114, 32, 105, 115, 32, 48, 46],
  [32, 84, 111, 32, 109, 111, 118, 101, 32, 97, 32, 110, 117, 109, 98, 101, 114, 32, 116, 111, 32, 116, 104, 101, 32, 108, 101, 102, 116, 32, 98, 121, 32, 49, 32, 105, 115, 32, 116, 111, 32, 100, 111, 117, 98, 108, 101, 32, 105, 116, 44, 32, 116, 111, 32, 109, 111, 118, 101, 32, 105, 116, 32, 116, 111, 32, 116, 104, 101, 32, 114, 105, 103, 104, 116, 32, 98, 121, 32, 49, 32, 105, 115, 32, 116, 111, 32, 104, 97, 108, 118, 101, 32, 105, 116, 32, 119, 105, 116, 104, 111, 117, 116, 32, 97, 32, 114, 101, 109, 97, 105, 110, 100, 101, 114, 46, 32, 66, 105, 116, 115, 32, 97, 114, 101, 32, 116, 104, 101, 32, 100, 105, 103, 105, 116, 115, 32, 111, 102, 32, 97, 32, 110, 117, 109, 98, 101, 114, 32, 105, 110, 32, 116, 104, 101, 32, 98, 97, 115, 101, 32, 50, 46],
  [32, 84, 104, 101, 32, 105, 110, 112, 117, 116, 32, 105, 115, 32, 97, 32, 108, 105, 115, 116, 32, 111, 102, 32, 110, 117, 109, 98, 101, 114, 115, 32, 108, 101, 115, 115, 32, 116, 104, 97, 110, 32, 50, 53, 54, 59, 32, 98, 101, 104, 105, 110, 100, 32, 105, 116, 115, 32, 101, 110, 100, 32, 116, 104, 101, 32, 110, 101, 120, 116, 32, 105, 110, 112, 117, 116, 32, 105, 115, 32, 97, 108, 119, 97, 121, 115, 32, 52, 50, 57, 52, 57, 54, 55, 50, 57, 53, 46, 32, 84, 111, 32, 119, 114, 105, 116, 101, 32, 97, 32, 110, 117, 109, 98, 101, 114, 32, 105, 115, 32, 116, 111, 32, 119, 114, 105, 116, 101, 32, 116, 104, 101, 32, 114, 101, 109, 97, 105, 110, 100, 101, 114, 32, 111, 102, 32, 105, 116, 115, 32, 100, 105, 118, 105, 115, 105, 111, 110, 32, 98, 121, 32, 50, 53, 54, 46],
  [32, 69, 97, 99, 104, 32, 112, 97, 114, 97, 103, 114, 97, 112, 104, 32, 101, 110, 100, 115, 32, 119, 105, 116, 104, 32, 97, 32, 99, 104, 101, 99, 107, 58, 32, 105, 116, 115, 32, 99, 104, 97, 114, 97, 99, 116, 101, 114, 115, 32, 97, 104, 101, 97, 100, 32, 111, 102, 32, 116, 104, 101, 32, 99, 104, 101, 99, 107, 44, 32, 119, 105, 116, 104, 32, 111, 110, 101, 32, 98, 108, 97, 110, 107, 32, 98, 101, 116, 119, 101, 101, 110, 32, 116, 119, 111, 32, 119, 111, 114, 100, 115, 44, 32, 97, 114, 101, 32, 99, 111, 117, 110, 116, 101, 100, 32, 102, 114, 111, 109, 32, 49, 32, 111, 110, 44, 32, 97, 110, 100, 32, 101, 97, 99, 104, 32, 99, 111, 117, 110, 116, 32, 105, 115, 32, 109, 117, 108, 116, 105, 112, 108, 105, 101, 100, 32, 98, 121, 32, 116, 104, 101, 32, 118, 97, 108, 117, 101, 32, 111, 102, 32, 105, 116, 115, 32, 99, 104, 97, 114, 97, 99, 116, 101, 114, 59, 32, 116, 104, 101, 32, 99, 104, 101, 99, 107, 32, 105, 115, 32, 116, 104, 101, 32, 114, 101, 109, 97, 105, 110, 100, 101, 114, 32, 111, 102, 32, 116, 104, 101, 32, 115, 117, 109, 32, 105, 110, 32, 97, 32, 100, 105, 118, 105, 115, 105, 111, 110, 32, 98, 121, 32, 57, 57, 55, 51, 46],
  [32, 84, 104, 101, 32, 118, 97, 108, 117, 101, 115, 32, 97, 114, 101, 32, 49, 32, 116, 111, 32, 50, 54, 32, 102, 111, 114, 32, 97, 32, 116, 111, 32, 122, 44, 32, 50, 55, 32, 116, 111, 32, 53, 50, 32, 102, 111, 114, 32, 65, 32, 116, 111, 32, 90, 44, 32, 53, 51, 32, 116, 111, 32, 54, 50, 32, 102, 111, 114, 32, 116, 104, 101, 32, 100, 105, 103, 105, 116, 115, 32, 48, 32, 116, 111, 32, 57, 44, 32, 54, 51, 32, 102, 111, 114, 32, 97, 32, 102, 117, 108, 108, 32, 115, 116, 111, 112, 44, 32, 54, 52, 32, 102, 111, 114, 32, 97, 32, 99, 111, 109, 109, 97, 44, 32, 54, 53, 32, 102, 111, 114, 32, 97, 32, 115, 101, 109, 105, 99, 111, 108, 111, 110, 44, 32, 54, 54, 32, 102, 111, 114, 32, 97, 32, 99, 111, 108, 111, 110, 44, 32, 97, 110, 100, 32, 48, 32, 102, 111, 114, 32, 97, 32, 98, 108, 97, 110, 107, 46]]
def opA (u : Nat) : Nat → List UInt8
  | 0 => opP0 ++ Lib.decDigits u
  | k + 1 => opA u k ++ opPs.getD k []
theorem opP_len : ∀ k, k < 9 → (opPs.getD k []).length ≤ 400 := by decide +kernel
theorem opA_len {u : Nat} (hu : u < 4294967296) : ∀ k, k ≤ 9 → (opA u k).length ≤ 30 + 400 * k
  | 0, _ => by have := (dec_len (u := u) hu).2; rw [opA, List.length_append]; have h : opP0.length ≤ 20 := by decide +kernel
               omega
  | k + 1, h => by have h1 := opA_len hu k (by omega); have h2 := opP_len k (by omega); rw [opA, List.length_append]; omega
theorem opA_flat (u : Nat) : ∀ k, k ≤ 9 → opA u k = (opP0 ++ Lib.decDigits u) ++ (opPs.take k).flatten
  | 0, _ => by simp [opA]
  | k + 1, h => by
    have hl : k < opPs.length := by have : opPs.length = 9 := by decide +kernel
                                    omega
    rw [opA, opA_flat u k (by omega), List.take_succ_eq_append_getElem hl, List.flatten_append, List.getD_eq_getElem?_getD, List.getElem?_eq_getElem hl]; simp
theorem QE_saddA {P : Program} {TT : TyTab} {D : Nat} {fr : Fr} {ty : Nat} {K : Hl} {s0 : World} {x y : Operand} (a b c : List UInt8) {t t' : Nat} (hx : lk fr x = some (St a)) (hy : lk fr y = some (St b)) (hc : a ++ b = c) (hl : c.length ≤ 9223372036854775807) : QE P TT D fr (.binOp .add t x y t') ty K s0 (St c) := by
  subst hc; exact QE_sadd hx hy (by rw [← List.length_append]; exact hl)
theorem opA_all (u : Nat) : opA u 9 = joinW (cellW (u : Int)) := by
  rw [opA_flat u 9 (Nat.le_refl _), List.append_assoc]
  exact open_fin (c := (u : Int)) rfl (by decide +kernel) (by decide +kernel)
set_option maxHeartbeats 4000000 in
set_option maxRecDepth 100000 in
theorem ropen_ac (D : Nat) (L : Hl) (s : World) (u : Nat) (hu : u < 4294967296) : AC Tryz.prog D 32 [.int .u32 (u : Int)] L s fun v L' _ => v = St (joinW (cellW (u : Int))) ∧ L = L' := by
 refine AC_enter (TT := TT) (fn := Tryz.f32) TT_ok Tryz.func32 (by kernel_rfl) rfl Tryz.ntmps32 rfl (rs := [.tmp 2]) rfl [(0, _)] rfl ?_
 refine JC_seq ?_
 refine JC_region ?_
 refine JO_q (QE_as rfl) rfl ?_
 refine JO_nil ?_
 refine thenQ_n ?_
 refine JC_seq ?_
 refine JC_region ?_
 refine JO_q (QE_mv rfl) rfl ?_
 refine JO_call (first := []) (captured := []) rfl rfl rfl (decimal_ac D u hu _ _) ?_
 rintro _ _ s1 h1 ⟨rfl, rfl⟩
 refine JO_q (QE_saddA opP0 (Lib.decDigits u) (opA u 0) rfl rfl rfl (Nat.le_trans (opA_len hu 0 (by decide)) (by decide))) rfl ?_
 refine JO_q (QE_saddA (opA u 0) (opPs.getD 0 []) (opA u 1) rfl rfl rfl (Nat.le_trans (opA_len hu 1 (by decide)) (by decide))) rfl ?_
 refine JO_q (QE_as rfl) rfl ?_
 refine JO_nil ?_
 refine thenQ_n ?_
 refine JC_seq ?_
 refine JC_region ?_
 refine JO_q (QE_mv rfl) rfl ?_
 refine JO_q (QE_saddA (opA u 1) (opPs.getD 1 []) (opA u 2) rfl rfl rfl (Nat.le_trans (opA_len hu 2 (by decide)) (by decide))) rfl ?_
 refine JO_q (QE_as rfl) rfl ?_
 refine JO_nil ?_
 refine thenQ_n ?_
 refine JC_seq ?_
 refine JC_region ?_
 refine JO_q (QE_mv rfl) rfl ?_
 refine JO_q (QE_saddA (opA u 2) (opPs.getD 2 []) (opA u 3) rfl rfl rfl (Nat.le_trans (opA_len hu 3 (by decide)) (by decide))) rfl ?_
 refine JO_q (QE_as rfl) rfl ?_
 refine JO_nil ?_
 refine thenQ_n ?_
 refine JC_seq ?_
 refine JC_region ?_
 refine JO_q (QE_mv rfl) rfl ?_
 refine JO_q (QE_saddA (opA u 3) (opPs.getD 3 []) (opA u 4) rfl rfl rfl (Nat.le_trans (opA_len hu 4 (by decide)) (by decide))) rfl ?_
 refine JO_q (QE_as rfl) rfl ?_
 refine JO_nil ?_
 refine thenQ_n ?_
 refine JC_seq ?_
 refine JC_region ?_
 refine JO_q (QE_mv rfl) rfl ?_
 refine JO_q (QE_saddA (opA u 4) (opPs.getD 4 []) (opA u 5) rfl rfl rfl (Nat.le_trans (opA_len hu 5 (by decide)) (by decide))) rfl ?_
 refine JO_q (QE_as rfl) rfl ?_
 refine JO_nil ?_
 refine thenQ_n ?_
 refine JC_seq ?_
 refine JC_region ?_
 refine JO_q (QE_mv rfl) rfl ?_
 refine JO_q (QE_saddA (opA u 5) (opPs.getD 5 []) (opA u 6) rfl rfl rfl (Nat.le_trans (opA_len hu 6 (by decide)) (by decide))) rfl ?_
 refine JO_q (QE_as rfl) rfl ?_
 refine JO_nil ?_
 refine thenQ_n ?_
 refine JC_seq ?_
 refine JC_region ?_
 refine JO_q (QE_mv rfl) rfl ?_
 refine JO_q (QE_saddA (opA u 6) (opPs.getD 6 []) (opA u 7) rfl rfl rfl (Nat.le_trans (opA_len hu 7 (by decide)) (by decide))) rfl ?_
 refine JO_q (QE_as rfl) rfl ?_
 refine JO_nil ?_
 refine thenQ_n ?_
 refine JC_seq ?_
 refine JC_region ?_
 refine JO_q (QE_mv rfl) rfl ?_
 refine JO_q (QE_saddA (opA u 7) (opPs.getD 7 []) (opA u 8) rfl rfl rfl (Nat.le_trans (opA_len hu 8 (by decide)) (by decide))) rfl ?_
 refine JO_q (QE_as rfl) rfl ?_
 refine JO_nil ?_
 refine thenQ_n ?_
 refine JC_seq ?_
 refine JC_region ?_
 refine JO_q (QE_mv rfl) rfl ?_
 refine JO_q (QE_saddA (opA u 8) (opPs.getD 8 []) (opA u 9) rfl rfl rfl (Nat.le_trans (opA_len hu 9 (by decide)) (by decide))) rfl ?_
 refine JO_q (QE_as rfl) rfl ?_
 refine JO_nil ?_
 refine thenQ_n ?_
 refine JC_ret ?_
 refine retQ_mk [] L (.inr rfl) (.tmp rfl (.nil)) rfl h1 (fun sR hS2 => ?_)
 exact ⟨by rw [← opA_all]; rfl, rfl⟩
end Go.Proofs.YtoeeblegplghmaaGreatDoor
namespace Go.Proofs.YtoeeblegplghmaaGreatDoor
open Go.FL
attribute [local irreducible] JC JO JA JB thenQ blockQ retQ AC fill CellsAt QE Ev Mid
attribute [local irreducible] cellW machL machS
theorem linesT_first (c : Int) (ti : List Ins) : linesW (withC (cellW c)) = joinN ((linesT ⟨c, ti⟩).take (0 + 1)) := by
  rw [linesT, parasT, List.map_cons, List.take_succ_cons, List.take_zero, joinN]
set_option maxHeartbeats 2000000 in
set_option maxRecDepth 100000 in
theorem rpage_ac (D : Nat) (L : Hl) (s : World) (t : Tab) (A : Option Addr) (n c : Nat) (hA : Inss s A n c t.ins) (hT : TabP t) : AC Tryz.prog D 12 [.agg #[.int .i64 t.cells, .slice A n c]] L s fun v L' _ => v = St (pageT t) ∧ L = L' := by
 obtain ⟨tc, ti⟩ := t
 have hcl := hT.cells
 simp only at hcl hA
 obtain ⟨u, rfl⟩ := Int.eq_ofNat_of_zero_le (show 0 ≤ tc by omega)
 have hn := hA.1
 have hfew := hT.len
 simp only at hfew
 have hlz := linesT_size hT
 dsimp only
 refine AC_enter (TT := TT) (fn := Tryz.f12) TT_ok Tryz.func12 (by kernel_rfl) rfl Tryz.ntmps12 rfl (rs := [.tmp 2]) rfl [(0, _)] rfl ?_
 refine JC_seq ?_
 refine JC_region ?_
 refine JO_boxA rfl rfl ?_
 intro β1 s1 h1
 refine JO_q (QE_as rfl) rfl ?_
 refine JO_nil ?_
 refine thenQ_n ?_
 refine JC_seq ?_
 refine JC_region ?_
 refine JO_q (QE_fa0 rfl rfl rfl rfl) rfl ?_
 refine JO_q (QE_ld1 0 rfl rfl rfl rfl rfl) rfl ?_
 refine JO_q (QE_conv' rfl rfl rfl rfl rfl (show IntKind.u32.wrap (u : Int) = (u : Int) by rw [IntKind.wrap_u32]; omega)) rfl ?_
 refine JO_call (first := []) (captured := []) rfl rfl rfl (ropen_ac D _ _ u (by omega)) ?_
 rintro _ _ s2 h2 ⟨rfl, rfl⟩
 refine JO_call (first := []) (captured := []) rfl rfl rfl (rlined_ac D _ _ (cellW (u : Int)) (paras_ok hT _ (by simp [parasT])) (by have := para_size hT (cellW (u : Int)) (by simp [parasT]); omega)) ?_
 rintro _ _ s3 h3 ⟨rfl, rfl⟩
 refine JO_q (QE_as rfl) rfl ?_
 refine JO_nil ?_
 refine thenQ_n ?_
 refine JC_seq ?_
 refine JC_seq ?_
 refine JC_region ?_
 refine JO_q (QE_as rfl) rfl ?_
 refine JO_nil ?_
 refine thenQ_n ?_
 refine JC_block ?_
 refine JC_loop (γ := Nat × List UInt8) (fun g => [(1, _), (2, _), (3, St g.2), (4, .int .i64 (g.1 : Int))]) (fun _ => _) (fun g tw => Le D s3 tw ∧ (g.1 ≤ n ∧ g.2 = joinN ((linesT ⟨(u : Int), ti⟩).take (g.1 + 1)))) (fun g => n - g.1) (fun _ _ _ h hl => ⟨h.1.trans hl, h.2⟩) (0, linesW (withC (cellW (u : Int)))) (Keeps.cons rfl (Keeps.cons rfl (Keeps.cons rfl (Keeps.cons rfl (Keeps.nil _))))) rfl ⟨Le.refl _, ⟨Nat.zero_le _, linesT_first _ _⟩⟩ ?_
 intro g s4 I4
 obtain ⟨k, sv⟩ := g
 obtain ⟨hk0, hE⟩ := I4.2
 simp only at hk0 hE
 have hsl : sv.length ≤ 60000 := by rw [hE]; exact Nat.le_trans (joinN_len _) (Nat.le_trans (take_size _ _) hlz)
 dsimp only
 refine JC_seq ?_
 refine JC_seq ?_
 refine JC_region ?_
 refine JO_q (QE_mv rfl) rfl ?_
 refine JO_q (QE_faB rfl rfl rfl rfl) rfl ?_
 refine JO_q (QE_ld1 0 rfl rfl rfl rfl rfl) rfl ?_
 refine JO_q (QE_lenS rfl rfl rfl) rfl ?_
 refine JO_q (QE_lt rfl rfl) rfl ?_
 refine JO_nil ?_
 refine thenQ_n ?_
 refine JC_ifD rfl (fun c5 => ?_) (fun c5 => ?_)
 ·
  have hk : k < n := by omega
  obtain ⟨b, off, x, A', n', c', rfl, hx, hcx, hax, _, _⟩ := Inss.at_ (hA.le (Le.trans (Le.trans (Le.trans h1 h2) h3) I4.1)) hk
  have hxp := hT.ins x (List.mem_of_getElem? hx)
  have hll := lines_len (withC (insW x))
  have hls := withC_size (insW x)
  have hlp := ins_size hxp
  refine JC_skip ?_
  refine thenQ_n ?_
  refine JC_seq ?_
  refine JC_block ?_
  refine JC_region ?_
  refine JO_q (QE_mv rfl) rfl ?_
  refine JO_q (QE_sadd rfl rfl (by simp only [List.length_append, List.length_cons, List.length_nil]; omega)) rfl ?_
  refine JO_q (QE_faB rfl rfl rfl rfl) rfl ?_
  refine JO_q (QE_ld1 0 rfl rfl rfl rfl rfl) rfl ?_
  refine JO_q (QE_mv rfl) rfl ?_
  refine JO_q (QE_iaN rfl rfl rfl rfl rfl rfl hk) rfl ?_
  refine JO_q (QE_ldsA rfl rfl rfl (hcx.le (Le.refl (D := D) _)) rfl) rfl ?_
  refine JO_call (first := []) (captured := []) rfl rfl rfl (rdesc_ac D _ _ x A' n' c' (hax.le (Le.refl (D := D) _)) hxp) ?_
  rintro _ _ s6 h6 ⟨rfl, rfl⟩
  refine JO_call (first := []) (captured := []) rfl rfl rfl (rlined_ac D _ _ (insW x) (ins_ok hxp) (by have := ins_size hxp; omega)) ?_
  rintro _ _ s7 h7 ⟨rfl, rfl⟩
  refine JO_q (QE_sadd rfl rfl (by simp only [List.length_append, List.length_cons, List.length_nil]; omega)) rfl ?_
  refine JO_q (QE_as rfl) rfl ?_
  refine JO_nil ?_
  refine blockQ_n ?_
  refine thenQ_n ?_
  refine JC_region ?_
  refine JO_q (QE_mv rfl) rfl ?_
  refine JO_q (QE_add' rfl rfl (w64 (by omega) (by omega))) rfl ?_
  refine JO_q (QE_as rfl) rfl ?_
  refine JO_nil ?_
  refine thenQ_n ⟨(k + 1, (sv ++ [10]) ++ linesW (withC (insW x))), [], (Keeps.cons rfl (Keeps.cons rfl (Keeps.cons rfl (Keeps.cons rfl (Keeps.nil _))))), rfl, ⟨(Le.trans (Le.trans I4.1 h6) h7), ⟨by simp only; omega, by simp only; rw [hE]; exact (linesT_at hx).symm⟩⟩, (by simp only; omega)⟩
 ·
  have hfin : sv = pageT ⟨(u : Int), ti⟩ := by rw [hE, List.take_of_length_le (by rw [linesT, parasT, List.length_map, List.length_cons, List.length_map]; simp only; omega), linesT, pageT]
  refine JC_exit ?_
  refine thenQ_x ?_
  refine thenQ_x ?_
  refine blockQ_x ?_
  refine thenQ_n ?_
  refine JC_seq ?_
  refine JC_region ?_
  refine JO_q (QE_mv rfl) rfl ?_
  refine JO_q (QE_as rfl) rfl ?_
  refine JO_nil ?_
  refine thenQ_n ?_
  refine JC_ret ?_
  refine retQ_mk [_] L (.inr rfl) (.tmp rfl (.nil)) rfl (Le.trans (Le.trans (Le.trans h1 h2) h3) I4.1) (fun sR hS2 => ?_)
  exact ⟨by rw [hfin]; rfl, rfl⟩
end Go.Proofs.YtoeeblegplghmaaGreatDoor
namespace Go.Proofs.YtoeeblegplghmaaGreatDoor
open Go.FL
attribute [local irreducible] JC JO JA JB thenQ blockQ retQ AC fill CellsAt QE Ev Mid
set_option maxHeartbeats 4000000 in
set_option maxRecDepth 100000 in
theorem lawText_ac (D : Nat) (L : Hl) (s : World) (hG : GP s) (t : Tab) (A : Option Addr) (n c : Nat) (hA : Inss s A n c t.ins) : AC Tryz.prog D 3 [.agg #[.int .i64 t.cells, .slice A n c]] L s fun v L' _ => v = .bool true ∧ L = L' := by
 refine AC_enter (TT := TT) (fn := Tryz.f3) TT_ok Tryz.func3 (by kernel_rfl) rfl Tryz.ntmps3 rfl (rs := [.tmp 2]) rfl [(0, _)] rfl ?_
 refine JC_seq ?_
 refine JC_region ?_
 refine JO_boxA rfl rfl ?_
 intro β1 s1 h1
 refine JO_q (QE_as rfl) rfl ?_
 refine JO_nil ?_
 refine thenQ_n ?_
 refine JC_seq ?_
 refine JC_region ?_
 refine JO_q (QE_ldA 0 [_, _] rfl rfl rfl rfl rfl) rfl ?_
 refine JO_call (first := []) (captured := []) rfl rfl rfl (text_ac D _ _ (hG.le h1) t _ _ _ (hA.le h1)) ?_
 rintro _ _ s2 h2 ⟨rfl, rfl⟩
 refine JO_q (QE_mv rfl) rfl ?_
 refine JO_q (QE_ext rfl rfl) rfl ?_
 refine JO_q (QE_ext rfl rfl) rfl ?_
 refine JO_allocZ rfl [_, _] rfl rfl ?_
 intro β3 s3 h3
 refine JO_q (QE_as rfl) rfl ?_
 refine JO_st 0 [_, _] rfl rfl rfl rfl rfl rfl rfl rfl rfl ?_
 refine JO_nil ?_
 refine thenQ_n ?_
 refine JC_seq ?_
 refine JC_region ?_
 refine JO_q (QE_ldA 1 [_, _] rfl rfl rfl rfl rfl) rfl ?_
 refine JO_call (first := []) (captured := []) rfl rfl rfl (tableFault_ac D _ _ _ _ _ _ (hA.le (Le.trans (Le.trans h1 h2) h3))) ?_
 rintro _ _ s4 h4 ⟨rfl, rfl⟩
 refine JO_allocZ rfl [_, _] rfl rfl ?_
 intro β5 s5 h5
 refine JO_st 0 [_, _] rfl rfl rfl rfl rfl rfl rfl rfl rfl ?_
 refine JO_nil ?_
 refine thenQ_n ?_
 refine JC_seq ?_
 refine JC_seq ?_
 refine JC_region ?_
 refine JO_call (first := []) (captured := []) rfl rfl rfl (worded_ac D _ _ (hG.le (Le.trans (Le.trans (Le.trans (Le.trans h1 h2) h3) h4) h5))) ?_
 rintro _ _ s6 h6 ⟨rfl, rfl⟩
 refine JO_q (QE_notT rfl) rfl ?_
 refine JO_q (QE_mv rfl) rfl ?_
 refine JO_gT rfl rfl ?_
 refine JO_q (QE_ldA 1 [_, _] rfl rfl rfl rfl rfl) rfl ?_
 refine JO_gT rfl rfl ?_
 refine JO_q (QE_ldA 0 [_, _] rfl rfl rfl rfl rfl) rfl ?_
 refine JO_gT rfl rfl ?_
 refine JO_q (QE_cast (v' := .bool false) (QE_ane rfl rfl (eqFault _ _ _ _)) (bF ⟨rfl, rfl⟩)) rfl ?_
 refine JO_q (QE_pickF rfl rfl) rfl ?_
 refine JO_nil ?_
 refine thenQ_n ?_
 refine JC_ifF rfl ?_
 refine JC_skip ?_
 refine thenQ_n ?_
 refine JC_seq ?_
 refine JC_seq ?_
 refine JC_region ?_
 refine JO_q (QE_fa0 rfl rfl rfl rfl) rfl ?_
 refine JO_q (QE_ld1 0 rfl rfl rfl rfl rfl) rfl ?_
 refine JO_q (QE_ne rfl rfl) rfl ?_
 refine JO_nil ?_
 refine thenQ_n ?_
 refine JC_ifN rfl (fun c7 => ?_) (fun c7 => ?_)
 ·
  have hbad : (tabFault t).1 ≠ 0 := c7
  refine JC_seq ?_
  refine JC_region ?_
  refine JO_q (QE_mv rfl) rfl ?_
  refine JO_q (QE_cast (v' := .bool true) (QE_seq rfl rfl) (bT (text_bad hbad))) rfl ?_
  refine JO_q (QE_as rfl) rfl ?_
  refine JO_nil ?_
  refine thenQ_n ?_
  refine JC_ret ?_
  refine thenQ_r ?_
  refine retQ_mk [_, _, _] L (.inr rfl) (.tmp rfl (.nil)) rfl (Le.trans (Le.trans (Le.trans (Le.trans (Le.trans h1 h2) h3) h4) h5) h6) (fun sR hS2 => ?_)
  exact ⟨rfl, rfl⟩
 ·
  have h0 : (tabFault t).1 = 0 := c7
  have hT := tabP (Inss.tabU hA) h0
  refine JC_skip ?_
  refine thenQ_n ?_
  refine JC_seq ?_
  refine JC_region ?_
  refine JO_q (QE_mv rfl) rfl ?_
  refine JO_q (QE_ldA 2 [_, _] rfl rfl rfl rfl rfl) rfl ?_
  refine JO_call (first := []) (captured := []) rfl rfl rfl (rpage_ac D _ _ t _ _ _ (hA.le (Le.trans (Le.trans (Le.trans (Le.trans (Le.trans h1 h2) h3) h4) h5) h6)) hT) ?_
  rintro _ _ s8 h8 ⟨rfl, rfl⟩
  refine JO_q (QE_cast (v' := .bool true) (QE_seq rfl rfl) (bT (text_good h0))) rfl ?_
  refine JO_q (QE_as rfl) rfl ?_
  refine JO_nil ?_
  refine thenQ_n ?_
  refine JC_ret ?_
  refine retQ_mk [_, _, _] L (.inr rfl) (.tmp rfl (.nil)) rfl (Le.trans (Le.trans (Le.trans (Le.trans (Le.trans (Le.trans h1 h2) h3) h4) h5) h6) h8) (fun sR hS2 => ?_)
  exact ⟨rfl, rfl⟩
end Go.Proofs.YtoeeblegplghmaaGreatDoor
namespace Go.Proofs.YtoeeblegplghmaaGreatDoor
open Go Go.FL Go.ChangeShapes Go.WideShapes Go.ChangeAt Go.RowKit Go.Deep
theorem own_knob : ownKnob Tryz.prog.godebug = none := by kernel_rfl
theorem laid_out : laidOutB Tryz.prog = true := by kernel_rfl
theorem mark_free (l : List Obj) : ∃ D, ∀ E, D ≤ E → ∀ o ∈ l, o ≠ dum E := by
  induction l with
  | nil => exact ⟨0, fun _ _ _ h => by cases h⟩
  | cons x l ih =>
    obtain ⟨D, hD⟩ := ih
    have hx : ∃ B, ∀ E, B ≤ E → x ≠ dum E := by
      cases x with
      | mapIter a n b c => exact ⟨n + 1, fun E hE h => by simp only [dum, Obj.mapIter.injEq] at h; omega⟩
      | _ => exact ⟨0, fun E _ h => by simp [dum] at h⟩
    obtain ⟨B, hB⟩ := hx
    refine ⟨max D B, fun E hE o ho => ?_⟩
    rcases List.mem_cons.1 ho with rfl | ho
    · exact hB E (by omega)
    · exact hD E (by omega) o ho
theorem mark_world (W : World) : ∃ D, ∀ k : Nat, W.heap[k]? ≠ some (dum D) := by
  obtain ⟨D, hD⟩ := mark_free W.heap.toList
  refine ⟨D, fun k hk => hD D (Nat.le_refl _) (dum D) ?_ rfl⟩
  rw [← Array.getElem?_toList] at hk
  exact List.mem_of_getElem? hk
theorem below_of {D : Nat} {W W' : World} (hD : ∀ k : Nat, W.heap[k]? ≠ some (dum D)) (h : Le D W W') : Below W.heap.size W W' :=
  ⟨h.os, h.tape, h.output, h.size, fun k hk => (h.block k hk).resolve_left (hD k)⟩
theorem law_calls {P : Program} {f : FuncId} {args : List Value} {W : World} (h : ∀ D, AC P D f args [] W fun v L' _ => v = .bool true ∧ [] = L') :
    Calls P f args.toArray W fun e W' => e = .returned (.bool true) ∧ Below W.heap.size W W' := by
  obtain ⟨D, hD⟩ := mark_world W
  refine ((h D).2 ⟨by simp, fun x hx => by cases hx⟩).mono ?_
  rintro e w' ⟨v, L', s', h1, rfl, h3, h4, rfl, rfl⟩
  exact ⟨h1, below_of hD h4⟩
section
variable {H : Type} {enc : TypeId × Value → H} {P : Program}
theorem trodAll_stays {W W' : World} (hl : laidOutB P = true) (hb : Below W.heap.size W W') : ∀ {ts : List TypeId} {vs : List Value} {ds : List (DataW H)} {ps : List MemPlace}, (∀ t ∈ ts, P.readableRec t = true ∧ t < P.types.size) → (∀ x ∈ ps, x.block < W.heap.size) →
    DataW.TrodAll enc P W 0 (fun _ => true) true ts vs ds ps → DataW.TrodAll enc P W' 0 (fun b => decide (b < W.heap.size)) true ts vs ds ps
  | [], _, _, _, _, _, h => by
    obtain ⟨rfl, rfl, rfl⟩ := trodAll_nil h
    exact trodAll_mk0
  | t :: ts, _, _, _, hts, hp, h => by
    obtain ⟨v, vs, d, ds, a, b, rfl, rfl, rfl, h1, h2⟩ := trodAll_cons h
    have ht := hts t (List.mem_cons_self ..)
    exact trodAll_cons_mk (Below.trod hl ht.1 ht.2 h1 hb fun x hx => hp x (List.mem_append_left _ hx)) (trodAll_stays hl hb (fun t' h' => hts t' (List.mem_cons_of_mem _ h')) (fun x hx => hp x (List.mem_append_right _ hx)) h2)
theorem law_post {fn : Func} {s : ChangeSpec} {W W' : World} {args : Array Value} {ds gs : List (DataW H)} {before : List MemPlace} {tb : TypeId} (hl : laidOutB P = true) (hts : ∀ t ∈ fn.params.toList, P.readableRec t = true ∧ t < P.types.size) (hr : fn.resultTypes = #[tb]) (hb : P.underlying tb = some .bool)
    (hv : s.vars = []) (hW : DataW.Whole enc P fn.params.toList s.vars false W args.toList ds gs before) (hfn : s.fn H ds = { results := [.lit (.bool true)], args := ds }) (hB : Below W.heap.size W W') : s.post enc P fn false true false false W args (.bool true) W' := by
  have hlt : ∀ x ∈ before, x.block < W.heap.size := fun x hx => hW.lt x hx
  have hW' := hW
  obtain ⟨p, q, hA, hV, rfl, _, _⟩ := hW
  rw [hv] at hV
  obtain ⟨rfl, rfl⟩ := trodVars_none hV
  refine ⟨ds, [], p ++ [], [], p, [], hW', ?_, ?_, ?_, hB.frame _, fun h => by cases h⟩
  · rw [List.append_nil, hfn, hr]; exact trodAll_cons_mk (shut_bool hb _) trodAll_mk0
  · rw [List.append_nil, hfn]; exact trodAll_stays hl hB hts (fun x hx => hlt x (List.mem_append_left _ hx)) hA
  · rw [List.append_nil, hfn, hv]; rfl
end
def Rd (W : World) (t : TypeId) (cs : List Value) : Prop := ∃ (H : Type) (enc : TypeId × Value → H) (n : Nat) (x : DataW H × List MemPlace), DataW.trod enc Tryz.prog W 0 (fun _ => true) true n t cs = some x
section
variable {W : World} {t e : TypeId} {cs : List Value}
theorem rd_int {k : IntKind} (ht : Tryz.prog.underlying t = some (.int k)) (h : Rd W t cs) : ∃ n, cs = [.int k n] ∧ (Lit.int k n).wf = true := by
  obtain ⟨H, enc, n, x, h⟩ := h
  obtain ⟨i, h1, _, h2⟩ := DataW.trod_int ht h
  exact ⟨i, h1, h2⟩
theorem rd_bool (ht : Tryz.prog.underlying t = some .bool) (h : Rd W t cs) : ∃ b, cs = [.bool b] := by
  obtain ⟨H, enc, n, x, h⟩ := h
  obtain ⟨i, h1, _⟩ := DataW.trod_bool ht h
  exact ⟨i, h1⟩
theorem rd_str (ht : Tryz.prog.underlying t = some .string) (h : Rd W t cs) : ∃ l : List UInt8, cs = [St l] ∧ l.length ≤ 9223372036854775807 := by
  obtain ⟨H, enc, n, x, h⟩ := h
  obtain ⟨s, h1, _, h2⟩ := DataW.trod_string ht h
  refine ⟨s.data.toList, by rw [h1], ?_⟩
  have : s.data.toList.length = s.size := by rw [Array.length_toList]; rfl
  simp only [maxLen] at h2
  omega
theorem rd_field {fs : Array Field} (ht : Tryz.prog.underlying t = some (.struct fs)) (h : Rd W t cs) {sz : Nat} (hc : Tryz.prog.cellsOf t = sz) : cs.length = sz ∧ ∀ (i : Nat) (f : Field), fs[i]? = some f → ∀ (ty off n : Nat), f.type = ty → f.offset = off → Tryz.prog.cellsOf ty = n → Rd W ty ((cs.drop off).take n) := by
  obtain ⟨H, enc, n, x, h⟩ := h
  obtain ⟨xs, m, _, _, h1, h2, h3⟩ := DataW.trod_struct ht h
  refine ⟨h1.trans hc, fun i f hf ty off k e1 e2 e3 => ?_⟩
  have hi : i < xs.length := by rw [h2]; exact (Array.getElem?_eq_some_iff.1 hf).1
  have := h3 i f hf
  rw [List.getElem?_eq_getElem hi, e1, e2, e3] at this
  exact ⟨H, enc, m, _, this⟩
theorem rd_slice {sz : Nat} (ht : Tryz.prog.underlying t = some (.slice e)) (hc : Tryz.prog.cellsOf e = sz) (hp : 0 < sz) (h : Rd W t cs) : ∃ A n c, cs = [.slice A n c] ∧ n ≤ c ∧ c ≤ 9223372036854775807 ∧
    ∀ i, i < n → ∃ b off ds, A = some ⟨b, off, none⟩ ∧ CellsAt W b (off + i * sz) ds ∧ ds.length = sz ∧ Rd W e ds := by
  obtain ⟨H, enc, q, x, h⟩ := h
  rcases open_slice ht h with ⟨rfl, _⟩ | ⟨a, len, cap, m, k, D, Pl, rfl, _, h1, h2, h3, _, h4⟩
  · exact ⟨none, 0, 0, rfl, Nat.le_refl _, by omega, fun i hi => by omega⟩
  · simp only [maxLen] at h2
    refine ⟨some a, len, cap, rfl, h1, by omega, fun i hi => ?_⟩
    obtain ⟨ds, k1, k2⟩ := h4 i (by simp at h3; omega)
    rw [hc] at k1
    obtain ⟨_, k3, k4⟩ := World.cells?_some k1
    obtain ⟨b, off, spot⟩ := a
    have hs : spot = none := by
      obtain ⟨ds0, j1, _⟩ := h4 0 (by simp at h3; omega)
      rw [hc, Nat.zero_mul] at j1
      obtain ⟨_, j3, j4⟩ := World.cells?_some j1
      have := j4 0 hp
      rw [List.getElem?_eq_getElem (by omega)] at this
      simpa [Addr.add] using World.cell?_spot this
    subst hs
    refine ⟨b, off, ds, rfl, fun j v hj => ?_, k3, H, enc, k, _, k2⟩
    have hl : j < sz := by rw [← k3]; exact (List.getElem?_eq_some_iff.1 hj).1
    have := k4 j hl
    rw [hj, add_lit, add_lit] at this
    exact this
theorem sl_of {α : Type} [Inhabited α] {R : World → α → List Value → Prop} {sz : Nat} (ht : Tryz.prog.underlying t = some (.slice e)) (hc : Tryz.prog.cellsOf e = sz) (hp : 0 < sz) (h : Rd W t cs) (hel : ∀ ds, Rd W e ds → ∃ x : α, R W x ds) : ∃ A n c l, cs = [.slice A n c] ∧ Sl sz R W A n c l := by
  obtain ⟨A, n, c, h1, h2, h3, h4⟩ := rd_slice ht hc hp h
  obtain ⟨f, hf⟩ := choose_lt (α := α) (p := fun i x => ∃ b off ds, A = some ⟨b, off, none⟩ ∧ CellsAt W b (off + i * sz) ds ∧ ds.length = sz ∧ R W x ds) (n := n) (fun i hi => by
    obtain ⟨b, off, ds, k1, k2, k3, k4⟩ := h4 i hi
    obtain ⟨x, hx⟩ := hel ds k4
    exact ⟨x, b, off, ds, k1, k2, k3, hx⟩)
  refine ⟨A, n, c, (List.range n).map f, h1, by simp, h2, h3, fun i x hi => ?_⟩
  rw [List.getElem?_map] at hi
  cases hr : (List.range n)[i]? with
  | none => simp [hr] at hi
  | some j =>
    simp [hr] at hi
    obtain ⟨hi1, hi2⟩ := List.getElem?_eq_some_iff.1 hr
    simp at hi1 hi2
    subst hi2; subst hi
    exact hf i hi1
theorem len2 {l : List Value} (h : l.length = 2) : ∃ a b, l = [a, b] := by match l, h with | [a, b], _ => exact ⟨a, b, rfl⟩
theorem len4 {l : List Value} (h : l.length = 4) : ∃ a b c d, l = [a, b, c, d] := by match l, h with | [a, b, c, d], _ => exact ⟨a, b, c, d, rfl⟩
theorem len6 {l : List Value} (h : l.length = 6) : ∃ a b c d e f, l = [a, b, c, d, e, f] := by match l, h with | [a, b, c, d, e, f], _ => exact ⟨a, b, c, d, e, f, rfl⟩
theorem one_eq {a b : Value} (h : [a] = [b]) : a = b := by injection h
theorem u32_wf {n : Int} (h : (Lit.int .u32 n).wf = true) : U32 n := by have := bounds_u32 h; exact ⟨by omega, by omega⟩
end
end Go.Proofs.YtoeeblegplghmaaGreatDoor
namespace Go.Proofs.YtoeeblegplghmaaGreatDoor
open Go Go.FL Go.ChangeShapes Go.WideShapes Go.ChangeAt Go.RowKit
set_option maxRecDepth 100000
instance : Inhabited Ac := ⟨⟨0, 0, ⟨0, 0⟩, ⟨0, 0⟩⟩⟩
instance : Inhabited Ins := ⟨⟨[], 0, false, []⟩⟩
theorem c_int : Tryz.prog.cellsOf 3 = 1 := by kernel_rfl
theorem c_u32 : Tryz.prog.cellsOf 60 = 1 := by kernel_rfl
theorem c_bool : Tryz.prog.cellsOf 4 = 1 := by kernel_rfl
theorem c_str : Tryz.prog.cellsOf 9 = 1 := by kernel_rfl
theorem c_term : Tryz.prog.cellsOf 66 = 2 := by kernel_rfl
theorem c_act : Tryz.prog.cellsOf 68 = 6 := by kernel_rfl
theorem c_acts : Tryz.prog.cellsOf 61 = 1 := by kernel_rfl
theorem c_ins : Tryz.prog.cellsOf 63 = 4 := by kernel_rfl
theorem c_inss : Tryz.prog.cellsOf 22 = 1 := by kernel_rfl
theorem c_tab : Tryz.prog.cellsOf 24 = 2 := by kernel_rfl
section
variable {W : World} {cs : List Value}
theorem rd_term (h : Rd W 66 cs) : ∃ x : Tm, cs = [.int .i64 x.kind, .int .u32 x.val] ∧ U32 x.val := by
  obtain ⟨h1, h2⟩ := rd_field Tryz.underlying66 h c_term
  obtain ⟨a, b, rfl⟩ := len2 h1
  obtain ⟨k, e1, _⟩ := rd_int Tryz.underlying3 (h2 0 _ rfl _ _ _ rfl rfl c_int)
  obtain ⟨v, e2, w2⟩ := rd_int Tryz.underlying60 (h2 1 _ rfl _ _ _ rfl rfl c_u32)
  have z1 : a = .int .i64 k := one_eq e1
  have z2 : b = .int .u32 v := one_eq e2
  subst z1; subst z2
  exact ⟨⟨k, v⟩, rfl, u32_wf w2⟩
theorem rd_action (h : Rd W 68 cs) : ∃ a : Ac, cs = a.cs ∧ U32 a.x.val ∧ U32 a.y.val := by
  obtain ⟨h1, h2⟩ := rd_field Tryz.underlying68 h c_act
  obtain ⟨a, b, c, d, e, f, rfl⟩ := len6 h1
  obtain ⟨k, e1, _⟩ := rd_int Tryz.underlying3 (h2 0 _ rfl _ _ _ rfl rfl c_int)
  obtain ⟨t, e2, _⟩ := rd_int Tryz.underlying3 (h2 1 _ rfl _ _ _ rfl rfl c_int)
  obtain ⟨x, e3, wx⟩ := rd_term (h2 2 _ rfl _ _ _ rfl rfl c_term)
  obtain ⟨y, e4, wy⟩ := rd_term (h2 3 _ rfl _ _ _ rfl rfl c_term)
  have z1 : a = .int .i64 k := one_eq e1
  have z2 : b = .int .i64 t := one_eq e2
  have y3 : [c, d] = [.int .i64 x.kind, .int .u32 x.val] := e3
  have y4 : [e, f] = [.int .i64 y.kind, .int .u32 y.val] := e4
  injection y3 with z3 x3'
  injection y4 with z4 x4'
  have z3' : d = .int .u32 x.val := one_eq x3'
  have z4' : f = .int .u32 y.val := one_eq x4'
  subst z1; subst z2; subst z3; subst z3'; subst z4; subst z4'
  exact ⟨⟨k, t, x, y⟩, rfl, wx, wy⟩
theorem rd_acts (h : Rd W 61 cs) : ∃ A n c l, cs = [.slice A n c] ∧ Acs W A n c l := sl_of Tryz.underlying61 c_act (by decide) h fun _ hd => rd_action hd
theorem rd_ins (h : Rd W 63 cs) : ∃ x : Ins, InsR W x cs := by
  obtain ⟨h1, h2⟩ := rd_field Tryz.underlying63 h c_ins
  obtain ⟨a, b, c, d, rfl⟩ := len4 h1
  obtain ⟨l, e1, w1⟩ := rd_str Tryz.underlying9 (h2 0 _ rfl _ _ _ rfl rfl c_str)
  obtain ⟨v, e2, w2⟩ := rd_int Tryz.underlying60 (h2 1 _ rfl _ _ _ rfl rfl c_u32)
  obtain ⟨o, e3⟩ := rd_bool Tryz.underlying4 (h2 2 _ rfl _ _ _ rfl rfl c_bool)
  obtain ⟨A, n, q, la, e4, w4⟩ := rd_acts (h2 3 _ rfl _ _ _ rfl rfl c_acts)
  have z1 : a = St l := one_eq e1
  have z2 : b = .int .u32 v := one_eq e2
  have z3 : c = .bool o := one_eq e3
  have z4 : d = .slice A n q := one_eq e4
  subst z1; subst z2; subst z3; subst z4
  exact ⟨⟨l, v, o, la⟩, A, n, q, rfl, w4, w1, u32_wf w2⟩
theorem rd_inss (h : Rd W 22 cs) : ∃ A n c l, cs = [.slice A n c] ∧ Inss W A n c l := sl_of Tryz.underlying22 c_ins (by decide) h fun _ hd => rd_ins hd
theorem rd_table (h : Rd W 24 cs) : ∃ (t : Tab) (A : Option Addr) (n c : Nat), cs = [.int .i64 t.cells, .slice A n c] ∧ Inss W A n c t.ins := by
  obtain ⟨h1, h2⟩ := rd_field Tryz.underlying24 h c_tab
  obtain ⟨a, b, rfl⟩ := len2 h1
  obtain ⟨k, e1, _⟩ := rd_int Tryz.underlying3 (h2 0 _ rfl _ _ _ rfl rfl c_int)
  obtain ⟨A, n, c, l, e2, w2⟩ := rd_inss (h2 1 _ rfl _ _ _ rfl rfl c_inss)
  have z1 : a = .int .i64 k := one_eq e1
  have z2 : b = .slice A n c := one_eq e2
  subst z1; subst z2
  exact ⟨⟨k, l⟩, A, n, c, rfl, w2⟩
end
section
variable {H : Type} {enc : TypeId × Value → H} {W : World} {base : Nat} {v : Value} {d : DataW H} {ps : List MemPlace}
theorem rd_of {t : TypeId} (hd : DataW.Trod enc Tryz.prog W 0 (fun _ => true) true t v d ps) : Rd W t v.cells.toList := by
  obtain ⟨n, h⟩ := hd
  exact ⟨H, enc, n, _, h⟩
theorem agg_of {t : TypeId} {fs : Array Field} (ht : Tryz.prog.underlying t = some (.struct fs)) (hv : Value.okWide Tryz.prog W .any base t v) : ∃ cs, v = .agg cs := by
  unfold Value.okWide at hv
  rw [ht] at hv
  obtain ⟨cs, h, _⟩ := hv
  exact ⟨cs, h⟩
theorem arg_table (hv : Value.okWide Tryz.prog W .any base 24 v) (hd : DataW.Trod enc Tryz.prog W 0 (fun _ => true) true 24 v d ps) : ∃ (t : Tab) (A : Option Addr) (n c : Nat), v = .agg #[.int .i64 t.cells, .slice A n c] ∧ Inss W A n c t.ins := by
  obtain ⟨cs, rfl⟩ := agg_of Tryz.underlying24 hv
  obtain ⟨t, A, n, c, h1, h2⟩ := rd_table (rd_of hd)
  refine ⟨t, A, n, c, ?_, h2⟩
  simp only [Value.cells] at h1
  rw [← h1]
end
end Go.Proofs.YtoeeblegplghmaaGreatDoor
namespace Go.Proofs.YtoeeblegplghmaaGreatDoor
open Go Go.FL Go.ChangeShapes Go.WideShapes Go.ChangeAt Go.RowKit Go.Deep
theorem row_err (u : TypeId) (hu : Tryz.prog.typeName? 3 u = Tryz.prog.typeName? 3 189) : u = 189 :=
  have hn : Tryz.prog.typeName? 3 189 = some ("*" ++ "errors.errorString") := by kernel_rfl
  typeName_ptr_named (nm := "errors.errorString") (by kernel_rfl) (by kernel_rfl) (by decide) u (hu.trans hn)
theorem gw_var {W : World} {nm : String} {g : Nat} {cs : Array Value} (hg : Tryz.prog.globalNamed nm = some g) (h : W.var? Tryz.prog nm = some cs) : ∃ ty fz, W.heap[g]? = some (.cells cs ty fz) := by
  unfold World.var? at h
  rw [hg] at h
  simp only [Option.bind_some] at h
  split at h
  · rename_i c t f hb
    injection h with h
    subst h
    exact ⟨t, f, hb⟩
  · cases h
set_option maxRecDepth 100000 in
theorem gp_of {W : World} (h : laidMetH Tryz.prog Rows.primerTextMatchesSpecRow.laid W) : GP W := by
  rw [MakeChecks.laidMetH_plain _ _ _ (by kernel_rfl)] at h
  have h2 := h.tail.tail
  have hpow := Lib.tabIs_of_head (zs := Lib.pow10Tab) (k := .u64) (g := 3) (by kernel_rfl) (by kernel_rfl) Tryz.underlying176 Tryz.underlying123 (by kernel_rfl) (by kernel_rfl) h2
  have h4 := h2.tail.tail
  obtain ⟨a1, s1, hv1, _⟩ := laid_sentinel (g := 5) h4 (by kernel_rfl) (by kernel_rfl) Tryz.underlying93 (fun u hu => row_err u (hu.trans (by kernel_rfl))) Tryz.underlying189 Tryz.underlying191 rfl rfl Tryz.underlying9 (by kernel_rfl) (by kernel_rfl)
  obtain ⟨a2, s2, hv2, _⟩ := laid_sentinel (g := 4) h4.tail (by kernel_rfl) (by kernel_rfl) Tryz.underlying93 (fun u hu => row_err u (hu.trans (by kernel_rfl))) Tryz.underlying189 Tryz.underlying191 rfl rfl Tryz.underlying9 (by kernel_rfl) (by kernel_rfl)
  have hasc := Lib.tabIs_of_head (zs := Lib.asciiSpaceTab) (k := .u8) (g := 0) (by kernel_rfl) (by kernel_rfl) Tryz.underlying115 Tryz.underlying5 (by kernel_rfl) (by kernel_rfl) h4.tail.tail.tail
  refine ⟨⟨?_, ?_, ?_⟩, gw_var (g := 0) (by kernel_rfl) hasc⟩
  · exact gw_var (g := 3) (by kernel_rfl) hpow
  · exact ⟨_, _, World.var?_cell (g := 4) (by kernel_rfl) hv2 0⟩
  · exact ⟨_, _, World.var?_cell (g := 5) (by kernel_rfl) hv1 0⟩
end Go.Proofs.YtoeeblegplghmaaGreatDoor
namespace Go.Proofs.YtoeeblegplghmaaGreatDoor
open Go Go.FL Go.ChangeShapes Go.WideShapes Go.ChangeAt Go.RowKit
theorem primerTextMatchesSpec_reads : ∀ t ∈ Tryz.f3.params.toList, Tryz.prog.readableRec t = true ∧ t < Tryz.prog.types.size := by
  rw [Tryz.params3]
  intro t ht
  simp only [List.mem_cons, List.not_mem_nil, or_false] at ht
  rcases ht with rfl <;> exact ⟨by kernel_rfl, of_decide_eq_true (by kernel_rfl)⟩
set_option maxRecDepth 100000 in
theorem primerTextMatchesSpec_contract (H : Type) (enc : TypeId × Value → H) (W : World) (base : Nat) (args : Array Value) (ds gs : List (DataW H)) (before : List MemPlace)
    (hval : ∀ (j : Nat) t v, Tryz.f3.params[j]? = some t → args[j]? = some v → Value.okWide Tryz.prog W .any base t v)
    (hW : DataW.Whole enc Tryz.prog Tryz.f3.params.toList Rows.primerTextMatchesSpecSpec.vars false W args.toList ds gs before) (hL : laidMetH Tryz.prog Rows.primerTextMatchesSpecRow.laid W) :
    Calls Tryz.prog 3 args W fun e W' => ∃ v, e = .returned v ∧ Rows.primerTextMatchesSpecSpec.post enc Tryz.prog Tryz.f3 false true false false W args v W' := by
  have hW' := hW
  obtain ⟨p, q, hA0, hV, rfl, hfz, hnd⟩ := hW'
  have hA : DataW.TrodAll enc Tryz.prog W 0 (fun _ => true) true Tryz.f3.params.toList args.toList ds p := hA0
  rw [Tryz.params3] at hA hval
  obtain ⟨v0, vs0, d0, ds0, p0, q0, hargs0, rfl, rfl, h0, r0⟩ := trodAll_cons hA
  obtain ⟨rfl, rfl, rfl⟩ := trodAll_nil r0
  obtain rfl : args = #[v0] := by cases args; simp_all
  obtain ⟨rfl, rfl⟩ := trodVars_none hV
  obtain ⟨t0, A0, n0, c0, rfl, hT0⟩ := arg_table (hval 0 24 v0 rfl rfl) h0
  refine (law_calls (args := [_]) fun D => lawText_ac D [] W (gp_of hL) t0 A0 n0 c0 hT0).mono fun e W' ⟨he, hg⟩ => ?_
  subst he
  exact ⟨_, rfl, law_post laid_out primerTextMatchesSpec_reads (by kernel_rfl) Tryz.underlying4 rfl hW rfl hg⟩
set_option maxRecDepth 100000 in
theorem primerTextMatchesSpec_lifted (os : Os) (started : os.Started) (H : Type) (enc : TypeId × Value → H) :
    ReturnsInHanded {} Tryz.checked os 3 .any (fun w args => (Rows.primerTextMatchesSpecSpec.pre enc Tryz.prog Tryz.f3 [] false w args ∧ laidMetH Tryz.prog Rows.primerTextMatchesSpecRow.laid w) ∧ sizedMet enc Tryz.prog Tryz.f3 (OpenSpec.ofChange Rows.primerTextMatchesSpecSpec) false w args) (Rows.primerTextMatchesSpecSpec.post enc Tryz.prog Tryz.f3 false true false false) := by
  refine returnsInHanded_of_change_and (C := Tryz.checked) (X := fun w _ => laidMetH Tryz.prog Rows.primerTextMatchesSpecRow.laid w) (fun _ _ _ hh h => h.of_heap hh) own_knob started (by kernel_rfl) Tryz.func3
    (ChangeSpec.witness_shaped (enc := enc) (C := Tryz.checked) (os := os) (X := fun w _ => laidMetH Tryz.prog Rows.primerTextMatchesSpecRow.laid w) false (World.laidAll Tryz.prog os Rows.primerTextMatchesSpecRow.laid) #[.agg #[.int .i64 0, .slice none 0 0]] 8 (World.laidAll_os _ _ _)
      (World.shaped_of_ZipB (by kernel_rfl) (by kernel_rfl)) (by kernel_rfl) (by kernel_rfl) (by kernel_rfl)
      (by rw [MakeChecks.laidMetH_plain _ _ _ (by kernel_rfl)]; exact laidMet_laidAll _ (by kernel_rfl) (by kernel_rfl))) ?_
  intro W base args ds gs before hval hW _ _ hL _
  exact primerTextMatchesSpec_contract H enc W base args ds gs before hval hW hL
theorem primerTextMatchesSpec_said : Rows.PrimerTextMatchesSpecSaid :=
  OpenClaim.holds_of_wide 3 Tryz.f3 rfl rfl rfl rfl rfl rfl rfl ⟨rfl, rfl, rfl, rfl, rfl⟩ rfl rfl rfl rfl rfl (by kernel_rfl) Tryz.func3 (by kernel_rfl)
    (of_decide_eq_true (by kernel_rfl)) (by unfold Func.isWrapper; first | (rw [if_pos (by decide +kernel)]; kernel_rfl) | (rw [if_neg (by decide +kernel)]; exact ⟨rfl, rfl⟩))
    (fun os started H enc _ => primerTextMatchesSpec_lifted os started H enc)
theorem primerTextMatchesSpec_plain (f : FuncId) (fn : Func) (hf : Tryz.pinned.checked.prog.funcNamed Rows.primerTextMatchesSpecRow.func = some f) (hfn : Tryz.pinned.checked.prog.funcs[f]? = some fn) : true = Tryz.pinned.checked.prog.looks [] ∧ ∀ (j : Nat) t, fn.params[j]? = some t → Tryz.pinned.checked.prog.wantsStandIn t = false := by
  obtain rfl : f = 3 := Option.some.inj ((show Tryz.prog.funcNamed Rows.primerTextMatchesSpecRow.func = some 3 by kernel_rfl).symm.trans hf) |>.symm
  obtain rfl : fn = Tryz.f3 := (Option.some.inj (Tryz.func3.symm.trans hfn)).symm
  exact ⟨by kernel_rfl, fun j t ht => by
    rw [Tryz.params3] at ht
    have hm : t ∈ [24] := by simpa using Array.mem_of_getElem? ht
    have hall : ([24].all fun u => !Tryz.prog.wantsStandIn u) = true := by kernel_rfl
    exact (show Tryz.prog.wantsStandIn t = false by simpa using List.all_eq_true.1 hall t hm)⟩
theorem primerTextMatchesSpec_holds : Rows.PrimerTextMatchesSpecCardSaid :=
  Claim7.holds_tied_plain_at .later [] _ _ _ _ primerTextMatchesSpec_said (fun _ h => by cases h) (by kernel_rfl) (fun _ h => by cases h) primerTextMatchesSpec_row_tie rfl ⟨rfl, rfl⟩ (by kernel_rfl) rfl primerTextMatchesSpec_plain (by kernel_rfl)
end Go.Proofs.YtoeeblegplghmaaGreatDoor
