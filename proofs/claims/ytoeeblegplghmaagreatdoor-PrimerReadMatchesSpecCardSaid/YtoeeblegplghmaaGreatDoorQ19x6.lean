/- Part 6 of the proof of primerReadMatchesSpec_holds: texts P17, P18, P23, Ph, P27. -/
import Derived.Test.YtoeeblegplghmaaGreatDoorQ19x5
set_option linter.unusedVariables false
set_option linter.unusedSimpArgs false
set_option linter.unnecessarySimpa false
namespace Go.Proofs.YtoeeblegplghmaaGreatDoor
open Go.FL
attribute [local irreducible] JC JO JA JB thenQ blockQ retQ AC fill CellsAt QE Ev Mid
theorem dec_more {w : Nat} (h : ¬ w < 10) : Lib.decDigits w = Lib.decDigits (w / 10) ++ Lib.decDigits (w % 10) := by
  rw [Lib.decDigits, dif_neg h, Lib.decDigits_one (i := w % 10) (by omega)]
theorem rem10 (n : Nat) : Value.int .u32 ((n : Int).tmod 10) = .int .u32 ((n % 10 : Nat) : Int) := by rw [Int.tmod_eq_emod_of_nonneg (by omega)]; rfl
theorem quo10 {n : Nat} (h : n < 4294967296) : Value.int .u32 (IntKind.u32.wrap ((n : Int).tdiv 10)) = .int .u32 ((n / 10 : Nat) : Int) := by
  rw [Int.tdiv_eq_ediv_of_nonneg (by omega), IntKind.wrap_u32]; congr 1; omega
theorem dig48 {n : Nat} (h : n < 10) : Value.int .u8 (IntKind.u8.wrap (IntKind.u32.wrap (48 + (n : Int)))) = .int .u8 ((UInt8.ofNat (48 + n)).toNat : Int) := by
  rw [IntKind.wrap_u32, IntKind.wrap_u8]; congr 1; simp only [UInt8.toNat_ofNat']; omega
theorem bts_lit {s : World} {b : Nat} {l : List UInt8} (h : CellsAt s b 0 (bv l)) (hl : l.length ≤ 1000) : Bts s (some ⟨b, 0, none⟩) l.length l.length l := bts_pub (yc := []) (cc := l.length) (by simpa using h) (by simp) (by omega)
theorem fld_hit {l : List UInt8} {i f : Nat} (hf : f < i) (hc : i = l.length ∨ ∃ ch, l[i]? = some ch ∧ isBlk ch = true) : fw ((l.drop f).take (i - f)) (l.drop i) = ((l.drop f).take (i - f)) :: fw ((l.drop (i + 1)).take (i + 1 - (i + 1))) (l.drop (i + 1)) := by
  rw [Nat.sub_self, List.take_zero]
  rcases hc with rfl | ⟨ch, h1, h2⟩
  · rw [fw_end hf, show l.drop (l.length + 1) = [] from List.drop_of_length_le (by omega)]; rfl
  · exact fw_hit h1 h2 hf
theorem fld_skip {l : List UInt8} {i : Nat} (hc : i = l.length ∨ ∃ ch, l[i]? = some ch ∧ isBlk ch = true) : fw ((l.drop i).take (i - i)) (l.drop i) = fw ((l.drop (i + 1)).take (i + 1 - (i + 1))) (l.drop (i + 1)) := by
  rw [Nat.sub_self, Nat.sub_self, List.take_zero, List.take_zero]
  rcases hc with rfl | ⟨ch, h1, h2⟩
  · rw [List.drop_of_length_le (Nat.le_refl _), List.drop_of_length_le (by omega)]
  · exact fw_skip h1 h2
theorem fld_end {l : List UInt8} : fw ((l.drop (l.length + 1)).take (l.length + 1 - (l.length + 1))) (l.drop (l.length + 1)) = [] := by
  rw [Nat.sub_self, List.take_zero, List.drop_of_length_le (by omega)]; rfl
set_option maxHeartbeats 2000000 in
set_option maxRecDepth 100000 in
theorem rfieldsO_ac (D : Nat) (L : Hl) (s : World) (l : List UInt8) (hl : l.length ≤ 4000000) : AC Tryz.prog D 19 [St l] L s fun v L' s' => ∃ M', L' = M' ++ L ∧ ∀ s2, Le D s' s2 → Pub M' s2 → ∃ A n c', v = .slice A n c' ∧ Strs s2 A n c' (flds l) := by
 refine AC_enter (TT := TT) (fn := Tryz.f19) TT_ok Tryz.func19 (by kernel_rfl) rfl Tryz.ntmps19 rfl (rs := [.tmp 2]) rfl [(0, _)] rfl ?_
 refine JC_seq ?_
 refine JC_region ?_
 refine JO_q (QE_as rfl) rfl ?_
 refine JO_nil ?_
 refine thenQ_n ?_
 refine JC_seq ?_
 refine JC_region ?_
 refine JO_q (QE_as rfl) rfl ?_
 refine JO_nil ?_
 refine thenQ_n ?_
 refine JC_seq ?_
 refine JC_region ?_
 refine JO_q (QE_as rfl) rfl ?_
 refine JO_nil ?_
 refine thenQ_n ?_
 refine JC_seq ?_
 refine JC_seq ?_
 refine JC_region ?_
 refine JO_q (QE_as rfl) rfl ?_
 refine JO_nil ?_
 refine thenQ_n ?_
 refine JC_block ?_
 refine JC_loop (γ := Nat × Nat × Value × Hl × List (List UInt8)) (fun g => [(0, _), (2, _), (3, g.2.2.1), (4, .int .i64 (g.2.1 : Int)), (5, .int .i64 (g.1 : Int))]) (fun g => g.2.2.2.1 ++ L) (fun g tw => Le D s tw ∧ (g.1 ≤ l.length + 1 ∧ g.2.1 ≤ g.1 ∧ (l.length < g.1 → g.2.1 = g.1) ∧ FL.Own 9 1 g.2.2.2.1 g.2.2.1 g.2.2.2.2.length (sb g.2.2.2.2) ∧ g.2.2.2.2.length ≤ g.1 ∧ flds l = g.2.2.2.2 ++ fw ((l.drop g.2.1).take (g.1 - g.2.1)) (l.drop g.1))) (fun g => l.length + 1 - g.1) (fun _ _ _ h hl => ⟨h.1.trans hl, h.2⟩) (0, 0, .slice none 0 0, [], []) (Keeps.cons rfl (Keeps.cons rfl (Keeps.cons rfl (Keeps.cons rfl (Keeps.cons rfl (Keeps.nil _)))))) rfl ⟨Le.refl _, ⟨Nat.zero_le _, Nat.le_refl _, fun h => by simp only at h; omega, FL.Own.nil, Nat.le_refl _, by simp [flds]⟩⟩ ?_
 intro g s1 I1
 obtain ⟨i, f, vo, Mo, out⟩ := g
 obtain ⟨hi0, hf, hfe, hO, hol, hS⟩ := I1.2
 simp only at hi0 hf hfe hO hol hS
 dsimp only
 refine JC_seq ?_
 refine JC_seq ?_
 refine JC_region ?_
 refine JO_q (QE_mv rfl) rfl ?_
 refine JO_q (QE_mv rfl) rfl ?_
 refine JO_q (QE_lenT rfl rfl rfl) rfl ?_
 refine JO_q (QE_le rfl rfl) rfl ?_
 refine JO_nil ?_
 refine thenQ_n ?_
 refine JC_ifD rfl (fun c2 => ?_) (fun c2 => ?_)
 ·
  refine JC_skip ?_
  refine thenQ_n ?_
  refine JC_seq ?_
  refine JC_block ?_
  refine JC_seq ?_
  refine JC_seq ?_
  refine JC_region ?_
  refine JO_q (QE_mv rfl) rfl ?_
  refine JO_q (QE_mv rfl) rfl ?_
  refine JO_q (QE_lenT rfl rfl rfl) rfl ?_
  refine JO_q (QE_lt rfl rfl) rfl ?_
  refine JO_q (QE_mv rfl) rfl ?_
  refine JO_caseD (t := 16) rfl (fun c3 => ?_) (fun c3 => ?_)
  ·
   refine JO_gT rfl rfl ?_
   refine JO_q (QE_mv rfl) rfl ?_
   refine JO_gT rfl rfl ?_
   refine JO_q (QE_mv rfl) rfl ?_
   refine JO_gT rfl rfl ?_
   obtain ⟨ch, hch⟩ : ∃ ch, l[i]? = some ch := ⟨_, List.getElem?_eq_getElem (by omega)⟩
   refine JO_q (QE_ix rfl rfl rfl rfl hch) rfl ?_
   refine JO_gT rfl rfl ?_
   refine JO_q (QE_ne rfl rfl) rfl ?_
   refine JO_q (QE_pickT rfl rfl) rfl ?_
   refine JO_q (QE_mv rfl) rfl ?_
   refine JO_caseN (t := 22) rfl (fun c4 => ?_) (fun c4 => ?_)
   ·
    refine JO_gT rfl rfl ?_
    refine JO_q (QE_mv rfl) rfl ?_
    refine JO_gT rfl rfl ?_
    refine JO_q (QE_mv rfl) rfl ?_
    refine JO_gT rfl rfl ?_
    refine JO_q (QE_ix rfl rfl rfl rfl hch) rfl ?_
    refine JO_gT rfl rfl ?_
    refine JO_q (QE_ne rfl rfl) rfl ?_
    refine JO_q (QE_pickT rfl rfl) rfl ?_
    refine JO_nil ?_
    refine thenQ_n ?_
    refine JC_ifN rfl (fun c5 => ?_) (fun c5 => ?_)
    ·
     have hb : isBlk ch = false := Bool.eq_false_iff.2 (fun h => by have := isBlk_iff.1 h; omega)
     refine JC_exit ?_
     refine thenQ_x ?_
     refine blockQ_x ?_
     refine thenQ_n ?_
     refine JC_region ?_
     refine JO_q (QE_mv rfl) rfl ?_
     refine JO_q (QE_add' rfl rfl (w64 (by omega) (by omega))) rfl ?_
     refine JO_q (QE_as rfl) rfl ?_
     refine JO_nil ?_
     refine thenQ_n ⟨(i + 1, f, vo, Mo, out), [], (Keeps.cons rfl (Keeps.cons rfl (Keeps.cons rfl (Keeps.cons rfl (Keeps.cons rfl (Keeps.nil _)))))), rfl, ⟨I1.1, by
       first
       | exact ⟨by simp only; omega, by simp only; omega, fun h => by simp only at h; omega, hO, by simp only; omega, by simp only; rw [hS, fw_miss hch hb hf]⟩
       | exact ⟨by simp only; omega, Nat.le_refl _, fun _ => rfl, by simp only [List.length_append, List.length_cons, List.length_nil, sb_snoc]; exact oq, by simp only [List.length_append, List.length_cons, List.length_nil]; omega, by simp only; rw [hS, fld_hit h30 hcase]; simp⟩
       | exact ⟨by simp only; omega, Nat.le_refl _, fun _ => rfl, hO, by simp only; omega, by simp only; rw [hS, show f = i by omega, fld_skip hcase]⟩⟩, (by simp only; omega)⟩
    ·
     have hcase : (i = l.length) ∨ ∃ ch, l[i]? = some ch ∧ isBlk ch = true := by
       first
       | exact .inl (by omega)
       | exact .inr ⟨ch, hch, isBlk_iff.2 (by omega)⟩
     refine JC_skip ?_
     refine thenQ_n ?_
     refine JC_seq ?_
     refine JC_seq ?_
     refine JC_region ?_
     refine JO_q (QE_mv rfl) rfl ?_
     refine JO_q (QE_mv rfl) rfl ?_
     refine JO_q (QE_gt rfl rfl) rfl ?_
     refine JO_nil ?_
     refine thenQ_n ?_
     refine JC_ifD rfl (fun c6 => ?_) (fun c6 => ?_)
     ·
      have h30 : f < i := by omega
      refine JC_region ?_
      refine JO_q (QE_mv rfl) rfl ?_
      refine JO_q (QE_mv rfl) rfl ?_
      refine JO_q (QE_mv rfl) rfl ?_
      refine JO_q (QE_mv rfl) rfl ?_
      refine JO_q (QE_stLH rfl rfl rfl rfl rfl (by omega) (by omega)) rfl ?_
      refine JO_bs [(_, _)] [_] rfl rfl rfl rfl rfl rfl rfl rfl rfl ?_
      intro βn s7 h7 hcb
      refine JO_app (sz := 1) [] Mo L rfl rfl rfl rfl rfl rfl rfl hO (Row.of_cells (hcb.le (Le.refl (D := D) _)) rfl rfl) ⟨by simp [ti9]; omega, by omega⟩ rfl ?_
      intro vq Mq s8 h8 oq
      obtain ⟨Avq, cvq, rfl, _, _⟩ := Own.slice oq
      simp only [List.nil_append]
      refine JO_q (QE_as rfl) rfl ?_
      refine JO_nil ?_
      refine thenQ_n ?_
      refine JC_region ?_
      refine JO_q (QE_mv rfl) rfl ?_
      refine JO_q (QE_add' rfl rfl (w64 (by omega) (by omega))) rfl ?_
      refine JO_q (QE_as rfl) rfl ?_
      refine JO_nil ?_
      refine blockQ_n ?_
      refine thenQ_n ?_
      refine JC_region ?_
      refine JO_q (QE_mv rfl) rfl ?_
      refine JO_q (QE_add' rfl rfl (w64 (by omega) (by omega))) rfl ?_
      refine JO_q (QE_as rfl) rfl ?_
      refine JO_nil ?_
      refine thenQ_n ⟨(i + 1, i + 1, .slice Avq (out.length + 1) cvq, Mq, out ++ [(l.drop f).take (i - f)]), [], (Keeps.cons rfl (Keeps.cons rfl (Keeps.cons rfl (Keeps.cons rfl (Keeps.cons rfl (Keeps.nil _)))))), rfl, ⟨(Le.trans (Le.trans I1.1 h7) h8), by
        first
        | exact ⟨by simp only; omega, by simp only; omega, fun h => by simp only at h; omega, hO, by simp only; omega, by simp only; rw [hS, fw_miss hch hb hf]⟩
        | exact ⟨by simp only; omega, Nat.le_refl _, fun _ => rfl, by simp only [List.length_append, List.length_cons, List.length_nil, sb_snoc]; exact oq, by simp only [List.length_append, List.length_cons, List.length_nil]; omega, by simp only; rw [hS, fld_hit h30 hcase]; simp⟩
        | exact ⟨by simp only; omega, Nat.le_refl _, fun _ => rfl, hO, by simp only; omega, by simp only; rw [hS, show f = i by omega, fld_skip hcase]⟩⟩, (by simp only; omega)⟩
     ·
      have h30 : ¬ f < i := by omega
      refine JC_skip ?_
      refine thenQ_n ?_
      refine JC_region ?_
      refine JO_q (QE_mv rfl) rfl ?_
      refine JO_q (QE_add' rfl rfl (w64 (by omega) (by omega))) rfl ?_
      refine JO_q (QE_as rfl) rfl ?_
      refine JO_nil ?_
      refine blockQ_n ?_
      refine thenQ_n ?_
      refine JC_region ?_
      refine JO_q (QE_mv rfl) rfl ?_
      refine JO_q (QE_add' rfl rfl (w64 (by omega) (by omega))) rfl ?_
      refine JO_q (QE_as rfl) rfl ?_
      refine JO_nil ?_
      refine thenQ_n ⟨(i + 1, i + 1, vo, Mo, out), [], (Keeps.cons rfl (Keeps.cons rfl (Keeps.cons rfl (Keeps.cons rfl (Keeps.cons rfl (Keeps.nil _)))))), rfl, ⟨I1.1, by
        first
        | exact ⟨by simp only; omega, by simp only; omega, fun h => by simp only at h; omega, hO, by simp only; omega, by simp only; rw [hS, fw_miss hch hb hf]⟩
        | exact ⟨by simp only; omega, Nat.le_refl _, fun _ => rfl, by simp only [List.length_append, List.length_cons, List.length_nil, sb_snoc]; exact oq, by simp only [List.length_append, List.length_cons, List.length_nil]; omega, by simp only; rw [hS, fld_hit h30 hcase]; simp⟩
        | exact ⟨by simp only; omega, Nat.le_refl _, fun _ => rfl, hO, by simp only; omega, by simp only; rw [hS, show f = i by omega, fld_skip hcase]⟩⟩, (by simp only; omega)⟩
   ·
    refine JO_gF rfl rfl rfl rfl ?_
    refine JO_gF rfl rfl rfl rfl ?_
    refine JO_gF rfl rfl rfl rfl ?_
    refine JO_gF rfl rfl rfl rfl ?_
    refine JO_q (QE_pickF rfl rfl) rfl ?_
    refine JO_nil ?_
    refine thenQ_n ?_
    refine JC_ifF rfl ?_
    have hcase : (i = l.length) ∨ ∃ ch, l[i]? = some ch ∧ isBlk ch = true := by
      first
      | exact .inl (by omega)
      | exact .inr ⟨ch, hch, isBlk_iff.2 (by omega)⟩
    refine JC_skip ?_
    refine thenQ_n ?_
    refine JC_seq ?_
    refine JC_seq ?_
    refine JC_region ?_
    refine JO_q (QE_mv rfl) rfl ?_
    refine JO_q (QE_mv rfl) rfl ?_
    refine JO_q (QE_gt rfl rfl) rfl ?_
    refine JO_nil ?_
    refine thenQ_n ?_
    refine JC_ifD rfl (fun c9 => ?_) (fun c9 => ?_)
    ·
     have h30 : f < i := by omega
     refine JC_region ?_
     refine JO_q (QE_mv rfl) rfl ?_
     refine JO_q (QE_mv rfl) rfl ?_
     refine JO_q (QE_mv rfl) rfl ?_
     refine JO_q (QE_mv rfl) rfl ?_
     refine JO_q (QE_stLH rfl rfl rfl rfl rfl (by omega) (by omega)) rfl ?_
     refine JO_bs [(_, _)] [_] rfl rfl rfl rfl rfl rfl rfl rfl rfl ?_
     intro βn s10 h10 hcb
     refine JO_app (sz := 1) [] Mo L rfl rfl rfl rfl rfl rfl rfl hO (Row.of_cells (hcb.le (Le.refl (D := D) _)) rfl rfl) ⟨by simp [ti9]; omega, by omega⟩ rfl ?_
     intro vq Mq s11 h11 oq
     obtain ⟨Avq, cvq, rfl, _, _⟩ := Own.slice oq
     simp only [List.nil_append]
     refine JO_q (QE_as rfl) rfl ?_
     refine JO_nil ?_
     refine thenQ_n ?_
     refine JC_region ?_
     refine JO_q (QE_mv rfl) rfl ?_
     refine JO_q (QE_add' rfl rfl (w64 (by omega) (by omega))) rfl ?_
     refine JO_q (QE_as rfl) rfl ?_
     refine JO_nil ?_
     refine blockQ_n ?_
     refine thenQ_n ?_
     refine JC_region ?_
     refine JO_q (QE_mv rfl) rfl ?_
     refine JO_q (QE_add' rfl rfl (w64 (by omega) (by omega))) rfl ?_
     refine JO_q (QE_as rfl) rfl ?_
     refine JO_nil ?_
     refine thenQ_n ⟨(i + 1, i + 1, .slice Avq (out.length + 1) cvq, Mq, out ++ [(l.drop f).take (i - f)]), [], (Keeps.cons rfl (Keeps.cons rfl (Keeps.cons rfl (Keeps.cons rfl (Keeps.cons rfl (Keeps.nil _)))))), rfl, ⟨(Le.trans (Le.trans I1.1 h10) h11), by
       first
       | exact ⟨by simp only; omega, by simp only; omega, fun h => by simp only at h; omega, hO, by simp only; omega, by simp only; rw [hS, fw_miss hch hb hf]⟩
       | exact ⟨by simp only; omega, Nat.le_refl _, fun _ => rfl, by simp only [List.length_append, List.length_cons, List.length_nil, sb_snoc]; exact oq, by simp only [List.length_append, List.length_cons, List.length_nil]; omega, by simp only; rw [hS, fld_hit h30 hcase]; simp⟩
       | exact ⟨by simp only; omega, Nat.le_refl _, fun _ => rfl, hO, by simp only; omega, by simp only; rw [hS, show f = i by omega, fld_skip hcase]⟩⟩, (by simp only; omega)⟩
    ·
     have h30 : ¬ f < i := by omega
     refine JC_skip ?_
     refine thenQ_n ?_
     refine JC_region ?_
     refine JO_q (QE_mv rfl) rfl ?_
     refine JO_q (QE_add' rfl rfl (w64 (by omega) (by omega))) rfl ?_
     refine JO_q (QE_as rfl) rfl ?_
     refine JO_nil ?_
     refine blockQ_n ?_
     refine thenQ_n ?_
     refine JC_region ?_
     refine JO_q (QE_mv rfl) rfl ?_
     refine JO_q (QE_add' rfl rfl (w64 (by omega) (by omega))) rfl ?_
     refine JO_q (QE_as rfl) rfl ?_
     refine JO_nil ?_
     refine thenQ_n ⟨(i + 1, i + 1, vo, Mo, out), [], (Keeps.cons rfl (Keeps.cons rfl (Keeps.cons rfl (Keeps.cons rfl (Keeps.cons rfl (Keeps.nil _)))))), rfl, ⟨I1.1, by
       first
       | exact ⟨by simp only; omega, by simp only; omega, fun h => by simp only at h; omega, hO, by simp only; omega, by simp only; rw [hS, fw_miss hch hb hf]⟩
       | exact ⟨by simp only; omega, Nat.le_refl _, fun _ => rfl, by simp only [List.length_append, List.length_cons, List.length_nil, sb_snoc]; exact oq, by simp only [List.length_append, List.length_cons, List.length_nil]; omega, by simp only; rw [hS, fld_hit h30 hcase]; simp⟩
       | exact ⟨by simp only; omega, Nat.le_refl _, fun _ => rfl, hO, by simp only; omega, by simp only; rw [hS, show f = i by omega, fld_skip hcase]⟩⟩, (by simp only; omega)⟩
  ·
   refine JO_gF rfl rfl rfl rfl ?_
   refine JO_gF rfl rfl rfl rfl ?_
   refine JO_gF rfl rfl rfl rfl ?_
   refine JO_gF rfl rfl rfl rfl ?_
   refine JO_q (QE_pickF rfl rfl) rfl ?_
   refine JO_q (QE_mv rfl) rfl ?_
   refine JO_gF rfl rfl rfl rfl ?_
   refine JO_gF rfl rfl rfl rfl ?_
   refine JO_gF rfl rfl rfl rfl ?_
   refine JO_gF rfl rfl rfl rfl ?_
   refine JO_q (QE_pickF rfl rfl) rfl ?_
   refine JO_nil ?_
   refine thenQ_n ?_
   refine JC_ifF rfl ?_
   have hcase : (i = l.length) ∨ ∃ ch, l[i]? = some ch ∧ isBlk ch = true := by
     first
     | exact .inl (by omega)
     | exact .inr ⟨ch, hch, isBlk_iff.2 (by omega)⟩
   refine JC_skip ?_
   refine thenQ_n ?_
   refine JC_seq ?_
   refine JC_seq ?_
   refine JC_region ?_
   refine JO_q (QE_mv rfl) rfl ?_
   refine JO_q (QE_mv rfl) rfl ?_
   refine JO_q (QE_gt rfl rfl) rfl ?_
   refine JO_nil ?_
   refine thenQ_n ?_
   refine JC_ifD rfl (fun c12 => ?_) (fun c12 => ?_)
   ·
    have h30 : f < i := by omega
    refine JC_region ?_
    refine JO_q (QE_mv rfl) rfl ?_
    refine JO_q (QE_mv rfl) rfl ?_
    refine JO_q (QE_mv rfl) rfl ?_
    refine JO_q (QE_mv rfl) rfl ?_
    refine JO_q (QE_stLH rfl rfl rfl rfl rfl (by omega) (by omega)) rfl ?_
    refine JO_bs [(_, _)] [_] rfl rfl rfl rfl rfl rfl rfl rfl rfl ?_
    intro βn s13 h13 hcb
    refine JO_app (sz := 1) [] Mo L rfl rfl rfl rfl rfl rfl rfl hO (Row.of_cells (hcb.le (Le.refl (D := D) _)) rfl rfl) ⟨by simp [ti9]; omega, by omega⟩ rfl ?_
    intro vq Mq s14 h14 oq
    obtain ⟨Avq, cvq, rfl, _, _⟩ := Own.slice oq
    simp only [List.nil_append]
    refine JO_q (QE_as rfl) rfl ?_
    refine JO_nil ?_
    refine thenQ_n ?_
    refine JC_region ?_
    refine JO_q (QE_mv rfl) rfl ?_
    refine JO_q (QE_add' rfl rfl (w64 (by omega) (by omega))) rfl ?_
    refine JO_q (QE_as rfl) rfl ?_
    refine JO_nil ?_
    refine blockQ_n ?_
    refine thenQ_n ?_
    refine JC_region ?_
    refine JO_q (QE_mv rfl) rfl ?_
    refine JO_q (QE_add' rfl rfl (w64 (by omega) (by omega))) rfl ?_
    refine JO_q (QE_as rfl) rfl ?_
    refine JO_nil ?_
    refine thenQ_n ⟨(i + 1, i + 1, .slice Avq (out.length + 1) cvq, Mq, out ++ [(l.drop f).take (i - f)]), [], (Keeps.cons rfl (Keeps.cons rfl (Keeps.cons rfl (Keeps.cons rfl (Keeps.cons rfl (Keeps.nil _)))))), rfl, ⟨(Le.trans (Le.trans I1.1 h13) h14), by
      first
      | exact ⟨by simp only; omega, by simp only; omega, fun h => by simp only at h; omega, hO, by simp only; omega, by simp only; rw [hS, fw_miss hch hb hf]⟩
      | exact ⟨by simp only; omega, Nat.le_refl _, fun _ => rfl, by simp only [List.length_append, List.length_cons, List.length_nil, sb_snoc]; exact oq, by simp only [List.length_append, List.length_cons, List.length_nil]; omega, by simp only; rw [hS, fld_hit h30 hcase]; simp⟩
      | exact ⟨by simp only; omega, Nat.le_refl _, fun _ => rfl, hO, by simp only; omega, by simp only; rw [hS, show f = i by omega, fld_skip hcase]⟩⟩, (by simp only; omega)⟩
   ·
    have h30 : ¬ f < i := by omega
    refine JC_skip ?_
    refine thenQ_n ?_
    refine JC_region ?_
    refine JO_q (QE_mv rfl) rfl ?_
    refine JO_q (QE_add' rfl rfl (w64 (by omega) (by omega))) rfl ?_
    refine JO_q (QE_as rfl) rfl ?_
    refine JO_nil ?_
    refine blockQ_n ?_
    refine thenQ_n ?_
    refine JC_region ?_
    refine JO_q (QE_mv rfl) rfl ?_
    refine JO_q (QE_add' rfl rfl (w64 (by omega) (by omega))) rfl ?_
    refine JO_q (QE_as rfl) rfl ?_
    refine JO_nil ?_
    refine thenQ_n ⟨(i + 1, i + 1, vo, Mo, out), [], (Keeps.cons rfl (Keeps.cons rfl (Keeps.cons rfl (Keeps.cons rfl (Keeps.cons rfl (Keeps.nil _)))))), rfl, ⟨I1.1, by
      first
      | exact ⟨by simp only; omega, by simp only; omega, fun h => by simp only at h; omega, hO, by simp only; omega, by simp only; rw [hS, fw_miss hch hb hf]⟩
      | exact ⟨by simp only; omega, Nat.le_refl _, fun _ => rfl, by simp only [List.length_append, List.length_cons, List.length_nil, sb_snoc]; exact oq, by simp only [List.length_append, List.length_cons, List.length_nil]; omega, by simp only; rw [hS, fld_hit h30 hcase]; simp⟩
      | exact ⟨by simp only; omega, Nat.le_refl _, fun _ => rfl, hO, by simp only; omega, by simp only; rw [hS, show f = i by omega, fld_skip hcase]⟩⟩, (by simp only; omega)⟩
 ·
  have hiE : i = l.length + 1 := by omega
  subst hiE
  obtain rfl := hfe (by omega)
  rw [fld_end, List.append_nil] at hS
  obtain ⟨Ao, co, rfl, _, _⟩ := Own.slice hO
  refine JC_exit ?_
  refine thenQ_x ?_
  refine thenQ_x ?_
  refine blockQ_x ?_
  refine thenQ_n ?_
  refine JC_seq ?_
  refine JC_region ?_
  refine JO_q (QE_mv rfl) rfl ?_
  refine JO_q (QE_as rfl) rfl ?_
  refine JO_nil ?_
  refine thenQ_n ?_
  refine JC_ret ?_
  refine retQ_mk [] _ (.inr rfl) (.tmp rfl (.nil)) rfl I1.1 (fun sR hS2 => ?_)
  refine ⟨_, rfl, fun s2 hs2 hp => ⟨_, _, _, rfl, ?_⟩⟩
  rw [hS]
  exact Own.strs hO (fun x hx => by rw [← hS] at hx; have := flds_short l x hx; omega) hp rfl
theorem rfields_ac (D : Nat) (L : Hl) (s : World) (l : List UInt8) (hl : l.length ≤ 4000000) : AC Tryz.prog D 19 [St l] L s fun v L' s' => L = L' ∧ ∃ A n c', v = .slice A n c' ∧ Strs s' A n c' (flds l) := AC.pubW (rfieldsO_ac D L s l hl)
theorem rjoin_next {ws : List (List UInt8)} {k : Nat} {x : List UInt8} (h : ws[k]? = some x) (hk : 0 < k) : joinW (ws.take k) ++ [32] ++ x = joinW (ws.take (k + 1)) := by rw [join_take h, if_neg (by omega), List.append_assoc]; rfl
theorem rjoin_first {ws : List (List UInt8)} {x : List UInt8} (h : ws[0]? = some x) : joinW (ws.take 0) ++ x = joinW (ws.take (0 + 1)) := by rw [join_take h, if_pos rfl]; rfl
set_option maxHeartbeats 1000000 in
set_option maxRecDepth 100000 in
theorem rjoined_ac (D : Nat) (L : Hl) (s : World) (A : Option Addr) (n c : Nat) (ws : List (List UInt8)) (hS : Strs s A n c ws) (hz : sizeW ws ≤ 4000000) : AC Tryz.prog D 23 [.slice A n c] L s fun v L' _ => v = St (joinW ws) ∧ L = L' := by
 have hn := hS.1
 have hc1 := hS.2.1
 have hc2 := hS.2.2.1
 have hsz := size_len ws
 refine AC_enter (TT := TT) (fn := Tryz.f23) TT_ok Tryz.func23 (by kernel_rfl) rfl Tryz.ntmps23 rfl (rs := [.tmp 2]) rfl [(0, _)] rfl ?_
 refine JC_seq ?_
 refine JC_region ?_
 refine JO_q (QE_as rfl) rfl ?_
 refine JO_nil ?_
 refine thenQ_n ?_
 refine JC_seq ?_
 refine JC_region ?_
 refine JO_q (QE_as rfl) rfl ?_
 refine JO_nil ?_
 refine thenQ_n ?_
 refine JC_seq ?_
 refine JC_seq ?_
 refine JC_region ?_
 refine JO_q (QE_as rfl) rfl ?_
 refine JO_nil ?_
 refine thenQ_n ?_
 refine JC_block ?_
 refine JC_loop (γ := Nat × List UInt8) (fun g => [(0, _), (2, _), (3, St g.2), (4, .int .i64 (g.1 : Int))]) (fun _ => _) (fun g tw => Le D s tw ∧ (g.1 ≤ n ∧ g.2 = joinW (ws.take g.1))) (fun g => n - g.1) (fun _ _ _ h hl => ⟨h.1.trans hl, h.2⟩) (0, []) (Keeps.cons rfl (Keeps.cons rfl (Keeps.cons rfl (Keeps.cons rfl (Keeps.nil _))))) rfl ⟨Le.refl _, ⟨Nat.zero_le _, rfl⟩⟩ ?_
 intro g s1 I1
 obtain ⟨k, sv⟩ := g
 obtain ⟨hk0, hE⟩ := I1.2
 simp only at hk0 hE
 subst hE
 dsimp only
 have hjl := join_len (ws.take k)
 have hjz : sizeW (ws.take k) ≤ sizeW ws := by have h := sizeW_app (ws.take k) (ws.drop k); rw [List.take_append_drop] at h; omega
 refine JC_seq ?_
 refine JC_seq ?_
 refine JC_region ?_
 refine JO_q (QE_mv rfl) rfl ?_
 refine JO_q (QE_mv rfl) rfl ?_
 refine JO_q (QE_lenS rfl rfl rfl) rfl ?_
 refine JO_q (QE_lt rfl rfl) rfl ?_
 refine JO_nil ?_
 refine thenQ_n ?_
 refine JC_ifD rfl (fun c2 => ?_) (fun c2 => ?_)
 ·
  have hk : k < n := by omega
  obtain ⟨b, off, x, rfl, hx, hcx, _⟩ := Strs.at_ (hS.le I1.1) hk
  have hxl := mem_size (List.mem_of_getElem? hx)
  refine JC_skip ?_
  refine thenQ_n ?_
  refine JC_seq ?_
  refine JC_block ?_
  refine JC_seq ?_
  refine JC_seq ?_
  refine JC_region ?_
  refine JO_q (QE_mv rfl) rfl ?_
  refine JO_q (QE_gt rfl rfl) rfl ?_
  refine JO_nil ?_
  refine thenQ_n ?_
  refine JC_ifD rfl (fun c3 => ?_) (fun c3 => ?_)
  ·
   have h12 : 0 < k := by omega
   refine JC_region ?_
   refine JO_q (QE_mv rfl) rfl ?_
   refine JO_q (QE_sadd rfl rfl (by simp only [List.length_append, List.length_cons, List.length_nil]; omega)) rfl ?_
   refine JO_q (QE_as rfl) rfl ?_
   refine JO_nil ?_
   refine thenQ_n ?_
   refine JC_region ?_
   refine JO_q (QE_mv rfl) rfl ?_
   refine JO_q (QE_mv rfl) rfl ?_
   refine JO_q (QE_mv rfl) rfl ?_
   refine JO_q (QE_ia1 rfl rfl rfl rfl rfl rfl hk) rfl ?_
   refine JO_q (QE_ldsR0 rfl rfl rfl (hcx.le (Le.refl (D := D) _)) rfl) rfl ?_
   refine JO_q (QE_sadd rfl rfl (by first | omega | (simp only [List.length_append, List.length_cons, List.length_nil]; omega))) rfl ?_
   refine JO_q (QE_as rfl) rfl ?_
   refine JO_nil ?_
   refine blockQ_n ?_
   refine thenQ_n ?_
   refine JC_region ?_
   refine JO_q (QE_mv rfl) rfl ?_
   refine JO_q (QE_add' rfl rfl (w64 (by omega) (by omega))) rfl ?_
   refine JO_q (QE_as rfl) rfl ?_
   refine JO_nil ?_
   refine thenQ_n ⟨(k + 1, (joinW (ws.take k) ++ [32]) ++ x), [], (Keeps.cons rfl (Keeps.cons rfl (Keeps.cons rfl (Keeps.cons rfl (Keeps.nil _))))), rfl, ⟨I1.1, by first | exact ⟨by simp only; omega, rjoin_next hx h12⟩ | exact ⟨by simp only; omega, by subst h12; exact rjoin_first hx⟩⟩, (by simp only; omega)⟩
  ·
   have h12 : k = 0 := by omega
   refine JC_skip ?_
   refine thenQ_n ?_
   refine JC_region ?_
   refine JO_q (QE_mv rfl) rfl ?_
   refine JO_q (QE_mv rfl) rfl ?_
   refine JO_q (QE_mv rfl) rfl ?_
   refine JO_q (QE_ia1 rfl rfl rfl rfl rfl rfl hk) rfl ?_
   refine JO_q (QE_ldsR0 rfl rfl rfl (hcx.le (Le.refl (D := D) _)) rfl) rfl ?_
   refine JO_q (QE_sadd rfl rfl (by first | omega | (simp only [List.length_append, List.length_cons, List.length_nil]; omega))) rfl ?_
   refine JO_q (QE_as rfl) rfl ?_
   refine JO_nil ?_
   refine blockQ_n ?_
   refine thenQ_n ?_
   refine JC_region ?_
   refine JO_q (QE_mv rfl) rfl ?_
   refine JO_q (QE_add' rfl rfl (w64 (by omega) (by omega))) rfl ?_
   refine JO_q (QE_as rfl) rfl ?_
   refine JO_nil ?_
   refine thenQ_n ⟨(k + 1, joinW (ws.take k) ++ x), [], (Keeps.cons rfl (Keeps.cons rfl (Keeps.cons rfl (Keeps.cons rfl (Keeps.nil _))))), rfl, ⟨I1.1, by first | exact ⟨by simp only; omega, rjoin_next hx h12⟩ | exact ⟨by simp only; omega, by subst h12; exact rjoin_first hx⟩⟩, (by simp only; omega)⟩
 ·
  have hkE : k = n := by omega
  subst hkE
  rw [hn, List.take_length] at *
  refine JC_exit ?_
  refine thenQ_x ?_
  refine thenQ_x ?_
  refine blockQ_x ?_
  refine thenQ_n ?_
  refine JC_seq ?_
  refine JC_region ?_
  refine JO_q (QE_mv rfl) rfl ?_
  refine JO_q (QE_as rfl) rfl ?_
  refine JO_nil ?_
  refine thenQ_n ?_
  refine JC_ret ?_
  refine retQ_mk [] L (.inr rfl) (.tmp rfl (.nil)) rfl I1.1 (fun sR hS2 => ?_)
  exact ⟨rfl, rfl⟩
set_option maxHeartbeats 1000000 in
set_option maxRecDepth 100000 in
theorem decimalI_ac (D : Nat) (L : Hl) (s : World) (w : Nat) (hw : w < 4294967296) (ih : ∀ w', w' < w → ∀ (L : Hl) (s : World), AC Tryz.prog D 43 [.int .u32 (w' : Int)] L s fun v L' _ => v = St (Lib.decDigits w') ∧ L = L') : AC Tryz.prog D 43 [.int .u32 (w : Int)] L s fun v L' _ => v = St (Lib.decDigits w) ∧ L = L' := by
 refine AC_enter (TT := TT) (fn := Tryz.f43) TT_ok Tryz.func43 (by kernel_rfl) rfl Tryz.ntmps43 rfl (rs := [.tmp 2]) rfl [(0, _)] rfl ?_
 refine JC_seq ?_
 refine JC_region ?_
 refine JO_q (QE_as rfl) rfl ?_
 refine JO_nil ?_
 refine thenQ_n ?_
 refine JC_seq ?_
 refine JC_seq ?_
 refine JC_region ?_
 refine JO_q (QE_mv rfl) rfl ?_
 refine JO_q (QE_lt rfl rfl) rfl ?_
 refine JO_nil ?_
 refine thenQ_n ?_
 refine JC_ifD rfl (fun c1 => ?_) (fun c1 => ?_)
 ·
  have hw1 : w < 10 := by omega
  refine JC_seq ?_
  refine JC_region ?_
  refine JO_q (QE_mv rfl) rfl ?_
  refine JO_q (QE_add rfl rfl) rfl ?_
  refine JO_q (QE_cast (QE_conv rfl rfl rfl rfl rfl) (dig48 hw1)) rfl ?_
  refine JO_bs [(_, _)] [_] rfl rfl rfl rfl rfl rfl rfl rfl rfl ?_
  intro βn s2 h2 hcb
  refine JO_q (QE_b2s rfl rfl rfl rfl rfl rfl rfl (bts_lit (l := [UInt8.ofNat (48 + w)]) (hcb.le (Le.refl (D := D) _)) (by simp))) rfl ?_
  refine JO_q (QE_as rfl) rfl ?_
  refine JO_nil ?_
  refine thenQ_n ?_
  refine JC_ret ?_
  refine thenQ_r ?_
  refine retQ_mk [] L (.inr rfl) (.tmp rfl (.nil)) rfl h2 (fun sR hS2 => ?_)
  exact ⟨by rw [Lib.decDigits_one hw1]; rfl, rfl⟩
 ·
  have hw1 : ¬ w < 10 := by omega
  have hl1 := dec_len (u := w / 10) (by omega)
  have hl2 := dec_len (u := w % 10) (by omega)
  refine JC_skip ?_
  refine thenQ_n ?_
  refine JC_seq ?_
  refine JC_region ?_
  refine JO_q (QE_mv rfl) rfl ?_
  refine JO_q (QE_cast (QE_quo rfl rfl (by decide)) (quo10 hw)) rfl ?_
  refine JO_call (first := []) (captured := []) rfl rfl rfl (ih (w / 10) (by omega) _ _) ?_
  rintro _ _ s3 h3 ⟨rfl, rfl⟩
  refine JO_q (QE_mv rfl) rfl ?_
  refine JO_q (QE_cast (QE_rem rfl rfl (by decide)) (rem10 w)) rfl ?_
  refine JO_call (first := []) (captured := []) rfl rfl rfl (ih (w % 10) (by omega) _ _) ?_
  rintro _ _ s4 h4 ⟨rfl, rfl⟩
  refine JO_q (QE_sadd rfl rfl (by omega)) rfl ?_
  refine JO_q (QE_as rfl) rfl ?_
  refine JO_nil ?_
  refine thenQ_n ?_
  refine JC_ret ?_
  refine retQ_mk [] L (.inr rfl) (.tmp rfl (.nil)) rfl (Le.trans h3 h4) (fun sR hS2 => ?_)
  exact ⟨by rw [dec_more hw1]; rfl, rfl⟩
theorem decimal_ac (D : Nat) (w : Nat) (hw : w < 4294967296) : ∀ (L : Hl) (s : World), AC Tryz.prog D 43 [.int .u32 (w : Int)] L s fun v L' _ => v = St (Lib.decDigits w) ∧ L = L' := by
  induction w using Nat.strongRecOn with
  | _ w ih => exact fun L s => decimalI_ac D L s w hw fun w' h => ih w' h (by omega)
set_option maxHeartbeats 1000000 in
set_option maxRecDepth 100000 in
theorem rterm_ac (D : Nat) (L : Hl) (s : World) (x : Tm) (hx : TmG x) : AC Tryz.prog D 87 [.agg #[.int .i64 x.kind, .int .u32 x.val]] L s fun v L' _ => v = St (termS x) ∧ L = L' := by
 have hu := hx.u32
 obtain ⟨k, v0⟩ := x
 obtain ⟨v, rfl⟩ := Int.eq_ofNat_of_zero_le hx.nn
 have hu2 := hu.2
 simp only at hu2
 refine AC_enter (TT := TT) (fn := Tryz.f87) TT_ok Tryz.func87 (by kernel_rfl) rfl Tryz.ntmps87 rfl (rs := [.tmp 2]) rfl [(0, _)] rfl ?_
 refine JC_seq ?_
 refine JC_region ?_
 refine JO_boxA rfl rfl ?_
 intro β1 s1 h1
 refine JO_q (QE_as rfl) rfl ?_
 refine JO_nil ?_
 refine thenQ_n ?_
 refine JC_seq ?_
 refine JC_seq ?_
 refine JC_region ?_
 refine JO_q (QE_fa0 rfl rfl rfl rfl) rfl ?_
 refine JO_q (QE_ld1 0 rfl rfl rfl rfl rfl) rfl ?_
 refine JO_q (QE_eq rfl rfl) rfl ?_
 refine JO_nil ?_
 refine thenQ_n ?_
 refine JC_ifD rfl (fun c2 => ?_) (fun c2 => ?_)
 ·
  have hk : k = 1 := c2
  have hv : v ≤ 4 := by rcases hx with ⟨h, _⟩ | ⟨_, _, h⟩ | ⟨h, _⟩ <;> simp only at h <;> omega
  refine JC_seq ?_
  refine JC_region ?_
  refine JO_q (QE_faB rfl rfl rfl rfl) rfl ?_
  refine JO_q (QE_ld1 0 rfl rfl rfl rfl rfl) rfl ?_
  refine JO_q (QE_faB rfl rfl rfl rfl) rfl ?_
  refine JO_q (QE_ld1 0 rfl rfl rfl rfl rfl) rfl ?_
  refine JO_q (QE_add' (c := ((v + 1 : Nat) : Int)) rfl rfl (w32n (by omega))) rfl ?_
  refine JO_q (QE_stLH (l := abcB) rfl rfl rfl rfl rfl (by omega) (by show v + 1 ≤ 5; omega)) rfl ?_
  refine JO_q (QE_as rfl) rfl ?_
  refine JO_nil ?_
  refine thenQ_n ?_
  refine JC_ret ?_
  refine thenQ_r ?_
  refine retQ_mk [_] L (.inr rfl) (.tmp rfl (.nil)) rfl h1 (fun sR hS2 => ?_)
  refine ⟨?_, rfl⟩
  first
    | (simp only [resV, termS, hk, if_true]; rw [reg_cut hv]; done)
    | (simp only [resV, termS, hk, hk2, if_true, if_false]; first | rfl | done)
 ·
  have hk : ¬ k = 1 := c2
  refine JC_skip ?_
  refine thenQ_n ?_
  refine JC_seq ?_
  refine JC_seq ?_
  refine JC_region ?_
  refine JO_q (QE_fa0 rfl rfl rfl rfl) rfl ?_
  refine JO_q (QE_ld1 0 rfl rfl rfl rfl rfl) rfl ?_
  refine JO_q (QE_eq rfl rfl) rfl ?_
  refine JO_nil ?_
  refine thenQ_n ?_
  refine JC_ifD rfl (fun c3 => ?_) (fun c3 => ?_)
  ·
   have hk2 : k = 2 := c3
   refine JC_seq ?_
   refine JC_region ?_
   refine JO_q (QE_as rfl) rfl ?_
   refine JO_nil ?_
   refine thenQ_n ?_
   refine JC_ret ?_
   refine thenQ_r ?_
   refine retQ_mk [_] L (.inr rfl) (.tmp rfl (.nil)) rfl h1 (fun sR hS2 => ?_)
   refine ⟨?_, rfl⟩
   first
     | (simp only [resV, termS, hk, if_true]; rw [reg_cut hv]; done)
     | (simp only [resV, termS, hk, hk2, if_true, if_false]; first | rfl | done)
  ·
   have hk2 : ¬ k = 2 := c3
   refine JC_skip ?_
   refine thenQ_n ?_
   refine JC_seq ?_
   refine JC_region ?_
   refine JO_q (QE_faB rfl rfl rfl rfl) rfl ?_
   refine JO_q (QE_ld1 0 rfl rfl rfl rfl rfl) rfl ?_
   refine JO_call (first := []) (captured := []) rfl rfl rfl (decimal_ac D v (by omega) _ _) ?_
   rintro _ _ s4 h4 ⟨rfl, rfl⟩
   refine JO_q (QE_as rfl) rfl ?_
   refine JO_nil ?_
   refine thenQ_n ?_
   refine JC_ret ?_
   refine retQ_mk [_] L (.inr rfl) (.tmp rfl (.nil)) rfl (Le.trans h1 h4) (fun sR hS2 => ?_)
   refine ⟨?_, rfl⟩
   first
     | (simp only [resV, termS, hk, if_true]; rw [reg_cut hv]; done)
     | (simp only [resV, termS, hk, hk2, if_true, if_false]; first | rfl | done)
def opNames : List (List UInt8) := [[], [115, 117, 109], [100, 105, 102, 102, 101, 114, 101, 110, 99, 101], [112, 114, 111, 100, 117, 99, 116], [113, 117, 111, 116, 105, 101, 110, 116], [114, 101, 109, 97, 105, 110, 100, 101, 114]]
def opN (k : Nat) : List UInt8 := opNames.getD k []
theorem nm_at {s : World} {b k : Nat} (h : CellsAt s b 0 (opNames.map fun x => St x)) (hk : k < 6) : CellsAt s b (0 + k) [St (opN k)] := by
  unfold CellsAt at h
  exact CellsAt.one (h k (St (opN k)) (by rw [List.getElem?_map, opN, List.getD_eq_getElem?_getD, List.getElem?_eq_getElem (show k < opNames.length from hk)]; rfl))
theorem opN_len (k : Nat) (h : k < 6) : (opN k).length ≤ 10 := by
  have h0 : ∀ k, k < 6 → (opN k).length ≤ 10 := by decide
  exact h0 k h
set_option maxHeartbeats 4000000 in
set_option maxRecDepth 100000 in
theorem rsent_ac (D : Nat) (L : Hl) (s : World) (a : Ac) (hk0 : 0 ≤ a.kind ∧ a.kind < 20) (ha : AcT a) : AC Tryz.prog D 61 [.agg #[.int .i64 a.kind, .int .i64 a.tgt, .int .i64 a.x.kind, .int .u32 a.x.val, .int .i64 a.y.kind, .int .u32 a.y.val]] L s fun v L' _ => v = St (joinW (wordsA a)) ∧ L = L' := by
 obtain ⟨ak, ato, ax, ay⟩ := a
 obtain ⟨k, rfl⟩ := Int.eq_ofNat_of_zero_le hk0.1
 obtain ⟨tn, rfl⟩ := Int.eq_ofNat_of_zero_le ha.1.1
 have hk : k < 20 := by have := hk0.2; simp only at this; omega
 have htn : tn ≤ 4 := by have := ha.1.2; simp only at this; omega
 have hkl := (term_part ha.2.1).2.1
 have hyl := (term_part ha.2.2).2.1
 simp only at hkl hyl
 have hrl : ((abcB.drop tn).take (tn + 1 - tn)).length ≤ 1 := by rw [reg_cut htn]; exact reg_short _
 dsimp only
 refine AC_enter (TT := TT) (fn := Tryz.f61) TT_ok Tryz.func61 (by kernel_rfl) rfl Tryz.ntmps61 rfl (rs := [.tmp 2]) rfl [(0, _)] rfl ?_
 refine JC_seq ?_
 refine JC_region ?_
 refine JO_boxA rfl rfl ?_
 intro β1 s1 h1
 refine JO_q (QE_as rfl) rfl ?_
 refine JO_nil ?_
 refine thenQ_n ?_
 refine JC_seq ?_
 refine JC_region ?_
 refine JO_q (QE_faB rfl rfl rfl rfl) rfl ?_
 refine JO_q (QE_ld1 0 rfl rfl rfl rfl rfl) rfl ?_
 refine JO_q (QE_faB rfl rfl rfl rfl) rfl ?_
 refine JO_q (QE_ld1 0 rfl rfl rfl rfl rfl) rfl ?_
 refine JO_q (QE_add' (c := ((tn + 1 : Nat) : Int)) rfl rfl (by rw [w64 (by omega) (by omega)]; omega)) rfl ?_
 refine JO_q (QE_stLH (l := abcB) rfl rfl rfl rfl rfl (by omega) (by show tn + 1 ≤ 5; omega)) rfl ?_
 refine JO_q (QE_as rfl) rfl ?_
 refine JO_nil ?_
 refine thenQ_n ?_
 refine JC_seq ?_
 refine JC_region ?_
 refine JO_q (QE_faB rfl rfl rfl rfl) rfl ?_
 refine JO_q (QE_ldA 0 [_, _] rfl rfl rfl rfl rfl) rfl ?_
 refine JO_call (first := []) (captured := []) rfl rfl rfl (rterm_ac D _ _ ax ha.2.1) ?_
 rintro _ _ s2 h2 ⟨rfl, rfl⟩
 refine JO_q (QE_as rfl) rfl ?_
 refine JO_nil ?_
 refine thenQ_n ?_
 refine JC_seq ?_
 refine JC_region ?_
 refine JO_q (QE_faB rfl rfl rfl rfl) rfl ?_
 refine JO_q (QE_ldA 0 [_, _] rfl rfl rfl rfl rfl) rfl ?_
 refine JO_call (first := []) (captured := []) rfl rfl rfl (rterm_ac D _ _ ay ha.2.2) ?_
 rintro _ _ s3 h3 ⟨rfl, rfl⟩
 refine JO_q (QE_as rfl) rfl ?_
 refine JO_nil ?_
 refine thenQ_n ?_
 refine JC_seq ?_
 refine JC_region ?_
 refine JO_bs [(_, _), (_, _), (_, _), (_, _), (_, _), (_, _)] [_, _, _, _, _, _] rfl rfl rfl rfl rfl rfl rfl rfl rfl ?_
 intro βn s4 h4 hcb
 refine JO_q (QE_as rfl) rfl ?_
 refine JO_nil ?_
 refine thenQ_n ?_
 refine JC_seq ?_
 refine JC_seq ?_
 refine JC_region ?_
 refine JO_q (QE_fa0 rfl rfl rfl rfl) rfl ?_
 refine JO_q (QE_ld1 0 rfl rfl rfl rfl rfl) rfl ?_
 refine JO_call (first := []) (captured := []) rfl rfl rfl (in_ac D _ _ _ _ _) ?_
 rintro _ _ s5 h5 ⟨rfl, rfl⟩
 refine JO_nil ?_
 refine thenQ_n ?_
 refine JC_ifD rfl (fun c6 => ?_) (fun c6 => ?_)
 ·
  have hk15 : k = 1 ∨ k = 2 ∨ k = 3 ∨ k = 4 ∨ k = 5 := by have := c6; omega
  have hol := opN_len k (by omega)
  refine JC_seq ?_
  refine JC_region ?_
  refine JO_q (QE_mv rfl) rfl ?_
  refine JO_q (QE_fa0 rfl rfl rfl rfl) rfl ?_
  refine JO_q (QE_ld1 0 rfl rfl rfl rfl rfl) rfl ?_
  refine JO_q (QE_ia1 rfl rfl rfl rfl rfl rfl (show k < 6 by omega)) rfl ?_
  refine JO_q (QE_ldsR0 rfl rfl rfl (nm_at (hcb.le h5) (show k < 6 by omega)) rfl) rfl ?_
  refine JO_q (QE_sadd rfl rfl (by simp only [List.length_append, List.length_cons, List.length_nil]; omega)) rfl ?_
  refine JO_q (QE_sadd rfl rfl (by simp only [List.length_append, List.length_cons, List.length_nil]; omega)) rfl ?_
  refine JO_q (QE_mv rfl) rfl ?_
  refine JO_q (QE_sadd rfl rfl (by simp only [List.length_append, List.length_cons, List.length_nil]; omega)) rfl ?_
  refine JO_q (QE_sadd rfl rfl (by simp only [List.length_append, List.length_cons, List.length_nil]; omega)) rfl ?_
  refine JO_q (QE_mv rfl) rfl ?_
  refine JO_q (QE_sadd rfl rfl (by simp only [List.length_append, List.length_cons, List.length_nil]; omega)) rfl ?_
  refine JO_q (QE_sadd rfl rfl (by simp only [List.length_append, List.length_cons, List.length_nil]; omega)) rfl ?_
  refine JO_q (QE_mv rfl) rfl ?_
  refine JO_q (QE_sadd rfl rfl (by simp only [List.length_append, List.length_cons, List.length_nil]; omega)) rfl ?_
  refine JO_q (QE_sadd rfl rfl (by simp only [List.length_append, List.length_cons, List.length_nil]; omega)) rfl ?_
  refine JO_q (QE_as rfl) rfl ?_
  refine JO_nil ?_
  refine thenQ_n ?_
  refine JC_ret ?_
  refine thenQ_r ?_
  refine retQ_mk [_] L (.inr rfl) (.tmp rfl (.nil)) rfl (Le.trans (Le.trans (Le.trans (Le.trans h1 h2) h3) h4) h5) (fun sR hS2 => ?_)
  refine ⟨?_, rfl⟩
  try simp only [reg_cut htn]
  first
    | (rcases hk15 with rfl | rfl | rfl | rfl | rfl <;> (simp [resV, wordsA, sentK, sentI, genI, joinW, opN, opNames]; done))
    | (simp [resV, wordsA, sentK, sentI, genI, joinW]; done)
 ·
  have hn15 : ¬ (1 ≤ k ∧ k ≤ 5) := by have := c6; omega
  refine JC_skip ?_
  refine thenQ_n ?_
  refine JC_seq ?_
  refine JC_seq ?_
  refine JC_region ?_
  refine JO_q (QE_fa0 rfl rfl rfl rfl) rfl ?_
  refine JO_q (QE_ld1 0 rfl rfl rfl rfl rfl) rfl ?_
  refine JO_nil ?_
  refine thenQ_n ?_
  refine JC_block ?_
  refine JC_seq ?_
  refine JC_region ?_
  refine JO_q (QE_eq rfl rfl) rfl ?_
  refine JO_q (QE_as rfl) rfl ?_
  refine JO_nil ?_
  refine thenQ_n ?_
  refine JC_ifD rfl (fun c7 => ?_) (fun c7 => ?_)
  ·
   have hkE : k = 0 := by omega
   subst hkE
   refine JC_seq ?_
   refine JC_region ?_
   refine JO_q (QE_mv rfl) rfl ?_
   refine JO_q (QE_sadd rfl rfl (by simp only [List.length_append, List.length_cons, List.length_nil]; omega)) rfl ?_
   refine JO_q (QE_sadd rfl rfl (by simp only [List.length_append, List.length_cons, List.length_nil]; omega)) rfl ?_
   refine JO_q (QE_mv rfl) rfl ?_
   refine JO_q (QE_sadd rfl rfl (by simp only [List.length_append, List.length_cons, List.length_nil]; omega)) rfl ?_
   refine JO_q (QE_sadd rfl rfl (by simp only [List.length_append, List.length_cons, List.length_nil]; omega)) rfl ?_
   refine JO_q (QE_as rfl) rfl ?_
   refine JO_nil ?_
   refine thenQ_n ?_
   refine JC_ret ?_
   refine blockQ_r ?_
   refine thenQ_r ?_
   refine retQ_mk [_] L (.inr rfl) (.tmp rfl (.nil)) rfl (Le.trans (Le.trans (Le.trans (Le.trans h1 h2) h3) h4) h5) (fun sR hS2 => ?_)
   refine ⟨?_, rfl⟩
   try simp only [reg_cut htn]
   first
     | (rcases hk15 with rfl | rfl | rfl | rfl | rfl <;> (simp [resV, wordsA, sentK, sentI, genI, joinW, opN, opNames]; done))
     | (simp [resV, wordsA, sentK, sentI, genI, joinW]; done)
  ·
   refine JC_seq ?_
   refine JC_region ?_
   refine JO_q (QE_eq rfl rfl) rfl ?_
   refine JO_q (QE_as rfl) rfl ?_
   refine JO_nil ?_
   refine thenQ_n ?_
   refine JC_ifD rfl (fun c8 => ?_) (fun c8 => ?_)
   ·
    have hkE : k = 6 := by omega
    subst hkE
    refine JC_seq ?_
    refine JC_region ?_
    refine JO_q (QE_mv rfl) rfl ?_
    refine JO_q (QE_sadd rfl rfl (by simp only [List.length_append, List.length_cons, List.length_nil]; omega)) rfl ?_
    refine JO_q (QE_sadd rfl rfl (by simp only [List.length_append, List.length_cons, List.length_nil]; omega)) rfl ?_
    refine JO_q (QE_mv rfl) rfl ?_
    refine JO_q (QE_sadd rfl rfl (by simp only [List.length_append, List.length_cons, List.length_nil]; omega)) rfl ?_
    refine JO_q (QE_sadd rfl rfl (by simp only [List.length_append, List.length_cons, List.length_nil]; omega)) rfl ?_
    refine JO_q (QE_mv rfl) rfl ?_
    refine JO_q (QE_sadd rfl rfl (by simp only [List.length_append, List.length_cons, List.length_nil]; omega)) rfl ?_
    refine JO_q (QE_sadd rfl rfl (by simp only [List.length_append, List.length_cons, List.length_nil]; omega)) rfl ?_
    refine JO_q (QE_as rfl) rfl ?_
    refine JO_nil ?_
    refine thenQ_n ?_
    refine JC_ret ?_
    refine blockQ_r ?_
    refine thenQ_r ?_
    refine retQ_mk [_] L (.inr rfl) (.tmp rfl (.nil)) rfl (Le.trans (Le.trans (Le.trans (Le.trans h1 h2) h3) h4) h5) (fun sR hS2 => ?_)
    refine ⟨?_, rfl⟩
    try simp only [reg_cut htn]
    first
      | (rcases hk15 with rfl | rfl | rfl | rfl | rfl <;> (simp [resV, wordsA, sentK, sentI, genI, joinW, opN, opNames]; done))
      | (simp [resV, wordsA, sentK, sentI, genI, joinW]; done)
   ·
    refine JC_seq ?_
    refine JC_region ?_
    refine JO_q (QE_eq rfl rfl) rfl ?_
    refine JO_q (QE_as rfl) rfl ?_
    refine JO_nil ?_
    refine thenQ_n ?_
    refine JC_ifD rfl (fun c9 => ?_) (fun c9 => ?_)
    ·
     have hkE : k = 7 := by omega
     subst hkE
     refine JC_seq ?_
     refine JC_region ?_
     refine JO_q (QE_mv rfl) rfl ?_
     refine JO_q (QE_sadd rfl rfl (by simp only [List.length_append, List.length_cons, List.length_nil]; omega)) rfl ?_
     refine JO_q (QE_sadd rfl rfl (by simp only [List.length_append, List.length_cons, List.length_nil]; omega)) rfl ?_
     refine JO_q (QE_mv rfl) rfl ?_
     refine JO_q (QE_sadd rfl rfl (by simp only [List.length_append, List.length_cons, List.length_nil]; omega)) rfl ?_
     refine JO_q (QE_sadd rfl rfl (by simp only [List.length_append, List.length_cons, List.length_nil]; omega)) rfl ?_
     refine JO_q (QE_mv rfl) rfl ?_
     refine JO_q (QE_sadd rfl rfl (by simp only [List.length_append, List.length_cons, List.length_nil]; omega)) rfl ?_
     refine JO_q (QE_sadd rfl rfl (by simp only [List.length_append, List.length_cons, List.length_nil]; omega)) rfl ?_
     refine JO_q (QE_as rfl) rfl ?_
     refine JO_nil ?_
     refine thenQ_n ?_
     refine JC_ret ?_
     refine blockQ_r ?_
     refine thenQ_r ?_
     refine retQ_mk [_] L (.inr rfl) (.tmp rfl (.nil)) rfl (Le.trans (Le.trans (Le.trans (Le.trans h1 h2) h3) h4) h5) (fun sR hS2 => ?_)
     refine ⟨?_, rfl⟩
     try simp only [reg_cut htn]
     first
       | (rcases hk15 with rfl | rfl | rfl | rfl | rfl <;> (simp [resV, wordsA, sentK, sentI, genI, joinW, opN, opNames]; done))
       | (simp [resV, wordsA, sentK, sentI, genI, joinW]; done)
    ·
     refine JC_seq ?_
     refine JC_region ?_
     refine JO_q (QE_eq rfl rfl) rfl ?_
     refine JO_q (QE_as rfl) rfl ?_
     refine JO_nil ?_
     refine thenQ_n ?_
     refine JC_ifD rfl (fun c10 => ?_) (fun c10 => ?_)
     ·
      have hkE : k = 8 := by omega
      subst hkE
      refine JC_seq ?_
      refine JC_region ?_
      refine JO_q (QE_mv rfl) rfl ?_
      refine JO_q (QE_sadd rfl rfl (by simp only [List.length_append, List.length_cons, List.length_nil]; omega)) rfl ?_
      refine JO_q (QE_sadd rfl rfl (by simp only [List.length_append, List.length_cons, List.length_nil]; omega)) rfl ?_
      refine JO_q (QE_mv rfl) rfl ?_
      refine JO_q (QE_sadd rfl rfl (by simp only [List.length_append, List.length_cons, List.length_nil]; omega)) rfl ?_
      refine JO_q (QE_sadd rfl rfl (by simp only [List.length_append, List.length_cons, List.length_nil]; omega)) rfl ?_
      refine JO_q (QE_mv rfl) rfl ?_
      refine JO_q (QE_sadd rfl rfl (by simp only [List.length_append, List.length_cons, List.length_nil]; omega)) rfl ?_
      refine JO_q (QE_sadd rfl rfl (by simp only [List.length_append, List.length_cons, List.length_nil]; omega)) rfl ?_
      refine JO_q (QE_as rfl) rfl ?_
      refine JO_nil ?_
      refine thenQ_n ?_
      refine JC_ret ?_
      refine blockQ_r ?_
      refine thenQ_r ?_
      refine retQ_mk [_] L (.inr rfl) (.tmp rfl (.nil)) rfl (Le.trans (Le.trans (Le.trans (Le.trans h1 h2) h3) h4) h5) (fun sR hS2 => ?_)
      refine ⟨?_, rfl⟩
      try simp only [reg_cut htn]
      first
        | (rcases hk15 with rfl | rfl | rfl | rfl | rfl <;> (simp [resV, wordsA, sentK, sentI, genI, joinW, opN, opNames]; done))
        | (simp [resV, wordsA, sentK, sentI, genI, joinW]; done)
     ·
      refine JC_seq ?_
      refine JC_region ?_
      refine JO_q (QE_eq rfl rfl) rfl ?_
      refine JO_q (QE_as rfl) rfl ?_
      refine JO_nil ?_
      refine thenQ_n ?_
      refine JC_ifD rfl (fun c11 => ?_) (fun c11 => ?_)
      ·
       have hkE : k = 9 := by omega
       subst hkE
       refine JC_seq ?_
       refine JC_region ?_
       refine JO_q (QE_mv rfl) rfl ?_
       refine JO_q (QE_sadd rfl rfl (by simp only [List.length_append, List.length_cons, List.length_nil]; omega)) rfl ?_
       refine JO_q (QE_sadd rfl rfl (by simp only [List.length_append, List.length_cons, List.length_nil]; omega)) rfl ?_
       refine JO_q (QE_mv rfl) rfl ?_
       refine JO_q (QE_sadd rfl rfl (by simp only [List.length_append, List.length_cons, List.length_nil]; omega)) rfl ?_
       refine JO_q (QE_sadd rfl rfl (by simp only [List.length_append, List.length_cons, List.length_nil]; omega)) rfl ?_
       refine JO_q (QE_mv rfl) rfl ?_
       refine JO_q (QE_sadd rfl rfl (by simp only [List.length_append, List.length_cons, List.length_nil]; omega)) rfl ?_
       refine JO_q (QE_sadd rfl rfl (by simp only [List.length_append, List.length_cons, List.length_nil]; omega)) rfl ?_
       refine JO_q (QE_as rfl) rfl ?_
       refine JO_nil ?_
       refine thenQ_n ?_
       refine JC_ret ?_
       refine blockQ_r ?_
       refine thenQ_r ?_
       refine retQ_mk [_] L (.inr rfl) (.tmp rfl (.nil)) rfl (Le.trans (Le.trans (Le.trans (Le.trans h1 h2) h3) h4) h5) (fun sR hS2 => ?_)
       refine ⟨?_, rfl⟩
       try simp only [reg_cut htn]
       first
         | (rcases hk15 with rfl | rfl | rfl | rfl | rfl <;> (simp [resV, wordsA, sentK, sentI, genI, joinW, opN, opNames]; done))
         | (simp [resV, wordsA, sentK, sentI, genI, joinW]; done)
      ·
       refine JC_seq ?_
       refine JC_region ?_
       refine JO_q (QE_eq rfl rfl) rfl ?_
       refine JO_q (QE_as rfl) rfl ?_
       refine JO_nil ?_
       refine thenQ_n ?_
       refine JC_ifD rfl (fun c12 => ?_) (fun c12 => ?_)
       ·
        have hkE : k = 10 := by omega
        subst hkE
        refine JC_seq ?_
        refine JC_region ?_
        refine JO_q (QE_mv rfl) rfl ?_
        refine JO_q (QE_sadd rfl rfl (by simp only [List.length_append, List.length_cons, List.length_nil]; omega)) rfl ?_
        refine JO_q (QE_sadd rfl rfl (by simp only [List.length_append, List.length_cons, List.length_nil]; omega)) rfl ?_
        refine JO_q (QE_mv rfl) rfl ?_
        refine JO_q (QE_sadd rfl rfl (by simp only [List.length_append, List.length_cons, List.length_nil]; omega)) rfl ?_
        refine JO_q (QE_sadd rfl rfl (by simp only [List.length_append, List.length_cons, List.length_nil]; omega)) rfl ?_
        refine JO_q (QE_mv rfl) rfl ?_
        refine JO_q (QE_sadd rfl rfl (by simp only [List.length_append, List.length_cons, List.length_nil]; omega)) rfl ?_
        refine JO_q (QE_sadd rfl rfl (by simp only [List.length_append, List.length_cons, List.length_nil]; omega)) rfl ?_
        refine JO_q (QE_as rfl) rfl ?_
        refine JO_nil ?_
        refine thenQ_n ?_
        refine JC_ret ?_
        refine blockQ_r ?_
        refine thenQ_r ?_
        refine retQ_mk [_] L (.inr rfl) (.tmp rfl (.nil)) rfl (Le.trans (Le.trans (Le.trans (Le.trans h1 h2) h3) h4) h5) (fun sR hS2 => ?_)
        refine ⟨?_, rfl⟩
        try simp only [reg_cut htn]
        first
          | (rcases hk15 with rfl | rfl | rfl | rfl | rfl <;> (simp [resV, wordsA, sentK, sentI, genI, joinW, opN, opNames]; done))
          | (simp [resV, wordsA, sentK, sentI, genI, joinW]; done)
       ·
        refine JC_seq ?_
        refine JC_region ?_
        refine JO_q (QE_eq rfl rfl) rfl ?_
        refine JO_q (QE_as rfl) rfl ?_
        refine JO_nil ?_
        refine thenQ_n ?_
        refine JC_ifD rfl (fun c13 => ?_) (fun c13 => ?_)
        ·
         have hkE : k = 11 := by omega
         subst hkE
         refine JC_seq ?_
         refine JC_region ?_
         refine JO_q (QE_mv rfl) rfl ?_
         refine JO_q (QE_sadd rfl rfl (by simp only [List.length_append, List.length_cons, List.length_nil]; omega)) rfl ?_
         refine JO_q (QE_sadd rfl rfl (by simp only [List.length_append, List.length_cons, List.length_nil]; omega)) rfl ?_
         refine JO_q (QE_mv rfl) rfl ?_
         refine JO_q (QE_sadd rfl rfl (by simp only [List.length_append, List.length_cons, List.length_nil]; omega)) rfl ?_
         refine JO_q (QE_sadd rfl rfl (by simp only [List.length_append, List.length_cons, List.length_nil]; omega)) rfl ?_
         refine JO_q (QE_mv rfl) rfl ?_
         refine JO_q (QE_sadd rfl rfl (by simp only [List.length_append, List.length_cons, List.length_nil]; omega)) rfl ?_
         refine JO_q (QE_sadd rfl rfl (by simp only [List.length_append, List.length_cons, List.length_nil]; omega)) rfl ?_
         refine JO_q (QE_as rfl) rfl ?_
         refine JO_nil ?_
         refine thenQ_n ?_
         refine JC_ret ?_
         refine blockQ_r ?_
         refine thenQ_r ?_
         refine retQ_mk [_] L (.inr rfl) (.tmp rfl (.nil)) rfl (Le.trans (Le.trans (Le.trans (Le.trans h1 h2) h3) h4) h5) (fun sR hS2 => ?_)
         refine ⟨?_, rfl⟩
         try simp only [reg_cut htn]
         first
           | (rcases hk15 with rfl | rfl | rfl | rfl | rfl <;> (simp [resV, wordsA, sentK, sentI, genI, joinW, opN, opNames]; done))
           | (simp [resV, wordsA, sentK, sentI, genI, joinW]; done)
        ·
         refine JC_seq ?_
         refine JC_region ?_
         refine JO_q (QE_eq rfl rfl) rfl ?_
         refine JO_q (QE_as rfl) rfl ?_
         refine JO_nil ?_
         refine thenQ_n ?_
         refine JC_ifD rfl (fun c14 => ?_) (fun c14 => ?_)
         ·
          have hkE : k = 12 := by omega
          subst hkE
          refine JC_seq ?_
          refine JC_region ?_
          refine JO_q (QE_mv rfl) rfl ?_
          refine JO_q (QE_sadd rfl rfl (by simp only [List.length_append, List.length_cons, List.length_nil]; omega)) rfl ?_
          refine JO_q (QE_sadd rfl rfl (by simp only [List.length_append, List.length_cons, List.length_nil]; omega)) rfl ?_
          refine JO_q (QE_mv rfl) rfl ?_
          refine JO_q (QE_sadd rfl rfl (by simp only [List.length_append, List.length_cons, List.length_nil]; omega)) rfl ?_
          refine JO_q (QE_sadd rfl rfl (by simp only [List.length_append, List.length_cons, List.length_nil]; omega)) rfl ?_
          refine JO_q (QE_mv rfl) rfl ?_
          refine JO_q (QE_sadd rfl rfl (by simp only [List.length_append, List.length_cons, List.length_nil]; omega)) rfl ?_
          refine JO_q (QE_sadd rfl rfl (by simp only [List.length_append, List.length_cons, List.length_nil]; omega)) rfl ?_
          refine JO_q (QE_as rfl) rfl ?_
          refine JO_nil ?_
          refine thenQ_n ?_
          refine JC_ret ?_
          refine blockQ_r ?_
          refine thenQ_r ?_
          refine retQ_mk [_] L (.inr rfl) (.tmp rfl (.nil)) rfl (Le.trans (Le.trans (Le.trans (Le.trans h1 h2) h3) h4) h5) (fun sR hS2 => ?_)
          refine ⟨?_, rfl⟩
          try simp only [reg_cut htn]
          first
            | (rcases hk15 with rfl | rfl | rfl | rfl | rfl <;> (simp [resV, wordsA, sentK, sentI, genI, joinW, opN, opNames]; done))
            | (simp [resV, wordsA, sentK, sentI, genI, joinW]; done)
         ·
          refine JC_seq ?_
          refine JC_region ?_
          refine JO_q (QE_eq rfl rfl) rfl ?_
          refine JO_q (QE_as rfl) rfl ?_
          refine JO_nil ?_
          refine thenQ_n ?_
          refine JC_ifD rfl (fun c15 => ?_) (fun c15 => ?_)
          ·
           have hkE : k = 13 := by omega
           subst hkE
           refine JC_seq ?_
           refine JC_region ?_
           refine JO_q (QE_mv rfl) rfl ?_
           refine JO_q (QE_sadd rfl rfl (by simp only [List.length_append, List.length_cons, List.length_nil]; omega)) rfl ?_
           refine JO_q (QE_sadd rfl rfl (by simp only [List.length_append, List.length_cons, List.length_nil]; omega)) rfl ?_
           refine JO_q (QE_mv rfl) rfl ?_
           refine JO_q (QE_sadd rfl rfl (by simp only [List.length_append, List.length_cons, List.length_nil]; omega)) rfl ?_
           refine JO_q (QE_sadd rfl rfl (by simp only [List.length_append, List.length_cons, List.length_nil]; omega)) rfl ?_
           refine JO_q (QE_as rfl) rfl ?_
           refine JO_nil ?_
           refine thenQ_n ?_
           refine JC_ret ?_
           refine blockQ_r ?_
           refine thenQ_r ?_
           refine retQ_mk [_] L (.inr rfl) (.tmp rfl (.nil)) rfl (Le.trans (Le.trans (Le.trans (Le.trans h1 h2) h3) h4) h5) (fun sR hS2 => ?_)
           refine ⟨?_, rfl⟩
           try simp only [reg_cut htn]
           first
             | (rcases hk15 with rfl | rfl | rfl | rfl | rfl <;> (simp [resV, wordsA, sentK, sentI, genI, joinW, opN, opNames]; done))
             | (simp [resV, wordsA, sentK, sentI, genI, joinW]; done)
          ·
           refine JC_seq ?_
           refine JC_region ?_
           refine JO_q (QE_eq rfl rfl) rfl ?_
           refine JO_q (QE_as rfl) rfl ?_
           refine JO_nil ?_
           refine thenQ_n ?_
           refine JC_ifD rfl (fun c16 => ?_) (fun c16 => ?_)
           ·
            have hkE : k = 14 := by omega
            subst hkE
            refine JC_seq ?_
            refine JC_region ?_
            refine JO_q (QE_mv rfl) rfl ?_
            refine JO_q (QE_sadd rfl rfl (by simp only [List.length_append, List.length_cons, List.length_nil]; omega)) rfl ?_
            refine JO_q (QE_sadd rfl rfl (by simp only [List.length_append, List.length_cons, List.length_nil]; omega)) rfl ?_
            refine JO_q (QE_mv rfl) rfl ?_
            refine JO_q (QE_sadd rfl rfl (by simp only [List.length_append, List.length_cons, List.length_nil]; omega)) rfl ?_
            refine JO_q (QE_sadd rfl rfl (by simp only [List.length_append, List.length_cons, List.length_nil]; omega)) rfl ?_
            refine JO_q (QE_as rfl) rfl ?_
            refine JO_nil ?_
            refine thenQ_n ?_
            refine JC_ret ?_
            refine blockQ_r ?_
            refine thenQ_r ?_
            refine retQ_mk [_] L (.inr rfl) (.tmp rfl (.nil)) rfl (Le.trans (Le.trans (Le.trans (Le.trans h1 h2) h3) h4) h5) (fun sR hS2 => ?_)
            refine ⟨?_, rfl⟩
            try simp only [reg_cut htn]
            first
              | (rcases hk15 with rfl | rfl | rfl | rfl | rfl <;> (simp [resV, wordsA, sentK, sentI, genI, joinW, opN, opNames]; done))
              | (simp [resV, wordsA, sentK, sentI, genI, joinW]; done)
           ·
            refine JC_seq ?_
            refine JC_region ?_
            refine JO_q (QE_eq rfl rfl) rfl ?_
            refine JO_q (QE_as rfl) rfl ?_
            refine JO_nil ?_
            refine thenQ_n ?_
            refine JC_ifD rfl (fun c17 => ?_) (fun c17 => ?_)
            ·
             have hkE : k = 15 := by omega
             subst hkE
             refine JC_seq ?_
             refine JC_region ?_
             refine JO_q (QE_mv rfl) rfl ?_
             refine JO_q (QE_sadd rfl rfl (by simp only [List.length_append, List.length_cons, List.length_nil]; omega)) rfl ?_
             refine JO_q (QE_sadd rfl rfl (by simp only [List.length_append, List.length_cons, List.length_nil]; omega)) rfl ?_
             refine JO_q (QE_as rfl) rfl ?_
             refine JO_nil ?_
             refine thenQ_n ?_
             refine JC_ret ?_
             refine blockQ_r ?_
             refine thenQ_r ?_
             refine retQ_mk [_] L (.inr rfl) (.tmp rfl (.nil)) rfl (Le.trans (Le.trans (Le.trans (Le.trans h1 h2) h3) h4) h5) (fun sR hS2 => ?_)
             refine ⟨?_, rfl⟩
             try simp only [reg_cut htn]
             first
               | (rcases hk15 with rfl | rfl | rfl | rfl | rfl <;> (simp [resV, wordsA, sentK, sentI, genI, joinW, opN, opNames]; done))
               | (simp [resV, wordsA, sentK, sentI, genI, joinW]; done)
            ·
             refine JC_seq ?_
             refine JC_region ?_
             refine JO_q (QE_eq rfl rfl) rfl ?_
             refine JO_q (QE_as rfl) rfl ?_
             refine JO_nil ?_
             refine thenQ_n ?_
             refine JC_ifD rfl (fun c18 => ?_) (fun c18 => ?_)
             ·
              have hkE : k = 16 := by omega
              subst hkE
              refine JC_seq ?_
              refine JC_region ?_
              refine JO_q (QE_mv rfl) rfl ?_
              refine JO_q (QE_sadd rfl rfl (by simp only [List.length_append, List.length_cons, List.length_nil]; omega)) rfl ?_
              refine JO_q (QE_sadd rfl rfl (by simp only [List.length_append, List.length_cons, List.length_nil]; omega)) rfl ?_
              refine JO_q (QE_as rfl) rfl ?_
              refine JO_nil ?_
              refine thenQ_n ?_
              refine JC_ret ?_
              refine blockQ_r ?_
              refine thenQ_r ?_
              refine retQ_mk [_] L (.inr rfl) (.tmp rfl (.nil)) rfl (Le.trans (Le.trans (Le.trans (Le.trans h1 h2) h3) h4) h5) (fun sR hS2 => ?_)
              refine ⟨?_, rfl⟩
              try simp only [reg_cut htn]
              first
                | (rcases hk15 with rfl | rfl | rfl | rfl | rfl <;> (simp [resV, wordsA, sentK, sentI, genI, joinW, opN, opNames]; done))
                | (simp [resV, wordsA, sentK, sentI, genI, joinW]; done)
             ·
              refine JC_seq ?_
              refine JC_region ?_
              refine JO_q (QE_eq rfl rfl) rfl ?_
              refine JO_q (QE_as rfl) rfl ?_
              refine JO_nil ?_
              refine thenQ_n ?_
              refine JC_ifD rfl (fun c19 => ?_) (fun c19 => ?_)
              ·
               have hkE : k = 17 := by omega
               subst hkE
               refine JC_seq ?_
               refine JC_region ?_
               refine JO_q (QE_mv rfl) rfl ?_
               refine JO_q (QE_sadd rfl rfl (by simp only [List.length_append, List.length_cons, List.length_nil]; omega)) rfl ?_
               refine JO_q (QE_sadd rfl rfl (by simp only [List.length_append, List.length_cons, List.length_nil]; omega)) rfl ?_
               refine JO_q (QE_as rfl) rfl ?_
               refine JO_nil ?_
               refine thenQ_n ?_
               refine JC_ret ?_
               refine blockQ_r ?_
               refine thenQ_r ?_
               refine retQ_mk [_] L (.inr rfl) (.tmp rfl (.nil)) rfl (Le.trans (Le.trans (Le.trans (Le.trans h1 h2) h3) h4) h5) (fun sR hS2 => ?_)
               refine ⟨?_, rfl⟩
               try simp only [reg_cut htn]
               first
                 | (rcases hk15 with rfl | rfl | rfl | rfl | rfl <;> (simp [resV, wordsA, sentK, sentI, genI, joinW, opN, opNames]; done))
                 | (simp [resV, wordsA, sentK, sentI, genI, joinW]; done)
              ·
               refine JC_seq ?_
               refine JC_region ?_
               refine JO_q (QE_eq rfl rfl) rfl ?_
               refine JO_q (QE_as rfl) rfl ?_
               refine JO_nil ?_
               refine thenQ_n ?_
               refine JC_ifD rfl (fun c20 => ?_) (fun c20 => ?_)
               ·
                have hkE : k = 18 := by omega
                subst hkE
                refine JC_seq ?_
                refine JC_region ?_
                refine JO_q (QE_mv rfl) rfl ?_
                refine JO_q (QE_sadd rfl rfl (by simp only [List.length_append, List.length_cons, List.length_nil]; omega)) rfl ?_
                refine JO_q (QE_sadd rfl rfl (by simp only [List.length_append, List.length_cons, List.length_nil]; omega)) rfl ?_
                refine JO_q (QE_mv rfl) rfl ?_
                refine JO_q (QE_sadd rfl rfl (by simp only [List.length_append, List.length_cons, List.length_nil]; omega)) rfl ?_
                refine JO_q (QE_sadd rfl rfl (by simp only [List.length_append, List.length_cons, List.length_nil]; omega)) rfl ?_
                refine JO_q (QE_as rfl) rfl ?_
                refine JO_nil ?_
                refine thenQ_n ?_
                refine JC_ret ?_
                refine blockQ_r ?_
                refine thenQ_r ?_
                refine retQ_mk [_] L (.inr rfl) (.tmp rfl (.nil)) rfl (Le.trans (Le.trans (Le.trans (Le.trans h1 h2) h3) h4) h5) (fun sR hS2 => ?_)
                refine ⟨?_, rfl⟩
                try simp only [reg_cut htn]
                first
                  | (rcases hk15 with rfl | rfl | rfl | rfl | rfl <;> (simp [resV, wordsA, sentK, sentI, genI, joinW, opN, opNames]; done))
                  | (simp [resV, wordsA, sentK, sentI, genI, joinW]; done)
               ·
                have hkE : k = 19 := by omega
                subst hkE
                refine JC_skip ?_
                refine blockQ_n ?_
                refine thenQ_n ?_
                refine JC_seq ?_
                refine JC_region ?_
                refine JO_q (QE_mv rfl) rfl ?_
                refine JO_q (QE_sadd rfl rfl (by simp only [List.length_append, List.length_cons, List.length_nil]; omega)) rfl ?_
                refine JO_q (QE_sadd rfl rfl (by simp only [List.length_append, List.length_cons, List.length_nil]; omega)) rfl ?_
                refine JO_q (QE_mv rfl) rfl ?_
                refine JO_q (QE_sadd rfl rfl (by simp only [List.length_append, List.length_cons, List.length_nil]; omega)) rfl ?_
                refine JO_q (QE_sadd rfl rfl (by simp only [List.length_append, List.length_cons, List.length_nil]; omega)) rfl ?_
                refine JO_q (QE_mv rfl) rfl ?_
                refine JO_q (QE_sadd rfl rfl (by simp only [List.length_append, List.length_cons, List.length_nil]; omega)) rfl ?_
                refine JO_q (QE_sadd rfl rfl (by simp only [List.length_append, List.length_cons, List.length_nil]; omega)) rfl ?_
                refine JO_q (QE_as rfl) rfl ?_
                refine JO_nil ?_
                refine thenQ_n ?_
                refine JC_ret ?_
                refine retQ_mk [_] L (.inr rfl) (.tmp rfl (.nil)) rfl (Le.trans (Le.trans (Le.trans (Le.trans h1 h2) h3) h4) h5) (fun sR hS2 => ?_)
                refine ⟨?_, rfl⟩
                try simp only [reg_cut htn]
                first
                  | (rcases hk15 with rfl | rfl | rfl | rfl | rfl <;> (simp [resV, wordsA, sentK, sentI, genI, joinW, opN, opNames]; done))
                  | (simp [resV, wordsA, sentK, sentI, genI, joinW]; done)
end Go.Proofs.YtoeeblegplghmaaGreatDoor
namespace Go.Proofs.YtoeeblegplghmaaGreatDoor
open Go.FL
attribute [local irreducible] JC JO JA JB thenQ blockQ retQ AC fill CellsAt QE Ev Mid
def orderB : List UInt8 := [32, 97, 98, 99, 100, 101, 102, 103, 104, 105, 106, 107, 108, 109, 110, 111, 112, 113, 114, 115, 116, 117, 118, 119, 120, 121, 122, 65, 66, 67, 68, 69, 70, 71, 72, 73, 74, 75, 76, 77, 78, 79, 80, 81, 82, 83, 84, 85, 86, 87, 88, 89, 90, 48, 49, 50, 51, 52, 53, 54, 55, 56, 57, 46, 44, 59, 58]
theorem val_find0 : ∀ n, n < 256 → findB orderB (((UInt8.ofNat n).toNat : Nat) : Int) = valC (UInt8.ofNat n) := by decide +kernel
theorem val_find (c : UInt8) : findB orderB (c.toNat : Int) = valC c := by
  have := val_find0 c.toNat c.toNat_lt
  rwa [UInt8.ofNat_toNat] at this
theorem join_cell (c : Int) : joinW (cellW c) = joinW (machL.take 3) ++ 32 :: (decS c ++ 32 :: joinW (machL.drop 4)) := by
  rw [cellW, List.set_eq_take_append_cons_drop, if_pos (by rw [mach_len]; decide), join_app _ _ (by intro h; have := congrArg List.length h; rw [List.length_take, mach_len] at this; simp at this) (by simp)]
  congr 2
theorem open_fin {a b : List UInt8} {X : List UInt8} {c : Int} (hX : X = decS c) (ha : a = joinW (machL.take 3) ++ [32]) (hb : b = 32 :: joinW (machL.drop 4)) : a ++ (X ++ b) = joinW (cellW c) := by
  rw [join_cell, ha, hb, hX, List.append_assoc]; rfl
theorem take_size (l : List (List UInt8)) (k : Nat) : sizeW (l.take k) ≤ sizeW l := by
  have h := sizeW_app (l.take k) (l.drop k)
  rw [List.take_append_drop] at h; omega
set_option maxHeartbeats 1000000 in
set_option maxRecDepth 100000 in
theorem rhead_ac (D : Nat) (L : Hl) (s : World) (c : Int) (hu : U32 c) (nm : List UInt8) (hn : nm.length ≤ 1000000) (o : Bool) : AC Tryz.prog D 60 [.int .u32 c, St nm, .bool o] L s fun v L' _ => v = St (joinW (headW c nm o)) ∧ L = L' := by
 obtain ⟨u, rfl⟩ := Int.eq_ofNat_of_zero_le hu.1
 have hu2 := hu.2
 have hdl := dec_len (u := u) (by omega)
 refine AC_enter (TT := TT) (fn := Tryz.f60) TT_ok Tryz.func60 (by kernel_rfl) rfl Tryz.ntmps60 rfl (rs := [.tmp 6]) rfl [(0, _), (1, _), (2, _)] rfl ?_
 refine JC_seq ?_
 refine JC_region ?_
 refine JO_q (QE_as rfl) rfl ?_
 refine JO_nil ?_
 refine thenQ_n ?_
 refine JC_seq ?_
 refine JC_region ?_
 refine JO_q (QE_mv rfl) rfl ?_
 refine JO_call (first := []) (captured := []) rfl rfl rfl (decimal_ac D u (by omega) _ _) ?_
 rintro _ _ s1 h1 ⟨rfl, rfl⟩
 refine JO_q (QE_sadd rfl rfl (by simp only [List.length_append, List.length_cons, List.length_nil]; omega)) rfl ?_
 refine JO_q (QE_sadd rfl rfl (by simp only [List.length_append, List.length_cons, List.length_nil]; omega)) rfl ?_
 refine JO_q (QE_mv rfl) rfl ?_
 refine JO_q (QE_sadd rfl rfl (by simp only [List.length_append, List.length_cons, List.length_nil]; omega)) rfl ?_
 refine JO_q (QE_sadd rfl rfl (by simp only [List.length_append, List.length_cons, List.length_nil]; omega)) rfl ?_
 refine JO_q (QE_as rfl) rfl ?_
 refine JO_nil ?_
 refine thenQ_n ?_
 refine JC_seq ?_
 refine JC_seq ?_
 refine JC_region ?_
 refine JO_q (QE_mv rfl) rfl ?_
 refine JO_nil ?_
 refine thenQ_n ?_
 refine JC_if rfl (fun c2 => ?_) (fun c2 => ?_)
 ·
  have ho : o = true := c2
  refine JC_seq ?_
  refine JC_region ?_
  refine JO_q (QE_mv rfl) rfl ?_
  refine JO_q (QE_sadd rfl rfl (by simp only [List.length_append, List.length_cons, List.length_nil]; omega)) rfl ?_
  refine JO_q (QE_as rfl) rfl ?_
  refine JO_nil ?_
  refine thenQ_n ?_
  refine JC_ret ?_
  refine thenQ_r ?_
  refine retQ_mk [] L (.inr rfl) (.tmp rfl (.nil)) rfl h1 (fun sR hS2 => ?_)
  exact ⟨by rw [join_head, ho]; simp [resV, decS, anB], rfl⟩
 ·
  have ho : o = false := c2
  refine JC_skip ?_
  refine thenQ_n ?_
  refine JC_seq ?_
  refine JC_region ?_
  refine JO_q (QE_mv rfl) rfl ?_
  refine JO_q (QE_sadd rfl rfl (by simp only [List.length_append, List.length_cons, List.length_nil]; omega)) rfl ?_
  refine JO_q (QE_as rfl) rfl ?_
  refine JO_nil ?_
  refine thenQ_n ?_
  refine JC_ret ?_
  refine retQ_mk [] L (.inr rfl) (.tmp rfl (.nil)) rfl h1 (fun sR hS2 => ?_)
  exact ⟨by rw [join_head, ho]; simp [resV, decS, anB], rfl⟩
set_option maxHeartbeats 1000000 in
set_option maxRecDepth 100000 in
theorem rval_ac (D : Nat) (L : Hl) (s : World) (c : UInt8) : AC Tryz.prog D 74 [.int .u8 (c.toNat : Int)] L s fun v L' _ => v = .int .i64 (valC c) ∧ L = L' := by
 refine AC_enter (TT := TT) (fn := Tryz.f74) TT_ok Tryz.func74 (by kernel_rfl) rfl Tryz.ntmps74 rfl (rs := [.tmp 2]) rfl [(0, _)] rfl ?_
 refine JC_seq ?_
 refine JC_region ?_
 refine JO_q (QE_as rfl) rfl ?_
 refine JO_nil ?_
 refine thenQ_n ?_
 refine JC_seq ?_
 refine JC_region ?_
 refine JO_q (QE_mv rfl) rfl ?_
 refine JO_call (first := []) (captured := []) rfl rfl rfl (find7_ac D _ _ orderB _ (by decide)) ?_
 rintro _ _ s1 h1 ⟨rfl, rfl⟩
 refine JO_q (QE_as rfl) rfl ?_
 refine JO_nil ?_
 refine thenQ_n ?_
 refine JC_ret ?_
 refine retQ_mk [] L (.inr rfl) (.tmp rfl (.nil)) rfl h1 (fun sR hS2 => ?_)
 exact ⟨by rw [val_find]; rfl, rfl⟩
set_option maxHeartbeats 1000000 in
set_option maxRecDepth 100000 in
theorem rcheck_ac (D : Nat) (L : Hl) (s : World) (l : List UInt8) (hl : l.length ≤ 4000000) : AC Tryz.prog D 42 [St l] L s fun v L' _ => v = .int .i64 (if okT l = true then chkS l else -1) ∧ L = L' := by
 refine AC_enter (TT := TT) (fn := Tryz.f42) TT_ok Tryz.func42 (by kernel_rfl) rfl Tryz.ntmps42 rfl (rs := [.tmp 2]) rfl [(0, _)] rfl ?_
 refine JC_seq ?_
 refine JC_region ?_
 refine JO_q (QE_as rfl) rfl ?_
 refine JO_nil ?_
 refine thenQ_n ?_
 refine JC_seq ?_
 refine JC_region ?_
 refine JO_q (QE_as rfl) rfl ?_
 refine JO_nil ?_
 refine thenQ_n ?_
 refine JC_seq ?_
 refine JC_seq ?_
 refine JC_region ?_
 refine JO_q (QE_as rfl) rfl ?_
 refine JO_nil ?_
 refine thenQ_n ?_
 refine JC_block ?_
 refine JC_loop (γ := Nat) (fun k => [(0, _), (2, _), (3, .int .i64 (sumF 0 (l.take k))), (4, .int .i64 (k : Int))]) (fun _ => _) (fun k tw => Le D s tw ∧ (k ≤ l.length ∧ (∀ i c, i < k → l[i]? = some c → okC c = true) ∧ 0 ≤ sumF 0 (l.take k) ∧ sumF 0 (l.take k) ≤ 264000000 * (k : Int))) (fun k => l.length - k) (fun _ _ _ h hl => ⟨h.1.trans hl, h.2⟩) 0 (Keeps.cons rfl (Keeps.cons rfl (Keeps.cons rfl (Keeps.cons rfl (Keeps.nil _))))) rfl ⟨Le.refl _, ⟨Nat.zero_le _, fun i c hi => by omega, by simp [sumF], by simp [sumF]⟩⟩ ?_
 intro k s1 I1
 obtain ⟨hk0, hI, hs1, hs2⟩ := I1.2
 refine JC_seq ?_
 refine JC_seq ?_
 refine JC_region ?_
 refine JO_q (QE_mv rfl) rfl ?_
 refine JO_q (QE_mv rfl) rfl ?_
 refine JO_q (QE_lenT rfl rfl rfl) rfl ?_
 refine JO_q (QE_lt rfl rfl) rfl ?_
 refine JO_nil ?_
 refine thenQ_n ?_
 refine JC_ifD rfl (fun c2 => ?_) (fun c2 => ?_)
 ·
  have hk : k < l.length := by omega
  obtain ⟨ch, hch⟩ : ∃ ch, l[k]? = some ch := ⟨_, List.getElem?_eq_getElem hk⟩
  refine JC_skip ?_
  refine thenQ_n ?_
  refine JC_seq ?_
  refine JC_block ?_
  refine JC_seq ?_
  refine JC_region ?_
  refine JO_q (QE_mv rfl) rfl ?_
  refine JO_q (QE_mv rfl) rfl ?_
  refine JO_q (QE_ix rfl rfl rfl rfl hch) rfl ?_
  refine JO_call (first := []) (captured := []) rfl rfl rfl (rval_ac D _ _ ch) ?_
  rintro _ _ s3 h3 ⟨rfl, rfl⟩
  refine JO_q (QE_as rfl) rfl ?_
  refine JO_nil ?_
  refine thenQ_n ?_
  refine JC_seq ?_
  refine JC_seq ?_
  refine JC_region ?_
  refine JO_q (QE_mv rfl) rfl ?_
  refine JO_q (QE_lt rfl rfl) rfl ?_
  refine JO_nil ?_
  refine thenQ_n ?_
  refine JC_ifD rfl (fun c4 => ?_) (fun c4 => ?_)
  ·
   have hbad : okC ch = false := decide_eq_false (by omega)
   refine JC_seq ?_
   refine JC_region ?_
   refine JO_q (QE_as rfl) rfl ?_
   refine JO_nil ?_
   refine thenQ_n ?_
   refine JC_ret ?_
   refine thenQ_r ?_
   refine blockQ_r ?_
   refine thenQ_r ?_
   refine thenQ_r ?_
   refine blockQ_r ?_
   refine thenQ_r ?_
   refine retQ_mk [] L (.inr rfl) (.tmp rfl (.nil)) rfl (Le.trans I1.1 h3) (fun sR hS2 => ?_)
   refine ⟨?_, rfl⟩
   first
     | (rw [okT_bad hch hbad]; rfl)
     | (have hokT := okT_all (fun i c hi hc => hI i c hi hc)
        have e : (sumF 0 l).tmod 9973 = chkS l := Int.tmod_eq_emod_of_nonneg hs1
        simp only [resV, hokT, if_true, e])
  ·
   have hok : okC ch = true := decide_eq_true (by omega)
   have hmb := mul_bound (val_le hok) (show k + 1 ≤ 4000000 by omega)
   rw [Int.mul_comm] at hmb
   refine JC_skip ?_
   refine thenQ_n ?_
   refine JC_region ?_
   refine JO_q (QE_mv rfl) rfl ?_
   refine JO_q (QE_mv rfl) rfl ?_
   refine JO_q (QE_add' rfl rfl (w64 (by omega) (by omega))) rfl ?_
   refine JO_q (QE_mv rfl) rfl ?_
   refine JO_q (QE_mul' rfl rfl (w64 (by omega) (by omega))) rfl ?_
   refine JO_q (QE_add' rfl rfl (w64 (by omega) (by omega))) rfl ?_
   refine JO_q (QE_as rfl) rfl ?_
   refine JO_nil ?_
   refine blockQ_n ?_
   refine thenQ_n ?_
   refine JC_region ?_
   refine JO_q (QE_mv rfl) rfl ?_
   refine JO_q (QE_add' rfl rfl (w64 (by omega) (by omega))) rfl ?_
   refine JO_q (QE_as rfl) rfl ?_
   refine JO_nil ?_
   refine thenQ_n ⟨(k + 1), [], (Keeps.cons rfl (Keeps.cons rfl (Keeps.cons (by rw [sumF_take hch, Int.mul_comm (valC ch)]; rfl) (Keeps.cons rfl (Keeps.nil _))))), rfl, ⟨(Le.trans I1.1 h3), ⟨by omega, below_succ hI hch hok, by rw [sumF_take hch, Int.mul_comm]; omega, by rw [sumF_take hch, Int.mul_comm]; omega⟩⟩, (by omega)⟩
 ·
  have hkE : k = l.length := by omega
  subst hkE
  rw [List.take_length] at *
  refine JC_exit ?_
  refine thenQ_x ?_
  refine thenQ_x ?_
  refine blockQ_x ?_
  refine thenQ_n ?_
  refine JC_seq ?_
  refine JC_region ?_
  refine JO_q (QE_mv rfl) rfl ?_
  refine JO_q (QE_rem rfl rfl (by omega)) rfl ?_
  refine JO_q (QE_as rfl) rfl ?_
  refine JO_nil ?_
  refine thenQ_n ?_
  refine JC_ret ?_
  refine retQ_mk [] L (.inr rfl) (.tmp rfl (.nil)) rfl I1.1 (fun sR hS2 => ?_)
  refine ⟨?_, rfl⟩
  first
    | (rw [okT_bad hch hbad]; rfl)
    | (have hokT := okT_all (fun i c hi hc => hI i c hi hc)
       have e : (sumF 0 l).tmod 9973 = chkS l := Int.tmod_eq_emod_of_nonneg hs1
       simp only [resV, hokT, if_true, e])
end Go.Proofs.YtoeeblegplghmaaGreatDoor
namespace Go.Proofs.YtoeeblegplghmaaGreatDoor
open Go.FL
attribute [local irreducible] JC JO JA JB thenQ blockQ retQ AC fill CellsAt QE Ev Mid
theorem take_next {α : Type} {l : List α} {k : Nat} {x : α} (h : l[k]? = some x) : l.take (k + 1) = l.take k ++ [x] := by
  rw [List.take_add_one, h]; rfl
theorem canon_of {l : List UInt8} (h : numL l ≠ none) : canonB l = true ∧ valD 0 l < 4294967296 := by
  unfold numL at h
  split at h
  · assumption
  · exact absurd rfl h
theorem num_bad {l : List UInt8} (h : l = [] ∨ 10 < l.length ∨ (1 < l.length ∧ l[0]? = some 48)) : numL l = none := by
  cases hn : numL l with
  | none => rfl
  | some u =>
    obtain ⟨e, hu⟩ := numL_some hn
    have hd := dec_len hu
    rw [← e] at hd
    have hc := (canon_of (by rw [hn]; simp)).1
    simp only [canonB, Bool.and_eq_true, decide_eq_true_eq, Bool.or_eq_true] at hc
    rcases h with h | h | ⟨h, h2⟩
    · exact absurd h hc.1.1
    · omega
    · rcases hc.2 with h3 | h3
      · omega
      · rw [List.head?_eq_getElem?] at h3; exact absurd h2 h3
theorem num_dig {l : List UInt8} {c : UInt8} {k : Nat} (hc : l[k]? = some c) (h : digB c = false) : numL l = none := by
  cases hn : numL l with
  | none => rfl
  | some u =>
    have hcn := (canon_of (l := l) (by rw [hn]; simp)).1
    simp only [canonB, Bool.and_eq_true] at hcn
    have := List.all_eq_true.1 hcn.1.2 c (List.mem_of_getElem? hc)
    rw [h] at this; cases this
theorem num_large {l : List UInt8} (h : 4294967295 < valD 0 l) : numL l = none := by
  rw [numL, if_neg (fun hh => by omega)]
theorem num_good {l : List UInt8} (h : ¬ (l = [] ∨ 10 < l.length ∨ (1 < l.length ∧ l[0]? = some 48))) (hd : ∀ i c, i < l.length → l[i]? = some c → digB c = true) (hv : ¬ 4294967295 < valD 0 l) : numL l = some (valD 0 l) := by
  have hcn : canonB l = true := by
    simp only [canonB, Bool.and_eq_true, decide_eq_true_eq, Bool.or_eq_true]
    refine ⟨⟨fun e => h (.inl e), List.all_eq_true.2 fun c hc => ?_⟩, ?_⟩
    · obtain ⟨i, hi⟩ := List.mem_iff_getElem?.1 hc
      exact hd i c (List.getElem?_eq_some_iff.1 hi).1 hi
    · by_cases h1 : 1 < l.length
      · right; intro e; exact h (.inr (.inr ⟨h1, by rw [← List.head?_eq_getElem?]; exact e⟩))
      · left; omega
  rw [numL, if_pos ⟨hcn, by omega⟩]
theorem valD_bound {l : List UInt8} (h : ∀ i c, i < l.length → l[i]? = some c → digB c = true) : valD 0 l < 10 ^ l.length := by
  generalize hn : l.length = n
  induction n generalizing l with
  | zero => rw [List.length_eq_zero_iff.1 hn, valD_nil]; simp
  | succ n ih =>
    rcases List.eq_nil_or_concat l with rfl | ⟨r, c, rfl⟩
    · cases hn
    · rw [List.concat_eq_append] at *
      have hrl : r.length = n := by simpa using hn
      have h1 := ih (l := r) (fun i x hi hx => h i x (by simp; omega) (by rw [List.getElem?_append_left hi]; exact hx)) hrl
      have h2 := h r.length c (by simp) (by simp)
      simp only [digB, Bool.and_eq_true, decide_eq_true_eq] at h2
      rw [valD_snoc, Nat.pow_succ]
      omega
theorem valD_take {l : List UInt8} {k : Nat} (hk : k ≤ l.length) (hk10 : l.length ≤ 10) (h : ∀ i c, i < k → l[i]? = some c → digB c = true) : valD 0 (l.take k) < 10000000000 := by
  have h1 := valD_bound (l := l.take k) (fun i c hi hc => h i c (by simp at hi; omega) (by rw [List.getElem?_take] at hc; split at hc; exact hc; cases hc))
  have h2 : 10 ^ (l.take k).length ≤ 10 ^ 10 := Nat.pow_le_pow_right (by omega) (by simp; omega)
  omega
theorem digB_iff {c : UInt8} : (48 ≤ (c.toNat : Int) ∧ (c.toNat : Int) ≤ 57) ↔ digB c = true := by
  simp only [digB, Bool.and_eq_true, decide_eq_true_eq]; omega
set_option maxHeartbeats 1000000 in
set_option maxRecDepth 100000 in
theorem numberOf_ac (D : Nat) (L : Hl) (s : World) (l : List UInt8) (hl : l.length ≤ 9223372036854775807) : AC Tryz.prog D 39 [St l] L s fun v L' _ => v = .tuple #[.int .u32 (((numL l).getD 0 : Nat) : Int), .bool (numL l).isSome] ∧ L = L' := by
 refine AC_enter (TT := TT) (fn := Tryz.f39) TT_ok Tryz.func39 (by kernel_rfl) rfl Tryz.ntmps39 rfl (rs := [.tmp 2, .tmp 3]) rfl [(0, _)] rfl ?_
 refine JC_seq ?_
 refine JC_region ?_
 refine JO_q (QE_as rfl) rfl ?_
 refine JO_q (QE_as rfl) rfl ?_
 refine JO_nil ?_
 refine thenQ_n ?_
 refine JC_seq ?_
 refine JC_cutB 23 (l = [] ∨ 10 < l.length ∨ (1 < l.length ∧ l[0]? = some 48)) ?_ ?_
 ·
  refine JC_region ?_
  refine JO_q (QE_mv rfl) rfl ?_
  refine JO_q (QE_lenT rfl rfl rfl) rfl ?_
  refine JO_q (QE_eq rfl rfl) rfl ?_
  refine JO_q (QE_mv rfl) rfl ?_
  refine JO_caseD (t := 9) rfl (fun c2 => ?_) (fun c2 => ?_)
  ·
   refine JO_gF rfl rfl rfl rfl ?_
   refine JO_gF rfl rfl rfl rfl ?_
   refine JO_gF rfl rfl rfl rfl ?_
   refine JO_q (QE_pickT rfl rfl) rfl ?_
   refine JO_q (QE_mv rfl) rfl ?_
   refine JO_gF rfl rfl rfl rfl ?_
   refine JO_gF rfl rfl rfl rfl ?_
   refine JO_gF rfl rfl rfl rfl ?_
   refine JO_gF rfl rfl rfl rfl ?_
   refine JO_gU rfl rfl rfl ?_
   refine JO_gU rfl rfl rfl ?_
   refine JO_gU rfl rfl rfl ?_
   refine JO_gF rfl rfl rfl rfl ?_
   refine JO_q (QE_pickT rfl rfl) rfl ?_
   refine JO_nil ?_
   refine thenQ_n (MidB.mk (Le.refl (D := D) _) (by repeat (first | exact Suf.refl | refine Suf.push rfl ?_)) rfl ((decide_eq_true (by first | exact .inl (List.length_eq_zero_iff.1 (by omega)) | exact .inr (.inl (by omega)) | (rintro (h | h | h) <;> first | omega | (have h9 := congrArg List.length h; simp only [List.length_nil] at h9; omega)))).symm))
  ·
   refine JO_gT rfl rfl ?_
   refine JO_q (QE_mv rfl) rfl ?_
   refine JO_gT rfl rfl ?_
   refine JO_q (QE_lenT rfl rfl rfl) rfl ?_
   refine JO_gT rfl rfl ?_
   refine JO_q (QE_gt rfl rfl) rfl ?_
   refine JO_q (QE_pickF rfl rfl) rfl ?_
   refine JO_q (QE_mv rfl) rfl ?_
   refine JO_caseD (t := 14) rfl (fun c3 => ?_) (fun c3 => ?_)
   ·
    refine JO_gF rfl rfl rfl rfl ?_
    refine JO_gF rfl rfl rfl rfl ?_
    refine JO_gF rfl rfl rfl rfl ?_
    refine JO_gF rfl rfl rfl rfl ?_
    refine JO_gU rfl rfl rfl ?_
    refine JO_gU rfl rfl rfl ?_
    refine JO_gU rfl rfl rfl ?_
    refine JO_gF rfl rfl rfl rfl ?_
    refine JO_q (QE_pickT rfl rfl) rfl ?_
    refine JO_nil ?_
    refine thenQ_n (MidB.mk (Le.refl (D := D) _) (by repeat (first | exact Suf.refl | refine Suf.push rfl ?_)) rfl ((decide_eq_true (by first | exact .inl (List.length_eq_zero_iff.1 (by omega)) | exact .inr (.inl (by omega)) | (rintro (h | h | h) <;> first | omega | (have h9 := congrArg List.length h; simp only [List.length_nil] at h9; omega)))).symm))
   ·
    refine JO_gT rfl rfl ?_
    refine JO_q (QE_mv rfl) rfl ?_
    refine JO_gT rfl rfl ?_
    refine JO_q (QE_lenT rfl rfl rfl) rfl ?_
    refine JO_gT rfl rfl ?_
    refine JO_q (QE_gt rfl rfl) rfl ?_
    refine JO_gT rfl rfl ?_
    refine JO_q (QE_mv rfl) rfl ?_
    refine JO_caseD (t := 18) rfl (fun c4 => ?_) (fun c4 => ?_)
    ·
     refine JO_gT rfl rfl ?_
     refine JO_q (QE_mv rfl) rfl ?_
     refine JO_gT rfl rfl ?_
     obtain ⟨c0, hc0⟩ : ∃ c0, l[0]? = some c0 := ⟨_, List.getElem?_eq_getElem (by omega)⟩
     refine JO_q (QE_ix rfl rfl rfl rfl hc0) rfl ?_
     refine JO_gT rfl rfl ?_
     refine JO_q (QE_eq rfl rfl) rfl ?_
     refine JO_gT rfl rfl ?_
     refine JO_q (QE_pickT rfl rfl) rfl ?_
     refine JO_q (QE_pickF rfl rfl) rfl ?_
     refine JO_nil ?_
     refine thenQ_n (MidB.mk (Le.refl (D := D) _) (by repeat (first | exact Suf.refl | refine Suf.push rfl ?_)) rfl (decide_eq_decide.2 (⟨fun h => .inr (.inr ⟨by omega, by rw [hc0]; exact congrArg some (u8_eq.2 h)⟩), fun h => by rcases h with h | h | h <;> first | omega | (rw [h] at hc0; cases hc0) | (have h2 := h.2; rw [hc0] at h2; injection h2 with h2; rw [h2]; rfl)⟩)))
    ·
     refine JO_gF rfl rfl rfl rfl ?_
     refine JO_gF rfl rfl rfl rfl ?_
     refine JO_gF rfl rfl rfl rfl ?_
     refine JO_gT rfl rfl ?_
     refine JO_q (QE_pickF rfl rfl) rfl ?_
     refine JO_q (QE_pickF rfl rfl) rfl ?_
     refine JO_nil ?_
     refine thenQ_n (MidB.mk (Le.refl (D := D) _) (by repeat (first | exact Suf.refl | refine Suf.push rfl ?_)) rfl ((decide_eq_false (by first | exact .inl (List.length_eq_zero_iff.1 (by omega)) | exact .inr (.inl (by omega)) | (rintro (h | h | h) <;> first | omega | (have h9 := congrArg List.length h; simp only [List.length_nil] at h9; omega)))).symm))
 ·
  intro s1 h1
  refine JC_ifD rfl (fun c5 => ?_) (fun c5 => ?_)
  ·
   have h23 := num_bad c5
   refine JC_seq ?_
   refine JC_region ?_
   refine JO_q (QE_as rfl) rfl ?_
   refine JO_q (QE_as rfl) rfl ?_
   refine JO_nil ?_
   refine thenQ_n ?_
   refine JC_ret ?_
   refine thenQ_r ?_
   refine retQ_mk [] L (.inr rfl) (.tmp rfl (.tmp rfl (.nil))) rfl h1 (fun sR hS2 => ?_)
   first
     | (rw [h23]; exact ⟨rfl, rfl⟩)
     | (rw [h35]; exact ⟨rfl, rfl⟩)
     | (rw [h45]; exact ⟨rfl, rfl⟩)
  ·
   have h23 := c5
   have hl10 : l.length ≤ 10 := by
     rcases Nat.lt_or_ge 10 l.length with h | h
     · exact absurd (.inr (.inl h)) h23
     · exact h
   refine JC_skip ?_
   refine thenQ_n ?_
   refine JC_seq ?_
   refine JC_region ?_
   refine JO_q (QE_as rfl) rfl ?_
   refine JO_nil ?_
   refine thenQ_n ?_
   refine JC_seq ?_
   refine JC_seq ?_
   refine JC_region ?_
   refine JO_q (QE_as rfl) rfl ?_
   refine JO_nil ?_
   refine thenQ_n ?_
   refine JC_block ?_
   refine JC_loop (γ := Nat) (fun k => [(0, _), (2, .int .u32 0), (3, _), (4, .int .i64 ((valD 0 (l.take k) : Nat) : Int)), (5, .int .i64 (k : Int))]) (fun _ => _) (fun k tw => Le D s1 tw ∧ (k ≤ l.length ∧ ∀ i c, i < k → l[i]? = some c → digB c = true)) (fun k => l.length - k) (fun _ _ _ h hl => ⟨h.1.trans hl, h.2⟩) 0 (Keeps.cons rfl (Keeps.cons rfl (Keeps.cons rfl (Keeps.cons (congrArg some (congrArg (Value.int .i64) (by rw [List.take_zero, valD_nil]; rfl))) (Keeps.cons rfl (Keeps.nil _)))))) rfl ⟨Le.refl _, ⟨Nat.zero_le _, fun i c hi => by omega⟩⟩ ?_
   intro k s6 I6
   have hk0 := I6.2.1
   have hI := I6.2.2
   have hvb := valD_take hk0 (by omega) hI
   refine JC_seq ?_
   refine JC_seq ?_
   refine JC_region ?_
   refine JO_q (QE_mv rfl) rfl ?_
   refine JO_q (QE_mv rfl) rfl ?_
   refine JO_q (QE_lenT rfl rfl rfl) rfl ?_
   refine JO_q (QE_lt rfl rfl) rfl ?_
   refine JO_nil ?_
   refine thenQ_n ?_
   refine JC_ifD rfl (fun c7 => ?_) (fun c7 => ?_)
   ·
    have hk : k < l.length := by omega
    obtain ⟨ch, hch⟩ : ∃ ch, l[k]? = some ch := ⟨_, List.getElem?_eq_getElem hk⟩
    have hc256 := ch.toNat_lt
    refine JC_skip ?_
    refine thenQ_n ?_
    refine JC_seq ?_
    refine JC_block ?_
    refine JC_seq ?_
    refine JC_seq ?_
    refine JC_region ?_
    refine JO_q (QE_mv rfl) rfl ?_
    refine JO_q (QE_mv rfl) rfl ?_
    refine JO_q (QE_ix rfl rfl rfl rfl hch) rfl ?_
    refine JO_q (QE_conv' rfl rfl rfl rfl rfl (w64 (by omega) (by omega))) rfl ?_
    refine JO_call (first := []) (captured := []) rfl rfl rfl (in_ac D _ _ _ _ _) ?_
    rintro _ _ s8 h8 ⟨rfl, rfl⟩
    refine JO_q (QE_not rfl) rfl ?_
    refine JO_nil ?_
    refine thenQ_n ?_
    refine JC_ifN rfl (fun c9 => ?_) (fun c9 => ?_)
    ·
     have hnd : digB ch = false := Bool.eq_false_iff.2 fun h => c9 (digB_iff.2 h)
     have h35 := num_dig hch hnd
     refine JC_seq ?_
     refine JC_region ?_
     refine JO_q (QE_as rfl) rfl ?_
     refine JO_q (QE_as rfl) rfl ?_
     refine JO_nil ?_
     refine thenQ_n ?_
     refine JC_ret ?_
     refine thenQ_r ?_
     refine blockQ_r ?_
     refine thenQ_r ?_
     refine thenQ_r ?_
     refine blockQ_r ?_
     refine thenQ_r ?_
     refine retQ_mk [] L (.inr rfl) (.tmp rfl (.tmp rfl (.nil))) rfl (Le.trans (Le.trans h1 I6.1) h8) (fun sR hS2 => ?_)
     first
       | (rw [h23]; exact ⟨rfl, rfl⟩)
       | (rw [h35]; exact ⟨rfl, rfl⟩)
       | (rw [h45]; exact ⟨rfl, rfl⟩)
    ·
     have hdg : digB ch = true := digB_iff.1 c9
     have hd48 := digB_iff.2 hdg
     refine JC_skip ?_
     refine thenQ_n ?_
     refine JC_region ?_
     refine JO_q (QE_mv rfl) rfl ?_
     refine JO_q (QE_mul' rfl rfl (w64 (by omega) (by omega))) rfl ?_
     refine JO_q (QE_mv rfl) rfl ?_
     refine JO_q (QE_mv rfl) rfl ?_
     refine JO_q (QE_ix rfl rfl rfl rfl hch) rfl ?_
     refine JO_q (QE_conv' rfl rfl rfl rfl rfl (w64 (by omega) (by omega))) rfl ?_
     refine JO_q (QE_add' rfl rfl (w64 (by omega) (by omega))) rfl ?_
     refine JO_q (QE_sub' rfl rfl (w64 (by omega) (by omega))) rfl ?_
     refine JO_q (QE_as rfl) rfl ?_
     refine JO_nil ?_
     refine blockQ_n ?_
     refine thenQ_n ?_
     refine JC_region ?_
     refine JO_q (QE_mv rfl) rfl ?_
     refine JO_q (QE_add' rfl rfl (w64 (by omega) (by omega))) rfl ?_
     refine JO_q (QE_as rfl) rfl ?_
     refine JO_nil ?_
     refine thenQ_n ⟨(k + 1), [], (Keeps.cons rfl (Keeps.cons rfl (Keeps.cons rfl (Keeps.cons (congrArg some (congrArg (Value.int .i64) (by rw [take_next hch, valD_snoc]; omega))) (Keeps.cons rfl (Keeps.nil _)))))), rfl, ⟨(Le.trans I6.1 h8), ⟨by omega, below_succ hI hch hdg⟩⟩, (by omega)⟩
   ·
    have hkl : l.take k = l := List.take_of_length_le (by omega)
    rw [hkl] at hvb ⊢
    refine JC_exit ?_
    refine thenQ_x ?_
    refine thenQ_x ?_
    refine blockQ_x ?_
    refine thenQ_n ?_
    refine JC_seq ?_
    refine JC_seq ?_
    refine JC_region ?_
    refine JO_q (QE_mv rfl) rfl ?_
    refine JO_q (QE_gt rfl rfl) rfl ?_
    refine JO_nil ?_
    refine thenQ_n ?_
    refine JC_ifD rfl (fun c10 => ?_) (fun c10 => ?_)
    ·
     have h45 := num_large (l := l) (by omega)
     refine JC_seq ?_
     refine JC_region ?_
     refine JO_q (QE_as rfl) rfl ?_
     refine JO_q (QE_as rfl) rfl ?_
     refine JO_nil ?_
     refine thenQ_n ?_
     refine JC_ret ?_
     refine thenQ_r ?_
     refine retQ_mk [] L (.inr rfl) (.tmp rfl (.tmp rfl (.nil))) rfl (Le.trans h1 I6.1) (fun sR hS2 => ?_)
     first
       | (rw [h23]; exact ⟨rfl, rfl⟩)
       | (rw [h35]; exact ⟨rfl, rfl⟩)
       | (rw [h45]; exact ⟨rfl, rfl⟩)
    ·
     have h45 := num_good h23 (fun i c hi h => hI i c (by omega) h) (by omega)
     refine JC_skip ?_
     refine thenQ_n ?_
     refine JC_seq ?_
     refine JC_region ?_
     refine JO_q (QE_mv rfl) rfl ?_
     refine JO_q (QE_conv' rfl rfl rfl rfl rfl (wrap_small (by omega))) rfl ?_
     refine JO_q (QE_as rfl) rfl ?_
     refine JO_q (QE_as rfl) rfl ?_
     refine JO_nil ?_
     refine thenQ_n ?_
     refine JC_ret ?_
     refine retQ_mk [] L (.inr rfl) (.tmp rfl (.tmp rfl (.nil))) rfl (Le.trans h1 I6.1) (fun sR hS2 => ?_)
     first
       | (rw [h23]; exact ⟨rfl, rfl⟩)
       | (rw [h35]; exact ⟨rfl, rfl⟩)
       | (rw [h45]; exact ⟨rfl, rfl⟩)
abbrev Pg := List (List UInt8) × Int
def pgOf (p : Par) : Pg := (p.1, codeP p)
def paraR (ws : List (List UInt8)) : List Pg := (dvF [] ws).map pgOf
def PgR (s : World) (p : Pg) (cs : List Value) : Prop := ∃ A n c, cs = [.slice A n c, .int .i64 p.2] ∧ Strs s A n c p.1
theorem PgR.le {D : Nat} {s s' : World} {p : Pg} {cs : List Value} (h : PgR s p cs) (hl : Le D s s') : PgR s' p cs := by
  obtain ⟨A, n, c, h1, h2⟩ := h
  exact ⟨A, n, c, h1, h2.le hl⟩
def Pgs (s : World) (A : Option Addr) (n c : Nat) (l : List Pg) : Prop := Sl 2 PgR s A n c l
theorem Pgs.le {D : Nat} {s s' : World} {A : Option Addr} {n c : Nat} {l : List Pg} (h : Pgs s A n c l) (hl : Le D s s') : Pgs s' A n c l := Sl.le (fun _ _ h => h.le hl) h hl
theorem Pgs.at_ {s : World} {A : Option Addr} {n c k : Nat} {l : List Pg} (h : Pgs s A n c l) (hk : k < n) : ∃ b off p A' n' c', A = some ⟨b, off, none⟩ ∧ l[k]? = some p ∧ CellsAt s b (off + k * 2) [.slice A' n' c', .int .i64 p.2] ∧ Strs s A' n' c' p.1 := by
  have hl : k < l.length := by rw [← h.1]; exact hk
  obtain ⟨b, off, cs, h1, h2, _, A', n', c', rfl, h5⟩ := h.2.2.2 k l[k] (List.getElem?_eq_getElem hl)
  exact ⟨b, off, l[k], A', n', c', h1, List.getElem?_eq_getElem hl, h2, h5⟩
abbrev Pg2 (s : World) (p : Pg) (cs : List Value) : Prop := cs.length = 2 ∧ PgR s p cs
theorem flat_snocP (css : List (List Value)) (cs : List Value) : (css ++ [cs]).flatten = css.flatten ++ cs := by simp
theorem pg_last {l : List UInt8} (h : l ≠ []) : ∃ c, l[l.length - 1]? = some c ∧ (dotB l = decide (c = 46)) := by
  refine ⟨l.getLast h, by rw [← List.getLast?_eq_getElem?, List.getLast?_eq_some_getLast h], ?_⟩
  rw [dotB, List.getLast?_eq_some_getLast h]; simp
theorem pg_code1 {now : List (List UInt8)} {l : List UInt8} (h : dotB l = false ∨ (numL l.dropLast).isSome = false ∨ okT (joinW now) = false) : codeP (now, some l) = 1 := code_syn (by
  rcases h with h | h | h
  · exact .inl h
  · exact .inr (.inl (by simpa using h))
  · exact .inr (.inr h))
theorem pg_code2 {now : List (List UInt8)} {l : List UInt8} (h1 : dotB l = true) (h2 : (numL l.dropLast).isSome = true) (h3 : okT (joinW now) = true) : codeP (now, some l) = if ¬ chkS (joinW now) = (((numL l.dropLast).getD 0 : Nat) : Int) then 16 else 0 := by
  obtain ⟨u, hu⟩ := Option.isSome_iff_exists.1 h2
  have hno : ¬ (dotB l = false ∨ numL l.dropLast = none ∨ okT (joinW now) = false) := by rw [h1, hu, h3]; simp
  have hc := chk_lt (joinW now)
  rw [hu, Option.getD_some]
  by_cases e : chkS (joinW now) = (u : Int)
  · rw [if_neg (fun h => h e), code_fine hno (by rw [hu]; intro h; exact h (by congr 1; omega))]
  · rw [if_pos e, code_cor hno (by rw [hu]; intro h; injection h with h; exact e (by omega))]
theorem pg_more {now : List (List UInt8)} {ws : List (List UInt8)} {i : Nat} {w : List UInt8} (hw : ws[i]? = some w) (h : w ≠ checkB ∨ i + 1 = ws.length) : (dvF now (ws.drop i)).map pgOf = (dvF (now ++ [w]) (ws.drop (i + 1))).map pgOf := by
  rw [drop_at hw, dv_more (h.imp id fun e => List.drop_of_length_le (by omega))]
theorem pg_hit {now : List (List UInt8)} {ws : List (List UInt8)} {i : Nat} {l : List UInt8} (hw : ws[i]? = some checkB) (hl : ws[i + 1]? = some l) : (dvF now (ws.drop i)).map pgOf = (now, codeP (now, some l)) :: (dvF [] (ws.drop (i + 2))).map pgOf := by
  rw [drop_at hw, drop_at hl, dv_hit]; rfl
theorem pg_end (now : List (List UInt8)) (ws : List (List UInt8)) : (dvF now (ws.drop ws.length)).map pgOf = if now = [] then [] else [(now, 1)] := by
  rw [List.drop_length, dvF]; split <;> rfl
theorem drop_size {ws : List (List UInt8)} {i : Nat} {w : List UInt8} (h : ws[i]? = some w) : sizeW (ws.drop i) = w.length + 1 + sizeW (ws.drop (i + 1)) := by rw [drop_at h, sizeW_cons]
set_option maxHeartbeats 4000000 in
set_option maxRecDepth 100000 in
theorem parasRO_ac (D : Nat) (L : Hl) (s : World) (tx : List UInt8) (hl : tx.length ≤ 1000000) : AC Tryz.prog D 24 [St tx] L s fun v L' s' => ∃ M', L' = M' ++ L ∧ ∀ s2, Le D s' s2 → Pub M' s2 → ∃ A n c, v = .slice A n c ∧ Pgs s2 A n c (paraR (flds tx)) := by
 refine AC_enter (TT := TT) (fn := Tryz.f24) TT_ok Tryz.func24 (by kernel_rfl) rfl Tryz.ntmps24 rfl (rs := [.tmp 2]) rfl [(0, _)] rfl ?_
 refine JC_seq ?_
 refine JC_region ?_
 refine JO_q (QE_as rfl) rfl ?_
 refine JO_nil ?_
 refine thenQ_n ?_
 refine JC_seq ?_
 refine JC_region ?_
 refine JO_q (QE_mv rfl) rfl ?_
 refine JO_call (first := []) (captured := []) rfl rfl rfl (rfields_ac D _ _ tx (by omega)) ?_
 rintro _ _ s1 h1 ⟨rfl, Aw, nw, cw, rfl, hW⟩
 have hn := hW.1
 have hcw1 := hW.2.1
 have hcw2 := hW.2.2.1
 have hfs := flds_size tx
 have hfl := size_len (flds tx)
 refine JO_q (QE_as rfl) rfl ?_
 refine JO_nil ?_
 refine thenQ_n ?_
 refine JC_seq ?_
 refine JC_region ?_
 refine JO_q (QE_as rfl) rfl ?_
 refine JO_nil ?_
 refine thenQ_n ?_
 refine JC_seq ?_
 refine JC_region ?_
 refine JO_q (QE_as rfl) rfl ?_
 refine JO_nil ?_
 refine thenQ_n ?_
 refine JC_seq ?_
 refine JC_region ?_
 refine JO_q (QE_as rfl) rfl ?_
 refine JO_nil ?_
 refine thenQ_n ?_
 refine JC_seq ?_
 refine JC_block ?_
 refine JC_loop (γ := Nat × Value × Hl × List Pg × Value × Hl × List (List UInt8)) (fun g => [(2, _), (3, _), (4, g.2.1), (5, g.2.2.2.2.1), (6, .int .i64 (g.1 : Int))]) (fun g => g.2.2.2.2.2.1 ++ (g.2.2.1 ++ L)) (fun g tw => Le D s1 tw ∧ (g.1 ≤ nw ∧ (∃ css, FL.Own 53 2 g.2.2.1 g.2.1 g.2.2.2.1.length css.flatten ∧ All2 (Pg2 tw) g.2.2.2.1 css) ∧ FL.Own 9 1 g.2.2.2.2.2.1 g.2.2.2.2.1 g.2.2.2.2.2.2.length (sb g.2.2.2.2.2.2) ∧ g.2.2.2.1.length ≤ g.1 ∧ g.2.2.2.2.2.2.length ≤ g.1 ∧ sizeW g.2.2.2.2.2.2 + sizeW ((flds tx).drop g.1) ≤ sizeW (flds tx) ∧ paraR (flds tx) = g.2.2.2.1 ++ (dvF g.2.2.2.2.2.2 ((flds tx).drop g.1)).map pgOf)) (fun g => nw - g.1) (fun _ _ _ h hl => ⟨h.1.trans hl, by obtain ⟨_, k1, ⟨css, k2, k3⟩, k4⟩ := h; exact ⟨k1, ⟨css, k2, k3.mono fun y cs q => ⟨q.1, q.2.le hl⟩⟩, k4⟩⟩) (0, .slice none 0 0, [], [], .slice none 0 0, [], []) (Keeps.cons rfl (Keeps.cons rfl (Keeps.cons rfl (Keeps.cons rfl (Keeps.cons rfl (Keeps.nil _)))))) rfl ⟨Le.refl _, ⟨Nat.zero_le _, ⟨[], FL.Own.nil, .nil⟩, FL.Own.nil, Nat.le_refl _, Nat.le_refl _, by simp [sizeW_nil], rfl⟩⟩ ?_
 intro g s2 I2
 obtain ⟨i, vo, Mo, done, vn, Mn, now⟩ := g
 obtain ⟨hi0, ⟨css, hO, hcs⟩, hN, hol, hnl, hzz, hR⟩ := I2.2
 simp only at hi0 hO hcs hN hol hnl hzz hR
 dsimp only
 obtain ⟨An, cn, hvn, hcn1, hcn2⟩ := Own.slice hN
 subst hvn
 refine JC_seq ?_
 refine JC_seq ?_
 refine JC_region ?_
 refine JO_q (QE_mv rfl) rfl ?_
 refine JO_q (QE_mv rfl) rfl ?_
 refine JO_q (QE_lenS rfl rfl rfl) rfl ?_
 refine JO_q (QE_lt rfl rfl) rfl ?_
 refine JO_nil ?_
 refine thenQ_n ?_
 refine JC_ifD rfl (fun c3 => ?_) (fun c3 => ?_)
 ·
  have hk : i < nw := by omega
  obtain ⟨b, off, w, rfl, hw, hcw, _⟩ := Strs.at_ (hW.le I2.1) hk
  have hds := drop_size hw
  refine JC_skip ?_
  refine thenQ_n ?_
  refine JC_block ?_
  refine JC_seq ?_
  refine JC_seq ?_
  refine JC_region ?_
  refine JO_q (QE_mv rfl) rfl ?_
  refine JO_q (QE_mv rfl) rfl ?_
  refine JO_q (QE_ia1 rfl rfl rfl rfl rfl rfl hk) rfl ?_
  refine JO_q (QE_ldsR0 rfl rfl rfl (hcw.le (Le.refl (D := D) _)) rfl) rfl ?_
  refine JO_q (QE_sne rfl rfl) rfl ?_
  refine JO_q (QE_mv rfl) rfl ?_
  refine JO_caseN (t := 23) rfl (fun c4 => ?_) (fun c4 => ?_)
  ·
   refine JO_gF rfl rfl rfl rfl ?_
   refine JO_gF rfl rfl rfl rfl ?_
   refine JO_gF rfl rfl rfl rfl ?_
   refine JO_gF rfl rfl rfl rfl ?_
   refine JO_gF rfl rfl rfl rfl ?_
   refine JO_q (QE_pickT rfl rfl) rfl ?_
   refine JO_nil ?_
   refine thenQ_n ?_
   refine JC_ifT rfl ?_
   have hor : w ≠ checkB ∨ i + 1 = (flds tx).length := by
     first
     | exact .inl (by assumption)
     | exact .inr (by omega)
   refine JC_seq ?_
   refine JC_region ?_
   refine JO_q (QE_mv rfl) rfl ?_
   refine JO_q (QE_mv rfl) rfl ?_
   refine JO_q (QE_mv rfl) rfl ?_
   refine JO_q (QE_ia1 rfl rfl rfl rfl rfl rfl hk) rfl ?_
   refine JO_q (QE_ldsR0 rfl rfl rfl (hcw.le (Le.refl (D := D) _)) rfl) rfl ?_
   refine JO_bs [(_, _)] [_] rfl rfl rfl rfl rfl rfl rfl rfl rfl ?_
   intro βn s5 h5 hcb
   refine JO_app (sz := 1) [] Mn (Mo ++ L) rfl rfl rfl rfl rfl rfl rfl hN (Row.of_cells (hcb.le (Le.refl (D := D) _)) rfl rfl) ⟨by simp [ti9]; omega, by omega⟩ rfl ?_
   intro vq Mq s6 h6 oq
   obtain ⟨Avq, cvq, rfl, _, _⟩ := Own.slice oq
   simp only [List.nil_append]
   refine JO_q (QE_as rfl) rfl ?_
   refine JO_nil ?_
   refine thenQ_n ?_
   refine JC_seq ?_
   refine JC_region ?_
   refine JO_q (QE_mv rfl) rfl ?_
   refine JO_q (QE_add' rfl rfl (w64 (by omega) (by omega))) rfl ?_
   refine JO_q (QE_as rfl) rfl ?_
   refine JO_nil ?_
   refine thenQ_n ?_
   refine JC_exit ?_
   refine thenQ_x ?_
   refine blockQ_x ?_
   refine thenQ_n ⟨(i + 1, vo, Mo, done, .slice Avq (now.length + 1) cvq, Mq, now ++ [w]), [], (Keeps.cons rfl (Keeps.cons rfl (Keeps.cons rfl (Keeps.cons rfl (Keeps.cons rfl (Keeps.nil _)))))), rfl, ⟨(Le.trans (Le.trans I2.1 h5) h6), by
     first
     | exact ⟨by simp only; omega, ⟨css, hO, hcs.mono fun y cs q => ⟨q.1, q.2.le (Le.trans h5 h6)⟩⟩, by simp only [List.length_append, List.length_cons, List.length_nil, sb_app]; exact oq, by simp only; omega, by simp only [List.length_append, List.length_cons, List.length_nil]; omega, by simp only [sizeW_app, sizeW_cons, sizeW_nil]; omega, by simp only; rw [hR, pg_more hw hor]⟩
     | exact ⟨by simp only; omega, ⟨css ++ [[.slice An now.length cn, .int .i64 _]], by simp only; rw [List.length_append, flat_snocP]; exact oz, All2.snoc (hcs.mono fun y cs q => ⟨q.1, q.2.le (Le.trans h5 h6)⟩) ⟨rfl, An, now.length, cn, rfl, hSn.le (noSuchMark)⟩⟩, FL.Own.nil, by simp only [List.length_append, List.length_cons, List.length_nil]; omega, Nat.zero_le _, by simp only [sizeW_nil]; omega, by simp only; rw [hR, pg_hit hw hlw, hC]; simp⟩⟩, (by simp only; omega)⟩
  ·
   refine JO_gT rfl rfl ?_
   refine JO_q (QE_mv rfl) rfl ?_
   refine JO_gT rfl rfl ?_
   refine JO_q (QE_add' rfl rfl (w64 (by omega) (by omega))) rfl ?_
   refine JO_gT rfl rfl ?_
   refine JO_q (QE_mv rfl) rfl ?_
   refine JO_gT rfl rfl ?_
   refine JO_q (QE_lenS rfl rfl rfl) rfl ?_
   refine JO_gT rfl rfl ?_
   refine JO_q (QE_eq rfl rfl) rfl ?_
   refine JO_q (QE_pickF rfl rfl) rfl ?_
   refine JO_nil ?_
   refine thenQ_n ?_
   refine JC_ifD rfl (fun c7 => ?_) (fun c7 => ?_)
   ·
    have hor : w ≠ checkB ∨ i + 1 = (flds tx).length := by
      first
      | exact .inl (by assumption)
      | exact .inr (by omega)
    refine JC_seq ?_
    refine JC_region ?_
    refine JO_q (QE_mv rfl) rfl ?_
    refine JO_q (QE_mv rfl) rfl ?_
    refine JO_q (QE_mv rfl) rfl ?_
    refine JO_q (QE_ia1 rfl rfl rfl rfl rfl rfl hk) rfl ?_
    refine JO_q (QE_ldsR0 rfl rfl rfl (hcw.le (Le.refl (D := D) _)) rfl) rfl ?_
    refine JO_bs [(_, _)] [_] rfl rfl rfl rfl rfl rfl rfl rfl rfl ?_
    intro βn s8 h8 hcb
    refine JO_app (sz := 1) [] Mn (Mo ++ L) rfl rfl rfl rfl rfl rfl rfl hN (Row.of_cells (hcb.le (Le.refl (D := D) _)) rfl rfl) ⟨by simp [ti9]; omega, by omega⟩ rfl ?_
    intro vq Mq s9 h9 oq
    obtain ⟨Avq, cvq, rfl, _, _⟩ := Own.slice oq
    simp only [List.nil_append]
    refine JO_q (QE_as rfl) rfl ?_
    refine JO_nil ?_
    refine thenQ_n ?_
    refine JC_seq ?_
    refine JC_region ?_
    refine JO_q (QE_mv rfl) rfl ?_
    refine JO_q (QE_add' rfl rfl (w64 (by omega) (by omega))) rfl ?_
    refine JO_q (QE_as rfl) rfl ?_
    refine JO_nil ?_
    refine thenQ_n ?_
    refine JC_exit ?_
    refine thenQ_x ?_
    refine blockQ_x ?_
    refine thenQ_n ⟨(i + 1, vo, Mo, done, .slice Avq (now.length + 1) cvq, Mq, now ++ [w]), [], (Keeps.cons rfl (Keeps.cons rfl (Keeps.cons rfl (Keeps.cons rfl (Keeps.cons rfl (Keeps.nil _)))))), rfl, ⟨(Le.trans (Le.trans I2.1 h8) h9), by
      first
      | exact ⟨by simp only; omega, ⟨css, hO, hcs.mono fun y cs q => ⟨q.1, q.2.le (Le.trans h8 h9)⟩⟩, by simp only [List.length_append, List.length_cons, List.length_nil, sb_app]; exact oq, by simp only; omega, by simp only [List.length_append, List.length_cons, List.length_nil]; omega, by simp only [sizeW_app, sizeW_cons, sizeW_nil]; omega, by simp only; rw [hR, pg_more hw hor]⟩
      | exact ⟨by simp only; omega, ⟨css ++ [[.slice An now.length cn, .int .i64 _]], by simp only; rw [List.length_append, flat_snocP]; exact oz, All2.snoc (hcs.mono fun y cs q => ⟨q.1, q.2.le (Le.trans h8 h9)⟩) ⟨rfl, An, now.length, cn, rfl, hSn.le (noSuchMark)⟩⟩, FL.Own.nil, by simp only [List.length_append, List.length_cons, List.length_nil]; omega, Nat.zero_le _, by simp only [sizeW_nil]; omega, by simp only; rw [hR, pg_hit hw hlw, hC]; simp⟩⟩, (by simp only; omega)⟩
   ·
    have hwc : w = checkB := by first | assumption | (simp_all; done)
    subst hwc
    have hi1 : i + 1 < nw := by omega
    obtain ⟨b1, off1, l, hE1, hlw, hcl, _⟩ := Strs.at_ (hW.le I2.1) hi1
    cases hE1
    have hds1 : sizeW ((flds tx).drop (i + 1)) = l.length + 1 + sizeW ((flds tx).drop (i + 2)) := drop_size hlw
    have hlb := flds_bare tx l (List.mem_of_getElem? hlw)
    have hlpos : 0 < l.length := List.length_pos_iff.2 hlb.1
    obtain ⟨ch, hch, hdot⟩ := pg_last hlb.1
    refine JC_skip ?_
    refine thenQ_n ?_
    refine JC_seq ?_
    refine JC_pubX [] Mn _ ?_
    intro s10 h10 hpub10
    simp only [List.cons_append, List.nil_append]
    have hSn : Strs s10 An now.length cn now := Own.strs hN (fun x hx => by have := mem_size hx; omega) hpub10 rfl
    refine JC_region ?_
    refine JO_q (QE_mv rfl) rfl ?_
    refine JO_q (QE_build [(_, _)] [_, _] rfl rfl rfl rfl rfl rfl) rfl ?_
    refine JO_allocZ rfl [_, _] rfl rfl ?_
    intro β11 s11 h11
    refine JO_st 0 [_, _] rfl rfl rfl rfl rfl rfl rfl rfl rfl ?_
    refine JO_nil ?_
    refine thenQ_n ?_
    refine JC_seq ?_
    refine JC_region ?_
    refine JO_q (QE_mv rfl) rfl ?_
    refine JO_q (QE_mv rfl) rfl ?_
    refine JO_q (QE_add' (c := ((i + 1 : Nat) : Int)) rfl rfl (by rw [w64 (by omega) (by omega)]; omega)) rfl ?_
    refine JO_q (QE_ia1 rfl rfl rfl rfl rfl rfl hi1) rfl ?_
    refine JO_q (QE_ldsR0 rfl rfl rfl (hcl.le (Le.trans h10 h11)) rfl) rfl ?_
    refine JO_q (QE_as rfl) rfl ?_
    refine JO_nil ?_
    refine thenQ_n ?_
    refine JC_seq ?_
    refine JC_region ?_
    refine JO_q (QE_mv rfl) rfl ?_
    refine JO_q (QE_mv rfl) rfl ?_
    refine JO_q (QE_lenT rfl rfl rfl) rfl ?_
    refine JO_q (QE_sub' (c := ((l.length - 1 : Nat) : Int)) rfl rfl (by rw [w64 (by omega) (by omega)]; omega)) rfl ?_
    refine JO_q (QE_stH rfl rfl rfl rfl (by omega)) rfl ?_
    refine JO_call (first := []) (captured := []) rfl rfl rfl (numberOf_ac D _ _ _ (by rw [List.length_take]; omega)) ?_
    rintro _ _ s12 h12 ⟨rfl, rfl⟩
    refine JO_q (QE_mv rfl) rfl ?_
    refine JO_q (QE_ext rfl rfl) rfl ?_
    refine JO_q (QE_ext rfl rfl) rfl ?_
    refine JO_q (QE_as rfl) rfl ?_
    refine JO_q (QE_as rfl) rfl ?_
    refine JO_nil ?_
    refine thenQ_n ?_
    refine JC_seq ?_
    refine JC_region ?_
    refine JO_q (QE_mv rfl) rfl ?_
    refine JO_call (first := []) (captured := []) rfl rfl rfl (rjoined_ac D _ _ An now.length cn now (hSn.le (Le.trans h11 h12)) (by omega)) ?_
    rintro _ _ s13 h13 ⟨rfl, rfl⟩
    refine JO_call (first := []) (captured := []) rfl rfl rfl (rcheck_ac D _ _ (joinW now) (by have := join_len now; omega)) ?_
    rintro _ _ s14 h14 ⟨rfl, rfl⟩
    refine JO_q (QE_as rfl) rfl ?_
    refine JO_nil ?_
    refine thenQ_n ?_
    refine JC_seq ?_
    refine JC_seq ?_
    refine JC_region ?_
    refine JO_q (QE_mv rfl) rfl ?_
    refine JO_q (QE_not rfl) rfl ?_
    refine JO_q (QE_mv rfl) rfl ?_
    refine JO_caseM (t := 60) rfl (fun c15 => ?_) (fun c15 => ?_)
    ·
     refine JO_gF rfl rfl rfl rfl ?_
     refine JO_gF rfl rfl rfl rfl ?_
     refine JO_gF rfl rfl rfl rfl ?_
     refine JO_gF rfl rfl rfl rfl ?_
     refine JO_gF rfl rfl rfl rfl ?_
     refine JO_gF rfl rfl rfl rfl ?_
     refine JO_q (QE_pickT rfl rfl) rfl ?_
     refine JO_q (QE_mv rfl) rfl ?_
     refine JO_gF rfl rfl rfl rfl ?_
     refine JO_gF rfl rfl rfl rfl ?_
     refine JO_q (QE_pickT rfl rfl) rfl ?_
     refine JO_nil ?_
     refine thenQ_n ?_
     refine JC_ifT rfl ?_
     have hC : codeP (now, some l) = 1 := by
       first
       | exact pg_code1 (.inr (.inl (by rw [List.dropLast_eq_take]; assumption)))
       | exact pg_code1 (.inl (by rw [hdot]; exact decide_eq_false (fun e => by subst e; exact absurd rfl (by assumption))))
       | (refine pg_code1 (.inr (.inr ?_))
          cases e : okT (joinW now) with
          | false => rfl
          | true => (exfalso; have h := trivial; have h1 := chk_lt (joinW now); rw [if_pos e] at h; omega))
     refine JC_region ?_
     refine JO_q (QE_faB rfl rfl rfl rfl) rfl ?_
     refine JO_st 0 [_, _] rfl rfl rfl rfl rfl rfl rfl rfl rfl ?_
     refine JO_nil ?_
     refine thenQ_n ?_
     refine JC_seq ?_
     refine JC_region ?_
     refine JO_q (QE_mv rfl) rfl ?_
     refine JO_q (QE_ldA 0 [_, _] rfl rfl rfl rfl rfl) rfl ?_
     refine JO_bs [(_, _)] [_, _] rfl rfl rfl rfl rfl rfl rfl rfl rfl ?_
     intro βn s16 h16 hcb2
     refine JO_app (sz := 2) [_] Mo L rfl rfl rfl rfl rfl rfl rfl hO (Row.of_cells (hcb2.le (Le.refl (D := D) _)) rfl rfl) ⟨by simp [ti53]; omega, by omega⟩ rfl ?_
     intro vz Mz s17 h17 oz
     obtain ⟨Avz, cvz, rfl, _, _⟩ := Own.slice oz
     simp only [List.cons_append, List.nil_append]
     refine JO_q (QE_as rfl) rfl ?_
     refine JO_nil ?_
     refine thenQ_n ?_
     refine JC_seq ?_
     refine JC_region ?_
     refine JO_q (QE_as rfl) rfl ?_
     refine JO_nil ?_
     refine thenQ_n ?_
     refine JC_region ?_
     refine JO_q (QE_mv rfl) rfl ?_
     refine JO_q (QE_add' rfl rfl (w64 (by omega) (by omega))) rfl ?_
     refine JO_q (QE_as rfl) rfl ?_
     refine JO_nil ?_
     refine blockQ_n ?_
     refine thenQ_n ⟨(i + 2, .slice Avz (done.length + 1) cvz, Mz, done ++ [(now, 1)], .slice none 0 0, [], []), [_], (Keeps.cons rfl (Keeps.cons rfl (Keeps.cons rfl (Keeps.cons rfl (Keeps.cons rfl (Keeps.nil _)))))), rfl, ⟨(Le.trans (Le.trans (Le.trans (Le.trans (Le.trans (Le.trans (Le.trans I2.1 h10) h11) h12) h13) h14) h16) h17), by
       first
       | exact ⟨by simp only; omega, ⟨css, hO, hcs.mono fun y cs q => ⟨q.1, q.2.le (Le.trans (Le.trans (Le.trans (Le.trans (Le.trans (Le.trans h10 h11) h12) h13) h14) h16) h17)⟩⟩, by simp only [List.length_append, List.length_cons, List.length_nil, sb_app]; exact oq, by simp only; omega, by simp only [List.length_append, List.length_cons, List.length_nil]; omega, by simp only [sizeW_app, sizeW_cons, sizeW_nil]; omega, by simp only; rw [hR, pg_more hw hor]⟩
       | exact ⟨by simp only; omega, ⟨css ++ [[.slice An now.length cn, .int .i64 _]], by simp only; rw [List.length_append, flat_snocP]; exact oz, All2.snoc (hcs.mono fun y cs q => ⟨q.1, q.2.le (Le.trans (Le.trans (Le.trans (Le.trans (Le.trans (Le.trans h10 h11) h12) h13) h14) h16) h17)⟩) ⟨rfl, An, now.length, cn, rfl, hSn.le (Le.trans (Le.trans (Le.trans (Le.trans (Le.trans h11 h12) h13) h14) h16) h17)⟩⟩, FL.Own.nil, by simp only [List.length_append, List.length_cons, List.length_nil]; omega, Nat.zero_le _, by simp only [sizeW_nil]; omega, by simp only; rw [hR, pg_hit hw hlw, hC]; simp⟩⟩, (by simp only; omega)⟩
    ·
     refine JO_gT rfl rfl ?_
     refine JO_q (QE_mv rfl) rfl ?_
     refine JO_gT rfl rfl ?_
     refine JO_q (QE_mv rfl) rfl ?_
     refine JO_gT rfl rfl ?_
     refine JO_q (QE_lenT rfl rfl rfl) rfl ?_
     refine JO_gT rfl rfl ?_
     refine JO_q (QE_sub' (c := ((l.length - 1 : Nat) : Int)) rfl rfl (by rw [w64 (by omega) (by omega)]; omega)) rfl ?_
     refine JO_gT rfl rfl ?_
     refine JO_q (QE_ix rfl rfl rfl rfl hch) rfl ?_
     refine JO_gT rfl rfl ?_
     refine JO_q (QE_ne rfl rfl) rfl ?_
     refine JO_q (QE_pickF rfl rfl) rfl ?_
     refine JO_q (QE_mv rfl) rfl ?_
     refine JO_caseN (t := 68) rfl (fun c18 => ?_) (fun c18 => ?_)
     ·
      refine JO_gF rfl rfl rfl rfl ?_
      refine JO_gF rfl rfl rfl rfl ?_
      refine JO_q (QE_pickT rfl rfl) rfl ?_
      refine JO_nil ?_
      refine thenQ_n ?_
      refine JC_ifT rfl ?_
      have hC : codeP (now, some l) = 1 := by
        first
        | exact pg_code1 (.inr (.inl (by rw [List.dropLast_eq_take]; assumption)))
        | exact pg_code1 (.inl (by rw [hdot]; exact decide_eq_false (fun e => by subst e; exact absurd rfl (by assumption))))
        | (refine pg_code1 (.inr (.inr ?_))
           cases e : okT (joinW now) with
           | false => rfl
           | true => (exfalso; have h := trivial; have h1 := chk_lt (joinW now); rw [if_pos e] at h; omega))
      refine JC_region ?_
      refine JO_q (QE_faB rfl rfl rfl rfl) rfl ?_
      refine JO_st 0 [_, _] rfl rfl rfl rfl rfl rfl rfl rfl rfl ?_
      refine JO_nil ?_
      refine thenQ_n ?_
      refine JC_seq ?_
      refine JC_region ?_
      refine JO_q (QE_mv rfl) rfl ?_
      refine JO_q (QE_ldA 0 [_, _] rfl rfl rfl rfl rfl) rfl ?_
      refine JO_bs [(_, _)] [_, _] rfl rfl rfl rfl rfl rfl rfl rfl rfl ?_
      intro βn s19 h19 hcb2
      refine JO_app (sz := 2) [_] Mo L rfl rfl rfl rfl rfl rfl rfl hO (Row.of_cells (hcb2.le (Le.refl (D := D) _)) rfl rfl) ⟨by simp [ti53]; omega, by omega⟩ rfl ?_
      intro vz Mz s20 h20 oz
      obtain ⟨Avz, cvz, rfl, _, _⟩ := Own.slice oz
      simp only [List.cons_append, List.nil_append]
      refine JO_q (QE_as rfl) rfl ?_
      refine JO_nil ?_
      refine thenQ_n ?_
      refine JC_seq ?_
      refine JC_region ?_
      refine JO_q (QE_as rfl) rfl ?_
      refine JO_nil ?_
      refine thenQ_n ?_
      refine JC_region ?_
      refine JO_q (QE_mv rfl) rfl ?_
      refine JO_q (QE_add' rfl rfl (w64 (by omega) (by omega))) rfl ?_
      refine JO_q (QE_as rfl) rfl ?_
      refine JO_nil ?_
      refine blockQ_n ?_
      refine thenQ_n ⟨(i + 2, .slice Avz (done.length + 1) cvz, Mz, done ++ [(now, 1)], .slice none 0 0, [], []), [_], (Keeps.cons rfl (Keeps.cons rfl (Keeps.cons rfl (Keeps.cons rfl (Keeps.cons rfl (Keeps.nil _)))))), rfl, ⟨(Le.trans (Le.trans (Le.trans (Le.trans (Le.trans (Le.trans (Le.trans I2.1 h10) h11) h12) h13) h14) h19) h20), by
        first
        | exact ⟨by simp only; omega, ⟨css, hO, hcs.mono fun y cs q => ⟨q.1, q.2.le (Le.trans (Le.trans (Le.trans (Le.trans (Le.trans (Le.trans h10 h11) h12) h13) h14) h19) h20)⟩⟩, by simp only [List.length_append, List.length_cons, List.length_nil, sb_app]; exact oq, by simp only; omega, by simp only [List.length_append, List.length_cons, List.length_nil]; omega, by simp only [sizeW_app, sizeW_cons, sizeW_nil]; omega, by simp only; rw [hR, pg_more hw hor]⟩
        | exact ⟨by simp only; omega, ⟨css ++ [[.slice An now.length cn, .int .i64 _]], by simp only; rw [List.length_append, flat_snocP]; exact oz, All2.snoc (hcs.mono fun y cs q => ⟨q.1, q.2.le (Le.trans (Le.trans (Le.trans (Le.trans (Le.trans (Le.trans h10 h11) h12) h13) h14) h19) h20)⟩) ⟨rfl, An, now.length, cn, rfl, hSn.le (Le.trans (Le.trans (Le.trans (Le.trans (Le.trans h11 h12) h13) h14) h19) h20)⟩⟩, FL.Own.nil, by simp only [List.length_append, List.length_cons, List.length_nil]; omega, Nat.zero_le _, by simp only [sizeW_nil]; omega, by simp only; rw [hR, pg_hit hw hlw, hC]; simp⟩⟩, (by simp only; omega)⟩
     ·
      refine JO_gT rfl rfl ?_
      refine JO_q (QE_mv rfl) rfl ?_
      refine JO_gT rfl rfl ?_
      refine JO_q (QE_lt rfl rfl) rfl ?_
      refine JO_q (QE_pickF rfl rfl) rfl ?_
      refine JO_nil ?_
      refine thenQ_n ?_
      refine JC_ifD rfl (fun c21 => ?_) (fun c21 => ?_)
      ·
       have hC : codeP (now, some l) = 1 := by
         first
         | exact pg_code1 (.inr (.inl (by rw [List.dropLast_eq_take]; assumption)))
         | exact pg_code1 (.inl (by rw [hdot]; exact decide_eq_false (fun e => by subst e; exact absurd rfl (by assumption))))
         | (refine pg_code1 (.inr (.inr ?_))
            cases e : okT (joinW now) with
            | false => rfl
            | true => (exfalso; have h := c21; have h1 := chk_lt (joinW now); rw [if_pos e] at h; omega))
       refine JC_region ?_
       refine JO_q (QE_faB rfl rfl rfl rfl) rfl ?_
       refine JO_st 0 [_, _] rfl rfl rfl rfl rfl rfl rfl rfl rfl ?_
       refine JO_nil ?_
       refine thenQ_n ?_
       refine JC_seq ?_
       refine JC_region ?_
       refine JO_q (QE_mv rfl) rfl ?_
       refine JO_q (QE_ldA 0 [_, _] rfl rfl rfl rfl rfl) rfl ?_
       refine JO_bs [(_, _)] [_, _] rfl rfl rfl rfl rfl rfl rfl rfl rfl ?_
       intro βn s22 h22 hcb2
       refine JO_app (sz := 2) [_] Mo L rfl rfl rfl rfl rfl rfl rfl hO (Row.of_cells (hcb2.le (Le.refl (D := D) _)) rfl rfl) ⟨by simp [ti53]; omega, by omega⟩ rfl ?_
       intro vz Mz s23 h23 oz
       obtain ⟨Avz, cvz, rfl, _, _⟩ := Own.slice oz
       simp only [List.cons_append, List.nil_append]
       refine JO_q (QE_as rfl) rfl ?_
       refine JO_nil ?_
       refine thenQ_n ?_
       refine JC_seq ?_
       refine JC_region ?_
       refine JO_q (QE_as rfl) rfl ?_
       refine JO_nil ?_
       refine thenQ_n ?_
       refine JC_region ?_
       refine JO_q (QE_mv rfl) rfl ?_
       refine JO_q (QE_add' rfl rfl (w64 (by omega) (by omega))) rfl ?_
       refine JO_q (QE_as rfl) rfl ?_
       refine JO_nil ?_
       refine blockQ_n ?_
       refine thenQ_n ⟨(i + 2, .slice Avz (done.length + 1) cvz, Mz, done ++ [(now, 1)], .slice none 0 0, [], []), [_], (Keeps.cons rfl (Keeps.cons rfl (Keeps.cons rfl (Keeps.cons rfl (Keeps.cons rfl (Keeps.nil _)))))), rfl, ⟨(Le.trans (Le.trans (Le.trans (Le.trans (Le.trans (Le.trans (Le.trans I2.1 h10) h11) h12) h13) h14) h22) h23), by
         first
         | exact ⟨by simp only; omega, ⟨css, hO, hcs.mono fun y cs q => ⟨q.1, q.2.le (Le.trans (Le.trans (Le.trans (Le.trans (Le.trans (Le.trans h10 h11) h12) h13) h14) h22) h23)⟩⟩, by simp only [List.length_append, List.length_cons, List.length_nil, sb_app]; exact oq, by simp only; omega, by simp only [List.length_append, List.length_cons, List.length_nil]; omega, by simp only [sizeW_app, sizeW_cons, sizeW_nil]; omega, by simp only; rw [hR, pg_more hw hor]⟩
         | exact ⟨by simp only; omega, ⟨css ++ [[.slice An now.length cn, .int .i64 _]], by simp only; rw [List.length_append, flat_snocP]; exact oz, All2.snoc (hcs.mono fun y cs q => ⟨q.1, q.2.le (Le.trans (Le.trans (Le.trans (Le.trans (Le.trans (Le.trans h10 h11) h12) h13) h14) h22) h23)⟩) ⟨rfl, An, now.length, cn, rfl, hSn.le (Le.trans (Le.trans (Le.trans (Le.trans (Le.trans h11 h12) h13) h14) h22) h23)⟩⟩, FL.Own.nil, by simp only [List.length_append, List.length_cons, List.length_nil]; omega, Nat.zero_le _, by simp only [sizeW_nil]; omega, by simp only; rw [hR, pg_hit hw hlw, hC]; simp⟩⟩, (by simp only; omega)⟩
      ·
       have hokT : okT (joinW now) = true := by
         cases e : okT (joinW now) with
         | true => rfl
         | false => (exfalso; have h := c21; rw [if_neg (by rw [e]; decide)] at h; omega)
       have hd : dotB l = true := by rw [hdot]; exact decide_eq_true (UInt8.toNat_inj.1 (by have : (46 : UInt8).toNat = 46 := rfl; omega))
       have hs : (numL l.dropLast).isSome = true := by rw [List.dropLast_eq_take]; assumption
       have hC0 := pg_code2 hd hs hokT
       refine JC_seq ?_
       refine JC_region ?_
       refine JO_q (QE_mv rfl) rfl ?_
       refine JO_q (QE_conv' rfl rfl rfl rfl rfl (show IntKind.u32.wrap (if okT (joinW now) = true then chkS (joinW now) else -1) = chkS (joinW now) by rw [if_pos hokT, IntKind.wrap_u32]; have := chk_lt (joinW now); omega)) rfl ?_
       refine JO_q (QE_mv rfl) rfl ?_
       refine JO_q (QE_ne rfl rfl) rfl ?_
       refine JO_nil ?_
       refine thenQ_n ?_
       refine JC_ifN rfl (fun c24 => ?_) (fun c24 => ?_)
       ·
        have hC : codeP (now, some l) = 16 := by rw [hC0, if_pos (by rw [List.dropLast_eq_take]; exact c24)]
        refine JC_region ?_
        refine JO_q (QE_faB rfl rfl rfl rfl) rfl ?_
        refine JO_st 0 [_, _] rfl rfl rfl rfl rfl rfl rfl rfl rfl ?_
        refine JO_nil ?_
        refine thenQ_n ?_
        refine JC_seq ?_
        refine JC_region ?_
        refine JO_q (QE_mv rfl) rfl ?_
        refine JO_q (QE_ldA 0 [_, _] rfl rfl rfl rfl rfl) rfl ?_
        refine JO_bs [(_, _)] [_, _] rfl rfl rfl rfl rfl rfl rfl rfl rfl ?_
        intro βn s25 h25 hcb2
        refine JO_app (sz := 2) [_] Mo L rfl rfl rfl rfl rfl rfl rfl hO (Row.of_cells (hcb2.le (Le.refl (D := D) _)) rfl rfl) ⟨by simp [ti53]; omega, by omega⟩ rfl ?_
        intro vz Mz s26 h26 oz
        obtain ⟨Avz, cvz, rfl, _, _⟩ := Own.slice oz
        simp only [List.cons_append, List.nil_append]
        refine JO_q (QE_as rfl) rfl ?_
        refine JO_nil ?_
        refine thenQ_n ?_
        refine JC_seq ?_
        refine JC_region ?_
        refine JO_q (QE_as rfl) rfl ?_
        refine JO_nil ?_
        refine thenQ_n ?_
        refine JC_region ?_
        refine JO_q (QE_mv rfl) rfl ?_
        refine JO_q (QE_add' rfl rfl (w64 (by omega) (by omega))) rfl ?_
        refine JO_q (QE_as rfl) rfl ?_
        refine JO_nil ?_
        refine blockQ_n ?_
        refine thenQ_n ⟨(i + 2, .slice Avz (done.length + 1) cvz, Mz, done ++ [(now, 16)], .slice none 0 0, [], []), [_], (Keeps.cons rfl (Keeps.cons rfl (Keeps.cons rfl (Keeps.cons rfl (Keeps.cons rfl (Keeps.nil _)))))), rfl, ⟨(Le.trans (Le.trans (Le.trans (Le.trans (Le.trans (Le.trans (Le.trans I2.1 h10) h11) h12) h13) h14) h25) h26), by
          first
          | exact ⟨by simp only; omega, ⟨css, hO, hcs.mono fun y cs q => ⟨q.1, q.2.le (Le.trans (Le.trans (Le.trans (Le.trans (Le.trans (Le.trans h10 h11) h12) h13) h14) h25) h26)⟩⟩, by simp only [List.length_append, List.length_cons, List.length_nil, sb_app]; exact oq, by simp only; omega, by simp only [List.length_append, List.length_cons, List.length_nil]; omega, by simp only [sizeW_app, sizeW_cons, sizeW_nil]; omega, by simp only; rw [hR, pg_more hw hor]⟩
          | exact ⟨by simp only; omega, ⟨css ++ [[.slice An now.length cn, .int .i64 _]], by simp only; rw [List.length_append, flat_snocP]; exact oz, All2.snoc (hcs.mono fun y cs q => ⟨q.1, q.2.le (Le.trans (Le.trans (Le.trans (Le.trans (Le.trans (Le.trans h10 h11) h12) h13) h14) h25) h26)⟩) ⟨rfl, An, now.length, cn, rfl, hSn.le (Le.trans (Le.trans (Le.trans (Le.trans (Le.trans h11 h12) h13) h14) h25) h26)⟩⟩, FL.Own.nil, by simp only [List.length_append, List.length_cons, List.length_nil]; omega, Nat.zero_le _, by simp only [sizeW_nil]; omega, by simp only; rw [hR, pg_hit hw hlw, hC]; simp⟩⟩, (by simp only; omega)⟩
       ·
        have hC : codeP (now, some l) = 0 := by rw [hC0, if_neg (fun h => h (by rw [List.dropLast_eq_take]; exact c24))]
        refine JC_skip ?_
        refine thenQ_n ?_
        refine JC_seq ?_
        refine JC_region ?_
        refine JO_q (QE_mv rfl) rfl ?_
        refine JO_q (QE_ldA 0 [_, _] rfl rfl rfl rfl rfl) rfl ?_
        refine JO_bs [(_, _)] [_, _] rfl rfl rfl rfl rfl rfl rfl rfl rfl ?_
        intro βn s27 h27 hcb2
        refine JO_app (sz := 2) [_] Mo L rfl rfl rfl rfl rfl rfl rfl hO (Row.of_cells (hcb2.le (Le.refl (D := D) _)) rfl rfl) ⟨by simp [ti53]; omega, by omega⟩ rfl ?_
        intro vz Mz s28 h28 oz
        obtain ⟨Avz, cvz, rfl, _, _⟩ := Own.slice oz
        simp only [List.cons_append, List.nil_append]
        refine JO_q (QE_as rfl) rfl ?_
        refine JO_nil ?_
        refine thenQ_n ?_
        refine JC_seq ?_
        refine JC_region ?_
        refine JO_q (QE_as rfl) rfl ?_
        refine JO_nil ?_
        refine thenQ_n ?_
        refine JC_region ?_
        refine JO_q (QE_mv rfl) rfl ?_
        refine JO_q (QE_add' rfl rfl (w64 (by omega) (by omega))) rfl ?_
        refine JO_q (QE_as rfl) rfl ?_
        refine JO_nil ?_
        refine blockQ_n ?_
        refine thenQ_n ⟨(i + 2, .slice Avz (done.length + 1) cvz, Mz, done ++ [(now, 0)], .slice none 0 0, [], []), [_], (Keeps.cons rfl (Keeps.cons rfl (Keeps.cons rfl (Keeps.cons rfl (Keeps.cons rfl (Keeps.nil _)))))), rfl, ⟨(Le.trans (Le.trans (Le.trans (Le.trans (Le.trans (Le.trans (Le.trans I2.1 h10) h11) h12) h13) h14) h27) h28), by
          first
          | exact ⟨by simp only; omega, ⟨css, hO, hcs.mono fun y cs q => ⟨q.1, q.2.le (Le.trans (Le.trans (Le.trans (Le.trans (Le.trans (Le.trans h10 h11) h12) h13) h14) h27) h28)⟩⟩, by simp only [List.length_append, List.length_cons, List.length_nil, sb_app]; exact oq, by simp only; omega, by simp only [List.length_append, List.length_cons, List.length_nil]; omega, by simp only [sizeW_app, sizeW_cons, sizeW_nil]; omega, by simp only; rw [hR, pg_more hw hor]⟩
          | exact ⟨by simp only; omega, ⟨css ++ [[.slice An now.length cn, .int .i64 _]], by simp only; rw [List.length_append, flat_snocP]; exact oz, All2.snoc (hcs.mono fun y cs q => ⟨q.1, q.2.le (Le.trans (Le.trans (Le.trans (Le.trans (Le.trans (Le.trans h10 h11) h12) h13) h14) h27) h28)⟩) ⟨rfl, An, now.length, cn, rfl, hSn.le (Le.trans (Le.trans (Le.trans (Le.trans (Le.trans h11 h12) h13) h14) h27) h28)⟩⟩, FL.Own.nil, by simp only [List.length_append, List.length_cons, List.length_nil]; omega, Nat.zero_le _, by simp only [sizeW_nil]; omega, by simp only; rw [hR, pg_hit hw hlw, hC]; simp⟩⟩, (by simp only; omega)⟩
 ·
  have hiE : i = nw := by omega
  subst hiE
  rw [hn, pg_end] at hR
  obtain ⟨Ao, co, hvo, _, _⟩ := Own.slice hO
  subst hvo
  refine JC_exit ?_
  refine thenQ_x ?_
  refine thenQ_x ?_
  refine blockQ_x ?_
  refine thenQ_n ?_
  refine JC_seq ?_
  refine JC_seq ?_
  refine JC_region ?_
  refine JO_q (QE_mv rfl) rfl ?_
  refine JO_q (QE_lenS rfl rfl rfl) rfl ?_
  refine JO_q (QE_gt rfl rfl) rfl ?_
  refine JO_nil ?_
  refine thenQ_n ?_
  refine JC_ifD rfl (fun c29 => ?_) (fun c29 => ?_)
  ·
   have hne : now ≠ [] := fun e => by have h := congrArg List.length e; simp only [List.length_nil] at h; omega
   rw [if_neg hne] at hR
   refine JC_pubX [] Mn _ ?_
   intro s30 h30 hpub30
   simp only [List.cons_append, List.nil_append]
   have hSn : Strs s30 An now.length cn now := Own.strs hN (fun x hx => by have := mem_size hx; omega) hpub30 rfl
   refine JC_region ?_
   refine JO_q (QE_mv rfl) rfl ?_
   refine JO_q (QE_mv rfl) rfl ?_
   refine JO_q (QE_build [(_, _), (_, _)] [_, _] rfl rfl rfl rfl rfl rfl) rfl ?_
   refine JO_bs [(_, _)] [_, _] rfl rfl rfl rfl rfl rfl rfl rfl rfl ?_
   intro βn s31 h31 hcb2
   refine JO_app (sz := 2) [] Mo L rfl rfl rfl rfl rfl rfl rfl hO (Row.of_cells (hcb2.le (Le.refl (D := D) _)) rfl rfl) ⟨by simp [ti53]; omega, by omega⟩ rfl ?_
   intro vz Mz s32 h32 oz
   obtain ⟨Avz, cvz, rfl, _, _⟩ := Own.slice oz
   simp only [List.nil_append]
   refine JO_q (QE_as rfl) rfl ?_
   refine JO_nil ?_
   refine thenQ_n ?_
   refine JC_seq ?_
   refine JC_region ?_
   refine JO_q (QE_mv rfl) rfl ?_
   refine JO_q (QE_as rfl) rfl ?_
   refine JO_nil ?_
   refine thenQ_n ?_
   refine JC_ret ?_
   refine retQ_mk [] _ (.inr rfl) (.tmp rfl (.nil)) rfl (Le.trans (Le.trans (Le.trans (Le.trans h1 I2.1) h30) h31) h32) (fun sR hS2 => ?_)
   refine ⟨Mz, rfl, fun s2 hs2 hp => ⟨Avz, done.length + 1, cvz, rfl, ?_⟩⟩
   rw [hR]
   exact Own.rows (css := css ++ [[.slice An now.length cn, .int .i64 1]]) (by rw [flat_snocP]; exact oz) hp (All2.snoc (hcs.mono fun y cs q => ⟨q.1, q.2.le (Le.trans (Le.trans (Le.trans h30 h31) h32) (Le.trans hS2 hs2))⟩) ⟨rfl, An, now.length, cn, rfl, hSn.le (Le.trans (Le.trans h31 h32) (Le.trans hS2 hs2))⟩) (by simp)
  ·
   have hne : now = [] := List.eq_nil_of_length_eq_zero (by omega)
   rw [if_pos hne, List.append_nil] at hR
   refine JC_skip ?_
   refine thenQ_n ?_
   refine JC_seq ?_
   refine JC_region ?_
   refine JO_q (QE_mv rfl) rfl ?_
   refine JO_q (QE_as rfl) rfl ?_
   refine JO_nil ?_
   refine thenQ_n ?_
   refine JC_ret ?_
   refine retQ_mk [] _ (.inr rfl) (.tmp rfl (.nil)) rfl (Le.trans h1 I2.1) (fun sR hS2 => ?_)
   refine ⟨Mn ++ Mo, by simp, fun s2 hs2 hp => ⟨Ao, done.length, co, rfl, ?_⟩⟩
   rw [hR]
   exact Own.rows hO (Pub.right hp) (hcs.mono fun y cs q => ⟨q.1, q.2.le (Le.trans (Le.refl (D := D) _) (Le.trans hS2 hs2))⟩) rfl
theorem parasR_ac (D : Nat) (L : Hl) (s : World) (tx : List UInt8) (hl : tx.length ≤ 1000000) : AC Tryz.prog D 24 [St tx] L s fun v L' s' => L = L' ∧ ∃ A n c, v = .slice A n c ∧ Pgs s' A n c (paraR (flds tx)) := AC.pubW (parasRO_ac D L s tx hl)
end Go.Proofs.YtoeeblegplghmaaGreatDoor
namespace Go.Proofs.YtoeeblegplghmaaGreatDoor
open Go Go.FL
def bareR (w : Str) : Str := if w.getLast? = some 46 ∨ w.getLast? = some 44 then w.dropLast else w
def termW (w : Str) : Option Tm := trmO (bareR w)
def termsR (ws : List Str) : List Tm := ⟨0, 0⟩ :: ws.filterMap termW
def Cand (ws : List Str) (k tgt x y : Nat) : Prop := (0 < tgt → usesT k = true) ∧ usesX k = decide (0 < x) ∧ usesY k = decide (0 < y) ∧ ∃ a b, (termsR ws)[x]? = some a ∧ (termsR ws)[y]? = some b ∧ joinW (wordsA ⟨k, tgt, a, b⟩) = joinW ws
theorem trmO_good {w : Str} {t : Tm} (h : trmO w = some t) : TmG t := (termS_trmO h).2
theorem terms_good {ws : List Str} {t : Tm} (h : t ∈ termsR ws) : TmG t := by
  rcases List.mem_cons.1 h with rfl | h
  · exact .inl ⟨rfl, by decide, by decide⟩
  · obtain ⟨w, _, hw⟩ := List.mem_filterMap.1 h
    exact trmO_good hw
theorem bare_part {p sg : Str} (h : partT p) (hs : sgOK sg = true) : bareR (p ++ sg) = p := by
  simp only [sgOK, Bool.or_eq_true, decide_eq_true_eq] at hs
  rcases hs with (rfl | rfl) | rfl
  · rw [List.append_nil]
    unfold bareR
    rw [if_neg]
    rintro (e | e)
    · obtain ⟨q, rfl⟩ := List.getLast?_eq_some_iff.1 e
      exact (h.2.2 46 (by simp)).2.2.1 rfl
    · obtain ⟨q, rfl⟩ := List.getLast?_eq_some_iff.1 e
      exact (h.2.2 44 (by simp)).2.2.2.1 rfl
  · unfold bareR
    rw [if_pos (.inl (by simp))]; simp
  · unfold bareR
    rw [if_pos (.inr (by simp))]; simp
theorem terms_has {ws : List Str} {p sg : Str} {t : Tm} (ht : TmG t) (hp : p = termS t) (hs : sgOK sg = true) (hm : p ++ sg ∈ ws) : ∃ i, 0 < i ∧ i < (termsR ws).length ∧ (termsR ws)[i]? = some t := by
  subst hp
  have hw : termW (termS t ++ sg) = some t := by unfold termW; rw [bare_part (term_part ht) hs, trmO_termS ht]
  have : t ∈ ws.filterMap termW := List.mem_filterMap.2 ⟨_, hm, hw⟩
  obtain ⟨i, hi⟩ := List.getElem?_of_mem this
  refine ⟨i + 1, by omega, ?_, by rw [termsR, List.getElem?_cons_succ]; exact hi⟩
  have := (List.getElem?_eq_some_iff.1 hi).1
  rw [termsR, List.length_cons]; omega
theorem words_len {a : Ac} (h : AcC a) : (wordsA a).length ≤ 14 := by
  have h0 : ∀ k, k < 20 → (sentK k).length ≤ 14 := by decide +kernel
  rw [wordsA, List.length_map]
  exact h0 _ (by have := h.1; omega)
theorem rd_long {ws : List Str} (h : 14 < ws.length) : rdAny ws = none := by
  cases e : rdAny ws with
  | none => rfl
  | some a =>
    obtain ⟨h1, h2⟩ := rdAny_some e
    have := words_len h1
    rw [h2] at this; omega
theorem cand_rd {ws : List Str} (hb : ∀ w ∈ ws, bare1 w) {k tgt x y : Nat} (hk : k < 20) (hto : tgt < 5) {a b : Tm} (h1 : 0 < tgt → usesT k = true) (h2 : usesX k = decide (0 < x)) (h3 : usesY k = decide (0 < y)) (ha : (termsR ws)[x]? = some a) (hc : (termsR ws)[y]? = some b) (hj : joinW (wordsA ⟨k, tgt, a, b⟩) = joinW ws) : rdAny ws = some ⟨k, tgt, a, b⟩ := by
  have hC : AcC ⟨k, tgt, a, b⟩ := by
    refine ⟨⟨by simp only; omega, by simp only; omega⟩, ⟨⟨by simp only; omega, by simp only; omega⟩, terms_good (List.mem_of_getElem? ha), terms_good (List.mem_of_getElem? hc)⟩, fun e => ?_, fun e => ?_, fun e => ?_⟩
    · simp only at e ⊢
      rcases Nat.eq_zero_or_pos tgt with h | h
      · omega
      · rw [h1 h] at e; cases e
    · simp only at e ⊢
      rw [h2, decide_eq_false_iff_not] at e
      obtain rfl : x = 0 := by omega
      simpa [termsR] using ha.symm
    · simp only at e ⊢
      rw [h3, decide_eq_false_iff_not] at e
      obtain rfl : y = 0 := by omega
      simpa [termsR] using hc.symm
  exact (rdAny_iff hC).2 (join_inj (fun w hw => (words_ok hC w hw).1) hb hj)
theorem rd_cand {ws : List Str} {a : Ac} (h : rdAny ws = some a) : ∃ k tgt x y, k < 20 ∧ tgt < 5 ∧ x < (termsR ws).length ∧ y < (termsR ws).length ∧ Cand ws k tgt x y := by
  obtain ⟨hC, hw⟩ := rdAny_some h
  obtain ⟨ak, at_, ax, ay⟩ := a
  obtain ⟨⟨k1, k2⟩, ⟨⟨t1, t2⟩, hx, hy⟩, u1, u2, u3⟩ := hC
  simp only at k1 k2 t1 t2 hx hy u1 u2 u3
  obtain ⟨k, rfl⟩ := Int.eq_ofNat_of_zero_le k1
  obtain ⟨tgt, rfl⟩ := Int.eq_ofNat_of_zero_le t1
  have hk : k < 20 := by omega
  have hu := sent_uses k hk
  have hok := (sent_ok k hk).1
  have hwa : wordsA ⟨(k : Int), (tgt : Int), ax, ay⟩ = (sentK k).map (genI ⟨(k : Int), (tgt : Int), ax, ay⟩) := rfl
  have hX : ∃ x, usesX k = decide (0 < x) ∧ x < (termsR ws).length ∧ (termsR ws)[x]? = some ax := by
    cases e : usesX k with
    | false => exact ⟨0, by simp, by simp [termsR], by rw [u2 e]; rfl⟩
    | true =>
      rw [← hu.2.1, List.any_eq_true] at e
      obtain ⟨it, hi, hit⟩ := e
      cases it with
      | xx sg =>
        have hs : sgOK sg = true := List.all_eq_true.1 hok _ hi
        obtain ⟨i, i1, i2, i3⟩ := terms_has (ws := ws) hx rfl hs (by rw [← hw, hwa]; exact List.mem_map.2 ⟨_, hi, rfl⟩)
        exact ⟨i, by simp [i1], i2, i3⟩
      | _ => cases hit
  have hY : ∃ y, usesY k = decide (0 < y) ∧ y < (termsR ws).length ∧ (termsR ws)[y]? = some ay := by
    cases e : usesY k with
    | false => exact ⟨0, by simp, by simp [termsR], by rw [u3 e]; rfl⟩
    | true =>
      rw [← hu.2.2, List.any_eq_true] at e
      obtain ⟨it, hi, hit⟩ := e
      cases it with
      | yy sg =>
        have hs : sgOK sg = true := List.all_eq_true.1 hok _ hi
        obtain ⟨i, i1, i2, i3⟩ := terms_has (ws := ws) hy rfl hs (by rw [← hw, hwa]; exact List.mem_map.2 ⟨_, hi, rfl⟩)
        exact ⟨i, by simp [i1], i2, i3⟩
      | _ => cases hit
  obtain ⟨x, x1, x2, x3⟩ := hX
  obtain ⟨y, y1, y2, y3⟩ := hY
  refine ⟨k, tgt, x, y, hk, by omega, x2, y2, fun h0 => ?_, x1, y1, ax, ay, x3, y3, by rw [hw]⟩
  cases e : usesT k with
  | true => rfl
  | false => have := u1 e; omega
theorem rd_none {ws : List Str} (h : ∀ k tgt x y, k < 20 → tgt < 5 → x < (termsR ws).length → y < (termsR ws).length → ¬ Cand ws k tgt x y) : rdAny ws = none := by
  cases e : rdAny ws with
  | none => rfl
  | some a => obtain ⟨k, tgt, x, y, h1, h2, h3, h4, h5⟩ := rd_cand e; exact absurd h5 (h k tgt x y h1 h2 h3 h4)
end Go.Proofs.YtoeeblegplghmaaGreatDoor
namespace Go.Proofs.YtoeeblegplghmaaGreatDoor
open Go.FL
attribute [local irreducible] JC JO JA JB thenQ blockQ retQ AC fill CellsAt QE Ev Mid
theorem bare_yes {w : List UInt8} {ch : UInt8} (hch : w[w.length - 1]? = some ch) (h : (ch.toNat : Int) = 46 ∨ (ch.toNat : Int) = 44) : bareR w = w.take (w.length - 1) := by
  have h46 : (46 : UInt8).toNat = 46 := rfl
  have h44 : (44 : UInt8).toNat = 44 := rfl
  rw [bareR, if_pos, List.dropLast_eq_take]
  rw [List.getLast?_eq_getElem?, hch]
  rcases h with h | h
  · exact .inl (congrArg some (UInt8.toNat_inj.1 (by omega)))
  · exact .inr (congrArg some (UInt8.toNat_inj.1 (by omega)))
theorem bare_no {w : List UInt8} {ch : UInt8} (hch : w[w.length - 1]? = some ch) (h1 : ¬ (ch.toNat : Int) = 46) (h2 : ¬ (ch.toNat : Int) = 44) : bareR w = w := by
  rw [bareR, if_neg]
  rw [List.getLast?_eq_getElem?, hch]
  rintro (h | h)
  · injection h with h; subst h; exact h1 rfl
  · injection h with h; subst h; exact h2 rfl
theorem reg_find0 : ∀ n, n < 256 → findB abcB (((UInt8.ofNat n).toNat : Nat) : Int) = regN [UInt8.ofNat n] ∧ (abcB.any fun x => decide ((x.toNat : Int) = (((UInt8.ofNat n).toNat : Nat) : Int))) = decide (0 ≤ regN [UInt8.ofNat n]) := by decide +kernel
theorem reg_find (c : UInt8) : findB abcB (c.toNat : Int) = regN [c] ∧ (abcB.any fun x => decide ((x.toNat : Int) = (c.toNat : Int))) = decide (0 ≤ regN [c]) := by
  have := reg_find0 c.toNat c.toNat_lt
  rwa [UInt8.ofNat_toNat] at this
theorem bareR_len (w : List UInt8) : (bareR w).length ≤ w.length := by rw [bareR]; split <;> simp
abbrev tmZ : Tm := ⟨0, 0⟩
theorem tw_N {w : List UInt8} (h : bareR w = [78]) : termW w = some ⟨2, 0⟩ := by rw [termW, h, trm_N]
theorem tw_reg {w : List UInt8} (h1 : ¬ bareR w = [78]) (h2 : 0 ≤ regN (bareR w)) : termW w = some ⟨1, regN (bareR w)⟩ := trm_reg h1 h2
theorem tw_num {w : List UInt8} (h1 : ¬ bareR w = [78]) (h2 : ¬ 0 ≤ regN (bareR w)) : termW w = (numL (bareR w)).map fun (n : Nat) => ⟨0, (n : Int)⟩ := trm_num h1 h2
set_option maxHeartbeats 1000000 in
set_option maxRecDepth 100000 in
theorem rbare_ac (D : Nat) (L : Hl) (s : World) (w : List UInt8) (hl : w.length ≤ 4000000) : AC Tryz.prog D 108 [St w] L s fun v L' _ => v = St (bareR w) ∧ L = L' := by
 refine AC_enter (TT := TT) (fn := Tryz.f108) TT_ok Tryz.func108 (by kernel_rfl) rfl Tryz.ntmps108 rfl (rs := [.tmp 2]) rfl [(0, _)] rfl ?_
 refine JC_seq ?_
 refine JC_region ?_
 refine JO_q (QE_as rfl) rfl ?_
 refine JO_nil ?_
 refine thenQ_n ?_
 refine JC_seq ?_
 refine JC_region ?_
 refine JO_q (QE_mv rfl) rfl ?_
 refine JO_q (QE_lenT rfl rfl rfl) rfl ?_
 refine JO_q (QE_as rfl) rfl ?_
 refine JO_nil ?_
 refine thenQ_n ?_
 refine JC_seq ?_
 refine JC_seq ?_
 refine JC_region ?_
 refine JO_q (QE_mv rfl) rfl ?_
 refine JO_q (QE_gt rfl rfl) rfl ?_
 refine JO_q (QE_mv rfl) rfl ?_
 refine JO_caseD (t := 8) rfl (fun c1 => ?_) (fun c1 => ?_)
 ·
  refine JO_gT rfl rfl ?_
  refine JO_q (QE_mv rfl) rfl ?_
  refine JO_gT rfl rfl ?_
  refine JO_q (QE_mv rfl) rfl ?_
  refine JO_gT rfl rfl ?_
  refine JO_q (QE_sub' (c := ((w.length - 1 : Nat) : Int)) rfl rfl (by rw [w64 (by omega) (by omega)]; omega)) rfl ?_
  refine JO_gT rfl rfl ?_
  obtain ⟨ch, hch⟩ : ∃ ch, w[w.length - 1]? = some ch := ⟨_, List.getElem?_eq_getElem (by omega)⟩
  refine JO_q (QE_ix rfl rfl rfl rfl hch) rfl ?_
  refine JO_gT rfl rfl ?_
  refine JO_q (QE_eq rfl rfl) rfl ?_
  refine JO_gT rfl rfl ?_
  refine JO_q (QE_mv rfl) rfl ?_
  refine JO_caseD (t := 14) rfl (fun c2 => ?_) (fun c2 => ?_)
  ·
   refine JO_gF rfl rfl rfl rfl ?_
   refine JO_gF rfl rfl rfl rfl ?_
   refine JO_gF rfl rfl rfl rfl ?_
   refine JO_gF rfl rfl rfl rfl ?_
   refine JO_gF rfl rfl rfl rfl ?_
   refine JO_gT rfl rfl ?_
   refine JO_q (QE_pickT rfl rfl) rfl ?_
   refine JO_q (QE_pickT rfl rfl) rfl ?_
   refine JO_nil ?_
   refine thenQ_n ?_
   refine JC_ifT rfl ?_
   have hb := bare_yes hch (by first | exact .inl (by assumption) | exact .inr (by assumption))
   refine JC_seq ?_
   refine JC_region ?_
   refine JO_q (QE_mv rfl) rfl ?_
   refine JO_q (QE_mv rfl) rfl ?_
   refine JO_q (QE_sub' (c := ((w.length - 1 : Nat) : Int)) rfl rfl (by rw [w64 (by omega) (by omega)]; omega)) rfl ?_
   refine JO_q (QE_stH rfl rfl rfl rfl (by omega)) rfl ?_
   refine JO_q (QE_as rfl) rfl ?_
   refine JO_nil ?_
   refine thenQ_n ?_
   refine JC_ret ?_
   refine thenQ_r ?_
   refine retQ_mk [] L (.inr rfl) (.tmp rfl (.nil)) rfl (Le.refl (D := D) _) (fun sR hS2 => ?_)
   exact ⟨by rw [hb]; rfl, rfl⟩
  ·
   refine JO_gT rfl rfl ?_
   refine JO_q (QE_mv rfl) rfl ?_
   refine JO_gT rfl rfl ?_
   refine JO_q (QE_mv rfl) rfl ?_
   refine JO_gT rfl rfl ?_
   refine JO_q (QE_sub' (c := ((w.length - 1 : Nat) : Int)) rfl rfl (by rw [w64 (by omega) (by omega)]; omega)) rfl ?_
   refine JO_gT rfl rfl ?_
   refine JO_q (QE_ix rfl rfl rfl rfl hch) rfl ?_
   refine JO_gT rfl rfl ?_
   refine JO_q (QE_eq rfl rfl) rfl ?_
   refine JO_gT rfl rfl ?_
   refine JO_q (QE_pickF rfl rfl) rfl ?_
   refine JO_q (QE_pickT rfl rfl) rfl ?_
   refine JO_nil ?_
   refine thenQ_n ?_
   refine JC_ifD rfl (fun c3 => ?_) (fun c3 => ?_)
   ·
    have hb := bare_yes hch (by first | exact .inl (by assumption) | exact .inr (by assumption))
    refine JC_seq ?_
    refine JC_region ?_
    refine JO_q (QE_mv rfl) rfl ?_
    refine JO_q (QE_mv rfl) rfl ?_
    refine JO_q (QE_sub' (c := ((w.length - 1 : Nat) : Int)) rfl rfl (by rw [w64 (by omega) (by omega)]; omega)) rfl ?_
    refine JO_q (QE_stH rfl rfl rfl rfl (by omega)) rfl ?_
    refine JO_q (QE_as rfl) rfl ?_
    refine JO_nil ?_
    refine thenQ_n ?_
    refine JC_ret ?_
    refine thenQ_r ?_
    refine retQ_mk [] L (.inr rfl) (.tmp rfl (.nil)) rfl (Le.refl (D := D) _) (fun sR hS2 => ?_)
    exact ⟨by rw [hb]; rfl, rfl⟩
   ·
    have hb : bareR w = w := by
      first
      | exact bare_no hch (by assumption) (by assumption)
      | (obtain rfl : w = [] := List.eq_nil_of_length_eq_zero (by omega); rfl)
    refine JC_skip ?_
    refine thenQ_n ?_
    refine JC_seq ?_
    refine JC_region ?_
    refine JO_q (QE_mv rfl) rfl ?_
    refine JO_q (QE_as rfl) rfl ?_
    refine JO_nil ?_
    refine thenQ_n ?_
    refine JC_ret ?_
    refine retQ_mk [] L (.inr rfl) (.tmp rfl (.nil)) rfl (Le.refl (D := D) _) (fun sR hS2 => ?_)
    exact ⟨by rw [hb]; rfl, rfl⟩
 ·
  refine JO_gF rfl rfl rfl rfl ?_
  refine JO_gF rfl rfl rfl rfl ?_
  refine JO_gF rfl rfl rfl rfl ?_
  refine JO_gF rfl rfl rfl rfl ?_
  refine JO_gF rfl rfl rfl rfl ?_
  refine JO_gF rfl rfl rfl rfl ?_
  refine JO_gU rfl rfl rfl ?_
  refine JO_gU rfl rfl rfl ?_
  refine JO_gU rfl rfl rfl ?_
  refine JO_gU rfl rfl rfl ?_
  refine JO_gU rfl rfl rfl ?_
  refine JO_gF rfl rfl rfl rfl ?_
  refine JO_q (QE_pickF rfl rfl) rfl ?_
  refine JO_nil ?_
  refine thenQ_n ?_
  refine JC_ifF rfl ?_
  have hb : bareR w = w := by
    first
    | exact bare_no hch (by assumption) (by assumption)
    | (obtain rfl : w = [] := List.eq_nil_of_length_eq_zero (by omega); rfl)
  refine JC_skip ?_
  refine thenQ_n ?_
  refine JC_seq ?_
  refine JC_region ?_
  refine JO_q (QE_mv rfl) rfl ?_
  refine JO_q (QE_as rfl) rfl ?_
  refine JO_nil ?_
  refine thenQ_n ?_
  refine JC_ret ?_
  refine retQ_mk [] L (.inr rfl) (.tmp rfl (.nil)) rfl (Le.refl (D := D) _) (fun sR hS2 => ?_)
  exact ⟨by rw [hb]; rfl, rfl⟩
set_option maxHeartbeats 1000000 in
set_option maxRecDepth 100000 in
theorem rtermIn_ac (D : Nat) (L : Hl) (s : World) (w : List UInt8) (hl : w.length ≤ 4000000) : AC Tryz.prog D 94 [St w] L s fun v L' _ => v = .tuple #[.agg #[.int .i64 ((termW w).getD tmZ).kind, .int .u32 ((termW w).getD tmZ).val], .bool (termW w).isSome] ∧ L = L' := by
 have hbl := bareR_len w
 have hrl := regN_le (bareR w)
 refine AC_enter (TT := TT) (fn := Tryz.f94) TT_ok Tryz.func94 (by kernel_rfl) rfl Tryz.ntmps94 rfl (rs := [.cell 2 66, .tmp 3]) rfl [(0, _)] rfl ?_
 refine JC_seq ?_
 refine JC_region ?_
 refine JO_allocZ rfl [_, _] rfl rfl ?_
 intro β1 s1 h1
 refine JO_q (QE_as rfl) rfl ?_
 refine JO_nil ?_
 refine thenQ_n ?_
 refine JC_seq ?_
 refine JC_region ?_
 refine JO_q (QE_mv rfl) rfl ?_
 refine JO_call (first := []) (captured := []) rfl rfl rfl (rbare_ac D _ _ w hl) ?_
 rintro _ _ s2 h2 ⟨rfl, rfl⟩
 refine JO_q (QE_as rfl) rfl ?_
 refine JO_nil ?_
 refine thenQ_n ?_
 refine JC_seq ?_
 refine JC_seq ?_
 refine JC_region ?_
 refine JO_q (QE_mv rfl) rfl ?_
 refine JO_q (QE_seq rfl rfl) rfl ?_
 refine JO_nil ?_
 refine thenQ_n ?_
 refine JC_ifD rfl (fun c3 => ?_) (fun c3 => ?_)
 ·
  have hT := tw_N c3
  refine JC_seq ?_
  refine JC_region ?_
  refine JO_q (QE_build [(_, _)] [_, _] rfl rfl rfl rfl rfl rfl) rfl ?_
  refine JO_st 0 [_, _] rfl rfl rfl rfl rfl rfl rfl rfl rfl ?_
  refine JO_q (QE_as rfl) rfl ?_
  refine JO_nil ?_
  refine thenQ_n ?_
  refine JC_ret ?_
  refine thenQ_r ?_
  refine retQ_mk [_] L (.inr rfl) (.agg (us := [_, _]) 0 rfl rfl rfl rfl rfl (.tmp rfl (.nil))) rfl (Le.trans h1 h2) (fun sR hS2 => ?_)
  refine ⟨?_, rfl⟩
  rw [hT]
  first
    | rfl
    | (cases numL (bareR w) <;> rfl)
 ·
  have h78 : ¬ bareR w = [78] := c3
  refine JC_skip ?_
  refine thenQ_n ?_
  refine JC_seq ?_
  refine JC_seq ?_
  refine JC_region ?_
  refine JO_q (QE_mv rfl) rfl ?_
  refine JO_q (QE_lenT rfl rfl rfl) rfl ?_
  refine JO_q (QE_eq rfl rfl) rfl ?_
  refine JO_q (QE_mv rfl) rfl ?_
  refine JO_caseD (t := 15) rfl (fun c4 => ?_) (fun c4 => ?_)
  ·
   refine JO_gT rfl rfl ?_
   refine JO_q (QE_mv rfl) rfl ?_
   refine JO_gT rfl rfl ?_
   obtain ⟨ch, hch⟩ : ∃ ch, bareR w = [ch] := List.length_eq_one_iff.1 (by omega)
   have hch0 : (bareR w)[0]? = some ch := by rw [hch]; rfl
   refine JO_q (QE_ix rfl rfl rfl rfl hch0) rfl ?_
   refine JO_gT rfl rfl ?_
   refine JO_call (first := []) (captured := []) rfl rfl rfl (has_ac D _ _ abcB _ (by decide)) ?_
   rintro _ _ s5 h5 ⟨rfl, rfl⟩
   rw [(reg_find ch).2]
   refine JO_q (QE_pickT rfl rfl) rfl ?_
   refine JO_nil ?_
   refine thenQ_n ?_
   refine JC_if rfl (fun c6 => ?_) (fun c6 => ?_)
   ·
    have hr : 0 ≤ regN [ch] := by simpa using c6
    have hT := tw_reg h78 (by rw [hch]; exact hr)
    rw [hch] at hT
    refine JC_seq ?_
    refine JC_region ?_
    refine JO_q (QE_mv rfl) rfl ?_
    refine JO_q (QE_ix rfl rfl rfl rfl hch0) rfl ?_
    refine JO_call (first := []) (captured := []) rfl rfl rfl (find7_ac D _ _ abcB _ (by decide)) ?_
    rintro _ _ s7 h7 ⟨rfl, rfl⟩
    rw [(reg_find ch).1]
    refine JO_q (QE_conv' rfl rfl rfl rfl rfl (show IntKind.u32.wrap (regN [ch]) = regN [ch] by rw [hch] at hrl; rw [IntKind.wrap_u32]; omega)) rfl ?_
    refine JO_q (QE_build [(_, _), (_, _)] [_, _] rfl rfl rfl rfl rfl rfl) rfl ?_
    refine JO_st 0 [_, _] rfl rfl rfl rfl rfl rfl rfl rfl rfl ?_
    refine JO_q (QE_as rfl) rfl ?_
    refine JO_nil ?_
    refine thenQ_n ?_
    refine JC_ret ?_
    refine thenQ_r ?_
    refine retQ_mk [_] L (.inr rfl) (.agg (us := [_, _]) 0 rfl rfl rfl rfl rfl (.tmp rfl (.nil))) rfl (Le.trans (Le.trans (Le.trans h1 h2) h5) h7) (fun sR hS2 => ?_)
    refine ⟨?_, rfl⟩
    rw [hT]
    first
      | rfl
      | (cases numL (bareR w) <;> rfl)
   ·
    have hr : ¬ 0 ≤ regN (bareR w) := by
      first
      | (rw [hch]; simpa using c6)
      | (rw [regN_long (by omega)]; decide)
    have hT := tw_num h78 hr
    refine JC_skip ?_
    refine thenQ_n ?_
    refine JC_seq ?_
    refine JC_region ?_
    refine JO_q (QE_mv rfl) rfl ?_
    refine JO_call (first := []) (captured := []) rfl rfl rfl (numberOf_ac D _ _ (bareR w) (by omega)) ?_
    rintro _ _ s8 h8 ⟨rfl, rfl⟩
    refine JO_q (QE_mv rfl) rfl ?_
    refine JO_q (QE_ext rfl rfl) rfl ?_
    refine JO_q (QE_ext rfl rfl) rfl ?_
    refine JO_q (QE_as rfl) rfl ?_
    refine JO_q (QE_as rfl) rfl ?_
    refine JO_nil ?_
    refine thenQ_n ?_
    refine JC_seq ?_
    refine JC_region ?_
    refine JO_q (QE_mv rfl) rfl ?_
    refine JO_q (QE_build [(_, _)] [_, _] rfl rfl rfl rfl rfl rfl) rfl ?_
    refine JO_q (QE_mv rfl) rfl ?_
    refine JO_st 0 [_, _] rfl rfl rfl rfl rfl rfl rfl rfl rfl ?_
    refine JO_q (QE_as rfl) rfl ?_
    refine JO_nil ?_
    refine thenQ_n ?_
    refine JC_ret ?_
    refine retQ_mk [_] L (.inr rfl) (.agg (us := [_, _]) 0 rfl rfl rfl rfl rfl (.tmp rfl (.nil))) rfl (Le.trans (Le.trans (Le.trans h1 h2) h5) h8) (fun sR hS2 => ?_)
    refine ⟨?_, rfl⟩
    rw [hT]
    first
      | rfl
      | (cases numL (bareR w) <;> rfl)
  ·
   refine JO_gF rfl rfl rfl rfl ?_
   refine JO_gF rfl rfl rfl rfl ?_
   refine JO_gF rfl rfl rfl rfl ?_
   refine JO_q (QE_pickF rfl rfl) rfl ?_
   refine JO_nil ?_
   refine thenQ_n ?_
   refine JC_ifF rfl ?_
   have hr : ¬ 0 ≤ regN (bareR w) := by
     first
     | (rw [hch]; simpa using trivial)
     | (rw [regN_long (by omega)]; decide)
   have hT := tw_num h78 hr
   refine JC_skip ?_
   refine thenQ_n ?_
   refine JC_seq ?_
   refine JC_region ?_
   refine JO_q (QE_mv rfl) rfl ?_
   refine JO_call (first := []) (captured := []) rfl rfl rfl (numberOf_ac D _ _ (bareR w) (by omega)) ?_
   rintro _ _ s9 h9 ⟨rfl, rfl⟩
   refine JO_q (QE_mv rfl) rfl ?_
   refine JO_q (QE_ext rfl rfl) rfl ?_
   refine JO_q (QE_ext rfl rfl) rfl ?_
   refine JO_q (QE_as rfl) rfl ?_
   refine JO_q (QE_as rfl) rfl ?_
   refine JO_nil ?_
   refine thenQ_n ?_
   refine JC_seq ?_
   refine JC_region ?_
   refine JO_q (QE_mv rfl) rfl ?_
   refine JO_q (QE_build [(_, _)] [_, _] rfl rfl rfl rfl rfl rfl) rfl ?_
   refine JO_q (QE_mv rfl) rfl ?_
   refine JO_st 0 [_, _] rfl rfl rfl rfl rfl rfl rfl rfl rfl ?_
   refine JO_q (QE_as rfl) rfl ?_
   refine JO_nil ?_
   refine thenQ_n ?_
   refine JC_ret ?_
   refine retQ_mk [_] L (.inr rfl) (.agg (us := [_, _]) 0 rfl rfl rfl rfl rfl (.tmp rfl (.nil))) rfl (Le.trans (Le.trans h1 h2) h9) (fun sR hS2 => ?_)
   refine ⟨?_, rfl⟩
   rw [hT]
   first
     | rfl
     | (cases numL (bareR w) <;> rfl)
end Go.Proofs.YtoeeblegplghmaaGreatDoor
