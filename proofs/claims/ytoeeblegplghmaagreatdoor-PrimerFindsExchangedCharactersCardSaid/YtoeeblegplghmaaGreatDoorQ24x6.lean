/- Part 6 of the proof of primerFindsExchangedCharacters_holds: texts P17, P18, P23, P19, P20, Pi. -/
import Derived.Test.YtoeeblegplghmaaGreatDoorQ24x5
set_option linter.unusedVariables false
set_option linter.unusedSimpArgs false
set_option linter.unnecessarySimpa false
namespace Go.Proofs.YtoeeblegplghmaaGreatDoor
open Go.FL
attribute [local irreducible] JC JO JA JB thenQ blockQ retQ AC fill CellsAt QE Ev Mid
theorem dec_more {w : Nat} (h : ¬ w < 10) : Lib.decDigits w = Lib.decDigits (w / 10) ++ Lib.decDigits (w % 10) := by
  rw [Lib.decDigits, dif_neg h, Lib.decDigits_one (i := w % 10) (by omega)]
theorem rem10 (n : Nat) : Value.int .u32 ((n : Int).tmod 10) = .int .u32 ((n % 10 : Nat) : Int) := by rw [Int.tmod_eq_emod_of_nonneg (by omega)]; rfl
theorem quo10 {n : Nat} (h : n < 4294967296) : Value.int .u32 (IntKind.u32.wrap ((n : Int).tdiv 10)) = .int .u32 ((n / 10 : Nat) : Int) := by
  rw [Int.tdiv_eq_ediv_of_nonneg (by omega), IntKind.wrap_u32]; congr 1; omega
theorem dig48 {n : Nat} (h : n < 10) : Value.int .u8 (IntKind.u8.wrap (IntKind.u32.wrap (48 + (n : Int)))) = .int .u8 ((UInt8.ofNat (48 + n)).toNat : Int) := by
  rw [IntKind.wrap_u32, IntKind.wrap_u8]; congr 1; simp only [UInt8.toNat_ofNat']; omega
theorem bts_lit {s : World} {b : Nat} {l : List UInt8} (h : CellsAt s b 0 (bv l)) (hl : l.length ≤ 1000) : Bts s (some ⟨b, 0, none⟩) l.length l.length l := bts_pub (yc := []) (cc := l.length) (by simpa using h) (by simp) (by omega)
theorem fld_hit {l : List UInt8} {i f : Nat} (hf : f < i) (hc : i = l.length ∨ ∃ ch, l[i]? = some ch ∧ isBlk ch = true) : fw ((l.drop f).take (i - f)) (l.drop i) = ((l.drop f).take (i - f)) :: fw ((l.drop (i + 1)).take (i + 1 - (i + 1))) (l.drop (i + 1)) := by
  rw [Nat.sub_self, List.take_zero]
  rcases hc with rfl | ⟨ch, h1, h2⟩
  · rw [fw_end hf, show l.drop (l.length + 1) = [] from List.drop_of_length_le (by omega)]; rfl
  · exact fw_hit h1 h2 hf
theorem fld_skip {l : List UInt8} {i : Nat} (hc : i = l.length ∨ ∃ ch, l[i]? = some ch ∧ isBlk ch = true) : fw ((l.drop i).take (i - i)) (l.drop i) = fw ((l.drop (i + 1)).take (i + 1 - (i + 1))) (l.drop (i + 1)) := by
  rw [Nat.sub_self, Nat.sub_self, List.take_zero, List.take_zero]
  rcases hc with rfl | ⟨ch, h1, h2⟩
  · rw [List.drop_of_length_le (Nat.le_refl _), List.drop_of_length_le (by omega)]
  · exact fw_skip h1 h2
theorem fld_end {l : List UInt8} : fw ((l.drop (l.length + 1)).take (l.length + 1 - (l.length + 1))) (l.drop (l.length + 1)) = [] := by
  rw [Nat.sub_self, List.take_zero, List.drop_of_length_le (by omega)]; rfl
set_option maxHeartbeats 2000000 in
set_option maxRecDepth 100000 in
theorem rfieldsO_ac (D : Nat) (L : Hl) (s : World) (l : List UInt8) (hl : l.length ≤ 4000000) : AC Tryz.prog D 19 [St l] L s fun v L' s' => ∃ M', L' = M' ++ L ∧ ∀ s2, Le D s' s2 → Pub M' s2 → ∃ A n c', v = .slice A n c' ∧ Strs s2 A n c' (flds l) := by
 refine AC_enter (TT := TT) (fn := Tryz.f19) TT_ok Tryz.func19 (by kernel_rfl) rfl Tryz.ntmps19 rfl (rs := [.tmp 2]) rfl [(0, _)] rfl ?_
 refine JC_seq ?_
 refine JC_region ?_
 refine JO_q (QE_as rfl) rfl ?_
 refine JO_nil ?_
 refine thenQ_n ?_
 refine JC_seq ?_
 refine JC_region ?_
 refine JO_q (QE_as rfl) rfl ?_
 refine JO_nil ?_
 refine thenQ_n ?_
 refine JC_seq ?_
 refine JC_region ?_
 refine JO_q (QE_as rfl) rfl ?_
 refine JO_nil ?_
 refine thenQ_n ?_
 refine JC_seq ?_
 refine JC_seq ?_
 refine JC_region ?_
 refine JO_q (QE_as rfl) rfl ?_
 refine JO_nil ?_
 refine thenQ_n ?_
 refine JC_block ?_
 refine JC_loop (γ := Nat × Nat × Value × Hl × List (List UInt8)) (fun g => [(0, _), (2, _), (3, g.2.2.1), (4, .int .i64 (g.2.1 : Int)), (5, .int .i64 (g.1 : Int))]) (fun g => g.2.2.2.1 ++ L) (fun g tw => Le D s tw ∧ (g.1 ≤ l.length + 1 ∧ g.2.1 ≤ g.1 ∧ (l.length < g.1 → g.2.1 = g.1) ∧ FL.Own 9 1 g.2.2.2.1 g.2.2.1 g.2.2.2.2.length (sb g.2.2.2.2) ∧ g.2.2.2.2.length ≤ g.1 ∧ flds l = g.2.2.2.2 ++ fw ((l.drop g.2.1).take (g.1 - g.2.1)) (l.drop g.1))) (fun g => l.length + 1 - g.1) (fun _ _ _ h hl => ⟨h.1.trans hl, h.2⟩) (0, 0, .slice none 0 0, [], []) (Keeps.cons rfl (Keeps.cons rfl (Keeps.cons rfl (Keeps.cons rfl (Keeps.cons rfl (Keeps.nil _)))))) rfl ⟨Le.refl _, ⟨Nat.zero_le _, Nat.le_refl _, fun h => by simp only at h; omega, FL.Own.nil, Nat.le_refl _, by simp [flds]⟩⟩ ?_
 intro g s1 I1
 obtain ⟨i, f, vo, Mo, out⟩ := g
 obtain ⟨hi0, hf, hfe, hO, hol, hS⟩ := I1.2
 simp only at hi0 hf hfe hO hol hS
 dsimp only
 refine JC_seq ?_
 refine JC_seq ?_
 refine JC_region ?_
 refine JO_q (QE_mv rfl) rfl ?_
 refine JO_q (QE_mv rfl) rfl ?_
 refine JO_q (QE_lenT rfl rfl rfl) rfl ?_
 refine JO_q (QE_le rfl rfl) rfl ?_
 refine JO_nil ?_
 refine thenQ_n ?_
 refine JC_ifD rfl (fun c2 => ?_) (fun c2 => ?_)
 ·
  refine JC_skip ?_
  refine thenQ_n ?_
  refine JC_seq ?_
  refine JC_block ?_
  refine JC_seq ?_
  refine JC_seq ?_
  refine JC_region ?_
  refine JO_q (QE_mv rfl) rfl ?_
  refine JO_q (QE_mv rfl) rfl ?_
  refine JO_q (QE_lenT rfl rfl rfl) rfl ?_
  refine JO_q (QE_lt rfl rfl) rfl ?_
  refine JO_q (QE_mv rfl) rfl ?_
  refine JO_caseD (t := 16) rfl (fun c3 => ?_) (fun c3 => ?_)
  ·
   refine JO_gT rfl rfl ?_
   refine JO_q (QE_mv rfl) rfl ?_
   refine JO_gT rfl rfl ?_
   refine JO_q (QE_mv rfl) rfl ?_
   refine JO_gT rfl rfl ?_
   obtain ⟨ch, hch⟩ : ∃ ch, l[i]? = some ch := ⟨_, List.getElem?_eq_getElem (by omega)⟩
   refine JO_q (QE_ix rfl rfl rfl rfl hch) rfl ?_
   refine JO_gT rfl rfl ?_
   refine JO_q (QE_ne rfl rfl) rfl ?_
   refine JO_q (QE_pickT rfl rfl) rfl ?_
   refine JO_q (QE_mv rfl) rfl ?_
   refine JO_caseN (t := 22) rfl (fun c4 => ?_) (fun c4 => ?_)
   ·
    refine JO_gT rfl rfl ?_
    refine JO_q (QE_mv rfl) rfl ?_
    refine JO_gT rfl rfl ?_
    refine JO_q (QE_mv rfl) rfl ?_
    refine JO_gT rfl rfl ?_
    refine JO_q (QE_ix rfl rfl rfl rfl hch) rfl ?_
    refine JO_gT rfl rfl ?_
    refine JO_q (QE_ne rfl rfl) rfl ?_
    refine JO_q (QE_pickT rfl rfl) rfl ?_
    refine JO_nil ?_
    refine thenQ_n ?_
    refine JC_ifN rfl (fun c5 => ?_) (fun c5 => ?_)
    ·
     have hb : isBlk ch = false := Bool.eq_false_iff.2 (fun h => by have := isBlk_iff.1 h; omega)
     refine JC_exit ?_
     refine thenQ_x ?_
     refine blockQ_x ?_
     refine thenQ_n ?_
     refine JC_region ?_
     refine JO_q (QE_mv rfl) rfl ?_
     refine JO_q (QE_add' rfl rfl (w64 (by omega) (by omega))) rfl ?_
     refine JO_q (QE_as rfl) rfl ?_
     refine JO_nil ?_
     refine thenQ_n ⟨(i + 1, f, vo, Mo, out), [], (Keeps.cons rfl (Keeps.cons rfl (Keeps.cons rfl (Keeps.cons rfl (Keeps.cons rfl (Keeps.nil _)))))), rfl, ⟨I1.1, by
       first
       | exact ⟨by simp only; omega, by simp only; omega, fun h => by simp only at h; omega, hO, by simp only; omega, by simp only; rw [hS, fw_miss hch hb hf]⟩
       | exact ⟨by simp only; omega, Nat.le_refl _, fun _ => rfl, by simp only [List.length_append, List.length_cons, List.length_nil, sb_snoc]; exact oq, by simp only [List.length_append, List.length_cons, List.length_nil]; omega, by simp only; rw [hS, fld_hit h30 hcase]; simp⟩
       | exact ⟨by simp only; omega, Nat.le_refl _, fun _ => rfl, hO, by simp only; omega, by simp only; rw [hS, show f = i by omega, fld_skip hcase]⟩⟩, (by simp only; omega)⟩
    ·
     have hcase : (i = l.length) ∨ ∃ ch, l[i]? = some ch ∧ isBlk ch = true := by
       first
       | exact .inl (by omega)
       | exact .inr ⟨ch, hch, isBlk_iff.2 (by omega)⟩
     refine JC_skip ?_
     refine thenQ_n ?_
     refine JC_seq ?_
     refine JC_seq ?_
     refine JC_region ?_
     refine JO_q (QE_mv rfl) rfl ?_
     refine JO_q (QE_mv rfl) rfl ?_
     refine JO_q (QE_gt rfl rfl) rfl ?_
     refine JO_nil ?_
     refine thenQ_n ?_
     refine JC_ifD rfl (fun c6 => ?_) (fun c6 => ?_)
     ·
      have h30 : f < i := by omega
      refine JC_region ?_
      refine JO_q (QE_mv rfl) rfl ?_
      refine JO_q (QE_mv rfl) rfl ?_
      refine JO_q (QE_mv rfl) rfl ?_
      refine JO_q (QE_mv rfl) rfl ?_
      refine JO_q (QE_stLH rfl rfl rfl rfl rfl (by omega) (by omega)) rfl ?_
      refine JO_bs [(_, _)] [_] rfl rfl rfl rfl rfl rfl rfl rfl rfl ?_
      intro βn s7 h7 hcb
      refine JO_app (sz := 1) [] Mo L rfl rfl rfl rfl rfl rfl rfl hO (Row.of_cells (hcb.le (Le.refl (D := D) _)) rfl rfl) ⟨by simp [ti9]; omega, by omega⟩ rfl ?_
      intro vq Mq s8 h8 oq
      obtain ⟨Avq, cvq, rfl, _, _⟩ := Own.slice oq
      simp only [List.nil_append]
      refine JO_q (QE_as rfl) rfl ?_
      refine JO_nil ?_
      refine thenQ_n ?_
      refine JC_region ?_
      refine JO_q (QE_mv rfl) rfl ?_
      refine JO_q (QE_add' rfl rfl (w64 (by omega) (by omega))) rfl ?_
      refine JO_q (QE_as rfl) rfl ?_
      refine JO_nil ?_
      refine blockQ_n ?_
      refine thenQ_n ?_
      refine JC_region ?_
      refine JO_q (QE_mv rfl) rfl ?_
      refine JO_q (QE_add' rfl rfl (w64 (by omega) (by omega))) rfl ?_
      refine JO_q (QE_as rfl) rfl ?_
      refine JO_nil ?_
      refine thenQ_n ⟨(i + 1, i + 1, .slice Avq (out.length + 1) cvq, Mq, out ++ [(l.drop f).take (i - f)]), [], (Keeps.cons rfl (Keeps.cons rfl (Keeps.cons rfl (Keeps.cons rfl (Keeps.cons rfl (Keeps.nil _)))))), rfl, ⟨(Le.trans (Le.trans I1.1 h7) h8), by
        first
        | exact ⟨by simp only; omega, by simp only; omega, fun h => by simp only at h; omega, hO, by simp only; omega, by simp only; rw [hS, fw_miss hch hb hf]⟩
        | exact ⟨by simp only; omega, Nat.le_refl _, fun _ => rfl, by simp only [List.length_append, List.length_cons, List.length_nil, sb_snoc]; exact oq, by simp only [List.length_append, List.length_cons, List.length_nil]; omega, by simp only; rw [hS, fld_hit h30 hcase]; simp⟩
        | exact ⟨by simp only; omega, Nat.le_refl _, fun _ => rfl, hO, by simp only; omega, by simp only; rw [hS, show f = i by omega, fld_skip hcase]⟩⟩, (by simp only; omega)⟩
     ·
      have h30 : ¬ f < i := by omega
      refine JC_skip ?_
      refine thenQ_n ?_
      refine JC_region ?_
      refine JO_q (QE_mv rfl) rfl ?_
      refine JO_q (QE_add' rfl rfl (w64 (by omega) (by omega))) rfl ?_
      refine JO_q (QE_as rfl) rfl ?_
      refine JO_nil ?_
      refine blockQ_n ?_
      refine thenQ_n ?_
      refine JC_region ?_
      refine JO_q (QE_mv rfl) rfl ?_
      refine JO_q (QE_add' rfl rfl (w64 (by omega) (by omega))) rfl ?_
      refine JO_q (QE_as rfl) rfl ?_
      refine JO_nil ?_
      refine thenQ_n ⟨(i + 1, i + 1, vo, Mo, out), [], (Keeps.cons rfl (Keeps.cons rfl (Keeps.cons rfl (Keeps.cons rfl (Keeps.cons rfl (Keeps.nil _)))))), rfl, ⟨I1.1, by
        first
        | exact ⟨by simp only; omega, by simp only; omega, fun h => by simp only at h; omega, hO, by simp only; omega, by simp only; rw [hS, fw_miss hch hb hf]⟩
        | exact ⟨by simp only; omega, Nat.le_refl _, fun _ => rfl, by simp only [List.length_append, List.length_cons, List.length_nil, sb_snoc]; exact oq, by simp only [List.length_append, List.length_cons, List.length_nil]; omega, by simp only; rw [hS, fld_hit h30 hcase]; simp⟩
        | exact ⟨by simp only; omega, Nat.le_refl _, fun _ => rfl, hO, by simp only; omega, by simp only; rw [hS, show f = i by omega, fld_skip hcase]⟩⟩, (by simp only; omega)⟩
   ·
    refine JO_gF rfl rfl rfl rfl ?_
    refine JO_gF rfl rfl rfl rfl ?_
    refine JO_gF rfl rfl rfl rfl ?_
    refine JO_gF rfl rfl rfl rfl ?_
    refine JO_q (QE_pickF rfl rfl) rfl ?_
    refine JO_nil ?_
    refine thenQ_n ?_
    refine JC_ifF rfl ?_
    have hcase : (i = l.length) ∨ ∃ ch, l[i]? = some ch ∧ isBlk ch = true := by
      first
      | exact .inl (by omega)
      | exact .inr ⟨ch, hch, isBlk_iff.2 (by omega)⟩
    refine JC_skip ?_
    refine thenQ_n ?_
    refine JC_seq ?_
    refine JC_seq ?_
    refine JC_region ?_
    refine JO_q (QE_mv rfl) rfl ?_
    refine JO_q (QE_mv rfl) rfl ?_
    refine JO_q (QE_gt rfl rfl) rfl ?_
    refine JO_nil ?_
    refine thenQ_n ?_
    refine JC_ifD rfl (fun c9 => ?_) (fun c9 => ?_)
    ·
     have h30 : f < i := by omega
     refine JC_region ?_
     refine JO_q (QE_mv rfl) rfl ?_
     refine JO_q (QE_mv rfl) rfl ?_
     refine JO_q (QE_mv rfl) rfl ?_
     refine JO_q (QE_mv rfl) rfl ?_
     refine JO_q (QE_stLH rfl rfl rfl rfl rfl (by omega) (by omega)) rfl ?_
     refine JO_bs [(_, _)] [_] rfl rfl rfl rfl rfl rfl rfl rfl rfl ?_
     intro βn s10 h10 hcb
     refine JO_app (sz := 1) [] Mo L rfl rfl rfl rfl rfl rfl rfl hO (Row.of_cells (hcb.le (Le.refl (D := D) _)) rfl rfl) ⟨by simp [ti9]; omega, by omega⟩ rfl ?_
     intro vq Mq s11 h11 oq
     obtain ⟨Avq, cvq, rfl, _, _⟩ := Own.slice oq
     simp only [List.nil_append]
     refine JO_q (QE_as rfl) rfl ?_
     refine JO_nil ?_
     refine thenQ_n ?_
     refine JC_region ?_
     refine JO_q (QE_mv rfl) rfl ?_
     refine JO_q (QE_add' rfl rfl (w64 (by omega) (by omega))) rfl ?_
     refine JO_q (QE_as rfl) rfl ?_
     refine JO_nil ?_
     refine blockQ_n ?_
     refine thenQ_n ?_
     refine JC_region ?_
     refine JO_q (QE_mv rfl) rfl ?_
     refine JO_q (QE_add' rfl rfl (w64 (by omega) (by omega))) rfl ?_
     refine JO_q (QE_as rfl) rfl ?_
     refine JO_nil ?_
     refine thenQ_n ⟨(i + 1, i + 1, .slice Avq (out.length + 1) cvq, Mq, out ++ [(l.drop f).take (i - f)]), [], (Keeps.cons rfl (Keeps.cons rfl (Keeps.cons rfl (Keeps.cons rfl (Keeps.cons rfl (Keeps.nil _)))))), rfl, ⟨(Le.trans (Le.trans I1.1 h10) h11), by
       first
       | exact ⟨by simp only; omega, by simp only; omega, fun h => by simp only at h; omega, hO, by simp only; omega, by simp only; rw [hS, fw_miss hch hb hf]⟩
       | exact ⟨by simp only; omega, Nat.le_refl _, fun _ => rfl, by simp only [List.length_append, List.length_cons, List.length_nil, sb_snoc]; exact oq, by simp only [List.length_append, List.length_cons, List.length_nil]; omega, by simp only; rw [hS, fld_hit h30 hcase]; simp⟩
       | exact ⟨by simp only; omega, Nat.le_refl _, fun _ => rfl, hO, by simp only; omega, by simp only; rw [hS, show f = i by omega, fld_skip hcase]⟩⟩, (by simp only; omega)⟩
    ·
     have h30 : ¬ f < i := by omega
     refine JC_skip ?_
     refine thenQ_n ?_
     refine JC_region ?_
     refine JO_q (QE_mv rfl) rfl ?_
     refine JO_q (QE_add' rfl rfl (w64 (by omega) (by omega))) rfl ?_
     refine JO_q (QE_as rfl) rfl ?_
     refine JO_nil ?_
     refine blockQ_n ?_
     refine thenQ_n ?_
     refine JC_region ?_
     refine JO_q (QE_mv rfl) rfl ?_
     refine JO_q (QE_add' rfl rfl (w64 (by omega) (by omega))) rfl ?_
     refine JO_q (QE_as rfl) rfl ?_
     refine JO_nil ?_
     refine thenQ_n ⟨(i + 1, i + 1, vo, Mo, out), [], (Keeps.cons rfl (Keeps.cons rfl (Keeps.cons rfl (Keeps.cons rfl (Keeps.cons rfl (Keeps.nil _)))))), rfl, ⟨I1.1, by
       first
       | exact ⟨by simp only; omega, by simp only; omega, fun h => by simp only at h; omega, hO, by simp only; omega, by simp only; rw [hS, fw_miss hch hb hf]⟩
       | exact ⟨by simp only; omega, Nat.le_refl _, fun _ => rfl, by simp only [List.length_append, List.length_cons, List.length_nil, sb_snoc]; exact oq, by simp only [List.length_append, List.length_cons, List.length_nil]; omega, by simp only; rw [hS, fld_hit h30 hcase]; simp⟩
       | exact ⟨by simp only; omega, Nat.le_refl _, fun _ => rfl, hO, by simp only; omega, by simp only; rw [hS, show f = i by omega, fld_skip hcase]⟩⟩, (by simp only; omega)⟩
  ·
   refine JO_gF rfl rfl rfl rfl ?_
   refine JO_gF rfl rfl rfl rfl ?_
   refine JO_gF rfl rfl rfl rfl ?_
   refine JO_gF rfl rfl rfl rfl ?_
   refine JO_q (QE_pickF rfl rfl) rfl ?_
   refine JO_q (QE_mv rfl) rfl ?_
   refine JO_gF rfl rfl rfl rfl ?_
   refine JO_gF rfl rfl rfl rfl ?_
   refine JO_gF rfl rfl rfl rfl ?_
   refine JO_gF rfl rfl rfl rfl ?_
   refine JO_q (QE_pickF rfl rfl) rfl ?_
   refine JO_nil ?_
   refine thenQ_n ?_
   refine JC_ifF rfl ?_
   have hcase : (i = l.length) ∨ ∃ ch, l[i]? = some ch ∧ isBlk ch = true := by
     first
     | exact .inl (by omega)
     | exact .inr ⟨ch, hch, isBlk_iff.2 (by omega)⟩
   refine JC_skip ?_
   refine thenQ_n ?_
   refine JC_seq ?_
   refine JC_seq ?_
   refine JC_region ?_
   refine JO_q (QE_mv rfl) rfl ?_
   refine JO_q (QE_mv rfl) rfl ?_
   refine JO_q (QE_gt rfl rfl) rfl ?_
   refine JO_nil ?_
   refine thenQ_n ?_
   refine JC_ifD rfl (fun c12 => ?_) (fun c12 => ?_)
   ·
    have h30 : f < i := by omega
    refine JC_region ?_
    refine JO_q (QE_mv rfl) rfl ?_
    refine JO_q (QE_mv rfl) rfl ?_
    refine JO_q (QE_mv rfl) rfl ?_
    refine JO_q (QE_mv rfl) rfl ?_
    refine JO_q (QE_stLH rfl rfl rfl rfl rfl (by omega) (by omega)) rfl ?_
    refine JO_bs [(_, _)] [_] rfl rfl rfl rfl rfl rfl rfl rfl rfl ?_
    intro βn s13 h13 hcb
    refine JO_app (sz := 1) [] Mo L rfl rfl rfl rfl rfl rfl rfl hO (Row.of_cells (hcb.le (Le.refl (D := D) _)) rfl rfl) ⟨by simp [ti9]; omega, by omega⟩ rfl ?_
    intro vq Mq s14 h14 oq
    obtain ⟨Avq, cvq, rfl, _, _⟩ := Own.slice oq
    simp only [List.nil_append]
    refine JO_q (QE_as rfl) rfl ?_
    refine JO_nil ?_
    refine thenQ_n ?_
    refine JC_region ?_
    refine JO_q (QE_mv rfl) rfl ?_
    refine JO_q (QE_add' rfl rfl (w64 (by omega) (by omega))) rfl ?_
    refine JO_q (QE_as rfl) rfl ?_
    refine JO_nil ?_
    refine blockQ_n ?_
    refine thenQ_n ?_
    refine JC_region ?_
    refine JO_q (QE_mv rfl) rfl ?_
    refine JO_q (QE_add' rfl rfl (w64 (by omega) (by omega))) rfl ?_
    refine JO_q (QE_as rfl) rfl ?_
    refine JO_nil ?_
    refine thenQ_n ⟨(i + 1, i + 1, .slice Avq (out.length + 1) cvq, Mq, out ++ [(l.drop f).take (i - f)]), [], (Keeps.cons rfl (Keeps.cons rfl (Keeps.cons rfl (Keeps.cons rfl (Keeps.cons rfl (Keeps.nil _)))))), rfl, ⟨(Le.trans (Le.trans I1.1 h13) h14), by
      first
      | exact ⟨by simp only; omega, by simp only; omega, fun h => by simp only at h; omega, hO, by simp only; omega, by simp only; rw [hS, fw_miss hch hb hf]⟩
      | exact ⟨by simp only; omega, Nat.le_refl _, fun _ => rfl, by simp only [List.length_append, List.length_cons, List.length_nil, sb_snoc]; exact oq, by simp only [List.length_append, List.length_cons, List.length_nil]; omega, by simp only; rw [hS, fld_hit h30 hcase]; simp⟩
      | exact ⟨by simp only; omega, Nat.le_refl _, fun _ => rfl, hO, by simp only; omega, by simp only; rw [hS, show f = i by omega, fld_skip hcase]⟩⟩, (by simp only; omega)⟩
   ·
    have h30 : ¬ f < i := by omega
    refine JC_skip ?_
    refine thenQ_n ?_
    refine JC_region ?_
    refine JO_q (QE_mv rfl) rfl ?_
    refine JO_q (QE_add' rfl rfl (w64 (by omega) (by omega))) rfl ?_
    refine JO_q (QE_as rfl) rfl ?_
    refine JO_nil ?_
    refine blockQ_n ?_
    refine thenQ_n ?_
    refine JC_region ?_
    refine JO_q (QE_mv rfl) rfl ?_
    refine JO_q (QE_add' rfl rfl (w64 (by omega) (by omega))) rfl ?_
    refine JO_q (QE_as rfl) rfl ?_
    refine JO_nil ?_
    refine thenQ_n ⟨(i + 1, i + 1, vo, Mo, out), [], (Keeps.cons rfl (Keeps.cons rfl (Keeps.cons rfl (Keeps.cons rfl (Keeps.cons rfl (Keeps.nil _)))))), rfl, ⟨I1.1, by
      first
      | exact ⟨by simp only; omega, by simp only; omega, fun h => by simp only at h; omega, hO, by simp only; omega, by simp only; rw [hS, fw_miss hch hb hf]⟩
      | exact ⟨by simp only; omega, Nat.le_refl _, fun _ => rfl, by simp only [List.length_append, List.length_cons, List.length_nil, sb_snoc]; exact oq, by simp only [List.length_append, List.length_cons, List.length_nil]; omega, by simp only; rw [hS, fld_hit h30 hcase]; simp⟩
      | exact ⟨by simp only; omega, Nat.le_refl _, fun _ => rfl, hO, by simp only; omega, by simp only; rw [hS, show f = i by omega, fld_skip hcase]⟩⟩, (by simp only; omega)⟩
 ·
  have hiE : i = l.length + 1 := by omega
  subst hiE
  obtain rfl := hfe (by omega)
  rw [fld_end, List.append_nil] at hS
  obtain ⟨Ao, co, rfl, _, _⟩ := Own.slice hO
  refine JC_exit ?_
  refine thenQ_x ?_
  refine thenQ_x ?_
  refine blockQ_x ?_
  refine thenQ_n ?_
  refine JC_seq ?_
  refine JC_region ?_
  refine JO_q (QE_mv rfl) rfl ?_
  refine JO_q (QE_as rfl) rfl ?_
  refine JO_nil ?_
  refine thenQ_n ?_
  refine JC_ret ?_
  refine retQ_mk [] _ (.inr rfl) (.tmp rfl (.nil)) rfl I1.1 (fun sR hS2 => ?_)
  refine ⟨_, rfl, fun s2 hs2 hp => ⟨_, _, _, rfl, ?_⟩⟩
  rw [hS]
  exact Own.strs hO (fun x hx => by rw [← hS] at hx; have := flds_short l x hx; omega) hp rfl
theorem rfields_ac (D : Nat) (L : Hl) (s : World) (l : List UInt8) (hl : l.length ≤ 4000000) : AC Tryz.prog D 19 [St l] L s fun v L' s' => L = L' ∧ ∃ A n c', v = .slice A n c' ∧ Strs s' A n c' (flds l) := AC.pubW (rfieldsO_ac D L s l hl)
theorem rjoin_next {ws : List (List UInt8)} {k : Nat} {x : List UInt8} (h : ws[k]? = some x) (hk : 0 < k) : joinW (ws.take k) ++ [32] ++ x = joinW (ws.take (k + 1)) := by rw [join_take h, if_neg (by omega), List.append_assoc]; rfl
theorem rjoin_first {ws : List (List UInt8)} {x : List UInt8} (h : ws[0]? = some x) : joinW (ws.take 0) ++ x = joinW (ws.take (0 + 1)) := by rw [join_take h, if_pos rfl]; rfl
set_option maxHeartbeats 1000000 in
set_option maxRecDepth 100000 in
theorem rjoined_ac (D : Nat) (L : Hl) (s : World) (A : Option Addr) (n c : Nat) (ws : List (List UInt8)) (hS : Strs s A n c ws) (hz : sizeW ws ≤ 4000000) : AC Tryz.prog D 23 [.slice A n c] L s fun v L' _ => v = St (joinW ws) ∧ L = L' := by
 have hn := hS.1
 have hc1 := hS.2.1
 have hc2 := hS.2.2.1
 have hsz := size_len ws
 refine AC_enter (TT := TT) (fn := Tryz.f23) TT_ok Tryz.func23 (by kernel_rfl) rfl Tryz.ntmps23 rfl (rs := [.tmp 2]) rfl [(0, _)] rfl ?_
 refine JC_seq ?_
 refine JC_region ?_
 refine JO_q (QE_as rfl) rfl ?_
 refine JO_nil ?_
 refine thenQ_n ?_
 refine JC_seq ?_
 refine JC_region ?_
 refine JO_q (QE_as rfl) rfl ?_
 refine JO_nil ?_
 refine thenQ_n ?_
 refine JC_seq ?_
 refine JC_seq ?_
 refine JC_region ?_
 refine JO_q (QE_as rfl) rfl ?_
 refine JO_nil ?_
 refine thenQ_n ?_
 refine JC_block ?_
 refine JC_loop (γ := Nat × List UInt8) (fun g => [(0, _), (2, _), (3, St g.2), (4, .int .i64 (g.1 : Int))]) (fun _ => _) (fun g tw => Le D s tw ∧ (g.1 ≤ n ∧ g.2 = joinW (ws.take g.1))) (fun g => n - g.1) (fun _ _ _ h hl => ⟨h.1.trans hl, h.2⟩) (0, []) (Keeps.cons rfl (Keeps.cons rfl (Keeps.cons rfl (Keeps.cons rfl (Keeps.nil _))))) rfl ⟨Le.refl _, ⟨Nat.zero_le _, rfl⟩⟩ ?_
 intro g s1 I1
 obtain ⟨k, sv⟩ := g
 obtain ⟨hk0, hE⟩ := I1.2
 simp only at hk0 hE
 subst hE
 dsimp only
 have hjl := join_len (ws.take k)
 have hjz : sizeW (ws.take k) ≤ sizeW ws := by have h := sizeW_app (ws.take k) (ws.drop k); rw [List.take_append_drop] at h; omega
 refine JC_seq ?_
 refine JC_seq ?_
 refine JC_region ?_
 refine JO_q (QE_mv rfl) rfl ?_
 refine JO_q (QE_mv rfl) rfl ?_
 refine JO_q (QE_lenS rfl rfl rfl) rfl ?_
 refine JO_q (QE_lt rfl rfl) rfl ?_
 refine JO_nil ?_
 refine thenQ_n ?_
 refine JC_ifD rfl (fun c2 => ?_) (fun c2 => ?_)
 ·
  have hk : k < n := by omega
  obtain ⟨b, off, x, rfl, hx, hcx, _⟩ := Strs.at_ (hS.le I1.1) hk
  have hxl := mem_size (List.mem_of_getElem? hx)
  refine JC_skip ?_
  refine thenQ_n ?_
  refine JC_seq ?_
  refine JC_block ?_
  refine JC_seq ?_
  refine JC_seq ?_
  refine JC_region ?_
  refine JO_q (QE_mv rfl) rfl ?_
  refine JO_q (QE_gt rfl rfl) rfl ?_
  refine JO_nil ?_
  refine thenQ_n ?_
  refine JC_ifD rfl (fun c3 => ?_) (fun c3 => ?_)
  ·
   have h12 : 0 < k := by omega
   refine JC_region ?_
   refine JO_q (QE_mv rfl) rfl ?_
   refine JO_q (QE_sadd rfl rfl (by simp only [List.length_append, List.length_cons, List.length_nil]; omega)) rfl ?_
   refine JO_q (QE_as rfl) rfl ?_
   refine JO_nil ?_
   refine thenQ_n ?_
   refine JC_region ?_
   refine JO_q (QE_mv rfl) rfl ?_
   refine JO_q (QE_mv rfl) rfl ?_
   refine JO_q (QE_mv rfl) rfl ?_
   refine JO_q (QE_ia1 rfl rfl rfl rfl rfl rfl hk) rfl ?_
   refine JO_q (QE_ldsR0 rfl rfl rfl (hcx.le (Le.refl (D := D) _)) rfl) rfl ?_
   refine JO_q (QE_sadd rfl rfl (by first | omega | (simp only [List.length_append, List.length_cons, List.length_nil]; omega))) rfl ?_
   refine JO_q (QE_as rfl) rfl ?_
   refine JO_nil ?_
   refine blockQ_n ?_
   refine thenQ_n ?_
   refine JC_region ?_
   refine JO_q (QE_mv rfl) rfl ?_
   refine JO_q (QE_add' rfl rfl (w64 (by omega) (by omega))) rfl ?_
   refine JO_q (QE_as rfl) rfl ?_
   refine JO_nil ?_
   refine thenQ_n ⟨(k + 1, (joinW (ws.take k) ++ [32]) ++ x), [], (Keeps.cons rfl (Keeps.cons rfl (Keeps.cons rfl (Keeps.cons rfl (Keeps.nil _))))), rfl, ⟨I1.1, by first | exact ⟨by simp only; omega, rjoin_next hx h12⟩ | exact ⟨by simp only; omega, by subst h12; exact rjoin_first hx⟩⟩, (by simp only; omega)⟩
  ·
   have h12 : k = 0 := by omega
   refine JC_skip ?_
   refine thenQ_n ?_
   refine JC_region ?_
   refine JO_q (QE_mv rfl) rfl ?_
   refine JO_q (QE_mv rfl) rfl ?_
   refine JO_q (QE_mv rfl) rfl ?_
   refine JO_q (QE_ia1 rfl rfl rfl rfl rfl rfl hk) rfl ?_
   refine JO_q (QE_ldsR0 rfl rfl rfl (hcx.le (Le.refl (D := D) _)) rfl) rfl ?_
   refine JO_q (QE_sadd rfl rfl (by first | omega | (simp only [List.length_append, List.length_cons, List.length_nil]; omega))) rfl ?_
   refine JO_q (QE_as rfl) rfl ?_
   refine JO_nil ?_
   refine blockQ_n ?_
   refine thenQ_n ?_
   refine JC_region ?_
   refine JO_q (QE_mv rfl) rfl ?_
   refine JO_q (QE_add' rfl rfl (w64 (by omega) (by omega))) rfl ?_
   refine JO_q (QE_as rfl) rfl ?_
   refine JO_nil ?_
   refine thenQ_n ⟨(k + 1, joinW (ws.take k) ++ x), [], (Keeps.cons rfl (Keeps.cons rfl (Keeps.cons rfl (Keeps.cons rfl (Keeps.nil _))))), rfl, ⟨I1.1, by first | exact ⟨by simp only; omega, rjoin_next hx h12⟩ | exact ⟨by simp only; omega, by subst h12; exact rjoin_first hx⟩⟩, (by simp only; omega)⟩
 ·
  have hkE : k = n := by omega
  subst hkE
  rw [hn, List.take_length] at *
  refine JC_exit ?_
  refine thenQ_x ?_
  refine thenQ_x ?_
  refine blockQ_x ?_
  refine thenQ_n ?_
  refine JC_seq ?_
  refine JC_region ?_
  refine JO_q (QE_mv rfl) rfl ?_
  refine JO_q (QE_as rfl) rfl ?_
  refine JO_nil ?_
  refine thenQ_n ?_
  refine JC_ret ?_
  refine retQ_mk [] L (.inr rfl) (.tmp rfl (.nil)) rfl I1.1 (fun sR hS2 => ?_)
  exact ⟨rfl, rfl⟩
set_option maxHeartbeats 1000000 in
set_option maxRecDepth 100000 in
theorem decimalI_ac (D : Nat) (L : Hl) (s : World) (w : Nat) (hw : w < 4294967296) (ih : ∀ w', w' < w → ∀ (L : Hl) (s : World), AC Tryz.prog D 43 [.int .u32 (w' : Int)] L s fun v L' _ => v = St (Lib.decDigits w') ∧ L = L') : AC Tryz.prog D 43 [.int .u32 (w : Int)] L s fun v L' _ => v = St (Lib.decDigits w) ∧ L = L' := by
 refine AC_enter (TT := TT) (fn := Tryz.f43) TT_ok Tryz.func43 (by kernel_rfl) rfl Tryz.ntmps43 rfl (rs := [.tmp 2]) rfl [(0, _)] rfl ?_
 refine JC_seq ?_
 refine JC_region ?_
 refine JO_q (QE_as rfl) rfl ?_
 refine JO_nil ?_
 refine thenQ_n ?_
 refine JC_seq ?_
 refine JC_seq ?_
 refine JC_region ?_
 refine JO_q (QE_mv rfl) rfl ?_
 refine JO_q (QE_lt rfl rfl) rfl ?_
 refine JO_nil ?_
 refine thenQ_n ?_
 refine JC_ifD rfl (fun c1 => ?_) (fun c1 => ?_)
 ·
  have hw1 : w < 10 := by omega
  refine JC_seq ?_
  refine JC_region ?_
  refine JO_q (QE_mv rfl) rfl ?_
  refine JO_q (QE_add rfl rfl) rfl ?_
  refine JO_q (QE_cast (QE_conv rfl rfl rfl rfl rfl) (dig48 hw1)) rfl ?_
  refine JO_bs [(_, _)] [_] rfl rfl rfl rfl rfl rfl rfl rfl rfl ?_
  intro βn s2 h2 hcb
  refine JO_q (QE_b2s rfl rfl rfl rfl rfl rfl rfl (bts_lit (l := [UInt8.ofNat (48 + w)]) (hcb.le (Le.refl (D := D) _)) (by simp))) rfl ?_
  refine JO_q (QE_as rfl) rfl ?_
  refine JO_nil ?_
  refine thenQ_n ?_
  refine JC_ret ?_
  refine thenQ_r ?_
  refine retQ_mk [] L (.inr rfl) (.tmp rfl (.nil)) rfl h2 (fun sR hS2 => ?_)
  exact ⟨by rw [Lib.decDigits_one hw1]; rfl, rfl⟩
 ·
  have hw1 : ¬ w < 10 := by omega
  have hl1 := dec_len (u := w / 10) (by omega)
  have hl2 := dec_len (u := w % 10) (by omega)
  refine JC_skip ?_
  refine thenQ_n ?_
  refine JC_seq ?_
  refine JC_region ?_
  refine JO_q (QE_mv rfl) rfl ?_
  refine JO_q (QE_cast (QE_quo rfl rfl (by decide)) (quo10 hw)) rfl ?_
  refine JO_call (first := []) (captured := []) rfl rfl rfl (ih (w / 10) (by omega) _ _) ?_
  rintro _ _ s3 h3 ⟨rfl, rfl⟩
  refine JO_q (QE_mv rfl) rfl ?_
  refine JO_q (QE_cast (QE_rem rfl rfl (by decide)) (rem10 w)) rfl ?_
  refine JO_call (first := []) (captured := []) rfl rfl rfl (ih (w % 10) (by omega) _ _) ?_
  rintro _ _ s4 h4 ⟨rfl, rfl⟩
  refine JO_q (QE_sadd rfl rfl (by omega)) rfl ?_
  refine JO_q (QE_as rfl) rfl ?_
  refine JO_nil ?_
  refine thenQ_n ?_
  refine JC_ret ?_
  refine retQ_mk [] L (.inr rfl) (.tmp rfl (.nil)) rfl (Le.trans h3 h4) (fun sR hS2 => ?_)
  exact ⟨by rw [dec_more hw1]; rfl, rfl⟩
theorem decimal_ac (D : Nat) (w : Nat) (hw : w < 4294967296) : ∀ (L : Hl) (s : World), AC Tryz.prog D 43 [.int .u32 (w : Int)] L s fun v L' _ => v = St (Lib.decDigits w) ∧ L = L' := by
  induction w using Nat.strongRecOn with
  | _ w ih => exact fun L s => decimalI_ac D L s w hw fun w' h => ih w' h (by omega)
set_option maxHeartbeats 1000000 in
set_option maxRecDepth 100000 in
theorem rterm_ac (D : Nat) (L : Hl) (s : World) (x : Tm) (hx : TmG x) : AC Tryz.prog D 87 [.agg #[.int .i64 x.kind, .int .u32 x.val]] L s fun v L' _ => v = St (termS x) ∧ L = L' := by
 have hu := hx.u32
 obtain ⟨k, v0⟩ := x
 obtain ⟨v, rfl⟩ := Int.eq_ofNat_of_zero_le hx.nn
 have hu2 := hu.2
 simp only at hu2
 refine AC_enter (TT := TT) (fn := Tryz.f87) TT_ok Tryz.func87 (by kernel_rfl) rfl Tryz.ntmps87 rfl (rs := [.tmp 2]) rfl [(0, _)] rfl ?_
 refine JC_seq ?_
 refine JC_region ?_
 refine JO_boxA rfl rfl ?_
 intro β1 s1 h1
 refine JO_q (QE_as rfl) rfl ?_
 refine JO_nil ?_
 refine thenQ_n ?_
 refine JC_seq ?_
 refine JC_seq ?_
 refine JC_region ?_
 refine JO_q (QE_fa0 rfl rfl rfl rfl) rfl ?_
 refine JO_q (QE_ld1 0 rfl rfl rfl rfl rfl) rfl ?_
 refine JO_q (QE_eq rfl rfl) rfl ?_
 refine JO_nil ?_
 refine thenQ_n ?_
 refine JC_ifD rfl (fun c2 => ?_) (fun c2 => ?_)
 ·
  have hk : k = 1 := c2
  have hv : v ≤ 4 := by rcases hx with ⟨h, _⟩ | ⟨_, _, h⟩ | ⟨h, _⟩ <;> simp only at h <;> omega
  refine JC_seq ?_
  refine JC_region ?_
  refine JO_q (QE_faB rfl rfl rfl rfl) rfl ?_
  refine JO_q (QE_ld1 0 rfl rfl rfl rfl rfl) rfl ?_
  refine JO_q (QE_faB rfl rfl rfl rfl) rfl ?_
  refine JO_q (QE_ld1 0 rfl rfl rfl rfl rfl) rfl ?_
  refine JO_q (QE_add' (c := ((v + 1 : Nat) : Int)) rfl rfl (w32n (by omega))) rfl ?_
  refine JO_q (QE_stLH (l := abcB) rfl rfl rfl rfl rfl (by omega) (by show v + 1 ≤ 5; omega)) rfl ?_
  refine JO_q (QE_as rfl) rfl ?_
  refine JO_nil ?_
  refine thenQ_n ?_
  refine JC_ret ?_
  refine thenQ_r ?_
  refine retQ_mk [_] L (.inr rfl) (.tmp rfl (.nil)) rfl h1 (fun sR hS2 => ?_)
  refine ⟨?_, rfl⟩
  first
    | (simp only [resV, termS, hk, if_true]; rw [reg_cut hv]; done)
    | (simp only [resV, termS, hk, hk2, if_true, if_false]; first | rfl | done)
 ·
  have hk : ¬ k = 1 := c2
  refine JC_skip ?_
  refine thenQ_n ?_
  refine JC_seq ?_
  refine JC_seq ?_
  refine JC_region ?_
  refine JO_q (QE_fa0 rfl rfl rfl rfl) rfl ?_
  refine JO_q (QE_ld1 0 rfl rfl rfl rfl rfl) rfl ?_
  refine JO_q (QE_eq rfl rfl) rfl ?_
  refine JO_nil ?_
  refine thenQ_n ?_
  refine JC_ifD rfl (fun c3 => ?_) (fun c3 => ?_)
  ·
   have hk2 : k = 2 := c3
   refine JC_seq ?_
   refine JC_region ?_
   refine JO_q (QE_as rfl) rfl ?_
   refine JO_nil ?_
   refine thenQ_n ?_
   refine JC_ret ?_
   refine thenQ_r ?_
   refine retQ_mk [_] L (.inr rfl) (.tmp rfl (.nil)) rfl h1 (fun sR hS2 => ?_)
   refine ⟨?_, rfl⟩
   first
     | (simp only [resV, termS, hk, if_true]; rw [reg_cut hv]; done)
     | (simp only [resV, termS, hk, hk2, if_true, if_false]; first | rfl | done)
  ·
   have hk2 : ¬ k = 2 := c3
   refine JC_skip ?_
   refine thenQ_n ?_
   refine JC_seq ?_
   refine JC_region ?_
   refine JO_q (QE_faB rfl rfl rfl rfl) rfl ?_
   refine JO_q (QE_ld1 0 rfl rfl rfl rfl rfl) rfl ?_
   refine JO_call (first := []) (captured := []) rfl rfl rfl (decimal_ac D v (by omega) _ _) ?_
   rintro _ _ s4 h4 ⟨rfl, rfl⟩
   refine JO_q (QE_as rfl) rfl ?_
   refine JO_nil ?_
   refine thenQ_n ?_
   refine JC_ret ?_
   refine retQ_mk [_] L (.inr rfl) (.tmp rfl (.nil)) rfl (Le.trans h1 h4) (fun sR hS2 => ?_)
   refine ⟨?_, rfl⟩
   first
     | (simp only [resV, termS, hk, if_true]; rw [reg_cut hv]; done)
     | (simp only [resV, termS, hk, hk2, if_true, if_false]; first | rfl | done)
def opNames : List (List UInt8) := [[], [115, 117, 109], [100, 105, 102, 102, 101, 114, 101, 110, 99, 101], [112, 114, 111, 100, 117, 99, 116], [113, 117, 111, 116, 105, 101, 110, 116], [114, 101, 109, 97, 105, 110, 100, 101, 114]]
def opN (k : Nat) : List UInt8 := opNames.getD k []
theorem nm_at {s : World} {b k : Nat} (h : CellsAt s b 0 (opNames.map fun x => St x)) (hk : k < 6) : CellsAt s b (0 + k) [St (opN k)] := by
  unfold CellsAt at h
  exact CellsAt.one (h k (St (opN k)) (by rw [List.getElem?_map, opN, List.getD_eq_getElem?_getD, List.getElem?_eq_getElem (show k < opNames.length from hk)]; rfl))
theorem opN_len (k : Nat) (h : k < 6) : (opN k).length ≤ 10 := by
  have h0 : ∀ k, k < 6 → (opN k).length ≤ 10 := by decide
  exact h0 k h
set_option maxHeartbeats 4000000 in
set_option maxRecDepth 100000 in
theorem rsent_ac (D : Nat) (L : Hl) (s : World) (a : Ac) (hk0 : 0 ≤ a.kind ∧ a.kind < 20) (ha : AcT a) : AC Tryz.prog D 61 [.agg #[.int .i64 a.kind, .int .i64 a.tgt, .int .i64 a.x.kind, .int .u32 a.x.val, .int .i64 a.y.kind, .int .u32 a.y.val]] L s fun v L' _ => v = St (joinW (wordsA a)) ∧ L = L' := by
 obtain ⟨ak, ato, ax, ay⟩ := a
 obtain ⟨k, rfl⟩ := Int.eq_ofNat_of_zero_le hk0.1
 obtain ⟨tn, rfl⟩ := Int.eq_ofNat_of_zero_le ha.1.1
 have hk : k < 20 := by have := hk0.2; simp only at this; omega
 have htn : tn ≤ 4 := by have := ha.1.2; simp only at this; omega
 have hkl := (term_part ha.2.1).2.1
 have hyl := (term_part ha.2.2).2.1
 simp only at hkl hyl
 have hrl : ((abcB.drop tn).take (tn + 1 - tn)).length ≤ 1 := by rw [reg_cut htn]; exact reg_short _
 dsimp only
 refine AC_enter (TT := TT) (fn := Tryz.f61) TT_ok Tryz.func61 (by kernel_rfl) rfl Tryz.ntmps61 rfl (rs := [.tmp 2]) rfl [(0, _)] rfl ?_
 refine JC_seq ?_
 refine JC_region ?_
 refine JO_boxA rfl rfl ?_
 intro β1 s1 h1
 refine JO_q (QE_as rfl) rfl ?_
 refine JO_nil ?_
 refine thenQ_n ?_
 refine JC_seq ?_
 refine JC_region ?_
 refine JO_q (QE_faB rfl rfl rfl rfl) rfl ?_
 refine JO_q (QE_ld1 0 rfl rfl rfl rfl rfl) rfl ?_
 refine JO_q (QE_faB rfl rfl rfl rfl) rfl ?_
 refine JO_q (QE_ld1 0 rfl rfl rfl rfl rfl) rfl ?_
 refine JO_q (QE_add' (c := ((tn + 1 : Nat) : Int)) rfl rfl (by rw [w64 (by omega) (by omega)]; omega)) rfl ?_
 refine JO_q (QE_stLH (l := abcB) rfl rfl rfl rfl rfl (by omega) (by show tn + 1 ≤ 5; omega)) rfl ?_
 refine JO_q (QE_as rfl) rfl ?_
 refine JO_nil ?_
 refine thenQ_n ?_
 refine JC_seq ?_
 refine JC_region ?_
 refine JO_q (QE_faB rfl rfl rfl rfl) rfl ?_
 refine JO_q (QE_ldA 0 [_, _] rfl rfl rfl rfl rfl) rfl ?_
 refine JO_call (first := []) (captured := []) rfl rfl rfl (rterm_ac D _ _ ax ha.2.1) ?_
 rintro _ _ s2 h2 ⟨rfl, rfl⟩
 refine JO_q (QE_as rfl) rfl ?_
 refine JO_nil ?_
 refine thenQ_n ?_
 refine JC_seq ?_
 refine JC_region ?_
 refine JO_q (QE_faB rfl rfl rfl rfl) rfl ?_
 refine JO_q (QE_ldA 0 [_, _] rfl rfl rfl rfl rfl) rfl ?_
 refine JO_call (first := []) (captured := []) rfl rfl rfl (rterm_ac D _ _ ay ha.2.2) ?_
 rintro _ _ s3 h3 ⟨rfl, rfl⟩
 refine JO_q (QE_as rfl) rfl ?_
 refine JO_nil ?_
 refine thenQ_n ?_
 refine JC_seq ?_
 refine JC_region ?_
 refine JO_bs [(_, _), (_, _), (_, _), (_, _), (_, _), (_, _)] [_, _, _, _, _, _] rfl rfl rfl rfl rfl rfl rfl rfl rfl ?_
 intro βn s4 h4 hcb
 refine JO_q (QE_as rfl) rfl ?_
 refine JO_nil ?_
 refine thenQ_n ?_
 refine JC_seq ?_
 refine JC_seq ?_
 refine JC_region ?_
 refine JO_q (QE_fa0 rfl rfl rfl rfl) rfl ?_
 refine JO_q (QE_ld1 0 rfl rfl rfl rfl rfl) rfl ?_
 refine JO_call (first := []) (captured := []) rfl rfl rfl (in_ac D _ _ _ _ _) ?_
 rintro _ _ s5 h5 ⟨rfl, rfl⟩
 refine JO_nil ?_
 refine thenQ_n ?_
 refine JC_ifD rfl (fun c6 => ?_) (fun c6 => ?_)
 ·
  have hk15 : k = 1 ∨ k = 2 ∨ k = 3 ∨ k = 4 ∨ k = 5 := by have := c6; omega
  have hol := opN_len k (by omega)
  refine JC_seq ?_
  refine JC_region ?_
  refine JO_q (QE_mv rfl) rfl ?_
  refine JO_q (QE_fa0 rfl rfl rfl rfl) rfl ?_
  refine JO_q (QE_ld1 0 rfl rfl rfl rfl rfl) rfl ?_
  refine JO_q (QE_ia1 rfl rfl rfl rfl rfl rfl (show k < 6 by omega)) rfl ?_
  refine JO_q (QE_ldsR0 rfl rfl rfl (nm_at (hcb.le h5) (show k < 6 by omega)) rfl) rfl ?_
  refine JO_q (QE_sadd rfl rfl (by simp only [List.length_append, List.length_cons, List.length_nil]; omega)) rfl ?_
  refine JO_q (QE_sadd rfl rfl (by simp only [List.length_append, List.length_cons, List.length_nil]; omega)) rfl ?_
  refine JO_q (QE_mv rfl) rfl ?_
  refine JO_q (QE_sadd rfl rfl (by simp only [List.length_append, List.length_cons, List.length_nil]; omega)) rfl ?_
  refine JO_q (QE_sadd rfl rfl (by simp only [List.length_append, List.length_cons, List.length_nil]; omega)) rfl ?_
  refine JO_q (QE_mv rfl) rfl ?_
  refine JO_q (QE_sadd rfl rfl (by simp only [List.length_append, List.length_cons, List.length_nil]; omega)) rfl ?_
  refine JO_q (QE_sadd rfl rfl (by simp only [List.length_append, List.length_cons, List.length_nil]; omega)) rfl ?_
  refine JO_q (QE_mv rfl) rfl ?_
  refine JO_q (QE_sadd rfl rfl (by simp only [List.length_append, List.length_cons, List.length_nil]; omega)) rfl ?_
  refine JO_q (QE_sadd rfl rfl (by simp only [List.length_append, List.length_cons, List.length_nil]; omega)) rfl ?_
  refine JO_q (QE_as rfl) rfl ?_
  refine JO_nil ?_
  refine thenQ_n ?_
  refine JC_ret ?_
  refine thenQ_r ?_
  refine retQ_mk [_] L (.inr rfl) (.tmp rfl (.nil)) rfl (Le.trans (Le.trans (Le.trans (Le.trans h1 h2) h3) h4) h5) (fun sR hS2 => ?_)
  refine ⟨?_, rfl⟩
  try simp only [reg_cut htn]
  first
    | (rcases hk15 with rfl | rfl | rfl | rfl | rfl <;> (simp [resV, wordsA, sentK, sentI, genI, joinW, opN, opNames]; done))
    | (simp [resV, wordsA, sentK, sentI, genI, joinW]; done)
 ·
  have hn15 : ¬ (1 ≤ k ∧ k ≤ 5) := by have := c6; omega
  refine JC_skip ?_
  refine thenQ_n ?_
  refine JC_seq ?_
  refine JC_seq ?_
  refine JC_region ?_
  refine JO_q (QE_fa0 rfl rfl rfl rfl) rfl ?_
  refine JO_q (QE_ld1 0 rfl rfl rfl rfl rfl) rfl ?_
  refine JO_nil ?_
  refine thenQ_n ?_
  refine JC_block ?_
  refine JC_seq ?_
  refine JC_region ?_
  refine JO_q (QE_eq rfl rfl) rfl ?_
  refine JO_q (QE_as rfl) rfl ?_
  refine JO_nil ?_
  refine thenQ_n ?_
  refine JC_ifD rfl (fun c7 => ?_) (fun c7 => ?_)
  ·
   have hkE : k = 0 := by omega
   subst hkE
   refine JC_seq ?_
   refine JC_region ?_
   refine JO_q (QE_mv rfl) rfl ?_
   refine JO_q (QE_sadd rfl rfl (by simp only [List.length_append, List.length_cons, List.length_nil]; omega)) rfl ?_
   refine JO_q (QE_sadd rfl rfl (by simp only [List.length_append, List.length_cons, List.length_nil]; omega)) rfl ?_
   refine JO_q (QE_mv rfl) rfl ?_
   refine JO_q (QE_sadd rfl rfl (by simp only [List.length_append, List.length_cons, List.length_nil]; omega)) rfl ?_
   refine JO_q (QE_sadd rfl rfl (by simp only [List.length_append, List.length_cons, List.length_nil]; omega)) rfl ?_
   refine JO_q (QE_as rfl) rfl ?_
   refine JO_nil ?_
   refine thenQ_n ?_
   refine JC_ret ?_
   refine blockQ_r ?_
   refine thenQ_r ?_
   refine retQ_mk [_] L (.inr rfl) (.tmp rfl (.nil)) rfl (Le.trans (Le.trans (Le.trans (Le.trans h1 h2) h3) h4) h5) (fun sR hS2 => ?_)
   refine ⟨?_, rfl⟩
   try simp only [reg_cut htn]
   first
     | (rcases hk15 with rfl | rfl | rfl | rfl | rfl <;> (simp [resV, wordsA, sentK, sentI, genI, joinW, opN, opNames]; done))
     | (simp [resV, wordsA, sentK, sentI, genI, joinW]; done)
  ·
   refine JC_seq ?_
   refine JC_region ?_
   refine JO_q (QE_eq rfl rfl) rfl ?_
   refine JO_q (QE_as rfl) rfl ?_
   refine JO_nil ?_
   refine thenQ_n ?_
   refine JC_ifD rfl (fun c8 => ?_) (fun c8 => ?_)
   ·
    have hkE : k = 6 := by omega
    subst hkE
    refine JC_seq ?_
    refine JC_region ?_
    refine JO_q (QE_mv rfl) rfl ?_
    refine JO_q (QE_sadd rfl rfl (by simp only [List.length_append, List.length_cons, List.length_nil]; omega)) rfl ?_
    refine JO_q (QE_sadd rfl rfl (by simp only [List.length_append, List.length_cons, List.length_nil]; omega)) rfl ?_
    refine JO_q (QE_mv rfl) rfl ?_
    refine JO_q (QE_sadd rfl rfl (by simp only [List.length_append, List.length_cons, List.length_nil]; omega)) rfl ?_
    refine JO_q (QE_sadd rfl rfl (by simp only [List.length_append, List.length_cons, List.length_nil]; omega)) rfl ?_
    refine JO_q (QE_mv rfl) rfl ?_
    refine JO_q (QE_sadd rfl rfl (by simp only [List.length_append, List.length_cons, List.length_nil]; omega)) rfl ?_
    refine JO_q (QE_sadd rfl rfl (by simp only [List.length_append, List.length_cons, List.length_nil]; omega)) rfl ?_
    refine JO_q (QE_as rfl) rfl ?_
    refine JO_nil ?_
    refine thenQ_n ?_
    refine JC_ret ?_
    refine blockQ_r ?_
    refine thenQ_r ?_
    refine retQ_mk [_] L (.inr rfl) (.tmp rfl (.nil)) rfl (Le.trans (Le.trans (Le.trans (Le.trans h1 h2) h3) h4) h5) (fun sR hS2 => ?_)
    refine ⟨?_, rfl⟩
    try simp only [reg_cut htn]
    first
      | (rcases hk15 with rfl | rfl | rfl | rfl | rfl <;> (simp [resV, wordsA, sentK, sentI, genI, joinW, opN, opNames]; done))
      | (simp [resV, wordsA, sentK, sentI, genI, joinW]; done)
   ·
    refine JC_seq ?_
    refine JC_region ?_
    refine JO_q (QE_eq rfl rfl) rfl ?_
    refine JO_q (QE_as rfl) rfl ?_
    refine JO_nil ?_
    refine thenQ_n ?_
    refine JC_ifD rfl (fun c9 => ?_) (fun c9 => ?_)
    ·
     have hkE : k = 7 := by omega
     subst hkE
     refine JC_seq ?_
     refine JC_region ?_
     refine JO_q (QE_mv rfl) rfl ?_
     refine JO_q (QE_sadd rfl rfl (by simp only [List.length_append, List.length_cons, List.length_nil]; omega)) rfl ?_
     refine JO_q (QE_sadd rfl rfl (by simp only [List.length_append, List.length_cons, List.length_nil]; omega)) rfl ?_
     refine JO_q (QE_mv rfl) rfl ?_
     refine JO_q (QE_sadd rfl rfl (by simp only [List.length_append, List.length_cons, List.length_nil]; omega)) rfl ?_
     refine JO_q (QE_sadd rfl rfl (by simp only [List.length_append, List.length_cons, List.length_nil]; omega)) rfl ?_
     refine JO_q (QE_mv rfl) rfl ?_
     refine JO_q (QE_sadd rfl rfl (by simp only [List.length_append, List.length_cons, List.length_nil]; omega)) rfl ?_
     refine JO_q (QE_sadd rfl rfl (by simp only [List.length_append, List.length_cons, List.length_nil]; omega)) rfl ?_
     refine JO_q (QE_as rfl) rfl ?_
     refine JO_nil ?_
     refine thenQ_n ?_
     refine JC_ret ?_
     refine blockQ_r ?_
     refine thenQ_r ?_
     refine retQ_mk [_] L (.inr rfl) (.tmp rfl (.nil)) rfl (Le.trans (Le.trans (Le.trans (Le.trans h1 h2) h3) h4) h5) (fun sR hS2 => ?_)
     refine ⟨?_, rfl⟩
     try simp only [reg_cut htn]
     first
       | (rcases hk15 with rfl | rfl | rfl | rfl | rfl <;> (simp [resV, wordsA, sentK, sentI, genI, joinW, opN, opNames]; done))
       | (simp [resV, wordsA, sentK, sentI, genI, joinW]; done)
    ·
     refine JC_seq ?_
     refine JC_region ?_
     refine JO_q (QE_eq rfl rfl) rfl ?_
     refine JO_q (QE_as rfl) rfl ?_
     refine JO_nil ?_
     refine thenQ_n ?_
     refine JC_ifD rfl (fun c10 => ?_) (fun c10 => ?_)
     ·
      have hkE : k = 8 := by omega
      subst hkE
      refine JC_seq ?_
      refine JC_region ?_
      refine JO_q (QE_mv rfl) rfl ?_
      refine JO_q (QE_sadd rfl rfl (by simp only [List.length_append, List.length_cons, List.length_nil]; omega)) rfl ?_
      refine JO_q (QE_sadd rfl rfl (by simp only [List.length_append, List.length_cons, List.length_nil]; omega)) rfl ?_
      refine JO_q (QE_mv rfl) rfl ?_
      refine JO_q (QE_sadd rfl rfl (by simp only [List.length_append, List.length_cons, List.length_nil]; omega)) rfl ?_
      refine JO_q (QE_sadd rfl rfl (by simp only [List.length_append, List.length_cons, List.length_nil]; omega)) rfl ?_
      refine JO_q (QE_mv rfl) rfl ?_
      refine JO_q (QE_sadd rfl rfl (by simp only [List.length_append, List.length_cons, List.length_nil]; omega)) rfl ?_
      refine JO_q (QE_sadd rfl rfl (by simp only [List.length_append, List.length_cons, List.length_nil]; omega)) rfl ?_
      refine JO_q (QE_as rfl) rfl ?_
      refine JO_nil ?_
      refine thenQ_n ?_
      refine JC_ret ?_
      refine blockQ_r ?_
      refine thenQ_r ?_
      refine retQ_mk [_] L (.inr rfl) (.tmp rfl (.nil)) rfl (Le.trans (Le.trans (Le.trans (Le.trans h1 h2) h3) h4) h5) (fun sR hS2 => ?_)
      refine ⟨?_, rfl⟩
      try simp only [reg_cut htn]
      first
        | (rcases hk15 with rfl | rfl | rfl | rfl | rfl <;> (simp [resV, wordsA, sentK, sentI, genI, joinW, opN, opNames]; done))
        | (simp [resV, wordsA, sentK, sentI, genI, joinW]; done)
     ·
      refine JC_seq ?_
      refine JC_region ?_
      refine JO_q (QE_eq rfl rfl) rfl ?_
      refine JO_q (QE_as rfl) rfl ?_
      refine JO_nil ?_
      refine thenQ_n ?_
      refine JC_ifD rfl (fun c11 => ?_) (fun c11 => ?_)
      ·
       have hkE : k = 9 := by omega
       subst hkE
       refine JC_seq ?_
       refine JC_region ?_
       refine JO_q (QE_mv rfl) rfl ?_
       refine JO_q (QE_sadd rfl rfl (by simp only [List.length_append, List.length_cons, List.length_nil]; omega)) rfl ?_
       refine JO_q (QE_sadd rfl rfl (by simp only [List.length_append, List.length_cons, List.length_nil]; omega)) rfl ?_
       refine JO_q (QE_mv rfl) rfl ?_
       refine JO_q (QE_sadd rfl rfl (by simp only [List.length_append, List.length_cons, List.length_nil]; omega)) rfl ?_
       refine JO_q (QE_sadd rfl rfl (by simp only [List.length_append, List.length_cons, List.length_nil]; omega)) rfl ?_
       refine JO_q (QE_mv rfl) rfl ?_
       refine JO_q (QE_sadd rfl rfl (by simp only [List.length_append, List.length_cons, List.length_nil]; omega)) rfl ?_
       refine JO_q (QE_sadd rfl rfl (by simp only [List.length_append, List.length_cons, List.length_nil]; omega)) rfl ?_
       refine JO_q (QE_as rfl) rfl ?_
       refine JO_nil ?_
       refine thenQ_n ?_
       refine JC_ret ?_
       refine blockQ_r ?_
       refine thenQ_r ?_
       refine retQ_mk [_] L (.inr rfl) (.tmp rfl (.nil)) rfl (Le.trans (Le.trans (Le.trans (Le.trans h1 h2) h3) h4) h5) (fun sR hS2 => ?_)
       refine ⟨?_, rfl⟩
       try simp only [reg_cut htn]
       first
         | (rcases hk15 with rfl | rfl | rfl | rfl | rfl <;> (simp [resV, wordsA, sentK, sentI, genI, joinW, opN, opNames]; done))
         | (simp [resV, wordsA, sentK, sentI, genI, joinW]; done)
      ·
       refine JC_seq ?_
       refine JC_region ?_
       refine JO_q (QE_eq rfl rfl) rfl ?_
       refine JO_q (QE_as rfl) rfl ?_
       refine JO_nil ?_
       refine thenQ_n ?_
       refine JC_ifD rfl (fun c12 => ?_) (fun c12 => ?_)
       ·
        have hkE : k = 10 := by omega
        subst hkE
        refine JC_seq ?_
        refine JC_region ?_
        refine JO_q (QE_mv rfl) rfl ?_
        refine JO_q (QE_sadd rfl rfl (by simp only [List.length_append, List.length_cons, List.length_nil]; omega)) rfl ?_
        refine JO_q (QE_sadd rfl rfl (by simp only [List.length_append, List.length_cons, List.length_nil]; omega)) rfl ?_
        refine JO_q (QE_mv rfl) rfl ?_
        refine JO_q (QE_sadd rfl rfl (by simp only [List.length_append, List.length_cons, List.length_nil]; omega)) rfl ?_
        refine JO_q (QE_sadd rfl rfl (by simp only [List.length_append, List.length_cons, List.length_nil]; omega)) rfl ?_
        refine JO_q (QE_mv rfl) rfl ?_
        refine JO_q (QE_sadd rfl rfl (by simp only [List.length_append, List.length_cons, List.length_nil]; omega)) rfl ?_
        refine JO_q (QE_sadd rfl rfl (by simp only [List.length_append, List.length_cons, List.length_nil]; omega)) rfl ?_
        refine JO_q (QE_as rfl) rfl ?_
        refine JO_nil ?_
        refine thenQ_n ?_
        refine JC_ret ?_
        refine blockQ_r ?_
        refine thenQ_r ?_
        refine retQ_mk [_] L (.inr rfl) (.tmp rfl (.nil)) rfl (Le.trans (Le.trans (Le.trans (Le.trans h1 h2) h3) h4) h5) (fun sR hS2 => ?_)
        refine ⟨?_, rfl⟩
        try simp only [reg_cut htn]
        first
          | (rcases hk15 with rfl | rfl | rfl | rfl | rfl <;> (simp [resV, wordsA, sentK, sentI, genI, joinW, opN, opNames]; done))
          | (simp [resV, wordsA, sentK, sentI, genI, joinW]; done)
       ·
        refine JC_seq ?_
        refine JC_region ?_
        refine JO_q (QE_eq rfl rfl) rfl ?_
        refine JO_q (QE_as rfl) rfl ?_
        refine JO_nil ?_
        refine thenQ_n ?_
        refine JC_ifD rfl (fun c13 => ?_) (fun c13 => ?_)
        ·
         have hkE : k = 11 := by omega
         subst hkE
         refine JC_seq ?_
         refine JC_region ?_
         refine JO_q (QE_mv rfl) rfl ?_
         refine JO_q (QE_sadd rfl rfl (by simp only [List.length_append, List.length_cons, List.length_nil]; omega)) rfl ?_
         refine JO_q (QE_sadd rfl rfl (by simp only [List.length_append, List.length_cons, List.length_nil]; omega)) rfl ?_
         refine JO_q (QE_mv rfl) rfl ?_
         refine JO_q (QE_sadd rfl rfl (by simp only [List.length_append, List.length_cons, List.length_nil]; omega)) rfl ?_
         refine JO_q (QE_sadd rfl rfl (by simp only [List.length_append, List.length_cons, List.length_nil]; omega)) rfl ?_
         refine JO_q (QE_mv rfl) rfl ?_
         refine JO_q (QE_sadd rfl rfl (by simp only [List.length_append, List.length_cons, List.length_nil]; omega)) rfl ?_
         refine JO_q (QE_sadd rfl rfl (by simp only [List.length_append, List.length_cons, List.length_nil]; omega)) rfl ?_
         refine JO_q (QE_as rfl) rfl ?_
         refine JO_nil ?_
         refine thenQ_n ?_
         refine JC_ret ?_
         refine blockQ_r ?_
         refine thenQ_r ?_
         refine retQ_mk [_] L (.inr rfl) (.tmp rfl (.nil)) rfl (Le.trans (Le.trans (Le.trans (Le.trans h1 h2) h3) h4) h5) (fun sR hS2 => ?_)
         refine ⟨?_, rfl⟩
         try simp only [reg_cut htn]
         first
           | (rcases hk15 with rfl | rfl | rfl | rfl | rfl <;> (simp [resV, wordsA, sentK, sentI, genI, joinW, opN, opNames]; done))
           | (simp [resV, wordsA, sentK, sentI, genI, joinW]; done)
        ·
         refine JC_seq ?_
         refine JC_region ?_
         refine JO_q (QE_eq rfl rfl) rfl ?_
         refine JO_q (QE_as rfl) rfl ?_
         refine JO_nil ?_
         refine thenQ_n ?_
         refine JC_ifD rfl (fun c14 => ?_) (fun c14 => ?_)
         ·
          have hkE : k = 12 := by omega
          subst hkE
          refine JC_seq ?_
          refine JC_region ?_
          refine JO_q (QE_mv rfl) rfl ?_
          refine JO_q (QE_sadd rfl rfl (by simp only [List.length_append, List.length_cons, List.length_nil]; omega)) rfl ?_
          refine JO_q (QE_sadd rfl rfl (by simp only [List.length_append, List.length_cons, List.length_nil]; omega)) rfl ?_
          refine JO_q (QE_mv rfl) rfl ?_
          refine JO_q (QE_sadd rfl rfl (by simp only [List.length_append, List.length_cons, List.length_nil]; omega)) rfl ?_
          refine JO_q (QE_sadd rfl rfl (by simp only [List.length_append, List.length_cons, List.length_nil]; omega)) rfl ?_
          refine JO_q (QE_mv rfl) rfl ?_
          refine JO_q (QE_sadd rfl rfl (by simp only [List.length_append, List.length_cons, List.length_nil]; omega)) rfl ?_
          refine JO_q (QE_sadd rfl rfl (by simp only [List.length_append, List.length_cons, List.length_nil]; omega)) rfl ?_
          refine JO_q (QE_as rfl) rfl ?_
          refine JO_nil ?_
          refine thenQ_n ?_
          refine JC_ret ?_
          refine blockQ_r ?_
          refine thenQ_r ?_
          refine retQ_mk [_] L (.inr rfl) (.tmp rfl (.nil)) rfl (Le.trans (Le.trans (Le.trans (Le.trans h1 h2) h3) h4) h5) (fun sR hS2 => ?_)
          refine ⟨?_, rfl⟩
          try simp only [reg_cut htn]
          first
            | (rcases hk15 with rfl | rfl | rfl | rfl | rfl <;> (simp [resV, wordsA, sentK, sentI, genI, joinW, opN, opNames]; done))
            | (simp [resV, wordsA, sentK, sentI, genI, joinW]; done)
         ·
          refine JC_seq ?_
          refine JC_region ?_
          refine JO_q (QE_eq rfl rfl) rfl ?_
          refine JO_q (QE_as rfl) rfl ?_
          refine JO_nil ?_
          refine thenQ_n ?_
          refine JC_ifD rfl (fun c15 => ?_) (fun c15 => ?_)
          ·
           have hkE : k = 13 := by omega
           subst hkE
           refine JC_seq ?_
           refine JC_region ?_
           refine JO_q (QE_mv rfl) rfl ?_
           refine JO_q (QE_sadd rfl rfl (by simp only [List.length_append, List.length_cons, List.length_nil]; omega)) rfl ?_
           refine JO_q (QE_sadd rfl rfl (by simp only [List.length_append, List.length_cons, List.length_nil]; omega)) rfl ?_
           refine JO_q (QE_mv rfl) rfl ?_
           refine JO_q (QE_sadd rfl rfl (by simp only [List.length_append, List.length_cons, List.length_nil]; omega)) rfl ?_
           refine JO_q (QE_sadd rfl rfl (by simp only [List.length_append, List.length_cons, List.length_nil]; omega)) rfl ?_
           refine JO_q (QE_as rfl) rfl ?_
           refine JO_nil ?_
           refine thenQ_n ?_
           refine JC_ret ?_
           refine blockQ_r ?_
           refine thenQ_r ?_
           refine retQ_mk [_] L (.inr rfl) (.tmp rfl (.nil)) rfl (Le.trans (Le.trans (Le.trans (Le.trans h1 h2) h3) h4) h5) (fun sR hS2 => ?_)
           refine ⟨?_, rfl⟩
           try simp only [reg_cut htn]
           first
             | (rcases hk15 with rfl | rfl | rfl | rfl | rfl <;> (simp [resV, wordsA, sentK, sentI, genI, joinW, opN, opNames]; done))
             | (simp [resV, wordsA, sentK, sentI, genI, joinW]; done)
          ·
           refine JC_seq ?_
           refine JC_region ?_
           refine JO_q (QE_eq rfl rfl) rfl ?_
           refine JO_q (QE_as rfl) rfl ?_
           refine JO_nil ?_
           refine thenQ_n ?_
           refine JC_ifD rfl (fun c16 => ?_) (fun c16 => ?_)
           ·
            have hkE : k = 14 := by omega
            subst hkE
            refine JC_seq ?_
            refine JC_region ?_
            refine JO_q (QE_mv rfl) rfl ?_
            refine JO_q (QE_sadd rfl rfl (by simp only [List.length_append, List.length_cons, List.length_nil]; omega)) rfl ?_
            refine JO_q (QE_sadd rfl rfl (by simp only [List.length_append, List.length_cons, List.length_nil]; omega)) rfl ?_
            refine JO_q (QE_mv rfl) rfl ?_
            refine JO_q (QE_sadd rfl rfl (by simp only [List.length_append, List.length_cons, List.length_nil]; omega)) rfl ?_
            refine JO_q (QE_sadd rfl rfl (by simp only [List.length_append, List.length_cons, List.length_nil]; omega)) rfl ?_
            refine JO_q (QE_as rfl) rfl ?_
            refine JO_nil ?_
            refine thenQ_n ?_
            refine JC_ret ?_
            refine blockQ_r ?_
            refine thenQ_r ?_
            refine retQ_mk [_] L (.inr rfl) (.tmp rfl (.nil)) rfl (Le.trans (Le.trans (Le.trans (Le.trans h1 h2) h3) h4) h5) (fun sR hS2 => ?_)
            refine ⟨?_, rfl⟩
            try simp only [reg_cut htn]
            first
              | (rcases hk15 with rfl | rfl | rfl | rfl | rfl <;> (simp [resV, wordsA, sentK, sentI, genI, joinW, opN, opNames]; done))
              | (simp [resV, wordsA, sentK, sentI, genI, joinW]; done)
           ·
            refine JC_seq ?_
            refine JC_region ?_
            refine JO_q (QE_eq rfl rfl) rfl ?_
            refine JO_q (QE_as rfl) rfl ?_
            refine JO_nil ?_
            refine thenQ_n ?_
            refine JC_ifD rfl (fun c17 => ?_) (fun c17 => ?_)
            ·
             have hkE : k = 15 := by omega
             subst hkE
             refine JC_seq ?_
             refine JC_region ?_
             refine JO_q (QE_mv rfl) rfl ?_
             refine JO_q (QE_sadd rfl rfl (by simp only [List.length_append, List.length_cons, List.length_nil]; omega)) rfl ?_
             refine JO_q (QE_sadd rfl rfl (by simp only [List.length_append, List.length_cons, List.length_nil]; omega)) rfl ?_
             refine JO_q (QE_as rfl) rfl ?_
             refine JO_nil ?_
             refine thenQ_n ?_
             refine JC_ret ?_
             refine blockQ_r ?_
             refine thenQ_r ?_
             refine retQ_mk [_] L (.inr rfl) (.tmp rfl (.nil)) rfl (Le.trans (Le.trans (Le.trans (Le.trans h1 h2) h3) h4) h5) (fun sR hS2 => ?_)
             refine ⟨?_, rfl⟩
             try simp only [reg_cut htn]
             first
               | (rcases hk15 with rfl | rfl | rfl | rfl | rfl <;> (simp [resV, wordsA, sentK, sentI, genI, joinW, opN, opNames]; done))
               | (simp [resV, wordsA, sentK, sentI, genI, joinW]; done)
            ·
             refine JC_seq ?_
             refine JC_region ?_
             refine JO_q (QE_eq rfl rfl) rfl ?_
             refine JO_q (QE_as rfl) rfl ?_
             refine JO_nil ?_
             refine thenQ_n ?_
             refine JC_ifD rfl (fun c18 => ?_) (fun c18 => ?_)
             ·
              have hkE : k = 16 := by omega
              subst hkE
              refine JC_seq ?_
              refine JC_region ?_
              refine JO_q (QE_mv rfl) rfl ?_
              refine JO_q (QE_sadd rfl rfl (by simp only [List.length_append, List.length_cons, List.length_nil]; omega)) rfl ?_
              refine JO_q (QE_sadd rfl rfl (by simp only [List.length_append, List.length_cons, List.length_nil]; omega)) rfl ?_
              refine JO_q (QE_as rfl) rfl ?_
              refine JO_nil ?_
              refine thenQ_n ?_
              refine JC_ret ?_
              refine blockQ_r ?_
              refine thenQ_r ?_
              refine retQ_mk [_] L (.inr rfl) (.tmp rfl (.nil)) rfl (Le.trans (Le.trans (Le.trans (Le.trans h1 h2) h3) h4) h5) (fun sR hS2 => ?_)
              refine ⟨?_, rfl⟩
              try simp only [reg_cut htn]
              first
                | (rcases hk15 with rfl | rfl | rfl | rfl | rfl <;> (simp [resV, wordsA, sentK, sentI, genI, joinW, opN, opNames]; done))
                | (simp [resV, wordsA, sentK, sentI, genI, joinW]; done)
             ·
              refine JC_seq ?_
              refine JC_region ?_
              refine JO_q (QE_eq rfl rfl) rfl ?_
              refine JO_q (QE_as rfl) rfl ?_
              refine JO_nil ?_
              refine thenQ_n ?_
              refine JC_ifD rfl (fun c19 => ?_) (fun c19 => ?_)
              ·
               have hkE : k = 17 := by omega
               subst hkE
               refine JC_seq ?_
               refine JC_region ?_
               refine JO_q (QE_mv rfl) rfl ?_
               refine JO_q (QE_sadd rfl rfl (by simp only [List.length_append, List.length_cons, List.length_nil]; omega)) rfl ?_
               refine JO_q (QE_sadd rfl rfl (by simp only [List.length_append, List.length_cons, List.length_nil]; omega)) rfl ?_
               refine JO_q (QE_as rfl) rfl ?_
               refine JO_nil ?_
               refine thenQ_n ?_
               refine JC_ret ?_
               refine blockQ_r ?_
               refine thenQ_r ?_
               refine retQ_mk [_] L (.inr rfl) (.tmp rfl (.nil)) rfl (Le.trans (Le.trans (Le.trans (Le.trans h1 h2) h3) h4) h5) (fun sR hS2 => ?_)
               refine ⟨?_, rfl⟩
               try simp only [reg_cut htn]
               first
                 | (rcases hk15 with rfl | rfl | rfl | rfl | rfl <;> (simp [resV, wordsA, sentK, sentI, genI, joinW, opN, opNames]; done))
                 | (simp [resV, wordsA, sentK, sentI, genI, joinW]; done)
              ·
               refine JC_seq ?_
               refine JC_region ?_
               refine JO_q (QE_eq rfl rfl) rfl ?_
               refine JO_q (QE_as rfl) rfl ?_
               refine JO_nil ?_
               refine thenQ_n ?_
               refine JC_ifD rfl (fun c20 => ?_) (fun c20 => ?_)
               ·
                have hkE : k = 18 := by omega
                subst hkE
                refine JC_seq ?_
                refine JC_region ?_
                refine JO_q (QE_mv rfl) rfl ?_
                refine JO_q (QE_sadd rfl rfl (by simp only [List.length_append, List.length_cons, List.length_nil]; omega)) rfl ?_
                refine JO_q (QE_sadd rfl rfl (by simp only [List.length_append, List.length_cons, List.length_nil]; omega)) rfl ?_
                refine JO_q (QE_mv rfl) rfl ?_
                refine JO_q (QE_sadd rfl rfl (by simp only [List.length_append, List.length_cons, List.length_nil]; omega)) rfl ?_
                refine JO_q (QE_sadd rfl rfl (by simp only [List.length_append, List.length_cons, List.length_nil]; omega)) rfl ?_
                refine JO_q (QE_as rfl) rfl ?_
                refine JO_nil ?_
                refine thenQ_n ?_
                refine JC_ret ?_
                refine blockQ_r ?_
                refine thenQ_r ?_
                refine retQ_mk [_] L (.inr rfl) (.tmp rfl (.nil)) rfl (Le.trans (Le.trans (Le.trans (Le.trans h1 h2) h3) h4) h5) (fun sR hS2 => ?_)
                refine ⟨?_, rfl⟩
                try simp only [reg_cut htn]
                first
                  | (rcases hk15 with rfl | rfl | rfl | rfl | rfl <;> (simp [resV, wordsA, sentK, sentI, genI, joinW, opN, opNames]; done))
                  | (simp [resV, wordsA, sentK, sentI, genI, joinW]; done)
               ·
                have hkE : k = 19 := by omega
                subst hkE
                refine JC_skip ?_
                refine blockQ_n ?_
                refine thenQ_n ?_
                refine JC_seq ?_
                refine JC_region ?_
                refine JO_q (QE_mv rfl) rfl ?_
                refine JO_q (QE_sadd rfl rfl (by simp only [List.length_append, List.length_cons, List.length_nil]; omega)) rfl ?_
                refine JO_q (QE_sadd rfl rfl (by simp only [List.length_append, List.length_cons, List.length_nil]; omega)) rfl ?_
                refine JO_q (QE_mv rfl) rfl ?_
                refine JO_q (QE_sadd rfl rfl (by simp only [List.length_append, List.length_cons, List.length_nil]; omega)) rfl ?_
                refine JO_q (QE_sadd rfl rfl (by simp only [List.length_append, List.length_cons, List.length_nil]; omega)) rfl ?_
                refine JO_q (QE_mv rfl) rfl ?_
                refine JO_q (QE_sadd rfl rfl (by simp only [List.length_append, List.length_cons, List.length_nil]; omega)) rfl ?_
                refine JO_q (QE_sadd rfl rfl (by simp only [List.length_append, List.length_cons, List.length_nil]; omega)) rfl ?_
                refine JO_q (QE_as rfl) rfl ?_
                refine JO_nil ?_
                refine thenQ_n ?_
                refine JC_ret ?_
                refine retQ_mk [_] L (.inr rfl) (.tmp rfl (.nil)) rfl (Le.trans (Le.trans (Le.trans (Le.trans h1 h2) h3) h4) h5) (fun sR hS2 => ?_)
                refine ⟨?_, rfl⟩
                try simp only [reg_cut htn]
                first
                  | (rcases hk15 with rfl | rfl | rfl | rfl | rfl <;> (simp [resV, wordsA, sentK, sentI, genI, joinW, opN, opNames]; done))
                  | (simp [resV, wordsA, sentK, sentI, genI, joinW]; done)
end Go.Proofs.YtoeeblegplghmaaGreatDoor
namespace Go.Proofs.YtoeeblegplghmaaGreatDoor
open Go.FL
attribute [local irreducible] JC JO JA JB thenQ blockQ retQ AC fill CellsAt QE Ev Mid
def orderB : List UInt8 := [32, 97, 98, 99, 100, 101, 102, 103, 104, 105, 106, 107, 108, 109, 110, 111, 112, 113, 114, 115, 116, 117, 118, 119, 120, 121, 122, 65, 66, 67, 68, 69, 70, 71, 72, 73, 74, 75, 76, 77, 78, 79, 80, 81, 82, 83, 84, 85, 86, 87, 88, 89, 90, 48, 49, 50, 51, 52, 53, 54, 55, 56, 57, 46, 44, 59, 58]
theorem val_find0 : ∀ n, n < 256 → findB orderB (((UInt8.ofNat n).toNat : Nat) : Int) = valC (UInt8.ofNat n) := by decide +kernel
theorem val_find (c : UInt8) : findB orderB (c.toNat : Int) = valC c := by
  have := val_find0 c.toNat c.toNat_lt
  rwa [UInt8.ofNat_toNat] at this
theorem join_cell (c : Int) : joinW (cellW c) = joinW (machL.take 3) ++ 32 :: (decS c ++ 32 :: joinW (machL.drop 4)) := by
  rw [cellW, List.set_eq_take_append_cons_drop, if_pos (by rw [mach_len]; decide), join_app _ _ (by intro h; have := congrArg List.length h; rw [List.length_take, mach_len] at this; simp at this) (by simp)]
  congr 2
theorem open_fin {a b : List UInt8} {X : List UInt8} {c : Int} (hX : X = decS c) (ha : a = joinW (machL.take 3) ++ [32]) (hb : b = 32 :: joinW (machL.drop 4)) : a ++ (X ++ b) = joinW (cellW c) := by
  rw [join_cell, ha, hb, hX, List.append_assoc]; rfl
theorem joinN_snoc : ∀ (l : List (List UInt8)) (x : List UInt8), l ≠ [] → joinN (l ++ [x]) = joinN l ++ 10 :: x
  | [], _, h => absurd rfl h
  | [y], x, _ => rfl
  | y :: z :: r, x, _ => by
    have := joinN_snoc (z :: r) x (by simp)
    show y ++ 10 :: joinN ((z :: r) ++ [x]) = (y ++ 10 :: joinN (z :: r)) ++ 10 :: x
    rw [this, List.append_assoc]; rfl
theorem flds_lined {ws : List (List UInt8)} (h : ∀ w ∈ ws, bare1 w) {cn : Nat} (hc : chkS (joinW ws) = (cn : Int)) : flds (((joinW ws ++ [32, 67, 104, 101, 99, 107, 32]) ++ Lib.decDigits cn) ++ [46]) = withC ws := by
  have h1 := flds_row h (cn : Int) []
  rw [List.append_nil, flds_nil, List.append_nil] at h1
  rw [withC, hc, ← h1, ← flds_end _ 10 rfl]
  congr 1
  simp [rowP, cCheck, decS]
theorem linesT_size {t : Tab} (hT : TabP t) : sizeW (linesT t) ≤ 60000 := by
  have h1 := paras_len t.ins hT.ins
  have h2 := lines_len (withC (cellW t.cells))
  have h3 := withC_size (cellW t.cells)
  have h4 := para_size hT (cellW t.cells) (by simp [parasT])
  have h5 := hT.len
  rw [linesT, parasT, List.map_cons, sizeW_cons]
  omega
theorem take_size (l : List (List UInt8)) (k : Nat) : sizeW (l.take k) ≤ sizeW l := by
  have h := sizeW_app (l.take k) (l.drop k)
  rw [List.take_append_drop] at h; omega
theorem linesT_at {t : Tab} {k : Nat} {x : Ins} (h : t.ins[k]? = some x) : joinN ((linesT t).take (k + 1 + 1)) = (joinN ((linesT t).take (k + 1)) ++ [10]) ++ linesW (withC (insW x)) := by
  have hl : (linesT t)[k + 1]? = some (linesW (withC (insW x))) := by rw [linesT, parasT, List.map_cons, List.getElem?_cons_succ, List.map_map, List.getElem?_map, h]; rfl
  obtain ⟨hk, he⟩ := List.getElem?_eq_some_iff.1 hl
  rw [List.take_succ_eq_append_getElem hk, he, joinN_snoc _ _ (by intro e; have := congrArg List.length e; rw [List.length_take] at this; simp at this; rw [this] at hk; simp at hk), List.append_assoc]; rfl
set_option maxHeartbeats 1000000 in
set_option maxRecDepth 100000 in
theorem rhead_ac (D : Nat) (L : Hl) (s : World) (c : Int) (hu : U32 c) (nm : List UInt8) (hn : nm.length ≤ 1000000) (o : Bool) : AC Tryz.prog D 60 [.int .u32 c, St nm, .bool o] L s fun v L' _ => v = St (joinW (headW c nm o)) ∧ L = L' := by
 obtain ⟨u, rfl⟩ := Int.eq_ofNat_of_zero_le hu.1
 have hu2 := hu.2
 have hdl := dec_len (u := u) (by omega)
 refine AC_enter (TT := TT) (fn := Tryz.f60) TT_ok Tryz.func60 (by kernel_rfl) rfl Tryz.ntmps60 rfl (rs := [.tmp 6]) rfl [(0, _), (1, _), (2, _)] rfl ?_
 refine JC_seq ?_
 refine JC_region ?_
 refine JO_q (QE_as rfl) rfl ?_
 refine JO_nil ?_
 refine thenQ_n ?_
 refine JC_seq ?_
 refine JC_region ?_
 refine JO_q (QE_mv rfl) rfl ?_
 refine JO_call (first := []) (captured := []) rfl rfl rfl (decimal_ac D u (by omega) _ _) ?_
 rintro _ _ s1 h1 ⟨rfl, rfl⟩
 refine JO_q (QE_sadd rfl rfl (by simp only [List.length_append, List.length_cons, List.length_nil]; omega)) rfl ?_
 refine JO_q (QE_sadd rfl rfl (by simp only [List.length_append, List.length_cons, List.length_nil]; omega)) rfl ?_
 refine JO_q (QE_mv rfl) rfl ?_
 refine JO_q (QE_sadd rfl rfl (by simp only [List.length_append, List.length_cons, List.length_nil]; omega)) rfl ?_
 refine JO_q (QE_sadd rfl rfl (by simp only [List.length_append, List.length_cons, List.length_nil]; omega)) rfl ?_
 refine JO_q (QE_as rfl) rfl ?_
 refine JO_nil ?_
 refine thenQ_n ?_
 refine JC_seq ?_
 refine JC_seq ?_
 refine JC_region ?_
 refine JO_q (QE_mv rfl) rfl ?_
 refine JO_nil ?_
 refine thenQ_n ?_
 refine JC_if rfl (fun c2 => ?_) (fun c2 => ?_)
 ·
  have ho : o = true := c2
  refine JC_seq ?_
  refine JC_region ?_
  refine JO_q (QE_mv rfl) rfl ?_
  refine JO_q (QE_sadd rfl rfl (by simp only [List.length_append, List.length_cons, List.length_nil]; omega)) rfl ?_
  refine JO_q (QE_as rfl) rfl ?_
  refine JO_nil ?_
  refine thenQ_n ?_
  refine JC_ret ?_
  refine thenQ_r ?_
  refine retQ_mk [] L (.inr rfl) (.tmp rfl (.nil)) rfl h1 (fun sR hS2 => ?_)
  exact ⟨by rw [join_head, ho]; simp [resV, decS, anB], rfl⟩
 ·
  have ho : o = false := c2
  refine JC_skip ?_
  refine thenQ_n ?_
  refine JC_seq ?_
  refine JC_region ?_
  refine JO_q (QE_mv rfl) rfl ?_
  refine JO_q (QE_sadd rfl rfl (by simp only [List.length_append, List.length_cons, List.length_nil]; omega)) rfl ?_
  refine JO_q (QE_as rfl) rfl ?_
  refine JO_nil ?_
  refine thenQ_n ?_
  refine JC_ret ?_
  refine retQ_mk [] L (.inr rfl) (.tmp rfl (.nil)) rfl h1 (fun sR hS2 => ?_)
  exact ⟨by rw [join_head, ho]; simp [resV, decS, anB], rfl⟩
set_option maxHeartbeats 2000000 in
set_option maxRecDepth 100000 in
theorem rdesc_ac (D : Nat) (L : Hl) (s : World) (x : Ins) (A : Option Addr) (n c : Nat) (hA : Acs s A n c x.acts) (hx : InsP x) : AC Tryz.prog D 33 [.agg #[St x.name, .int .u32 x.code, .bool x.operand, .slice A n c]] L s fun v L' _ => v = St (joinW (insW x)) ∧ L = L' := by
 have hn := hA.1
 have hfew := hx.few
 have hnm := hx.nm
 simp only [labelB, Bool.and_eq_true, decide_eq_true_eq] at hnm
 refine AC_enter (TT := TT) (fn := Tryz.f33) TT_ok Tryz.func33 (by kernel_rfl) rfl Tryz.ntmps33 rfl (rs := [.tmp 2]) rfl [(0, _)] rfl ?_
 refine JC_seq ?_
 refine JC_region ?_
 refine JO_boxA rfl rfl ?_
 intro β1 s1 h1
 refine JO_q (QE_as rfl) rfl ?_
 refine JO_nil ?_
 refine thenQ_n ?_
 refine JC_seq ?_
 refine JC_region ?_
 refine JO_q (QE_faB rfl rfl rfl rfl) rfl ?_
 refine JO_q (QE_ld1 0 rfl rfl rfl rfl rfl) rfl ?_
 refine JO_q (QE_fa0 rfl rfl rfl rfl) rfl ?_
 refine JO_q (QE_ld1 0 rfl rfl rfl rfl rfl) rfl ?_
 refine JO_q (QE_faB rfl rfl rfl rfl) rfl ?_
 refine JO_q (QE_ld1 0 rfl rfl rfl rfl rfl) rfl ?_
 refine JO_call (first := []) (captured := []) rfl rfl rfl (rhead_ac D _ _ x.code hx.code x.name (by omega) x.operand) ?_
 rintro _ _ s2 h2 ⟨rfl, rfl⟩
 refine JO_q (QE_as rfl) rfl ?_
 refine JO_nil ?_
 refine thenQ_n ?_
 refine JC_seq ?_
 refine JC_seq ?_
 refine JC_region ?_
 refine JO_q (QE_as rfl) rfl ?_
 refine JO_nil ?_
 refine thenQ_n ?_
 refine JC_block ?_
 refine JC_loop (γ := Nat × List UInt8) (fun g => [(1, _), (2, _), (3, St g.2), (4, .int .i64 (g.1 : Int))]) (fun _ => _) (fun g tw => Le D s2 tw ∧ (g.1 ≤ n ∧ g.2 = joinW (headW x.code x.name x.operand) ++ ((x.acts.take g.1).map fun a => 32 :: joinW (wordsA a)).flatten)) (fun g => n - g.1) (fun _ _ _ h hl => ⟨h.1.trans hl, h.2⟩) (0, joinW (headW x.code x.name x.operand)) (Keeps.cons rfl (Keeps.cons rfl (Keeps.cons rfl (Keeps.cons rfl (Keeps.nil _))))) rfl ⟨Le.refl _, ⟨Nat.zero_le _, by simp⟩⟩ ?_
 intro g s3 I3
 obtain ⟨k, sv⟩ := g
 obtain ⟨hk0, hE⟩ := I3.2
 simp only at hk0 hE
 dsimp only
 have hsl : sv.length ≤ 700 := by
   have h1 := join_ins (x := x) (x.acts.take k) (headW x.code x.name x.operand) (by simp [headW]) (fun a ha => hx.acts a (List.mem_of_mem_take ha))
   rw [hE, ← h1]
   exact Nat.le_trans (join_len _) (part_size hx k)
 refine JC_seq ?_
 refine JC_seq ?_
 refine JC_region ?_
 refine JO_q (QE_mv rfl) rfl ?_
 refine JO_q (QE_faB rfl rfl rfl rfl) rfl ?_
 refine JO_q (QE_ld1 0 rfl rfl rfl rfl rfl) rfl ?_
 refine JO_q (QE_lenS rfl rfl rfl) rfl ?_
 refine JO_q (QE_lt rfl rfl) rfl ?_
 refine JO_nil ?_
 refine thenQ_n ?_
 refine JC_ifD rfl (fun c4 => ?_) (fun c4 => ?_)
 ·
  have hk : k < n := by omega
  obtain ⟨b, off, a, rfl, ha, hca, _⟩ := Acs.at_ (hA.le (Le.trans (Le.trans h1 h2) I3.1)) hk
  have haC := hx.acts a (List.mem_of_getElem? ha)
  have hwz := words_size haC
  have hwl := join_len (wordsA a)
  refine JC_skip ?_
  refine thenQ_n ?_
  refine JC_seq ?_
  refine JC_block ?_
  refine JC_region ?_
  refine JO_q (QE_mv rfl) rfl ?_
  refine JO_q (QE_sadd rfl rfl (by simp only [List.length_append, List.length_cons, List.length_nil]; omega)) rfl ?_
  refine JO_q (QE_faB rfl rfl rfl rfl) rfl ?_
  refine JO_q (QE_ld1 0 rfl rfl rfl rfl rfl) rfl ?_
  refine JO_q (QE_mv rfl) rfl ?_
  refine JO_q (QE_iaN rfl rfl rfl rfl rfl rfl hk) rfl ?_
  refine JO_q (QE_ldsA rfl rfl rfl (hca.le (Le.refl (D := D) _)) rfl) rfl ?_
  refine JO_call (first := []) (captured := []) rfl rfl rfl (rsent_ac D _ _ a haC.1 haC.2.1) ?_
  rintro _ _ s5 h5 ⟨rfl, rfl⟩
  refine JO_q (QE_sadd rfl rfl (by simp only [List.length_append, List.length_cons, List.length_nil]; omega)) rfl ?_
  refine JO_q (QE_as rfl) rfl ?_
  refine JO_nil ?_
  refine blockQ_n ?_
  refine thenQ_n ?_
  refine JC_region ?_
  refine JO_q (QE_mv rfl) rfl ?_
  refine JO_q (QE_add' rfl rfl (w64 (by omega) (by omega))) rfl ?_
  refine JO_q (QE_as rfl) rfl ?_
  refine JO_nil ?_
  refine thenQ_n ⟨(k + 1, (sv ++ [32]) ++ joinW (wordsA a)), [], (Keeps.cons rfl (Keeps.cons rfl (Keeps.cons rfl (Keeps.cons rfl (Keeps.nil _))))), rfl, ⟨(Le.trans I3.1 h5), ⟨by simp only; omega, by
    obtain ⟨hj, he⟩ := List.getElem?_eq_some_iff.1 ha
    simp only; rw [hE, List.take_succ_eq_append_getElem hj, he, List.map_append, List.flatten_append]; simp⟩⟩, (by simp only; omega)⟩
 ·
  have hfin : sv = joinW (insW x) := by
    rw [hE, List.take_of_length_le (by omega), insW, join_ins (x := x) x.acts (headW x.code x.name x.operand) (by simp [headW]) hx.acts]
  refine JC_exit ?_
  refine thenQ_x ?_
  refine thenQ_x ?_
  refine blockQ_x ?_
  refine thenQ_n ?_
  refine JC_seq ?_
  refine JC_region ?_
  refine JO_q (QE_mv rfl) rfl ?_
  refine JO_q (QE_as rfl) rfl ?_
  refine JO_nil ?_
  refine thenQ_n ?_
  refine JC_ret ?_
  refine retQ_mk [_] L (.inr rfl) (.tmp rfl (.nil)) rfl (Le.trans (Le.trans h1 h2) I3.1) (fun sR hS2 => ?_)
  exact ⟨by rw [hfin]; rfl, rfl⟩
set_option maxHeartbeats 1000000 in
set_option maxRecDepth 100000 in
theorem rval_ac (D : Nat) (L : Hl) (s : World) (c : UInt8) : AC Tryz.prog D 74 [.int .u8 (c.toNat : Int)] L s fun v L' _ => v = .int .i64 (valC c) ∧ L = L' := by
 refine AC_enter (TT := TT) (fn := Tryz.f74) TT_ok Tryz.func74 (by kernel_rfl) rfl Tryz.ntmps74 rfl (rs := [.tmp 2]) rfl [(0, _)] rfl ?_
 refine JC_seq ?_
 refine JC_region ?_
 refine JO_q (QE_as rfl) rfl ?_
 refine JO_nil ?_
 refine thenQ_n ?_
 refine JC_seq ?_
 refine JC_region ?_
 refine JO_q (QE_mv rfl) rfl ?_
 refine JO_call (first := []) (captured := []) rfl rfl rfl (find7_ac D _ _ orderB _ (by decide)) ?_
 rintro _ _ s1 h1 ⟨rfl, rfl⟩
 refine JO_q (QE_as rfl) rfl ?_
 refine JO_nil ?_
 refine thenQ_n ?_
 refine JC_ret ?_
 refine retQ_mk [] L (.inr rfl) (.tmp rfl (.nil)) rfl h1 (fun sR hS2 => ?_)
 exact ⟨by rw [val_find]; rfl, rfl⟩
set_option maxHeartbeats 1000000 in
set_option maxRecDepth 100000 in
theorem rcheck_ac (D : Nat) (L : Hl) (s : World) (l : List UInt8) (hl : l.length ≤ 4000000) : AC Tryz.prog D 42 [St l] L s fun v L' _ => v = .int .i64 (if okT l = true then chkS l else -1) ∧ L = L' := by
 refine AC_enter (TT := TT) (fn := Tryz.f42) TT_ok Tryz.func42 (by kernel_rfl) rfl Tryz.ntmps42 rfl (rs := [.tmp 2]) rfl [(0, _)] rfl ?_
 refine JC_seq ?_
 refine JC_region ?_
 refine JO_q (QE_as rfl) rfl ?_
 refine JO_nil ?_
 refine thenQ_n ?_
 refine JC_seq ?_
 refine JC_region ?_
 refine JO_q (QE_as rfl) rfl ?_
 refine JO_nil ?_
 refine thenQ_n ?_
 refine JC_seq ?_
 refine JC_seq ?_
 refine JC_region ?_
 refine JO_q (QE_as rfl) rfl ?_
 refine JO_nil ?_
 refine thenQ_n ?_
 refine JC_block ?_
 refine JC_loop (γ := Nat) (fun k => [(0, _), (2, _), (3, .int .i64 (sumF 0 (l.take k))), (4, .int .i64 (k : Int))]) (fun _ => _) (fun k tw => Le D s tw ∧ (k ≤ l.length ∧ (∀ i c, i < k → l[i]? = some c → okC c = true) ∧ 0 ≤ sumF 0 (l.take k) ∧ sumF 0 (l.take k) ≤ 264000000 * (k : Int))) (fun k => l.length - k) (fun _ _ _ h hl => ⟨h.1.trans hl, h.2⟩) 0 (Keeps.cons rfl (Keeps.cons rfl (Keeps.cons rfl (Keeps.cons rfl (Keeps.nil _))))) rfl ⟨Le.refl _, ⟨Nat.zero_le _, fun i c hi => by omega, by simp [sumF], by simp [sumF]⟩⟩ ?_
 intro k s1 I1
 obtain ⟨hk0, hI, hs1, hs2⟩ := I1.2
 refine JC_seq ?_
 refine JC_seq ?_
 refine JC_region ?_
 refine JO_q (QE_mv rfl) rfl ?_
 refine JO_q (QE_mv rfl) rfl ?_
 refine JO_q (QE_lenT rfl rfl rfl) rfl ?_
 refine JO_q (QE_lt rfl rfl) rfl ?_
 refine JO_nil ?_
 refine thenQ_n ?_
 refine JC_ifD rfl (fun c2 => ?_) (fun c2 => ?_)
 ·
  have hk : k < l.length := by omega
  obtain ⟨ch, hch⟩ : ∃ ch, l[k]? = some ch := ⟨_, List.getElem?_eq_getElem hk⟩
  refine JC_skip ?_
  refine thenQ_n ?_
  refine JC_seq ?_
  refine JC_block ?_
  refine JC_seq ?_
  refine JC_region ?_
  refine JO_q (QE_mv rfl) rfl ?_
  refine JO_q (QE_mv rfl) rfl ?_
  refine JO_q (QE_ix rfl rfl rfl rfl hch) rfl ?_
  refine JO_call (first := []) (captured := []) rfl rfl rfl (rval_ac D _ _ ch) ?_
  rintro _ _ s3 h3 ⟨rfl, rfl⟩
  refine JO_q (QE_as rfl) rfl ?_
  refine JO_nil ?_
  refine thenQ_n ?_
  refine JC_seq ?_
  refine JC_seq ?_
  refine JC_region ?_
  refine JO_q (QE_mv rfl) rfl ?_
  refine JO_q (QE_lt rfl rfl) rfl ?_
  refine JO_nil ?_
  refine thenQ_n ?_
  refine JC_ifD rfl (fun c4 => ?_) (fun c4 => ?_)
  ·
   have hbad : okC ch = false := decide_eq_false (by omega)
   refine JC_seq ?_
   refine JC_region ?_
   refine JO_q (QE_as rfl) rfl ?_
   refine JO_nil ?_
   refine thenQ_n ?_
   refine JC_ret ?_
   refine thenQ_r ?_
   refine blockQ_r ?_
   refine thenQ_r ?_
   refine thenQ_r ?_
   refine blockQ_r ?_
   refine thenQ_r ?_
   refine retQ_mk [] L (.inr rfl) (.tmp rfl (.nil)) rfl (Le.trans I1.1 h3) (fun sR hS2 => ?_)
   refine ⟨?_, rfl⟩
   first
     | (rw [okT_bad hch hbad]; rfl)
     | (have hokT := okT_all (fun i c hi hc => hI i c hi hc)
        have e : (sumF 0 l).tmod 9973 = chkS l := Int.tmod_eq_emod_of_nonneg hs1
        simp only [resV, hokT, if_true, e])
  ·
   have hok : okC ch = true := decide_eq_true (by omega)
   have hmb := mul_bound (val_le hok) (show k + 1 ≤ 4000000 by omega)
   rw [Int.mul_comm] at hmb
   refine JC_skip ?_
   refine thenQ_n ?_
   refine JC_region ?_
   refine JO_q (QE_mv rfl) rfl ?_
   refine JO_q (QE_mv rfl) rfl ?_
   refine JO_q (QE_add' rfl rfl (w64 (by omega) (by omega))) rfl ?_
   refine JO_q (QE_mv rfl) rfl ?_
   refine JO_q (QE_mul' rfl rfl (w64 (by omega) (by omega))) rfl ?_
   refine JO_q (QE_add' rfl rfl (w64 (by omega) (by omega))) rfl ?_
   refine JO_q (QE_as rfl) rfl ?_
   refine JO_nil ?_
   refine blockQ_n ?_
   refine thenQ_n ?_
   refine JC_region ?_
   refine JO_q (QE_mv rfl) rfl ?_
   refine JO_q (QE_add' rfl rfl (w64 (by omega) (by omega))) rfl ?_
   refine JO_q (QE_as rfl) rfl ?_
   refine JO_nil ?_
   refine thenQ_n ⟨(k + 1), [], (Keeps.cons rfl (Keeps.cons rfl (Keeps.cons (by rw [sumF_take hch, Int.mul_comm (valC ch)]; rfl) (Keeps.cons rfl (Keeps.nil _))))), rfl, ⟨(Le.trans I1.1 h3), ⟨by omega, below_succ hI hch hok, by rw [sumF_take hch, Int.mul_comm]; omega, by rw [sumF_take hch, Int.mul_comm]; omega⟩⟩, (by omega)⟩
 ·
  have hkE : k = l.length := by omega
  subst hkE
  rw [List.take_length] at *
  refine JC_exit ?_
  refine thenQ_x ?_
  refine thenQ_x ?_
  refine blockQ_x ?_
  refine thenQ_n ?_
  refine JC_seq ?_
  refine JC_region ?_
  refine JO_q (QE_mv rfl) rfl ?_
  refine JO_q (QE_rem rfl rfl (by omega)) rfl ?_
  refine JO_q (QE_as rfl) rfl ?_
  refine JO_nil ?_
  refine thenQ_n ?_
  refine JC_ret ?_
  refine retQ_mk [] L (.inr rfl) (.tmp rfl (.nil)) rfl I1.1 (fun sR hS2 => ?_)
  refine ⟨?_, rfl⟩
  first
    | (rw [okT_bad hch hbad]; rfl)
    | (have hokT := okT_all (fun i c hi hc => hI i c hi hc)
       have e : (sumF 0 l).tmod 9973 = chkS l := Int.tmod_eq_emod_of_nonneg hs1
       simp only [resV, hokT, if_true, e])
set_option maxHeartbeats 2000000 in
set_option maxRecDepth 100000 in
theorem rlined_ac (D : Nat) (L : Hl) (s : World) (ws : List (List UInt8)) (hok : ∀ w ∈ ws, okW w) (hz : sizeW ws ≤ 1000000) : AC Tryz.prog D 31 [St (joinW ws)] L s fun v L' _ => v = St (linesW (withC ws)) ∧ L = L' := by
 have hjl := join_len ws
 have hokT : okT (joinW ws) = true := join_ok fun w hw => (hok w hw).2.1
 obtain ⟨cn, hcn⟩ := Int.eq_ofNat_of_zero_le (chk_lt (joinW ws)).1
 have hc2 := (chk_lt (joinW ws)).2
 have hdl := (dec_len (u := cn) (by omega)).2
 have hwc := withC_size ws
 refine AC_enter (TT := TT) (fn := Tryz.f31) TT_ok Tryz.func31 (by kernel_rfl) rfl Tryz.ntmps31 rfl (rs := [.tmp 2]) rfl [(0, _)] rfl ?_
 refine JC_seq ?_
 refine JC_region ?_
 refine JO_q (QE_as rfl) rfl ?_
 refine JO_nil ?_
 refine thenQ_n ?_
 refine JC_seq ?_
 refine JC_region ?_
 refine JO_q (QE_mv rfl) rfl ?_
 refine JO_q (QE_sadd rfl rfl (by simp only [List.length_append, List.length_cons, List.length_nil]; omega)) rfl ?_
 refine JO_q (QE_mv rfl) rfl ?_
 refine JO_call (first := []) (captured := []) rfl rfl rfl (rcheck_ac D _ _ (joinW ws) (by omega)) ?_
 rintro _ _ s1 h1 ⟨rfl, rfl⟩
 rw [if_pos hokT, hcn]
 refine JO_q (QE_conv' rfl rfl rfl rfl rfl (show IntKind.u32.wrap (cn : Int) = (cn : Int) by rw [IntKind.wrap_u32]; omega)) rfl ?_
 refine JO_call (first := []) (captured := []) rfl rfl rfl (decimal_ac D cn (by omega) _ _) ?_
 rintro _ _ s2 h2 ⟨rfl, rfl⟩
 refine JO_q (QE_sadd rfl rfl (by simp only [List.length_append, List.length_cons, List.length_nil]; omega)) rfl ?_
 refine JO_q (QE_sadd rfl rfl (by simp only [List.length_append, List.length_cons, List.length_nil]; omega)) rfl ?_
 refine JO_call (first := []) (captured := []) rfl rfl rfl (rfields_ac D _ _ _ (by simp only [List.length_append, List.length_cons, List.length_nil]; omega)) ?_
 rintro _ _ s3 h3 ⟨rfl, A, n, c, rfl, hF⟩
 rw [flds_lined (fun w hw => (hok w hw).1) hcn] at hF
 have hn := hF.1
 have hcap := hF.2.1
 have hcap2 := hF.2.2.1
 refine JO_q (QE_as rfl) rfl ?_
 refine JO_nil ?_
 refine thenQ_n ?_
 refine JC_seq ?_
 refine JC_region ?_
 refine JO_q (QE_as rfl) rfl ?_
 refine JO_nil ?_
 refine thenQ_n ?_
 refine JC_seq ?_
 refine JC_region ?_
 refine JO_q (QE_as rfl) rfl ?_
 refine JO_nil ?_
 refine thenQ_n ?_
 refine JC_seq ?_
 refine JC_seq ?_
 refine JC_region ?_
 refine JO_q (QE_as rfl) rfl ?_
 refine JO_nil ?_
 refine thenQ_n ?_
 refine JC_block ?_
 refine JC_loop (γ := Nat × List UInt8 × List UInt8) (fun g => [(2, _), (3, _), (4, St g.2.1), (5, St g.2.2), (6, .int .i64 (g.1 : Int))]) (fun _ => _) (fun g tw => Le D s3 tw ∧ (g.1 ≤ n ∧ g.2.1.length + g.2.2.length + 1 + sizeW ((withC ws).drop g.1) ≤ 1 + sizeW (withC ws) ∧ lnF g.2.1 g.2.2 ((withC ws).drop g.1) = linesW (withC ws))) (fun g => n - g.1) (fun _ _ _ h hl => ⟨h.1.trans hl, h.2⟩) (0, [], []) (Keeps.cons rfl (Keeps.cons rfl (Keeps.cons rfl (Keeps.cons rfl (Keeps.cons rfl (Keeps.nil _)))))) rfl ⟨Le.refl _, ⟨Nat.zero_le _, by simp, rfl⟩⟩ ?_
 intro g s4 I4
 obtain ⟨k, tx, ln⟩ := g
 obtain ⟨hk0, hzz, hS1⟩ := I4.2
 simp only at hk0 hzz hS1
 dsimp only
 refine JC_seq ?_
 refine JC_seq ?_
 refine JC_region ?_
 refine JO_q (QE_mv rfl) rfl ?_
 refine JO_q (QE_mv rfl) rfl ?_
 refine JO_q (QE_lenS rfl rfl rfl) rfl ?_
 refine JO_q (QE_lt rfl rfl) rfl ?_
 refine JO_nil ?_
 refine thenQ_n ?_
 refine JC_ifD rfl (fun c5 => ?_) (fun c5 => ?_)
 ·
  have hk : k < n := by omega
  obtain ⟨b, off, w, rfl, hw, hcw, _⟩ := Strs.at_ (hF.le I4.1) hk
  rw [drop_at hw] at hzz hS1
  rw [sizeW_cons] at hzz
  refine JC_skip ?_
  refine thenQ_n ?_
  refine JC_seq ?_
  refine JC_block ?_
  refine JC_seq ?_
  refine JC_seq ?_
  refine JC_region ?_
  refine JO_q (QE_mv rfl) rfl ?_
  refine JO_q (QE_sne rfl rfl) rfl ?_
  refine JO_q (QE_mv rfl) rfl ?_
  refine JO_caseN (t := 24) rfl (fun c6 => ?_) (fun c6 => ?_)
  ·
   refine JO_gT rfl rfl ?_
   refine JO_q (QE_mv rfl) rfl ?_
   refine JO_gT rfl rfl ?_
   refine JO_q (QE_lenT rfl rfl rfl) rfl ?_
   refine JO_gT rfl rfl ?_
   refine JO_q (QE_add' rfl rfl (w64 (by omega) (by omega))) rfl ?_
   refine JO_gT rfl rfl ?_
   refine JO_q (QE_mv rfl) rfl ?_
   refine JO_gT rfl rfl ?_
   refine JO_q (QE_mv rfl) rfl ?_
   refine JO_gT rfl rfl ?_
   refine JO_q (QE_ia1 rfl rfl rfl rfl rfl rfl hk) rfl ?_
   refine JO_gT rfl rfl ?_
   refine JO_q (QE_ldsR0 rfl rfl rfl (hcw.le (Le.refl (D := D) _)) rfl) rfl ?_
   refine JO_gT rfl rfl ?_
   refine JO_q (QE_lenT rfl rfl rfl) rfl ?_
   refine JO_gT rfl rfl ?_
   refine JO_q (QE_add' rfl rfl (w64 (by omega) (by omega))) rfl ?_
   refine JO_gT rfl rfl ?_
   refine JO_q (QE_gt rfl rfl) rfl ?_
   refine JO_q (QE_pickT rfl rfl) rfl ?_
   refine JO_nil ?_
   refine thenQ_n ?_
   refine JC_ifD rfl (fun c7 => ?_) (fun c7 => ?_)
   ·
    have h35 : 72 < ln.length + 1 + w.length := by omega
    refine JC_seq ?_
    refine JC_region ?_
    refine JO_q (QE_mv rfl) rfl ?_
    refine JO_q (QE_mv rfl) rfl ?_
    refine JO_q (QE_sadd rfl rfl (by first | omega | (simp only [List.length_append, List.length_cons, List.length_nil]; omega))) rfl ?_
    refine JO_q (QE_sadd rfl rfl (by first | omega | (simp only [List.length_append, List.length_cons, List.length_nil]; omega))) rfl ?_
    refine JO_q (QE_as rfl) rfl ?_
    refine JO_nil ?_
    refine thenQ_n ?_
    refine JC_region ?_
    refine JO_q (QE_as rfl) rfl ?_
    refine JO_nil ?_
    refine thenQ_n ?_
    refine JC_seq ?_
    refine JC_seq ?_
    refine JC_region ?_
    refine JO_q (QE_mv rfl) rfl ?_
    refine JO_q (QE_cast (v' := .bool false) (QE_sne rfl rfl) (bF rfl)) rfl ?_
    refine JO_nil ?_
    refine thenQ_n ?_
    refine JC_ifF rfl ?_
    refine JC_skip ?_
    refine thenQ_n ?_
    refine JC_region ?_
    refine JO_q (QE_mv rfl) rfl ?_
    refine JO_q (QE_mv rfl) rfl ?_
    refine JO_q (QE_mv rfl) rfl ?_
    refine JO_q (QE_ia1 rfl rfl rfl rfl rfl rfl hk) rfl ?_
    refine JO_q (QE_ldsR0 rfl rfl rfl (hcw.le (Le.refl (D := D) _)) rfl) rfl ?_
    refine JO_q (QE_sadd rfl rfl (by first | omega | (simp only [List.length_append, List.length_cons, List.length_nil]; omega))) rfl ?_
    refine JO_q (QE_as rfl) rfl ?_
    refine JO_nil ?_
    refine blockQ_n ?_
    refine thenQ_n ?_
    refine JC_region ?_
    refine JO_q (QE_mv rfl) rfl ?_
    refine JO_q (QE_add' rfl rfl (w64 (by omega) (by omega))) rfl ?_
    refine JO_q (QE_as rfl) rfl ?_
    refine JO_nil ?_
    refine thenQ_n ⟨(k + 1, (tx ++ ln) ++ [10], [] ++ w), [], (Keeps.cons rfl (Keeps.cons rfl (Keeps.cons rfl (Keeps.cons rfl (Keeps.cons rfl (Keeps.nil _)))))), rfl, ⟨I4.1, by
      first
      | exact ⟨by simp only; omega, by simp only [List.length_append, List.length_cons, List.length_nil]; omega, by simp only; rw [← hS1, lnF, if_neg (by assumption), if_pos h35]; simp⟩
      | exact ⟨by simp only; omega, by simp only [List.length_append, List.length_cons, List.length_nil]; omega, by simp only; rw [← hS1, lnF, if_neg h41, if_neg (by assumption)]; simp⟩
      | exact absurd (by assumption) h41
      | exact absurd h41 (by assumption)
      | exact ⟨by simp only; omega, by simp only [List.length_append, List.length_cons, List.length_nil]; omega, by subst h41; simp only; rw [← hS1, lnF, if_pos rfl]; rfl⟩⟩, (by simp only; omega)⟩
   ·
    try have h35 : ¬ 72 < ln.length + 1 + w.length := by omega
    refine JC_skip ?_
    refine thenQ_n ?_
    refine JC_seq ?_
    refine JC_seq ?_
    refine JC_region ?_
    refine JO_q (QE_mv rfl) rfl ?_
    refine JO_q (QE_sne rfl rfl) rfl ?_
    refine JO_nil ?_
    refine thenQ_n ?_
    refine JC_ifN rfl (fun c8 => ?_) (fun c8 => ?_)
    ·
     have h41 : ¬ ln = [] := c8
     refine JC_region ?_
     refine JO_q (QE_mv rfl) rfl ?_
     refine JO_q (QE_sadd rfl rfl (by first | omega | (simp only [List.length_append, List.length_cons, List.length_nil]; omega))) rfl ?_
     refine JO_q (QE_as rfl) rfl ?_
     refine JO_nil ?_
     refine thenQ_n ?_
     refine JC_region ?_
     refine JO_q (QE_mv rfl) rfl ?_
     refine JO_q (QE_mv rfl) rfl ?_
     refine JO_q (QE_mv rfl) rfl ?_
     refine JO_q (QE_ia1 rfl rfl rfl rfl rfl rfl hk) rfl ?_
     refine JO_q (QE_ldsR0 rfl rfl rfl (hcw.le (Le.refl (D := D) _)) rfl) rfl ?_
     refine JO_q (QE_sadd rfl rfl (by first | omega | (simp only [List.length_append, List.length_cons, List.length_nil]; omega))) rfl ?_
     refine JO_q (QE_as rfl) rfl ?_
     refine JO_nil ?_
     refine blockQ_n ?_
     refine thenQ_n ?_
     refine JC_region ?_
     refine JO_q (QE_mv rfl) rfl ?_
     refine JO_q (QE_add' rfl rfl (w64 (by omega) (by omega))) rfl ?_
     refine JO_q (QE_as rfl) rfl ?_
     refine JO_nil ?_
     refine thenQ_n ⟨(k + 1, tx, (ln ++ [32]) ++ w), [], (Keeps.cons rfl (Keeps.cons rfl (Keeps.cons rfl (Keeps.cons rfl (Keeps.cons rfl (Keeps.nil _)))))), rfl, ⟨I4.1, by
       first
       | exact ⟨by simp only; omega, by simp only [List.length_append, List.length_cons, List.length_nil]; omega, by simp only; rw [← hS1, lnF, if_neg (by assumption), if_pos h35]; simp⟩
       | exact ⟨by simp only; omega, by simp only [List.length_append, List.length_cons, List.length_nil]; omega, by simp only; rw [← hS1, lnF, if_neg h41, if_neg (by assumption)]; simp⟩
       | exact absurd (by assumption) h41
       | exact absurd h41 (by assumption)
       | exact ⟨by simp only; omega, by simp only [List.length_append, List.length_cons, List.length_nil]; omega, by subst h41; simp only; rw [← hS1, lnF, if_pos rfl]; rfl⟩⟩, (by simp only; omega)⟩
    ·
     have h41 : ln = [] := c8
     refine JC_skip ?_
     refine thenQ_n ?_
     refine JC_region ?_
     refine JO_q (QE_mv rfl) rfl ?_
     refine JO_q (QE_mv rfl) rfl ?_
     refine JO_q (QE_mv rfl) rfl ?_
     refine JO_q (QE_ia1 rfl rfl rfl rfl rfl rfl hk) rfl ?_
     refine JO_q (QE_ldsR0 rfl rfl rfl (hcw.le (Le.refl (D := D) _)) rfl) rfl ?_
     refine JO_q (QE_sadd rfl rfl (by first | omega | (simp only [List.length_append, List.length_cons, List.length_nil]; omega))) rfl ?_
     refine JO_q (QE_as rfl) rfl ?_
     refine JO_nil ?_
     refine blockQ_n ?_
     refine thenQ_n ?_
     refine JC_region ?_
     refine JO_q (QE_mv rfl) rfl ?_
     refine JO_q (QE_add' rfl rfl (w64 (by omega) (by omega))) rfl ?_
     refine JO_q (QE_as rfl) rfl ?_
     refine JO_nil ?_
     refine thenQ_n ⟨(k + 1, tx, ln ++ w), [], (Keeps.cons rfl (Keeps.cons rfl (Keeps.cons rfl (Keeps.cons rfl (Keeps.cons rfl (Keeps.nil _)))))), rfl, ⟨I4.1, by
       first
       | exact ⟨by simp only; omega, by simp only [List.length_append, List.length_cons, List.length_nil]; omega, by simp only; rw [← hS1, lnF, if_neg (by assumption), if_pos h35]; simp⟩
       | exact ⟨by simp only; omega, by simp only [List.length_append, List.length_cons, List.length_nil]; omega, by simp only; rw [← hS1, lnF, if_neg h41, if_neg (by assumption)]; simp⟩
       | exact absurd (by assumption) h41
       | exact absurd h41 (by assumption)
       | exact ⟨by simp only; omega, by simp only [List.length_append, List.length_cons, List.length_nil]; omega, by subst h41; simp only; rw [← hS1, lnF, if_pos rfl]; rfl⟩⟩, (by simp only; omega)⟩
  ·
   refine JO_gF rfl rfl rfl rfl ?_
   refine JO_gF rfl rfl rfl rfl ?_
   refine JO_gF rfl rfl rfl rfl ?_
   refine JO_gF rfl rfl rfl rfl ?_
   refine JO_gF rfl rfl rfl rfl ?_
   refine JO_gF rfl rfl rfl rfl ?_
   refine JO_gF rfl rfl rfl rfl ?_
   refine JO_gF rfl rfl rfl rfl ?_
   refine JO_gF rfl rfl rfl rfl ?_
   refine JO_gF rfl rfl rfl rfl ?_
   refine JO_q (QE_pickF rfl rfl) rfl ?_
   refine JO_nil ?_
   refine thenQ_n ?_
   refine JC_ifF rfl ?_
   try have h35 : ¬ 72 < ln.length + 1 + w.length := by omega
   refine JC_skip ?_
   refine thenQ_n ?_
   refine JC_seq ?_
   refine JC_seq ?_
   refine JC_region ?_
   refine JO_q (QE_mv rfl) rfl ?_
   refine JO_q (QE_sne rfl rfl) rfl ?_
   refine JO_nil ?_
   refine thenQ_n ?_
   refine JC_ifN rfl (fun c9 => ?_) (fun c9 => ?_)
   ·
    have h41 : ¬ ln = [] := c9
    refine JC_region ?_
    refine JO_q (QE_mv rfl) rfl ?_
    refine JO_q (QE_sadd rfl rfl (by first | omega | (simp only [List.length_append, List.length_cons, List.length_nil]; omega))) rfl ?_
    refine JO_q (QE_as rfl) rfl ?_
    refine JO_nil ?_
    refine thenQ_n ?_
    refine JC_region ?_
    refine JO_q (QE_mv rfl) rfl ?_
    refine JO_q (QE_mv rfl) rfl ?_
    refine JO_q (QE_mv rfl) rfl ?_
    refine JO_q (QE_ia1 rfl rfl rfl rfl rfl rfl hk) rfl ?_
    refine JO_q (QE_ldsR0 rfl rfl rfl (hcw.le (Le.refl (D := D) _)) rfl) rfl ?_
    refine JO_q (QE_sadd rfl rfl (by first | omega | (simp only [List.length_append, List.length_cons, List.length_nil]; omega))) rfl ?_
    refine JO_q (QE_as rfl) rfl ?_
    refine JO_nil ?_
    refine blockQ_n ?_
    refine thenQ_n ?_
    refine JC_region ?_
    refine JO_q (QE_mv rfl) rfl ?_
    refine JO_q (QE_add' rfl rfl (w64 (by omega) (by omega))) rfl ?_
    refine JO_q (QE_as rfl) rfl ?_
    refine JO_nil ?_
    refine thenQ_n ⟨(k + 1, tx, (ln ++ [32]) ++ w), [], (Keeps.cons rfl (Keeps.cons rfl (Keeps.cons rfl (Keeps.cons rfl (Keeps.cons rfl (Keeps.nil _)))))), rfl, ⟨I4.1, by
      first
      | exact ⟨by simp only; omega, by simp only [List.length_append, List.length_cons, List.length_nil]; omega, by simp only; rw [← hS1, lnF, if_neg (by assumption), if_pos h35]; simp⟩
      | exact ⟨by simp only; omega, by simp only [List.length_append, List.length_cons, List.length_nil]; omega, by simp only; rw [← hS1, lnF, if_neg h41, if_neg (by assumption)]; simp⟩
      | exact absurd (by assumption) h41
      | exact absurd h41 (by assumption)
      | exact ⟨by simp only; omega, by simp only [List.length_append, List.length_cons, List.length_nil]; omega, by subst h41; simp only; rw [← hS1, lnF, if_pos rfl]; rfl⟩⟩, (by simp only; omega)⟩
   ·
    have h41 : ln = [] := c9
    refine JC_skip ?_
    refine thenQ_n ?_
    refine JC_region ?_
    refine JO_q (QE_mv rfl) rfl ?_
    refine JO_q (QE_mv rfl) rfl ?_
    refine JO_q (QE_mv rfl) rfl ?_
    refine JO_q (QE_ia1 rfl rfl rfl rfl rfl rfl hk) rfl ?_
    refine JO_q (QE_ldsR0 rfl rfl rfl (hcw.le (Le.refl (D := D) _)) rfl) rfl ?_
    refine JO_q (QE_sadd rfl rfl (by first | omega | (simp only [List.length_append, List.length_cons, List.length_nil]; omega))) rfl ?_
    refine JO_q (QE_as rfl) rfl ?_
    refine JO_nil ?_
    refine blockQ_n ?_
    refine thenQ_n ?_
    refine JC_region ?_
    refine JO_q (QE_mv rfl) rfl ?_
    refine JO_q (QE_add' rfl rfl (w64 (by omega) (by omega))) rfl ?_
    refine JO_q (QE_as rfl) rfl ?_
    refine JO_nil ?_
    refine thenQ_n ⟨(k + 1, tx, ln ++ w), [], (Keeps.cons rfl (Keeps.cons rfl (Keeps.cons rfl (Keeps.cons rfl (Keeps.cons rfl (Keeps.nil _)))))), rfl, ⟨I4.1, by
      first
      | exact ⟨by simp only; omega, by simp only [List.length_append, List.length_cons, List.length_nil]; omega, by simp only; rw [← hS1, lnF, if_neg (by assumption), if_pos h35]; simp⟩
      | exact ⟨by simp only; omega, by simp only [List.length_append, List.length_cons, List.length_nil]; omega, by simp only; rw [← hS1, lnF, if_neg h41, if_neg (by assumption)]; simp⟩
      | exact absurd (by assumption) h41
      | exact absurd h41 (by assumption)
      | exact ⟨by simp only; omega, by simp only [List.length_append, List.length_cons, List.length_nil]; omega, by subst h41; simp only; rw [← hS1, lnF, if_pos rfl]; rfl⟩⟩, (by simp only; omega)⟩
 ·
  have hkE : k = n := by omega
  subst hkE
  rw [hn, List.drop_length, lnF] at hS1
  rw [hn, List.drop_length, sizeW_nil] at hzz
  refine JC_exit ?_
  refine thenQ_x ?_
  refine thenQ_x ?_
  refine blockQ_x ?_
  refine thenQ_n ?_
  refine JC_seq ?_
  refine JC_region ?_
  refine JO_q (QE_mv rfl) rfl ?_
  refine JO_q (QE_mv rfl) rfl ?_
  refine JO_q (QE_sadd rfl rfl (by first | omega | (simp only [List.length_append, List.length_cons, List.length_nil]; omega))) rfl ?_
  refine JO_q (QE_sadd rfl rfl (by first | omega | (simp only [List.length_append, List.length_cons, List.length_nil]; omega))) rfl ?_
  refine JO_q (QE_as rfl) rfl ?_
  refine JO_nil ?_
  refine thenQ_n ?_
  refine JC_ret ?_
  refine retQ_mk [] L (.inr rfl) (.tmp rfl (.nil)) rfl (Le.trans (Le.trans (Le.trans h1 h2) h3) I4.1) (fun sR hS2 => ?_)
  refine ⟨?_, rfl⟩
  rw [← hS1]; rfl
end Go.Proofs.YtoeeblegplghmaaGreatDoor
namespace Go.Proofs.YtoeeblegplghmaaGreatDoor
open Go.FL
attribute [local irreducible] JC JO JA JB thenQ blockQ retQ AC fill CellsAt QE Ev Mid
theorem take_next {α : Type} {l : List α} {k : Nat} {x : α} (h : l[k]? = some x) : l.take (k + 1) = l.take k ++ [x] := by
  rw [List.take_add_one, h]; rfl
theorem canon_of {l : List UInt8} (h : numL l ≠ none) : canonB l = true ∧ valD 0 l < 4294967296 := by
  unfold numL at h
  split at h
  · assumption
  · exact absurd rfl h
theorem num_bad {l : List UInt8} (h : l = [] ∨ 10 < l.length ∨ (1 < l.length ∧ l[0]? = some 48)) : numL l = none := by
  cases hn : numL l with
  | none => rfl
  | some u =>
    obtain ⟨e, hu⟩ := numL_some hn
    have hd := dec_len hu
    rw [← e] at hd
    have hc := (canon_of (by rw [hn]; simp)).1
    simp only [canonB, Bool.and_eq_true, decide_eq_true_eq, Bool.or_eq_true] at hc
    rcases h with h | h | ⟨h, h2⟩
    · exact absurd h hc.1.1
    · omega
    · rcases hc.2 with h3 | h3
      · omega
      · rw [List.head?_eq_getElem?] at h3; exact absurd h2 h3
theorem num_dig {l : List UInt8} {c : UInt8} {k : Nat} (hc : l[k]? = some c) (h : digB c = false) : numL l = none := by
  cases hn : numL l with
  | none => rfl
  | some u =>
    have hcn := (canon_of (l := l) (by rw [hn]; simp)).1
    simp only [canonB, Bool.and_eq_true] at hcn
    have := List.all_eq_true.1 hcn.1.2 c (List.mem_of_getElem? hc)
    rw [h] at this; cases this
theorem num_large {l : List UInt8} (h : 4294967295 < valD 0 l) : numL l = none := by
  rw [numL, if_neg (fun hh => by omega)]
theorem num_good {l : List UInt8} (h : ¬ (l = [] ∨ 10 < l.length ∨ (1 < l.length ∧ l[0]? = some 48))) (hd : ∀ i c, i < l.length → l[i]? = some c → digB c = true) (hv : ¬ 4294967295 < valD 0 l) : numL l = some (valD 0 l) := by
  have hcn : canonB l = true := by
    simp only [canonB, Bool.and_eq_true, decide_eq_true_eq, Bool.or_eq_true]
    refine ⟨⟨fun e => h (.inl e), List.all_eq_true.2 fun c hc => ?_⟩, ?_⟩
    · obtain ⟨i, hi⟩ := List.mem_iff_getElem?.1 hc
      exact hd i c (List.getElem?_eq_some_iff.1 hi).1 hi
    · by_cases h1 : 1 < l.length
      · right; intro e; exact h (.inr (.inr ⟨h1, by rw [← List.head?_eq_getElem?]; exact e⟩))
      · left; omega
  rw [numL, if_pos ⟨hcn, by omega⟩]
theorem valD_bound {l : List UInt8} (h : ∀ i c, i < l.length → l[i]? = some c → digB c = true) : valD 0 l < 10 ^ l.length := by
  generalize hn : l.length = n
  induction n generalizing l with
  | zero => rw [List.length_eq_zero_iff.1 hn, valD_nil]; simp
  | succ n ih =>
    rcases List.eq_nil_or_concat l with rfl | ⟨r, c, rfl⟩
    · cases hn
    · rw [List.concat_eq_append] at *
      have hrl : r.length = n := by simpa using hn
      have h1 := ih (l := r) (fun i x hi hx => h i x (by simp; omega) (by rw [List.getElem?_append_left hi]; exact hx)) hrl
      have h2 := h r.length c (by simp) (by simp)
      simp only [digB, Bool.and_eq_true, decide_eq_true_eq] at h2
      rw [valD_snoc, Nat.pow_succ]
      omega
theorem valD_take {l : List UInt8} {k : Nat} (hk : k ≤ l.length) (hk10 : l.length ≤ 10) (h : ∀ i c, i < k → l[i]? = some c → digB c = true) : valD 0 (l.take k) < 10000000000 := by
  have h1 := valD_bound (l := l.take k) (fun i c hi hc => h i c (by simp at hi; omega) (by rw [List.getElem?_take] at hc; split at hc; exact hc; cases hc))
  have h2 : 10 ^ (l.take k).length ≤ 10 ^ 10 := Nat.pow_le_pow_right (by omega) (by simp; omega)
  omega
theorem digB_iff {c : UInt8} : (48 ≤ (c.toNat : Int) ∧ (c.toNat : Int) ≤ 57) ↔ digB c = true := by
  simp only [digB, Bool.and_eq_true, decide_eq_true_eq]; omega
set_option maxHeartbeats 1000000 in
set_option maxRecDepth 100000 in
theorem numberOf_ac (D : Nat) (L : Hl) (s : World) (l : List UInt8) (hl : l.length ≤ 9223372036854775807) : AC Tryz.prog D 39 [St l] L s fun v L' _ => v = .tuple #[.int .u32 (((numL l).getD 0 : Nat) : Int), .bool (numL l).isSome] ∧ L = L' := by
 refine AC_enter (TT := TT) (fn := Tryz.f39) TT_ok Tryz.func39 (by kernel_rfl) rfl Tryz.ntmps39 rfl (rs := [.tmp 2, .tmp 3]) rfl [(0, _)] rfl ?_
 refine JC_seq ?_
 refine JC_region ?_
 refine JO_q (QE_as rfl) rfl ?_
 refine JO_q (QE_as rfl) rfl ?_
 refine JO_nil ?_
 refine thenQ_n ?_
 refine JC_seq ?_
 refine JC_cutB 23 (l = [] ∨ 10 < l.length ∨ (1 < l.length ∧ l[0]? = some 48)) ?_ ?_
 ·
  refine JC_region ?_
  refine JO_q (QE_mv rfl) rfl ?_
  refine JO_q (QE_lenT rfl rfl rfl) rfl ?_
  refine JO_q (QE_eq rfl rfl) rfl ?_
  refine JO_q (QE_mv rfl) rfl ?_
  refine JO_caseD (t := 9) rfl (fun c2 => ?_) (fun c2 => ?_)
  ·
   refine JO_gF rfl rfl rfl rfl ?_
   refine JO_gF rfl rfl rfl rfl ?_
   refine JO_gF rfl rfl rfl rfl ?_
   refine JO_q (QE_pickT rfl rfl) rfl ?_
   refine JO_q (QE_mv rfl) rfl ?_
   refine JO_gF rfl rfl rfl rfl ?_
   refine JO_gF rfl rfl rfl rfl ?_
   refine JO_gF rfl rfl rfl rfl ?_
   refine JO_gF rfl rfl rfl rfl ?_
   refine JO_gU rfl rfl rfl ?_
   refine JO_gU rfl rfl rfl ?_
   refine JO_gU rfl rfl rfl ?_
   refine JO_gF rfl rfl rfl rfl ?_
   refine JO_q (QE_pickT rfl rfl) rfl ?_
   refine JO_nil ?_
   refine thenQ_n (MidB.mk (Le.refl (D := D) _) (by repeat (first | exact Suf.refl | refine Suf.push rfl ?_)) rfl ((decide_eq_true (by first | exact .inl (List.length_eq_zero_iff.1 (by omega)) | exact .inr (.inl (by omega)) | (rintro (h | h | h) <;> first | omega | (have h9 := congrArg List.length h; simp only [List.length_nil] at h9; omega)))).symm))
  ·
   refine JO_gT rfl rfl ?_
   refine JO_q (QE_mv rfl) rfl ?_
   refine JO_gT rfl rfl ?_
   refine JO_q (QE_lenT rfl rfl rfl) rfl ?_
   refine JO_gT rfl rfl ?_
   refine JO_q (QE_gt rfl rfl) rfl ?_
   refine JO_q (QE_pickF rfl rfl) rfl ?_
   refine JO_q (QE_mv rfl) rfl ?_
   refine JO_caseD (t := 14) rfl (fun c3 => ?_) (fun c3 => ?_)
   ·
    refine JO_gF rfl rfl rfl rfl ?_
    refine JO_gF rfl rfl rfl rfl ?_
    refine JO_gF rfl rfl rfl rfl ?_
    refine JO_gF rfl rfl rfl rfl ?_
    refine JO_gU rfl rfl rfl ?_
    refine JO_gU rfl rfl rfl ?_
    refine JO_gU rfl rfl rfl ?_
    refine JO_gF rfl rfl rfl rfl ?_
    refine JO_q (QE_pickT rfl rfl) rfl ?_
    refine JO_nil ?_
    refine thenQ_n (MidB.mk (Le.refl (D := D) _) (by repeat (first | exact Suf.refl | refine Suf.push rfl ?_)) rfl ((decide_eq_true (by first | exact .inl (List.length_eq_zero_iff.1 (by omega)) | exact .inr (.inl (by omega)) | (rintro (h | h | h) <;> first | omega | (have h9 := congrArg List.length h; simp only [List.length_nil] at h9; omega)))).symm))
   ·
    refine JO_gT rfl rfl ?_
    refine JO_q (QE_mv rfl) rfl ?_
    refine JO_gT rfl rfl ?_
    refine JO_q (QE_lenT rfl rfl rfl) rfl ?_
    refine JO_gT rfl rfl ?_
    refine JO_q (QE_gt rfl rfl) rfl ?_
    refine JO_gT rfl rfl ?_
    refine JO_q (QE_mv rfl) rfl ?_
    refine JO_caseD (t := 18) rfl (fun c4 => ?_) (fun c4 => ?_)
    ·
     refine JO_gT rfl rfl ?_
     refine JO_q (QE_mv rfl) rfl ?_
     refine JO_gT rfl rfl ?_
     obtain ⟨c0, hc0⟩ : ∃ c0, l[0]? = some c0 := ⟨_, List.getElem?_eq_getElem (by omega)⟩
     refine JO_q (QE_ix rfl rfl rfl rfl hc0) rfl ?_
     refine JO_gT rfl rfl ?_
     refine JO_q (QE_eq rfl rfl) rfl ?_
     refine JO_gT rfl rfl ?_
     refine JO_q (QE_pickT rfl rfl) rfl ?_
     refine JO_q (QE_pickF rfl rfl) rfl ?_
     refine JO_nil ?_
     refine thenQ_n (MidB.mk (Le.refl (D := D) _) (by repeat (first | exact Suf.refl | refine Suf.push rfl ?_)) rfl (decide_eq_decide.2 (⟨fun h => .inr (.inr ⟨by omega, by rw [hc0]; exact congrArg some (u8_eq.2 h)⟩), fun h => by rcases h with h | h | h <;> first | omega | (rw [h] at hc0; cases hc0) | (have h2 := h.2; rw [hc0] at h2; injection h2 with h2; rw [h2]; rfl)⟩)))
    ·
     refine JO_gF rfl rfl rfl rfl ?_
     refine JO_gF rfl rfl rfl rfl ?_
     refine JO_gF rfl rfl rfl rfl ?_
     refine JO_gT rfl rfl ?_
     refine JO_q (QE_pickF rfl rfl) rfl ?_
     refine JO_q (QE_pickF rfl rfl) rfl ?_
     refine JO_nil ?_
     refine thenQ_n (MidB.mk (Le.refl (D := D) _) (by repeat (first | exact Suf.refl | refine Suf.push rfl ?_)) rfl ((decide_eq_false (by first | exact .inl (List.length_eq_zero_iff.1 (by omega)) | exact .inr (.inl (by omega)) | (rintro (h | h | h) <;> first | omega | (have h9 := congrArg List.length h; simp only [List.length_nil] at h9; omega)))).symm))
 ·
  intro s1 h1
  refine JC_ifD rfl (fun c5 => ?_) (fun c5 => ?_)
  ·
   have h23 := num_bad c5
   refine JC_seq ?_
   refine JC_region ?_
   refine JO_q (QE_as rfl) rfl ?_
   refine JO_q (QE_as rfl) rfl ?_
   refine JO_nil ?_
   refine thenQ_n ?_
   refine JC_ret ?_
   refine thenQ_r ?_
   refine retQ_mk [] L (.inr rfl) (.tmp rfl (.tmp rfl (.nil))) rfl h1 (fun sR hS2 => ?_)
   first
     | (rw [h23]; exact ⟨rfl, rfl⟩)
     | (rw [h35]; exact ⟨rfl, rfl⟩)
     | (rw [h45]; exact ⟨rfl, rfl⟩)
  ·
   have h23 := c5
   have hl10 : l.length ≤ 10 := by
     rcases Nat.lt_or_ge 10 l.length with h | h
     · exact absurd (.inr (.inl h)) h23
     · exact h
   refine JC_skip ?_
   refine thenQ_n ?_
   refine JC_seq ?_
   refine JC_region ?_
   refine JO_q (QE_as rfl) rfl ?_
   refine JO_nil ?_
   refine thenQ_n ?_
   refine JC_seq ?_
   refine JC_seq ?_
   refine JC_region ?_
   refine JO_q (QE_as rfl) rfl ?_
   refine JO_nil ?_
   refine thenQ_n ?_
   refine JC_block ?_
   refine JC_loop (γ := Nat) (fun k => [(0, _), (2, .int .u32 0), (3, _), (4, .int .i64 ((valD 0 (l.take k) : Nat) : Int)), (5, .int .i64 (k : Int))]) (fun _ => _) (fun k tw => Le D s1 tw ∧ (k ≤ l.length ∧ ∀ i c, i < k → l[i]? = some c → digB c = true)) (fun k => l.length - k) (fun _ _ _ h hl => ⟨h.1.trans hl, h.2⟩) 0 (Keeps.cons rfl (Keeps.cons rfl (Keeps.cons rfl (Keeps.cons (congrArg some (congrArg (Value.int .i64) (by rw [List.take_zero, valD_nil]; rfl))) (Keeps.cons rfl (Keeps.nil _)))))) rfl ⟨Le.refl _, ⟨Nat.zero_le _, fun i c hi => by omega⟩⟩ ?_
   intro k s6 I6
   have hk0 := I6.2.1
   have hI := I6.2.2
   have hvb := valD_take hk0 (by omega) hI
   refine JC_seq ?_
   refine JC_seq ?_
   refine JC_region ?_
   refine JO_q (QE_mv rfl) rfl ?_
   refine JO_q (QE_mv rfl) rfl ?_
   refine JO_q (QE_lenT rfl rfl rfl) rfl ?_
   refine JO_q (QE_lt rfl rfl) rfl ?_
   refine JO_nil ?_
   refine thenQ_n ?_
   refine JC_ifD rfl (fun c7 => ?_) (fun c7 => ?_)
   ·
    have hk : k < l.length := by omega
    obtain ⟨ch, hch⟩ : ∃ ch, l[k]? = some ch := ⟨_, List.getElem?_eq_getElem hk⟩
    have hc256 := ch.toNat_lt
    refine JC_skip ?_
    refine thenQ_n ?_
    refine JC_seq ?_
    refine JC_block ?_
    refine JC_seq ?_
    refine JC_seq ?_
    refine JC_region ?_
    refine JO_q (QE_mv rfl) rfl ?_
    refine JO_q (QE_mv rfl) rfl ?_
    refine JO_q (QE_ix rfl rfl rfl rfl hch) rfl ?_
    refine JO_q (QE_conv' rfl rfl rfl rfl rfl (w64 (by omega) (by omega))) rfl ?_
    refine JO_call (first := []) (captured := []) rfl rfl rfl (in_ac D _ _ _ _ _) ?_
    rintro _ _ s8 h8 ⟨rfl, rfl⟩
    refine JO_q (QE_not rfl) rfl ?_
    refine JO_nil ?_
    refine thenQ_n ?_
    refine JC_ifN rfl (fun c9 => ?_) (fun c9 => ?_)
    ·
     have hnd : digB ch = false := Bool.eq_false_iff.2 fun h => c9 (digB_iff.2 h)
     have h35 := num_dig hch hnd
     refine JC_seq ?_
     refine JC_region ?_
     refine JO_q (QE_as rfl) rfl ?_
     refine JO_q (QE_as rfl) rfl ?_
     refine JO_nil ?_
     refine thenQ_n ?_
     refine JC_ret ?_
     refine thenQ_r ?_
     refine blockQ_r ?_
     refine thenQ_r ?_
     refine thenQ_r ?_
     refine blockQ_r ?_
     refine thenQ_r ?_
     refine retQ_mk [] L (.inr rfl) (.tmp rfl (.tmp rfl (.nil))) rfl (Le.trans (Le.trans h1 I6.1) h8) (fun sR hS2 => ?_)
     first
       | (rw [h23]; exact ⟨rfl, rfl⟩)
       | (rw [h35]; exact ⟨rfl, rfl⟩)
       | (rw [h45]; exact ⟨rfl, rfl⟩)
    ·
     have hdg : digB ch = true := digB_iff.1 c9
     have hd48 := digB_iff.2 hdg
     refine JC_skip ?_
     refine thenQ_n ?_
     refine JC_region ?_
     refine JO_q (QE_mv rfl) rfl ?_
     refine JO_q (QE_mul' rfl rfl (w64 (by omega) (by omega))) rfl ?_
     refine JO_q (QE_mv rfl) rfl ?_
     refine JO_q (QE_mv rfl) rfl ?_
     refine JO_q (QE_ix rfl rfl rfl rfl hch) rfl ?_
     refine JO_q (QE_conv' rfl rfl rfl rfl rfl (w64 (by omega) (by omega))) rfl ?_
     refine JO_q (QE_add' rfl rfl (w64 (by omega) (by omega))) rfl ?_
     refine JO_q (QE_sub' rfl rfl (w64 (by omega) (by omega))) rfl ?_
     refine JO_q (QE_as rfl) rfl ?_
     refine JO_nil ?_
     refine blockQ_n ?_
     refine thenQ_n ?_
     refine JC_region ?_
     refine JO_q (QE_mv rfl) rfl ?_
     refine JO_q (QE_add' rfl rfl (w64 (by omega) (by omega))) rfl ?_
     refine JO_q (QE_as rfl) rfl ?_
     refine JO_nil ?_
     refine thenQ_n ⟨(k + 1), [], (Keeps.cons rfl (Keeps.cons rfl (Keeps.cons rfl (Keeps.cons (congrArg some (congrArg (Value.int .i64) (by rw [take_next hch, valD_snoc]; omega))) (Keeps.cons rfl (Keeps.nil _)))))), rfl, ⟨(Le.trans I6.1 h8), ⟨by omega, below_succ hI hch hdg⟩⟩, (by omega)⟩
   ·
    have hkl : l.take k = l := List.take_of_length_le (by omega)
    rw [hkl] at hvb ⊢
    refine JC_exit ?_
    refine thenQ_x ?_
    refine thenQ_x ?_
    refine blockQ_x ?_
    refine thenQ_n ?_
    refine JC_seq ?_
    refine JC_seq ?_
    refine JC_region ?_
    refine JO_q (QE_mv rfl) rfl ?_
    refine JO_q (QE_gt rfl rfl) rfl ?_
    refine JO_nil ?_
    refine thenQ_n ?_
    refine JC_ifD rfl (fun c10 => ?_) (fun c10 => ?_)
    ·
     have h45 := num_large (l := l) (by omega)
     refine JC_seq ?_
     refine JC_region ?_
     refine JO_q (QE_as rfl) rfl ?_
     refine JO_q (QE_as rfl) rfl ?_
     refine JO_nil ?_
     refine thenQ_n ?_
     refine JC_ret ?_
     refine thenQ_r ?_
     refine retQ_mk [] L (.inr rfl) (.tmp rfl (.tmp rfl (.nil))) rfl (Le.trans h1 I6.1) (fun sR hS2 => ?_)
     first
       | (rw [h23]; exact ⟨rfl, rfl⟩)
       | (rw [h35]; exact ⟨rfl, rfl⟩)
       | (rw [h45]; exact ⟨rfl, rfl⟩)
    ·
     have h45 := num_good h23 (fun i c hi h => hI i c (by omega) h) (by omega)
     refine JC_skip ?_
     refine thenQ_n ?_
     refine JC_seq ?_
     refine JC_region ?_
     refine JO_q (QE_mv rfl) rfl ?_
     refine JO_q (QE_conv' rfl rfl rfl rfl rfl (wrap_small (by omega))) rfl ?_
     refine JO_q (QE_as rfl) rfl ?_
     refine JO_q (QE_as rfl) rfl ?_
     refine JO_nil ?_
     refine thenQ_n ?_
     refine JC_ret ?_
     refine retQ_mk [] L (.inr rfl) (.tmp rfl (.tmp rfl (.nil))) rfl (Le.trans h1 I6.1) (fun sR hS2 => ?_)
     first
       | (rw [h23]; exact ⟨rfl, rfl⟩)
       | (rw [h35]; exact ⟨rfl, rfl⟩)
       | (rw [h45]; exact ⟨rfl, rfl⟩)
abbrev Pg := List (List UInt8) × Int
def pgOf (p : Par) : Pg := (p.1, codeP p)
def paraR (ws : List (List UInt8)) : List Pg := (dvF [] ws).map pgOf
def PgR (s : World) (p : Pg) (cs : List Value) : Prop := ∃ A n c, cs = [.slice A n c, .int .i64 p.2] ∧ Strs s A n c p.1
theorem PgR.le {D : Nat} {s s' : World} {p : Pg} {cs : List Value} (h : PgR s p cs) (hl : Le D s s') : PgR s' p cs := by
  obtain ⟨A, n, c, h1, h2⟩ := h
  exact ⟨A, n, c, h1, h2.le hl⟩
def Pgs (s : World) (A : Option Addr) (n c : Nat) (l : List Pg) : Prop := Sl 2 PgR s A n c l
theorem Pgs.le {D : Nat} {s s' : World} {A : Option Addr} {n c : Nat} {l : List Pg} (h : Pgs s A n c l) (hl : Le D s s') : Pgs s' A n c l := Sl.le (fun _ _ h => h.le hl) h hl
theorem Pgs.at_ {s : World} {A : Option Addr} {n c k : Nat} {l : List Pg} (h : Pgs s A n c l) (hk : k < n) : ∃ b off p A' n' c', A = some ⟨b, off, none⟩ ∧ l[k]? = some p ∧ CellsAt s b (off + k * 2) [.slice A' n' c', .int .i64 p.2] ∧ Strs s A' n' c' p.1 := by
  have hl : k < l.length := by rw [← h.1]; exact hk
  obtain ⟨b, off, cs, h1, h2, _, A', n', c', rfl, h5⟩ := h.2.2.2 k l[k] (List.getElem?_eq_getElem hl)
  exact ⟨b, off, l[k], A', n', c', h1, List.getElem?_eq_getElem hl, h2, h5⟩
abbrev Pg2 (s : World) (p : Pg) (cs : List Value) : Prop := cs.length = 2 ∧ PgR s p cs
theorem flat_snocP (css : List (List Value)) (cs : List Value) : (css ++ [cs]).flatten = css.flatten ++ cs := by simp
theorem pg_last {l : List UInt8} (h : l ≠ []) : ∃ c, l[l.length - 1]? = some c ∧ (dotB l = decide (c = 46)) := by
  refine ⟨l.getLast h, by rw [← List.getLast?_eq_getElem?, List.getLast?_eq_some_getLast h], ?_⟩
  rw [dotB, List.getLast?_eq_some_getLast h]; simp
theorem pg_code1 {now : List (List UInt8)} {l : List UInt8} (h : dotB l = false ∨ (numL l.dropLast).isSome = false ∨ okT (joinW now) = false) : codeP (now, some l) = 1 := code_syn (by
  rcases h with h | h | h
  · exact .inl h
  · exact .inr (.inl (by simpa using h))
  · exact .inr (.inr h))
theorem pg_code2 {now : List (List UInt8)} {l : List UInt8} (h1 : dotB l = true) (h2 : (numL l.dropLast).isSome = true) (h3 : okT (joinW now) = true) : codeP (now, some l) = if ¬ chkS (joinW now) = (((numL l.dropLast).getD 0 : Nat) : Int) then 16 else 0 := by
  obtain ⟨u, hu⟩ := Option.isSome_iff_exists.1 h2
  have hno : ¬ (dotB l = false ∨ numL l.dropLast = none ∨ okT (joinW now) = false) := by rw [h1, hu, h3]; simp
  have hc := chk_lt (joinW now)
  rw [hu, Option.getD_some]
  by_cases e : chkS (joinW now) = (u : Int)
  · rw [if_neg (fun h => h e), code_fine hno (by rw [hu]; intro h; exact h (by congr 1; omega))]
  · rw [if_pos e, code_cor hno (by rw [hu]; intro h; injection h with h; exact e (by omega))]
theorem pg_more {now : List (List UInt8)} {ws : List (List UInt8)} {i : Nat} {w : List UInt8} (hw : ws[i]? = some w) (h : w ≠ checkB ∨ i + 1 = ws.length) : (dvF now (ws.drop i)).map pgOf = (dvF (now ++ [w]) (ws.drop (i + 1))).map pgOf := by
  rw [drop_at hw, dv_more (h.imp id fun e => List.drop_of_length_le (by omega))]
theorem pg_hit {now : List (List UInt8)} {ws : List (List UInt8)} {i : Nat} {l : List UInt8} (hw : ws[i]? = some checkB) (hl : ws[i + 1]? = some l) : (dvF now (ws.drop i)).map pgOf = (now, codeP (now, some l)) :: (dvF [] (ws.drop (i + 2))).map pgOf := by
  rw [drop_at hw, drop_at hl, dv_hit]; rfl
theorem pg_end (now : List (List UInt8)) (ws : List (List UInt8)) : (dvF now (ws.drop ws.length)).map pgOf = if now = [] then [] else [(now, 1)] := by
  rw [List.drop_length, dvF]; split <;> rfl
theorem drop_size {ws : List (List UInt8)} {i : Nat} {w : List UInt8} (h : ws[i]? = some w) : sizeW (ws.drop i) = w.length + 1 + sizeW (ws.drop (i + 1)) := by rw [drop_at h, sizeW_cons]
set_option maxHeartbeats 4000000 in
set_option maxRecDepth 100000 in
theorem parasRO_ac (D : Nat) (L : Hl) (s : World) (tx : List UInt8) (hl : tx.length ≤ 1000000) : AC Tryz.prog D 24 [St tx] L s fun v L' s' => ∃ M', L' = M' ++ L ∧ ∀ s2, Le D s' s2 → Pub M' s2 → ∃ A n c, v = .slice A n c ∧ Pgs s2 A n c (paraR (flds tx)) := by
 refine AC_enter (TT := TT) (fn := Tryz.f24) TT_ok Tryz.func24 (by kernel_rfl) rfl Tryz.ntmps24 rfl (rs := [.tmp 2]) rfl [(0, _)] rfl ?_
 refine JC_seq ?_
 refine JC_region ?_
 refine JO_q (QE_as rfl) rfl ?_
 refine JO_nil ?_
 refine thenQ_n ?_
 refine JC_seq ?_
 refine JC_region ?_
 refine JO_q (QE_mv rfl) rfl ?_
 refine JO_call (first := []) (captured := []) rfl rfl rfl (rfields_ac D _ _ tx (by omega)) ?_
 rintro _ _ s1 h1 ⟨rfl, Aw, nw, cw, rfl, hW⟩
 have hn := hW.1
 have hcw1 := hW.2.1
 have hcw2 := hW.2.2.1
 have hfs := flds_size tx
 have hfl := size_len (flds tx)
 refine JO_q (QE_as rfl) rfl ?_
 refine JO_nil ?_
 refine thenQ_n ?_
 refine JC_seq ?_
 refine JC_region ?_
 refine JO_q (QE_as rfl) rfl ?_
 refine JO_nil ?_
 refine thenQ_n ?_
 refine JC_seq ?_
 refine JC_region ?_
 refine JO_q (QE_as rfl) rfl ?_
 refine JO_nil ?_
 refine thenQ_n ?_
 refine JC_seq ?_
 refine JC_region ?_
 refine JO_q (QE_as rfl) rfl ?_
 refine JO_nil ?_
 refine thenQ_n ?_
 refine JC_seq ?_
 refine JC_block ?_
 refine JC_loop (γ := Nat × Value × Hl × List Pg × Value × Hl × List (List UInt8)) (fun g => [(2, _), (3, _), (4, g.2.1), (5, g.2.2.2.2.1), (6, .int .i64 (g.1 : Int))]) (fun g => g.2.2.2.2.2.1 ++ (g.2.2.1 ++ L)) (fun g tw => Le D s1 tw ∧ (g.1 ≤ nw ∧ (∃ css, FL.Own 53 2 g.2.2.1 g.2.1 g.2.2.2.1.length css.flatten ∧ All2 (Pg2 tw) g.2.2.2.1 css) ∧ FL.Own 9 1 g.2.2.2.2.2.1 g.2.2.2.2.1 g.2.2.2.2.2.2.length (sb g.2.2.2.2.2.2) ∧ g.2.2.2.1.length ≤ g.1 ∧ g.2.2.2.2.2.2.length ≤ g.1 ∧ sizeW g.2.2.2.2.2.2 + sizeW ((flds tx).drop g.1) ≤ sizeW (flds tx) ∧ paraR (flds tx) = g.2.2.2.1 ++ (dvF g.2.2.2.2.2.2 ((flds tx).drop g.1)).map pgOf)) (fun g => nw - g.1) (fun _ _ _ h hl => ⟨h.1.trans hl, by obtain ⟨_, k1, ⟨css, k2, k3⟩, k4⟩ := h; exact ⟨k1, ⟨css, k2, k3.mono fun y cs q => ⟨q.1, q.2.le hl⟩⟩, k4⟩⟩) (0, .slice none 0 0, [], [], .slice none 0 0, [], []) (Keeps.cons rfl (Keeps.cons rfl (Keeps.cons rfl (Keeps.cons rfl (Keeps.cons rfl (Keeps.nil _)))))) rfl ⟨Le.refl _, ⟨Nat.zero_le _, ⟨[], FL.Own.nil, .nil⟩, FL.Own.nil, Nat.le_refl _, Nat.le_refl _, by simp [sizeW_nil], rfl⟩⟩ ?_
 intro g s2 I2
 obtain ⟨i, vo, Mo, done, vn, Mn, now⟩ := g
 obtain ⟨hi0, ⟨css, hO, hcs⟩, hN, hol, hnl, hzz, hR⟩ := I2.2
 simp only at hi0 hO hcs hN hol hnl hzz hR
 dsimp only
 obtain ⟨An, cn, hvn, hcn1, hcn2⟩ := Own.slice hN
 subst hvn
 refine JC_seq ?_
 refine JC_seq ?_
 refine JC_region ?_
 refine JO_q (QE_mv rfl) rfl ?_
 refine JO_q (QE_mv rfl) rfl ?_
 refine JO_q (QE_lenS rfl rfl rfl) rfl ?_
 refine JO_q (QE_lt rfl rfl) rfl ?_
 refine JO_nil ?_
 refine thenQ_n ?_
 refine JC_ifD rfl (fun c3 => ?_) (fun c3 => ?_)
 ·
  have hk : i < nw := by omega
  obtain ⟨b, off, w, rfl, hw, hcw, _⟩ := Strs.at_ (hW.le I2.1) hk
  have hds := drop_size hw
  refine JC_skip ?_
  refine thenQ_n ?_
  refine JC_block ?_
  refine JC_seq ?_
  refine JC_seq ?_
  refine JC_region ?_
  refine JO_q (QE_mv rfl) rfl ?_
  refine JO_q (QE_mv rfl) rfl ?_
  refine JO_q (QE_ia1 rfl rfl rfl rfl rfl rfl hk) rfl ?_
  refine JO_q (QE_ldsR0 rfl rfl rfl (hcw.le (Le.refl (D := D) _)) rfl) rfl ?_
  refine JO_q (QE_sne rfl rfl) rfl ?_
  refine JO_q (QE_mv rfl) rfl ?_
  refine JO_caseN (t := 23) rfl (fun c4 => ?_) (fun c4 => ?_)
  ·
   refine JO_gF rfl rfl rfl rfl ?_
   refine JO_gF rfl rfl rfl rfl ?_
   refine JO_gF rfl rfl rfl rfl ?_
   refine JO_gF rfl rfl rfl rfl ?_
   refine JO_gF rfl rfl rfl rfl ?_
   refine JO_q (QE_pickT rfl rfl) rfl ?_
   refine JO_nil ?_
   refine thenQ_n ?_
   refine JC_ifT rfl ?_
   have hor : w ≠ checkB ∨ i + 1 = (flds tx).length := by
     first
     | exact .inl (by assumption)
     | exact .inr (by omega)
   refine JC_seq ?_
   refine JC_region ?_
   refine JO_q (QE_mv rfl) rfl ?_
   refine JO_q (QE_mv rfl) rfl ?_
   refine JO_q (QE_mv rfl) rfl ?_
   refine JO_q (QE_ia1 rfl rfl rfl rfl rfl rfl hk) rfl ?_
   refine JO_q (QE_ldsR0 rfl rfl rfl (hcw.le (Le.refl (D := D) _)) rfl) rfl ?_
   refine JO_bs [(_, _)] [_] rfl rfl rfl rfl rfl rfl rfl rfl rfl ?_
   intro βn s5 h5 hcb
   refine JO_app (sz := 1) [] Mn (Mo ++ L) rfl rfl rfl rfl rfl rfl rfl hN (Row.of_cells (hcb.le (Le.refl (D := D) _)) rfl rfl) ⟨by simp [ti9]; omega, by omega⟩ rfl ?_
   intro vq Mq s6 h6 oq
   obtain ⟨Avq, cvq, rfl, _, _⟩ := Own.slice oq
   simp only [List.nil_append]
   refine JO_q (QE_as rfl) rfl ?_
   refine JO_nil ?_
   refine thenQ_n ?_
   refine JC_seq ?_
   refine JC_region ?_
   refine JO_q (QE_mv rfl) rfl ?_
   refine JO_q (QE_add' rfl rfl (w64 (by omega) (by omega))) rfl ?_
   refine JO_q (QE_as rfl) rfl ?_
   refine JO_nil ?_
   refine thenQ_n ?_
   refine JC_exit ?_
   refine thenQ_x ?_
   refine blockQ_x ?_
   refine thenQ_n ⟨(i + 1, vo, Mo, done, .slice Avq (now.length + 1) cvq, Mq, now ++ [w]), [], (Keeps.cons rfl (Keeps.cons rfl (Keeps.cons rfl (Keeps.cons rfl (Keeps.cons rfl (Keeps.nil _)))))), rfl, ⟨(Le.trans (Le.trans I2.1 h5) h6), by
     first
     | exact ⟨by simp only; omega, ⟨css, hO, hcs.mono fun y cs q => ⟨q.1, q.2.le (Le.trans h5 h6)⟩⟩, by simp only [List.length_append, List.length_cons, List.length_nil, sb_app]; exact oq, by simp only; omega, by simp only [List.length_append, List.length_cons, List.length_nil]; omega, by simp only [sizeW_app, sizeW_cons, sizeW_nil]; omega, by simp only; rw [hR, pg_more hw hor]⟩
     | exact ⟨by simp only; omega, ⟨css ++ [[.slice An now.length cn, .int .i64 _]], by simp only; rw [List.length_append, flat_snocP]; exact oz, All2.snoc (hcs.mono fun y cs q => ⟨q.1, q.2.le (Le.trans h5 h6)⟩) ⟨rfl, An, now.length, cn, rfl, hSn.le (noSuchMark)⟩⟩, FL.Own.nil, by simp only [List.length_append, List.length_cons, List.length_nil]; omega, Nat.zero_le _, by simp only [sizeW_nil]; omega, by simp only; rw [hR, pg_hit hw hlw, hC]; simp⟩⟩, (by simp only; omega)⟩
  ·
   refine JO_gT rfl rfl ?_
   refine JO_q (QE_mv rfl) rfl ?_
   refine JO_gT rfl rfl ?_
   refine JO_q (QE_add' rfl rfl (w64 (by omega) (by omega))) rfl ?_
   refine JO_gT rfl rfl ?_
   refine JO_q (QE_mv rfl) rfl ?_
   refine JO_gT rfl rfl ?_
   refine JO_q (QE_lenS rfl rfl rfl) rfl ?_
   refine JO_gT rfl rfl ?_
   refine JO_q (QE_eq rfl rfl) rfl ?_
   refine JO_q (QE_pickF rfl rfl) rfl ?_
   refine JO_nil ?_
   refine thenQ_n ?_
   refine JC_ifD rfl (fun c7 => ?_) (fun c7 => ?_)
   ·
    have hor : w ≠ checkB ∨ i + 1 = (flds tx).length := by
      first
      | exact .inl (by assumption)
      | exact .inr (by omega)
    refine JC_seq ?_
    refine JC_region ?_
    refine JO_q (QE_mv rfl) rfl ?_
    refine JO_q (QE_mv rfl) rfl ?_
    refine JO_q (QE_mv rfl) rfl ?_
    refine JO_q (QE_ia1 rfl rfl rfl rfl rfl rfl hk) rfl ?_
    refine JO_q (QE_ldsR0 rfl rfl rfl (hcw.le (Le.refl (D := D) _)) rfl) rfl ?_
    refine JO_bs [(_, _)] [_] rfl rfl rfl rfl rfl rfl rfl rfl rfl ?_
    intro βn s8 h8 hcb
    refine JO_app (sz := 1) [] Mn (Mo ++ L) rfl rfl rfl rfl rfl rfl rfl hN (Row.of_cells (hcb.le (Le.refl (D := D) _)) rfl rfl) ⟨by simp [ti9]; omega, by omega⟩ rfl ?_
    intro vq Mq s9 h9 oq
    obtain ⟨Avq, cvq, rfl, _, _⟩ := Own.slice oq
    simp only [List.nil_append]
    refine JO_q (QE_as rfl) rfl ?_
    refine JO_nil ?_
    refine thenQ_n ?_
    refine JC_seq ?_
    refine JC_region ?_
    refine JO_q (QE_mv rfl) rfl ?_
    refine JO_q (QE_add' rfl rfl (w64 (by omega) (by omega))) rfl ?_
    refine JO_q (QE_as rfl) rfl ?_
    refine JO_nil ?_
    refine thenQ_n ?_
    refine JC_exit ?_
    refine thenQ_x ?_
    refine blockQ_x ?_
    refine thenQ_n ⟨(i + 1, vo, Mo, done, .slice Avq (now.length + 1) cvq, Mq, now ++ [w]), [], (Keeps.cons rfl (Keeps.cons rfl (Keeps.cons rfl (Keeps.cons rfl (Keeps.cons rfl (Keeps.nil _)))))), rfl, ⟨(Le.trans (Le.trans I2.1 h8) h9), by
      first
      | exact ⟨by simp only; omega, ⟨css, hO, hcs.mono fun y cs q => ⟨q.1, q.2.le (Le.trans h8 h9)⟩⟩, by simp only [List.length_append, List.length_cons, List.length_nil, sb_app]; exact oq, by simp only; omega, by simp only [List.length_append, List.length_cons, List.length_nil]; omega, by simp only [sizeW_app, sizeW_cons, sizeW_nil]; omega, by simp only; rw [hR, pg_more hw hor]⟩
      | exact ⟨by simp only; omega, ⟨css ++ [[.slice An now.length cn, .int .i64 _]], by simp only; rw [List.length_append, flat_snocP]; exact oz, All2.snoc (hcs.mono fun y cs q => ⟨q.1, q.2.le (Le.trans h8 h9)⟩) ⟨rfl, An, now.length, cn, rfl, hSn.le (noSuchMark)⟩⟩, FL.Own.nil, by simp only [List.length_append, List.length_cons, List.length_nil]; omega, Nat.zero_le _, by simp only [sizeW_nil]; omega, by simp only; rw [hR, pg_hit hw hlw, hC]; simp⟩⟩, (by simp only; omega)⟩
   ·
    have hwc : w = checkB := by first | assumption | (simp_all; done)
    subst hwc
    have hi1 : i + 1 < nw := by omega
    obtain ⟨b1, off1, l, hE1, hlw, hcl, _⟩ := Strs.at_ (hW.le I2.1) hi1
    cases hE1
    have hds1 : sizeW ((flds tx).drop (i + 1)) = l.length + 1 + sizeW ((flds tx).drop (i + 2)) := drop_size hlw
    have hlb := flds_bare tx l (List.mem_of_getElem? hlw)
    have hlpos : 0 < l.length := List.length_pos_iff.2 hlb.1
    obtain ⟨ch, hch, hdot⟩ := pg_last hlb.1
    refine JC_skip ?_
    refine thenQ_n ?_
    refine JC_seq ?_
    refine JC_pubX [] Mn _ ?_
    intro s10 h10 hpub10
    simp only [List.cons_append, List.nil_append]
    have hSn : Strs s10 An now.length cn now := Own.strs hN (fun x hx => by have := mem_size hx; omega) hpub10 rfl
    refine JC_region ?_
    refine JO_q (QE_mv rfl) rfl ?_
    refine JO_q (QE_build [(_, _)] [_, _] rfl rfl rfl rfl rfl rfl) rfl ?_
    refine JO_allocZ rfl [_, _] rfl rfl ?_
    intro β11 s11 h11
    refine JO_st 0 [_, _] rfl rfl rfl rfl rfl rfl rfl rfl rfl ?_
    refine JO_nil ?_
    refine thenQ_n ?_
    refine JC_seq ?_
    refine JC_region ?_
    refine JO_q (QE_mv rfl) rfl ?_
    refine JO_q (QE_mv rfl) rfl ?_
    refine JO_q (QE_add' (c := ((i + 1 : Nat) : Int)) rfl rfl (by rw [w64 (by omega) (by omega)]; omega)) rfl ?_
    refine JO_q (QE_ia1 rfl rfl rfl rfl rfl rfl hi1) rfl ?_
    refine JO_q (QE_ldsR0 rfl rfl rfl (hcl.le (Le.trans h10 h11)) rfl) rfl ?_
    refine JO_q (QE_as rfl) rfl ?_
    refine JO_nil ?_
    refine thenQ_n ?_
    refine JC_seq ?_
    refine JC_region ?_
    refine JO_q (QE_mv rfl) rfl ?_
    refine JO_q (QE_mv rfl) rfl ?_
    refine JO_q (QE_lenT rfl rfl rfl) rfl ?_
    refine JO_q (QE_sub' (c := ((l.length - 1 : Nat) : Int)) rfl rfl (by rw [w64 (by omega) (by omega)]; omega)) rfl ?_
    refine JO_q (QE_stH rfl rfl rfl rfl (by omega)) rfl ?_
    refine JO_call (first := []) (captured := []) rfl rfl rfl (numberOf_ac D _ _ _ (by rw [List.length_take]; omega)) ?_
    rintro _ _ s12 h12 ⟨rfl, rfl⟩
    refine JO_q (QE_mv rfl) rfl ?_
    refine JO_q (QE_ext rfl rfl) rfl ?_
    refine JO_q (QE_ext rfl rfl) rfl ?_
    refine JO_q (QE_as rfl) rfl ?_
    refine JO_q (QE_as rfl) rfl ?_
    refine JO_nil ?_
    refine thenQ_n ?_
    refine JC_seq ?_
    refine JC_region ?_
    refine JO_q (QE_mv rfl) rfl ?_
    refine JO_call (first := []) (captured := []) rfl rfl rfl (rjoined_ac D _ _ An now.length cn now (hSn.le (Le.trans h11 h12)) (by omega)) ?_
    rintro _ _ s13 h13 ⟨rfl, rfl⟩
    refine JO_call (first := []) (captured := []) rfl rfl rfl (rcheck_ac D _ _ (joinW now) (by have := join_len now; omega)) ?_
    rintro _ _ s14 h14 ⟨rfl, rfl⟩
    refine JO_q (QE_as rfl) rfl ?_
    refine JO_nil ?_
    refine thenQ_n ?_
    refine JC_seq ?_
    refine JC_seq ?_
    refine JC_region ?_
    refine JO_q (QE_mv rfl) rfl ?_
    refine JO_q (QE_not rfl) rfl ?_
    refine JO_q (QE_mv rfl) rfl ?_
    refine JO_caseM (t := 60) rfl (fun c15 => ?_) (fun c15 => ?_)
    ·
     refine JO_gF rfl rfl rfl rfl ?_
     refine JO_gF rfl rfl rfl rfl ?_
     refine JO_gF rfl rfl rfl rfl ?_
     refine JO_gF rfl rfl rfl rfl ?_
     refine JO_gF rfl rfl rfl rfl ?_
     refine JO_gF rfl rfl rfl rfl ?_
     refine JO_q (QE_pickT rfl rfl) rfl ?_
     refine JO_q (QE_mv rfl) rfl ?_
     refine JO_gF rfl rfl rfl rfl ?_
     refine JO_gF rfl rfl rfl rfl ?_
     refine JO_q (QE_pickT rfl rfl) rfl ?_
     refine JO_nil ?_
     refine thenQ_n ?_
     refine JC_ifT rfl ?_
     have hC : codeP (now, some l) = 1 := by
       first
       | exact pg_code1 (.inr (.inl (by rw [List.dropLast_eq_take]; assumption)))
       | exact pg_code1 (.inl (by rw [hdot]; exact decide_eq_false (fun e => by subst e; exact absurd rfl (by assumption))))
       | (refine pg_code1 (.inr (.inr ?_))
          cases e : okT (joinW now) with
          | false => rfl
          | true => (exfalso; have h := trivial; have h1 := chk_lt (joinW now); rw [if_pos e] at h; omega))
     refine JC_region ?_
     refine JO_q (QE_faB rfl rfl rfl rfl) rfl ?_
     refine JO_st 0 [_, _] rfl rfl rfl rfl rfl rfl rfl rfl rfl ?_
     refine JO_nil ?_
     refine thenQ_n ?_
     refine JC_seq ?_
     refine JC_region ?_
     refine JO_q (QE_mv rfl) rfl ?_
     refine JO_q (QE_ldA 0 [_, _] rfl rfl rfl rfl rfl) rfl ?_
     refine JO_bs [(_, _)] [_, _] rfl rfl rfl rfl rfl rfl rfl rfl rfl ?_
     intro βn s16 h16 hcb2
     refine JO_app (sz := 2) [_] Mo L rfl rfl rfl rfl rfl rfl rfl hO (Row.of_cells (hcb2.le (Le.refl (D := D) _)) rfl rfl) ⟨by simp [ti53]; omega, by omega⟩ rfl ?_
     intro vz Mz s17 h17 oz
     obtain ⟨Avz, cvz, rfl, _, _⟩ := Own.slice oz
     simp only [List.cons_append, List.nil_append]
     refine JO_q (QE_as rfl) rfl ?_
     refine JO_nil ?_
     refine thenQ_n ?_
     refine JC_seq ?_
     refine JC_region ?_
     refine JO_q (QE_as rfl) rfl ?_
     refine JO_nil ?_
     refine thenQ_n ?_
     refine JC_region ?_
     refine JO_q (QE_mv rfl) rfl ?_
     refine JO_q (QE_add' rfl rfl (w64 (by omega) (by omega))) rfl ?_
     refine JO_q (QE_as rfl) rfl ?_
     refine JO_nil ?_
     refine blockQ_n ?_
     refine thenQ_n ⟨(i + 2, .slice Avz (done.length + 1) cvz, Mz, done ++ [(now, 1)], .slice none 0 0, [], []), [_], (Keeps.cons rfl (Keeps.cons rfl (Keeps.cons rfl (Keeps.cons rfl (Keeps.cons rfl (Keeps.nil _)))))), rfl, ⟨(Le.trans (Le.trans (Le.trans (Le.trans (Le.trans (Le.trans (Le.trans I2.1 h10) h11) h12) h13) h14) h16) h17), by
       first
       | exact ⟨by simp only; omega, ⟨css, hO, hcs.mono fun y cs q => ⟨q.1, q.2.le (Le.trans (Le.trans (Le.trans (Le.trans (Le.trans (Le.trans h10 h11) h12) h13) h14) h16) h17)⟩⟩, by simp only [List.length_append, List.length_cons, List.length_nil, sb_app]; exact oq, by simp only; omega, by simp only [List.length_append, List.length_cons, List.length_nil]; omega, by simp only [sizeW_app, sizeW_cons, sizeW_nil]; omega, by simp only; rw [hR, pg_more hw hor]⟩
       | exact ⟨by simp only; omega, ⟨css ++ [[.slice An now.length cn, .int .i64 _]], by simp only; rw [List.length_append, flat_snocP]; exact oz, All2.snoc (hcs.mono fun y cs q => ⟨q.1, q.2.le (Le.trans (Le.trans (Le.trans (Le.trans (Le.trans (Le.trans h10 h11) h12) h13) h14) h16) h17)⟩) ⟨rfl, An, now.length, cn, rfl, hSn.le (Le.trans (Le.trans (Le.trans (Le.trans (Le.trans h11 h12) h13) h14) h16) h17)⟩⟩, FL.Own.nil, by simp only [List.length_append, List.length_cons, List.length_nil]; omega, Nat.zero_le _, by simp only [sizeW_nil]; omega, by simp only; rw [hR, pg_hit hw hlw, hC]; simp⟩⟩, (by simp only; omega)⟩
    ·
     refine JO_gT rfl rfl ?_
     refine JO_q (QE_mv rfl) rfl ?_
     refine JO_gT rfl rfl ?_
     refine JO_q (QE_mv rfl) rfl ?_
     refine JO_gT rfl rfl ?_
     refine JO_q (QE_lenT rfl rfl rfl) rfl ?_
     refine JO_gT rfl rfl ?_
     refine JO_q (QE_sub' (c := ((l.length - 1 : Nat) : Int)) rfl rfl (by rw [w64 (by omega) (by omega)]; omega)) rfl ?_
     refine JO_gT rfl rfl ?_
     refine JO_q (QE_ix rfl rfl rfl rfl hch) rfl ?_
     refine JO_gT rfl rfl ?_
     refine JO_q (QE_ne rfl rfl) rfl ?_
     refine JO_q (QE_pickF rfl rfl) rfl ?_
     refine JO_q (QE_mv rfl) rfl ?_
     refine JO_caseN (t := 68) rfl (fun c18 => ?_) (fun c18 => ?_)
     ·
      refine JO_gF rfl rfl rfl rfl ?_
      refine JO_gF rfl rfl rfl rfl ?_
      refine JO_q (QE_pickT rfl rfl) rfl ?_
      refine JO_nil ?_
      refine thenQ_n ?_
      refine JC_ifT rfl ?_
      have hC : codeP (now, some l) = 1 := by
        first
        | exact pg_code1 (.inr (.inl (by rw [List.dropLast_eq_take]; assumption)))
        | exact pg_code1 (.inl (by rw [hdot]; exact decide_eq_false (fun e => by subst e; exact absurd rfl (by assumption))))
        | (refine pg_code1 (.inr (.inr ?_))
           cases e : okT (joinW now) with
           | false => rfl
           | true => (exfalso; have h := trivial; have h1 := chk_lt (joinW now); rw [if_pos e] at h; omega))
      refine JC_region ?_
      refine JO_q (QE_faB rfl rfl rfl rfl) rfl ?_
      refine JO_st 0 [_, _] rfl rfl rfl rfl rfl rfl rfl rfl rfl ?_
      refine JO_nil ?_
      refine thenQ_n ?_
      refine JC_seq ?_
      refine JC_region ?_
      refine JO_q (QE_mv rfl) rfl ?_
      refine JO_q (QE_ldA 0 [_, _] rfl rfl rfl rfl rfl) rfl ?_
      refine JO_bs [(_, _)] [_, _] rfl rfl rfl rfl rfl rfl rfl rfl rfl ?_
      intro βn s19 h19 hcb2
      refine JO_app (sz := 2) [_] Mo L rfl rfl rfl rfl rfl rfl rfl hO (Row.of_cells (hcb2.le (Le.refl (D := D) _)) rfl rfl) ⟨by simp [ti53]; omega, by omega⟩ rfl ?_
      intro vz Mz s20 h20 oz
      obtain ⟨Avz, cvz, rfl, _, _⟩ := Own.slice oz
      simp only [List.cons_append, List.nil_append]
      refine JO_q (QE_as rfl) rfl ?_
      refine JO_nil ?_
      refine thenQ_n ?_
      refine JC_seq ?_
      refine JC_region ?_
      refine JO_q (QE_as rfl) rfl ?_
      refine JO_nil ?_
      refine thenQ_n ?_
      refine JC_region ?_
      refine JO_q (QE_mv rfl) rfl ?_
      refine JO_q (QE_add' rfl rfl (w64 (by omega) (by omega))) rfl ?_
      refine JO_q (QE_as rfl) rfl ?_
      refine JO_nil ?_
      refine blockQ_n ?_
      refine thenQ_n ⟨(i + 2, .slice Avz (done.length + 1) cvz, Mz, done ++ [(now, 1)], .slice none 0 0, [], []), [_], (Keeps.cons rfl (Keeps.cons rfl (Keeps.cons rfl (Keeps.cons rfl (Keeps.cons rfl (Keeps.nil _)))))), rfl, ⟨(Le.trans (Le.trans (Le.trans (Le.trans (Le.trans (Le.trans (Le.trans I2.1 h10) h11) h12) h13) h14) h19) h20), by
        first
        | exact ⟨by simp only; omega, ⟨css, hO, hcs.mono fun y cs q => ⟨q.1, q.2.le (Le.trans (Le.trans (Le.trans (Le.trans (Le.trans (Le.trans h10 h11) h12) h13) h14) h19) h20)⟩⟩, by simp only [List.length_append, List.length_cons, List.length_nil, sb_app]; exact oq, by simp only; omega, by simp only [List.length_append, List.length_cons, List.length_nil]; omega, by simp only [sizeW_app, sizeW_cons, sizeW_nil]; omega, by simp only; rw [hR, pg_more hw hor]⟩
        | exact ⟨by simp only; omega, ⟨css ++ [[.slice An now.length cn, .int .i64 _]], by simp only; rw [List.length_append, flat_snocP]; exact oz, All2.snoc (hcs.mono fun y cs q => ⟨q.1, q.2.le (Le.trans (Le.trans (Le.trans (Le.trans (Le.trans (Le.trans h10 h11) h12) h13) h14) h19) h20)⟩) ⟨rfl, An, now.length, cn, rfl, hSn.le (Le.trans (Le.trans (Le.trans (Le.trans (Le.trans h11 h12) h13) h14) h19) h20)⟩⟩, FL.Own.nil, by simp only [List.length_append, List.length_cons, List.length_nil]; omega, Nat.zero_le _, by simp only [sizeW_nil]; omega, by simp only; rw [hR, pg_hit hw hlw, hC]; simp⟩⟩, (by simp only; omega)⟩
     ·
      refine JO_gT rfl rfl ?_
      refine JO_q (QE_mv rfl) rfl ?_
      refine JO_gT rfl rfl ?_
      refine JO_q (QE_lt rfl rfl) rfl ?_
      refine JO_q (QE_pickF rfl rfl) rfl ?_
      refine JO_nil ?_
      refine thenQ_n ?_
      refine JC_ifD rfl (fun c21 => ?_) (fun c21 => ?_)
      ·
       have hC : codeP (now, some l) = 1 := by
         first
         | exact pg_code1 (.inr (.inl (by rw [List.dropLast_eq_take]; assumption)))
         | exact pg_code1 (.inl (by rw [hdot]; exact decide_eq_false (fun e => by subst e; exact absurd rfl (by assumption))))
         | (refine pg_code1 (.inr (.inr ?_))
            cases e : okT (joinW now) with
            | false => rfl
            | true => (exfalso; have h := c21; have h1 := chk_lt (joinW now); rw [if_pos e] at h; omega))
       refine JC_region ?_
       refine JO_q (QE_faB rfl rfl rfl rfl) rfl ?_
       refine JO_st 0 [_, _] rfl rfl rfl rfl rfl rfl rfl rfl rfl ?_
       refine JO_nil ?_
       refine thenQ_n ?_
       refine JC_seq ?_
       refine JC_region ?_
       refine JO_q (QE_mv rfl) rfl ?_
       refine JO_q (QE_ldA 0 [_, _] rfl rfl rfl rfl rfl) rfl ?_
       refine JO_bs [(_, _)] [_, _] rfl rfl rfl rfl rfl rfl rfl rfl rfl ?_
       intro βn s22 h22 hcb2
       refine JO_app (sz := 2) [_] Mo L rfl rfl rfl rfl rfl rfl rfl hO (Row.of_cells (hcb2.le (Le.refl (D := D) _)) rfl rfl) ⟨by simp [ti53]; omega, by omega⟩ rfl ?_
       intro vz Mz s23 h23 oz
       obtain ⟨Avz, cvz, rfl, _, _⟩ := Own.slice oz
       simp only [List.cons_append, List.nil_append]
       refine JO_q (QE_as rfl) rfl ?_
       refine JO_nil ?_
       refine thenQ_n ?_
       refine JC_seq ?_
       refine JC_region ?_
       refine JO_q (QE_as rfl) rfl ?_
       refine JO_nil ?_
       refine thenQ_n ?_
       refine JC_region ?_
       refine JO_q (QE_mv rfl) rfl ?_
       refine JO_q (QE_add' rfl rfl (w64 (by omega) (by omega))) rfl ?_
       refine JO_q (QE_as rfl) rfl ?_
       refine JO_nil ?_
       refine blockQ_n ?_
       refine thenQ_n ⟨(i + 2, .slice Avz (done.length + 1) cvz, Mz, done ++ [(now, 1)], .slice none 0 0, [], []), [_], (Keeps.cons rfl (Keeps.cons rfl (Keeps.cons rfl (Keeps.cons rfl (Keeps.cons rfl (Keeps.nil _)))))), rfl, ⟨(Le.trans (Le.trans (Le.trans (Le.trans (Le.trans (Le.trans (Le.trans I2.1 h10) h11) h12) h13) h14) h22) h23), by
         first
         | exact ⟨by simp only; omega, ⟨css, hO, hcs.mono fun y cs q => ⟨q.1, q.2.le (Le.trans (Le.trans (Le.trans (Le.trans (Le.trans (Le.trans h10 h11) h12) h13) h14) h22) h23)⟩⟩, by simp only [List.length_append, List.length_cons, List.length_nil, sb_app]; exact oq, by simp only; omega, by simp only [List.length_append, List.length_cons, List.length_nil]; omega, by simp only [sizeW_app, sizeW_cons, sizeW_nil]; omega, by simp only; rw [hR, pg_more hw hor]⟩
         | exact ⟨by simp only; omega, ⟨css ++ [[.slice An now.length cn, .int .i64 _]], by simp only; rw [List.length_append, flat_snocP]; exact oz, All2.snoc (hcs.mono fun y cs q => ⟨q.1, q.2.le (Le.trans (Le.trans (Le.trans (Le.trans (Le.trans (Le.trans h10 h11) h12) h13) h14) h22) h23)⟩) ⟨rfl, An, now.length, cn, rfl, hSn.le (Le.trans (Le.trans (Le.trans (Le.trans (Le.trans h11 h12) h13) h14) h22) h23)⟩⟩, FL.Own.nil, by simp only [List.length_append, List.length_cons, List.length_nil]; omega, Nat.zero_le _, by simp only [sizeW_nil]; omega, by simp only; rw [hR, pg_hit hw hlw, hC]; simp⟩⟩, (by simp only; omega)⟩
      ·
       have hokT : okT (joinW now) = true := by
         cases e : okT (joinW now) with
         | true => rfl
         | false => (exfalso; have h := c21; rw [if_neg (by rw [e]; decide)] at h; omega)
       have hd : dotB l = true := by rw [hdot]; exact decide_eq_true (UInt8.toNat_inj.1 (by have : (46 : UInt8).toNat = 46 := rfl; omega))
       have hs : (numL l.dropLast).isSome = true := by rw [List.dropLast_eq_take]; assumption
       have hC0 := pg_code2 hd hs hokT
       refine JC_seq ?_
       refine JC_region ?_
       refine JO_q (QE_mv rfl) rfl ?_
       refine JO_q (QE_conv' rfl rfl rfl rfl rfl (show IntKind.u32.wrap (if okT (joinW now) = true then chkS (joinW now) else -1) = chkS (joinW now) by rw [if_pos hokT, IntKind.wrap_u32]; have := chk_lt (joinW now); omega)) rfl ?_
       refine JO_q (QE_mv rfl) rfl ?_
       refine JO_q (QE_ne rfl rfl) rfl ?_
       refine JO_nil ?_
       refine thenQ_n ?_
       refine JC_ifN rfl (fun c24 => ?_) (fun c24 => ?_)
       ·
        have hC : codeP (now, some l) = 16 := by rw [hC0, if_pos (by rw [List.dropLast_eq_take]; exact c24)]
        refine JC_region ?_
        refine JO_q (QE_faB rfl rfl rfl rfl) rfl ?_
        refine JO_st 0 [_, _] rfl rfl rfl rfl rfl rfl rfl rfl rfl ?_
        refine JO_nil ?_
        refine thenQ_n ?_
        refine JC_seq ?_
        refine JC_region ?_
        refine JO_q (QE_mv rfl) rfl ?_
        refine JO_q (QE_ldA 0 [_, _] rfl rfl rfl rfl rfl) rfl ?_
        refine JO_bs [(_, _)] [_, _] rfl rfl rfl rfl rfl rfl rfl rfl rfl ?_
        intro βn s25 h25 hcb2
        refine JO_app (sz := 2) [_] Mo L rfl rfl rfl rfl rfl rfl rfl hO (Row.of_cells (hcb2.le (Le.refl (D := D) _)) rfl rfl) ⟨by simp [ti53]; omega, by omega⟩ rfl ?_
        intro vz Mz s26 h26 oz
        obtain ⟨Avz, cvz, rfl, _, _⟩ := Own.slice oz
        simp only [List.cons_append, List.nil_append]
        refine JO_q (QE_as rfl) rfl ?_
        refine JO_nil ?_
        refine thenQ_n ?_
        refine JC_seq ?_
        refine JC_region ?_
        refine JO_q (QE_as rfl) rfl ?_
        refine JO_nil ?_
        refine thenQ_n ?_
        refine JC_region ?_
        refine JO_q (QE_mv rfl) rfl ?_
        refine JO_q (QE_add' rfl rfl (w64 (by omega) (by omega))) rfl ?_
        refine JO_q (QE_as rfl) rfl ?_
        refine JO_nil ?_
        refine blockQ_n ?_
        refine thenQ_n ⟨(i + 2, .slice Avz (done.length + 1) cvz, Mz, done ++ [(now, 16)], .slice none 0 0, [], []), [_], (Keeps.cons rfl (Keeps.cons rfl (Keeps.cons rfl (Keeps.cons rfl (Keeps.cons rfl (Keeps.nil _)))))), rfl, ⟨(Le.trans (Le.trans (Le.trans (Le.trans (Le.trans (Le.trans (Le.trans I2.1 h10) h11) h12) h13) h14) h25) h26), by
          first
          | exact ⟨by simp only; omega, ⟨css, hO, hcs.mono fun y cs q => ⟨q.1, q.2.le (Le.trans (Le.trans (Le.trans (Le.trans (Le.trans (Le.trans h10 h11) h12) h13) h14) h25) h26)⟩⟩, by simp only [List.length_append, List.length_cons, List.length_nil, sb_app]; exact oq, by simp only; omega, by simp only [List.length_append, List.length_cons, List.length_nil]; omega, by simp only [sizeW_app, sizeW_cons, sizeW_nil]; omega, by simp only; rw [hR, pg_more hw hor]⟩
          | exact ⟨by simp only; omega, ⟨css ++ [[.slice An now.length cn, .int .i64 _]], by simp only; rw [List.length_append, flat_snocP]; exact oz, All2.snoc (hcs.mono fun y cs q => ⟨q.1, q.2.le (Le.trans (Le.trans (Le.trans (Le.trans (Le.trans (Le.trans h10 h11) h12) h13) h14) h25) h26)⟩) ⟨rfl, An, now.length, cn, rfl, hSn.le (Le.trans (Le.trans (Le.trans (Le.trans (Le.trans h11 h12) h13) h14) h25) h26)⟩⟩, FL.Own.nil, by simp only [List.length_append, List.length_cons, List.length_nil]; omega, Nat.zero_le _, by simp only [sizeW_nil]; omega, by simp only; rw [hR, pg_hit hw hlw, hC]; simp⟩⟩, (by simp only; omega)⟩
       ·
        have hC : codeP (now, some l) = 0 := by rw [hC0, if_neg (fun h => h (by rw [List.dropLast_eq_take]; exact c24))]
        refine JC_skip ?_
        refine thenQ_n ?_
        refine JC_seq ?_
        refine JC_region ?_
        refine JO_q (QE_mv rfl) rfl ?_
        refine JO_q (QE_ldA 0 [_, _] rfl rfl rfl rfl rfl) rfl ?_
        refine JO_bs [(_, _)] [_, _] rfl rfl rfl rfl rfl rfl rfl rfl rfl ?_
        intro βn s27 h27 hcb2
        refine JO_app (sz := 2) [_] Mo L rfl rfl rfl rfl rfl rfl rfl hO (Row.of_cells (hcb2.le (Le.refl (D := D) _)) rfl rfl) ⟨by simp [ti53]; omega, by omega⟩ rfl ?_
        intro vz Mz s28 h28 oz
        obtain ⟨Avz, cvz, rfl, _, _⟩ := Own.slice oz
        simp only [List.cons_append, List.nil_append]
        refine JO_q (QE_as rfl) rfl ?_
        refine JO_nil ?_
        refine thenQ_n ?_
        refine JC_seq ?_
        refine JC_region ?_
        refine JO_q (QE_as rfl) rfl ?_
        refine JO_nil ?_
        refine thenQ_n ?_
        refine JC_region ?_
        refine JO_q (QE_mv rfl) rfl ?_
        refine JO_q (QE_add' rfl rfl (w64 (by omega) (by omega))) rfl ?_
        refine JO_q (QE_as rfl) rfl ?_
        refine JO_nil ?_
        refine blockQ_n ?_
        refine thenQ_n ⟨(i + 2, .slice Avz (done.length + 1) cvz, Mz, done ++ [(now, 0)], .slice none 0 0, [], []), [_], (Keeps.cons rfl (Keeps.cons rfl (Keeps.cons rfl (Keeps.cons rfl (Keeps.cons rfl (Keeps.nil _)))))), rfl, ⟨(Le.trans (Le.trans (Le.trans (Le.trans (Le.trans (Le.trans (Le.trans I2.1 h10) h11) h12) h13) h14) h27) h28), by
          first
          | exact ⟨by simp only; omega, ⟨css, hO, hcs.mono fun y cs q => ⟨q.1, q.2.le (Le.trans (Le.trans (Le.trans (Le.trans (Le.trans (Le.trans h10 h11) h12) h13) h14) h27) h28)⟩⟩, by simp only [List.length_append, List.length_cons, List.length_nil, sb_app]; exact oq, by simp only; omega, by simp only [List.length_append, List.length_cons, List.length_nil]; omega, by simp only [sizeW_app, sizeW_cons, sizeW_nil]; omega, by simp only; rw [hR, pg_more hw hor]⟩
          | exact ⟨by simp only; omega, ⟨css ++ [[.slice An now.length cn, .int .i64 _]], by simp only; rw [List.length_append, flat_snocP]; exact oz, All2.snoc (hcs.mono fun y cs q => ⟨q.1, q.2.le (Le.trans (Le.trans (Le.trans (Le.trans (Le.trans (Le.trans h10 h11) h12) h13) h14) h27) h28)⟩) ⟨rfl, An, now.length, cn, rfl, hSn.le (Le.trans (Le.trans (Le.trans (Le.trans (Le.trans h11 h12) h13) h14) h27) h28)⟩⟩, FL.Own.nil, by simp only [List.length_append, List.length_cons, List.length_nil]; omega, Nat.zero_le _, by simp only [sizeW_nil]; omega, by simp only; rw [hR, pg_hit hw hlw, hC]; simp⟩⟩, (by simp only; omega)⟩
 ·
  have hiE : i = nw := by omega
  subst hiE
  rw [hn, pg_end] at hR
  obtain ⟨Ao, co, hvo, _, _⟩ := Own.slice hO
  subst hvo
  refine JC_exit ?_
  refine thenQ_x ?_
  refine thenQ_x ?_
  refine blockQ_x ?_
  refine thenQ_n ?_
  refine JC_seq ?_
  refine JC_seq ?_
  refine JC_region ?_
  refine JO_q (QE_mv rfl) rfl ?_
  refine JO_q (QE_lenS rfl rfl rfl) rfl ?_
  refine JO_q (QE_gt rfl rfl) rfl ?_
  refine JO_nil ?_
  refine thenQ_n ?_
  refine JC_ifD rfl (fun c29 => ?_) (fun c29 => ?_)
  ·
   have hne : now ≠ [] := fun e => by have h := congrArg List.length e; simp only [List.length_nil] at h; omega
   rw [if_neg hne] at hR
   refine JC_pubX [] Mn _ ?_
   intro s30 h30 hpub30
   simp only [List.cons_append, List.nil_append]
   have hSn : Strs s30 An now.length cn now := Own.strs hN (fun x hx => by have := mem_size hx; omega) hpub30 rfl
   refine JC_region ?_
   refine JO_q (QE_mv rfl) rfl ?_
   refine JO_q (QE_mv rfl) rfl ?_
   refine JO_q (QE_build [(_, _), (_, _)] [_, _] rfl rfl rfl rfl rfl rfl) rfl ?_
   refine JO_bs [(_, _)] [_, _] rfl rfl rfl rfl rfl rfl rfl rfl rfl ?_
   intro βn s31 h31 hcb2
   refine JO_app (sz := 2) [] Mo L rfl rfl rfl rfl rfl rfl rfl hO (Row.of_cells (hcb2.le (Le.refl (D := D) _)) rfl rfl) ⟨by simp [ti53]; omega, by omega⟩ rfl ?_
   intro vz Mz s32 h32 oz
   obtain ⟨Avz, cvz, rfl, _, _⟩ := Own.slice oz
   simp only [List.nil_append]
   refine JO_q (QE_as rfl) rfl ?_
   refine JO_nil ?_
   refine thenQ_n ?_
   refine JC_seq ?_
   refine JC_region ?_
   refine JO_q (QE_mv rfl) rfl ?_
   refine JO_q (QE_as rfl) rfl ?_
   refine JO_nil ?_
   refine thenQ_n ?_
   refine JC_ret ?_
   refine retQ_mk [] _ (.inr rfl) (.tmp rfl (.nil)) rfl (Le.trans (Le.trans (Le.trans (Le.trans h1 I2.1) h30) h31) h32) (fun sR hS2 => ?_)
   refine ⟨Mz, rfl, fun s2 hs2 hp => ⟨Avz, done.length + 1, cvz, rfl, ?_⟩⟩
   rw [hR]
   exact Own.rows (css := css ++ [[.slice An now.length cn, .int .i64 1]]) (by rw [flat_snocP]; exact oz) hp (All2.snoc (hcs.mono fun y cs q => ⟨q.1, q.2.le (Le.trans (Le.trans (Le.trans h30 h31) h32) (Le.trans hS2 hs2))⟩) ⟨rfl, An, now.length, cn, rfl, hSn.le (Le.trans (Le.trans h31 h32) (Le.trans hS2 hs2))⟩) (by simp)
  ·
   have hne : now = [] := List.eq_nil_of_length_eq_zero (by omega)
   rw [if_pos hne, List.append_nil] at hR
   refine JC_skip ?_
   refine thenQ_n ?_
   refine JC_seq ?_
   refine JC_region ?_
   refine JO_q (QE_mv rfl) rfl ?_
   refine JO_q (QE_as rfl) rfl ?_
   refine JO_nil ?_
   refine thenQ_n ?_
   refine JC_ret ?_
   refine retQ_mk [] _ (.inr rfl) (.tmp rfl (.nil)) rfl (Le.trans h1 I2.1) (fun sR hS2 => ?_)
   refine ⟨Mn ++ Mo, by simp, fun s2 hs2 hp => ⟨Ao, done.length, co, rfl, ?_⟩⟩
   rw [hR]
   exact Own.rows hO (Pub.right hp) (hcs.mono fun y cs q => ⟨q.1, q.2.le (Le.trans (Le.refl (D := D) _) (Le.trans hS2 hs2))⟩) rfl
theorem parasR_ac (D : Nat) (L : Hl) (s : World) (tx : List UInt8) (hl : tx.length ≤ 1000000) : AC Tryz.prog D 24 [St tx] L s fun v L' s' => L = L' ∧ ∃ A n c, v = .slice A n c ∧ Pgs s' A n c (paraR (flds tx)) := AC.pubW (parasRO_ac D L s tx hl)
end Go.Proofs.YtoeeblegplghmaaGreatDoor
namespace Go.Proofs.YtoeeblegplghmaaGreatDoor
open Go.FL
attribute [local irreducible] JC JO JA JB thenQ blockQ retQ AC fill CellsAt QE Ev Mid
def opP0 : List UInt8 := [84, 104, 101, 32, 109, 97, 99, 104, 105, 110, 101, 32, 104, 97, 115, 32]
def opPs : List (List UInt8) := [[32, 99, 101, 108, 108, 115, 32, 119, 105, 116, 104, 32, 116, 104, 101, 32, 110, 117, 109, 98, 101, 114, 115, 32, 48, 44, 32, 49, 44, 32, 50, 32, 97, 110, 100, 32, 115, 111, 32, 111, 110, 44, 32, 97, 110, 100, 32, 116, 104, 101, 32, 114, 101, 103, 105, 115, 116, 101, 114, 115, 32, 65, 44, 32, 66, 44, 32, 67, 44, 32, 68, 32, 97, 110, 100, 32, 80, 46],
  [32, 69, 97, 99, 104, 32, 99, 101, 108, 108, 32, 97, 110, 100, 32, 101, 97, 99, 104, 32, 114, 101, 103, 105, 115, 116, 101, 114, 32, 104, 111, 108, 100, 115, 32, 97, 32, 110, 117, 109, 98, 101, 114, 32, 116, 104, 97, 116, 32, 105, 115, 32, 108, 101, 115, 115, 32, 116, 104, 97, 110, 32, 52, 50, 57, 52, 57, 54, 55, 50, 57, 54, 59, 32, 111, 102, 32, 97, 32, 115, 117, 109, 44, 32, 97, 32, 100, 105, 102, 102, 101, 114, 101, 110, 99, 101, 32, 111, 114, 32, 97, 32, 112, 114, 111, 100, 117, 99, 116, 32, 111, 110, 108, 121, 32, 116, 104, 101, 32, 114, 101, 109, 97, 105, 110, 100, 101, 114, 32, 111, 102, 32, 97, 32, 100, 105, 118, 105, 115, 105, 111, 110, 32, 98, 121, 32, 52, 50, 57, 52, 57, 54, 55, 50, 57, 54, 32, 105, 115, 32, 107, 101, 112, 116, 46],
  [32, 65, 116, 32, 102, 105, 114, 115, 116, 32, 116, 104, 101, 32, 110, 117, 109, 98, 101, 114, 115, 32, 111, 102, 32, 116, 104, 101, 32, 112, 114, 111, 103, 114, 97, 109, 32, 97, 114, 101, 32, 105, 110, 32, 116, 104, 101, 32, 99, 101, 108, 108, 115, 32, 102, 114, 111, 109, 32, 48, 32, 111, 110, 44, 32, 97, 110, 100, 32, 48, 32, 105, 115, 32, 105, 110, 32, 97, 108, 108, 32, 111, 116, 104, 101, 114, 32, 99, 101, 108, 108, 115, 32, 97, 110, 100, 32, 105, 110, 32, 116, 104, 101, 32, 114, 101, 103, 105, 115, 116, 101, 114, 115, 46],
  [32, 84, 111, 32, 109, 97, 107, 101, 32, 97, 32, 115, 116, 101, 112, 44, 32, 102, 105, 110, 100, 32, 116, 104, 101, 32, 105, 110, 115, 116, 114, 117, 99, 116, 105, 111, 110, 32, 119, 104, 111, 115, 101, 32, 99, 111, 100, 101, 32, 105, 115, 32, 105, 110, 32, 116, 104, 101, 32, 99, 101, 108, 108, 32, 119, 105, 116, 104, 32, 116, 104, 101, 32, 110, 117, 109, 98, 101, 114, 32, 80, 44, 32, 97, 110, 100, 32, 97, 100, 100, 32, 49, 32, 116, 111, 32, 80, 59, 32, 105, 102, 32, 116, 104, 101, 32, 105, 110, 115, 116, 114, 117, 99, 116, 105, 111, 110, 32, 104, 97, 115, 32, 97, 110, 32, 111, 112, 101, 114, 97, 110, 100, 44, 32, 116, 104, 105, 115, 32, 105, 115, 32, 116, 104, 101, 32, 110, 117, 109, 98, 101, 114, 32, 78, 32, 105, 110, 32, 116, 104, 101, 32, 99, 101, 108, 108, 32, 119, 105, 116, 104, 32, 116, 104, 101, 32, 110, 101, 119, 32, 110, 117, 109, 98, 101, 114, 32, 80, 44, 32, 97, 110, 100, 32, 49, 32, 105, 115, 32, 97, 100, 100, 101, 100, 32, 116, 111, 32, 80, 32, 97, 103, 97, 105, 110, 46],
  [32, 84, 104, 101, 110, 32, 100, 111, 32, 119, 104, 97, 116, 32, 105, 116, 115, 32, 115, 101, 110, 116, 101, 110, 99, 101, 115, 32, 115, 97, 121, 44, 32, 111, 110, 101, 32, 97, 102, 116, 101, 114, 32, 97, 110, 111, 116, 104, 101, 114, 46, 32, 83, 116, 111, 112, 32, 105, 102, 32, 116, 104, 101, 114, 101, 32, 105, 115, 32, 110, 111, 32, 115, 117, 99, 104, 32, 105, 110, 115, 116, 114, 117, 99, 116, 105, 111, 110, 32, 111, 114, 32, 110, 111, 32, 115, 117, 99, 104, 32, 99, 101, 108, 108, 44, 32, 111, 114, 32, 105, 102, 32, 97, 32, 100, 105, 118, 105, 115, 111, 114, 32, 105, 115, 32, 48, 46],
  [32, 84, 111, 32, 109, 111, 118, 101, 32, 97, 32, 110, 117, 109, 98, 101, 114, 32, 116, 111, 32, 116, 104, 101, 32, 108, 101, 102, 116, 32, 98, 121, 32, 49, 32, 105, 115, 32, 116, 111, 32, 100, 111, 117, 98, 108, 101, 32, 105, 116, 44, 32, 116, 111, 32, 109, 111, 118, 101, 32, 105, 116, 32, 116, 111, 32, 116, 104, 101, 32, 114, 105, 103, 104, 116, 32, 98, 121, 32, 49, 32, 105, 115, 32, 116, 111, 32, 104, 97, 108, 118, 101, 32, 105, 116, 32, 119, 105, 116, 104, 111, 117, 116, 32, 97, 32, 114, 101, 109, 97, 105, 110, 100, 101, 114, 46, 32, 66, 105, 116, 115, 32, 97, 114, 101, 32, 116, 104, 101, 32, 100, 105, 103, 105, 116, 115, 32, 111, 102, 32, 97, 32, 110, 117, 109, 98, 101, 114, 32, 105, 110, 32, 116, 104, 101, 32, 98, 97, 115, 101, 32, 50, 46],
  [32, 84, 104, 101, 32, 105, 110, 112, 117, 116, 32, 105, 115, 32, 97, 32, 108, 105, 115, 116, 32, 111, 102, 32, 110, 117, 109, 98, 101, 114, 115, 32, 108, 101, 115, 115, 32, 116, 104, 97, 110, 32, 50, 53, 54, 59, 32, 98, 101, 104, 105, 110, 100, 32, 105, 116, 115, 32, 101, 110, 100, 32, 116, 104, 101, 32, 110, 101, 120, 116, 32, 105, 110, 112, 117, 116, 32, 105, 115, 32, 97, 108, 119, 97, 121, 115, 32, 52, 50, 57, 52, 57, 54, 55, 50, 57, 53, 46, 32, 84, 111, 32, 119, 114, 105, 116, 101, 32, 97, 32, 110, 117, 109, 98, 101, 114, 32, 105, 115, 32, 116, 111, 32, 119, 114, 105, 116, 101, 32, 116, 104, 101, 32, 114, 101, 109, 97, 105, 110, 100, 101, 114, 32, 111, 102, 32, 105, 116, 115, 32, 100, 105, 118, 105, 115, 105, 111, 110, 32, 98, 121, 32, 50, 53, 54, 46],
  [32, 69, 97, 99, 104, 32, 112, 97, 114, 97, 103, 114, 97, 112, 104, 32, 101, 110, 100, 115, 32, 119, 105, 116, 104, 32, 97, 32, 99, 104, 101, 99, 107, 58, 32, 105, 116, 115, 32, 99, 104, 97, 114, 97, 99, 116, 101, 114, 115, 32, 97, 104, 101, 97, 100, 32, 111, 102, 32, 116, 104, 101, 32, 99, 104, 101, 99, 107, 44, 32, 119, 105, 116, 104, 32, 111, 110, 101, 32, 98, 108, 97, 110, 107, 32, 98, 101, 116, 119, 101, 101, 110, 32, 116, 119, 111, 32, 119, 111, 114, 100, 115, 44, 32, 97, 114, 101, 32, 99, 111, 117, 110, 116, 101, 100, 32, 102, 114, 111, 109, 32, 49, 32, 111, 110, 44, 32, 97, 110, 100, 32, 101, 97, 99, 104, 32, 99, 111, 117, 110, 116, 32, 105, 115, 32, 109, 117, 108, 116, 105, 112, 108, 105, 101, 100, 32, 98, 121, 32, 116, 104, 101, 32, 118, 97, 108, 117, 101, 32, 111, 102, 32, 105, 116, 115, 32, 99, 104, 97, 114, 97, 99, 116, 101, 114, 59, 32, 116, 104, 101, 32, 99, 104, 101, 99, 107, 32, 105, 115, 32, 116, 104, 101, 32, 114, 101, 109, 97, 105, 110, 100, 101, 114, 32, 111, 102, 32, 116, 104, 101, 32, 115, 117, 109, 32, 105, 110, 32, 97, 32, 100, 105, 118, 105, 115, 105, 111, 110, 32, 98, 121, 32, 57, 57, 55, 51, 46],
  [32, 84, 104, 101, 32, 118, 97, 108, 117, 101, 115, 32, 97, 114, 101, 32, 49, 32, 116, 111, 32, 50, 54, 32, 102, 111, 114, 32, 97, 32, 116, 111, 32, 122, 44, 32, 50, 55, 32, 116, 111, 32, 53, 50, 32, 102, 111, 114, 32, 65, 32, 116, 111, 32, 90, 44, 32, 53, 51, 32, 116, 111, 32, 54, 50, 32, 102, 111, 114, 32, 116, 104, 101, 32, 100, 105, 103, 105, 116, 115, 32, 48, 32, 116, 111, 32, 57, 44, 32, 54, 51, 32, 102, 111, 114, 32, 97, 32, 102, 117, 108, 108, 32, 115, 116, 111, 112, 44, 32, 54, 52, 32, 102, 111, 114, 32, 97, 32, 99, 111, 109, 109, 97, 44, 32, 54, 53, 32, 102, 111, 114, 32, 97, 32, 115, 101, 109, 105, 99, 111, 108, 111, 110, 44, 32, 54, 54, 32, 102, 111, 114, 32, 97, 32, 99, 111, 108, 111, 110, 44, 32, 97, 110, 100, 32, 48, 32, 102, 111, 114, 32, 97, 32, 98, 108, 97, 110, 107, 46]]
def opA (u : Nat) : Nat → List UInt8
  | 0 => opP0 ++ Lib.decDigits u
  | k + 1 => opA u k ++ opPs.getD k []
theorem opP_len : ∀ k, k < 9 → (opPs.getD k []).length ≤ 400 := by decide +kernel
theorem opA_len {u : Nat} (hu : u < 4294967296) : ∀ k, k ≤ 9 → (opA u k).length ≤ 30 + 400 * k
  | 0, _ => by have := (dec_len (u := u) hu).2; rw [opA, List.length_append]; have h : opP0.length ≤ 20 := by decide +kernel
               omega
  | k + 1, h => by have h1 := opA_len hu k (by omega); have h2 := opP_len k (by omega); rw [opA, List.length_append]; omega
theorem opA_flat (u : Nat) : ∀ k, k ≤ 9 → opA u k = (opP0 ++ Lib.decDigits u) ++ (opPs.take k).flatten
  | 0, _ => by simp [opA]
  | k + 1, h => by
    have hl : k < opPs.length := by have : opPs.length = 9 := by decide +kernel
                                    omega
    rw [opA, opA_flat u k (by omega), List.take_succ_eq_append_getElem hl, List.flatten_append, List.getD_eq_getElem?_getD, List.getElem?_eq_getElem hl]; simp
theorem QE_saddA {P : Program} {TT : TyTab} {D : Nat} {fr : Fr} {ty : Nat} {K : Hl} {s0 : World} {x y : Operand} (a b c : List UInt8) {t t' : Nat} (hx : lk fr x = some (St a)) (hy : lk fr y = some (St b)) (hc : a ++ b = c) (hl : c.length ≤ 9223372036854775807) : QE P TT D fr (.binOp .add t x y t') ty K s0 (St c) := by
  subst hc; exact QE_sadd hx hy (by rw [← List.length_append]; exact hl)
theorem opA_all (u : Nat) : opA u 9 = joinW (cellW (u : Int)) := by
  rw [opA_flat u 9 (Nat.le_refl _), List.append_assoc]
  exact open_fin (c := (u : Int)) rfl (by decide +kernel) (by decide +kernel)
set_option maxHeartbeats 4000000 in
set_option maxRecDepth 100000 in
theorem ropen_ac (D : Nat) (L : Hl) (s : World) (u : Nat) (hu : u < 4294967296) : AC Tryz.prog D 32 [.int .u32 (u : Int)] L s fun v L' _ => v = St (joinW (cellW (u : Int))) ∧ L = L' := by
 refine AC_enter (TT := TT) (fn := Tryz.f32) TT_ok Tryz.func32 (by kernel_rfl) rfl Tryz.ntmps32 rfl (rs := [.tmp 2]) rfl [(0, _)] rfl ?_
 refine JC_seq ?_
 refine JC_region ?_
 refine JO_q (QE_as rfl) rfl ?_
 refine JO_nil ?_
 refine thenQ_n ?_
 refine JC_seq ?_
 refine JC_region ?_
 refine JO_q (QE_mv rfl) rfl ?_
 refine JO_call (first := []) (captured := []) rfl rfl rfl (decimal_ac D u hu _ _) ?_
 rintro _ _ s1 h1 ⟨rfl, rfl⟩
 refine JO_q (QE_saddA opP0 (Lib.decDigits u) (opA u 0) rfl rfl rfl (Nat.le_trans (opA_len hu 0 (by decide)) (by decide))) rfl ?_
 refine JO_q (QE_saddA (opA u 0) (opPs.getD 0 []) (opA u 1) rfl rfl rfl (Nat.le_trans (opA_len hu 1 (by decide)) (by decide))) rfl ?_
 refine JO_q (QE_as rfl) rfl ?_
 refine JO_nil ?_
 refine thenQ_n ?_
 refine JC_seq ?_
 refine JC_region ?_
 refine JO_q (QE_mv rfl) rfl ?_
 refine JO_q (QE_saddA (opA u 1) (opPs.getD 1 []) (opA u 2) rfl rfl rfl (Nat.le_trans (opA_len hu 2 (by decide)) (by decide))) rfl ?_
 refine JO_q (QE_as rfl) rfl ?_
 refine JO_nil ?_
 refine thenQ_n ?_
 refine JC_seq ?_
 refine JC_region ?_
 refine JO_q (QE_mv rfl) rfl ?_
 refine JO_q (QE_saddA (opA u 2) (opPs.getD 2 []) (opA u 3) rfl rfl rfl (Nat.le_trans (opA_len hu 3 (by decide)) (by decide))) rfl ?_
 refine JO_q (QE_as rfl) rfl ?_
 refine JO_nil ?_
 refine thenQ_n ?_
 refine JC_seq ?_
 refine JC_region ?_
 refine JO_q (QE_mv rfl) rfl ?_
 refine JO_q (QE_saddA (opA u 3) (opPs.getD 3 []) (opA u 4) rfl rfl rfl (Nat.le_trans (opA_len hu 4 (by decide)) (by decide))) rfl ?_
 refine JO_q (QE_as rfl) rfl ?_
 refine JO_nil ?_
 refine thenQ_n ?_
 refine JC_seq ?_
 refine JC_region ?_
 refine JO_q (QE_mv rfl) rfl ?_
 refine JO_q (QE_saddA (opA u 4) (opPs.getD 4 []) (opA u 5) rfl rfl rfl (Nat.le_trans (opA_len hu 5 (by decide)) (by decide))) rfl ?_
 refine JO_q (QE_as rfl) rfl ?_
 refine JO_nil ?_
 refine thenQ_n ?_
 refine JC_seq ?_
 refine JC_region ?_
 refine JO_q (QE_mv rfl) rfl ?_
 refine JO_q (QE_saddA (opA u 5) (opPs.getD 5 []) (opA u 6) rfl rfl rfl (Nat.le_trans (opA_len hu 6 (by decide)) (by decide))) rfl ?_
 refine JO_q (QE_as rfl) rfl ?_
 refine JO_nil ?_
 refine thenQ_n ?_
 refine JC_seq ?_
 refine JC_region ?_
 refine JO_q (QE_mv rfl) rfl ?_
 refine JO_q (QE_saddA (opA u 6) (opPs.getD 6 []) (opA u 7) rfl rfl rfl (Nat.le_trans (opA_len hu 7 (by decide)) (by decide))) rfl ?_
 refine JO_q (QE_as rfl) rfl ?_
 refine JO_nil ?_
 refine thenQ_n ?_
 refine JC_seq ?_
 refine JC_region ?_
 refine JO_q (QE_mv rfl) rfl ?_
 refine JO_q (QE_saddA (opA u 7) (opPs.getD 7 []) (opA u 8) rfl rfl rfl (Nat.le_trans (opA_len hu 8 (by decide)) (by decide))) rfl ?_
 refine JO_q (QE_as rfl) rfl ?_
 refine JO_nil ?_
 refine thenQ_n ?_
 refine JC_seq ?_
 refine JC_region ?_
 refine JO_q (QE_mv rfl) rfl ?_
 refine JO_q (QE_saddA (opA u 8) (opPs.getD 8 []) (opA u 9) rfl rfl rfl (Nat.le_trans (opA_len hu 9 (by decide)) (by decide))) rfl ?_
 refine JO_q (QE_as rfl) rfl ?_
 refine JO_nil ?_
 refine thenQ_n ?_
 refine JC_ret ?_
 refine retQ_mk [] L (.inr rfl) (.tmp rfl (.nil)) rfl h1 (fun sR hS2 => ?_)
 exact ⟨by rw [← opA_all]; rfl, rfl⟩
end Go.Proofs.YtoeeblegplghmaaGreatDoor
namespace Go.Proofs.YtoeeblegplghmaaGreatDoor
open Go.FL
attribute [local irreducible] JC JO JA JB thenQ blockQ retQ AC fill CellsAt QE Ev Mid
attribute [local irreducible] cellW machL machS
theorem linesT_first (c : Int) (ti : List Ins) : linesW (withC (cellW c)) = joinN ((linesT ⟨c, ti⟩).take (0 + 1)) := by
  rw [linesT, parasT, List.map_cons, List.take_succ_cons, List.take_zero, joinN]
set_option maxHeartbeats 2000000 in
set_option maxRecDepth 100000 in
theorem rpage_ac (D : Nat) (L : Hl) (s : World) (t : Tab) (A : Option Addr) (n c : Nat) (hA : Inss s A n c t.ins) (hT : TabP t) : AC Tryz.prog D 12 [.agg #[.int .i64 t.cells, .slice A n c]] L s fun v L' _ => v = St (pageT t) ∧ L = L' := by
 obtain ⟨tc, ti⟩ := t
 have hcl := hT.cells
 simp only at hcl hA
 obtain ⟨u, rfl⟩ := Int.eq_ofNat_of_zero_le (show 0 ≤ tc by omega)
 have hn := hA.1
 have hfew := hT.len
 simp only at hfew
 have hlz := linesT_size hT
 dsimp only
 refine AC_enter (TT := TT) (fn := Tryz.f12) TT_ok Tryz.func12 (by kernel_rfl) rfl Tryz.ntmps12 rfl (rs := [.tmp 2]) rfl [(0, _)] rfl ?_
 refine JC_seq ?_
 refine JC_region ?_
 refine JO_boxA rfl rfl ?_
 intro β1 s1 h1
 refine JO_q (QE_as rfl) rfl ?_
 refine JO_nil ?_
 refine thenQ_n ?_
 refine JC_seq ?_
 refine JC_region ?_
 refine JO_q (QE_fa0 rfl rfl rfl rfl) rfl ?_
 refine JO_q (QE_ld1 0 rfl rfl rfl rfl rfl) rfl ?_
 refine JO_q (QE_conv' rfl rfl rfl rfl rfl (show IntKind.u32.wrap (u : Int) = (u : Int) by rw [IntKind.wrap_u32]; omega)) rfl ?_
 refine JO_call (first := []) (captured := []) rfl rfl rfl (ropen_ac D _ _ u (by omega)) ?_
 rintro _ _ s2 h2 ⟨rfl, rfl⟩
 refine JO_call (first := []) (captured := []) rfl rfl rfl (rlined_ac D _ _ (cellW (u : Int)) (paras_ok hT _ (by simp [parasT])) (by have := para_size hT (cellW (u : Int)) (by simp [parasT]); omega)) ?_
 rintro _ _ s3 h3 ⟨rfl, rfl⟩
 refine JO_q (QE_as rfl) rfl ?_
 refine JO_nil ?_
 refine thenQ_n ?_
 refine JC_seq ?_
 refine JC_seq ?_
 refine JC_region ?_
 refine JO_q (QE_as rfl) rfl ?_
 refine JO_nil ?_
 refine thenQ_n ?_
 refine JC_block ?_
 refine JC_loop (γ := Nat × List UInt8) (fun g => [(1, _), (2, _), (3, St g.2), (4, .int .i64 (g.1 : Int))]) (fun _ => _) (fun g tw => Le D s3 tw ∧ (g.1 ≤ n ∧ g.2 = joinN ((linesT ⟨(u : Int), ti⟩).take (g.1 + 1)))) (fun g => n - g.1) (fun _ _ _ h hl => ⟨h.1.trans hl, h.2⟩) (0, linesW (withC (cellW (u : Int)))) (Keeps.cons rfl (Keeps.cons rfl (Keeps.cons rfl (Keeps.cons rfl (Keeps.nil _))))) rfl ⟨Le.refl _, ⟨Nat.zero_le _, linesT_first _ _⟩⟩ ?_
 intro g s4 I4
 obtain ⟨k, sv⟩ := g
 obtain ⟨hk0, hE⟩ := I4.2
 simp only at hk0 hE
 have hsl : sv.length ≤ 60000 := by rw [hE]; exact Nat.le_trans (joinN_len _) (Nat.le_trans (take_size _ _) hlz)
 dsimp only
 refine JC_seq ?_
 refine JC_seq ?_
 refine JC_region ?_
 refine JO_q (QE_mv rfl) rfl ?_
 refine JO_q (QE_faB rfl rfl rfl rfl) rfl ?_
 refine JO_q (QE_ld1 0 rfl rfl rfl rfl rfl) rfl ?_
 refine JO_q (QE_lenS rfl rfl rfl) rfl ?_
 refine JO_q (QE_lt rfl rfl) rfl ?_
 refine JO_nil ?_
 refine thenQ_n ?_
 refine JC_ifD rfl (fun c5 => ?_) (fun c5 => ?_)
 ·
  have hk : k < n := by omega
  obtain ⟨b, off, x, A', n', c', rfl, hx, hcx, hax, _, _⟩ := Inss.at_ (hA.le (Le.trans (Le.trans (Le.trans h1 h2) h3) I4.1)) hk
  have hxp := hT.ins x (List.mem_of_getElem? hx)
  have hll := lines_len (withC (insW x))
  have hls := withC_size (insW x)
  have hlp := ins_size hxp
  refine JC_skip ?_
  refine thenQ_n ?_
  refine JC_seq ?_
  refine JC_block ?_
  refine JC_region ?_
  refine JO_q (QE_mv rfl) rfl ?_
  refine JO_q (QE_sadd rfl rfl (by simp only [List.length_append, List.length_cons, List.length_nil]; omega)) rfl ?_
  refine JO_q (QE_faB rfl rfl rfl rfl) rfl ?_
  refine JO_q (QE_ld1 0 rfl rfl rfl rfl rfl) rfl ?_
  refine JO_q (QE_mv rfl) rfl ?_
  refine JO_q (QE_iaN rfl rfl rfl rfl rfl rfl hk) rfl ?_
  refine JO_q (QE_ldsA rfl rfl rfl (hcx.le (Le.refl (D := D) _)) rfl) rfl ?_
  refine JO_call (first := []) (captured := []) rfl rfl rfl (rdesc_ac D _ _ x A' n' c' (hax.le (Le.refl (D := D) _)) hxp) ?_
  rintro _ _ s6 h6 ⟨rfl, rfl⟩
  refine JO_call (first := []) (captured := []) rfl rfl rfl (rlined_ac D _ _ (insW x) (ins_ok hxp) (by have := ins_size hxp; omega)) ?_
  rintro _ _ s7 h7 ⟨rfl, rfl⟩
  refine JO_q (QE_sadd rfl rfl (by simp only [List.length_append, List.length_cons, List.length_nil]; omega)) rfl ?_
  refine JO_q (QE_as rfl) rfl ?_
  refine JO_nil ?_
  refine blockQ_n ?_
  refine thenQ_n ?_
  refine JC_region ?_
  refine JO_q (QE_mv rfl) rfl ?_
  refine JO_q (QE_add' rfl rfl (w64 (by omega) (by omega))) rfl ?_
  refine JO_q (QE_as rfl) rfl ?_
  refine JO_nil ?_
  refine thenQ_n ⟨(k + 1, (sv ++ [10]) ++ linesW (withC (insW x))), [], (Keeps.cons rfl (Keeps.cons rfl (Keeps.cons rfl (Keeps.cons rfl (Keeps.nil _))))), rfl, ⟨(Le.trans (Le.trans I4.1 h6) h7), ⟨by simp only; omega, by simp only; rw [hE]; exact (linesT_at hx).symm⟩⟩, (by simp only; omega)⟩
 ·
  have hfin : sv = pageT ⟨(u : Int), ti⟩ := by rw [hE, List.take_of_length_le (by rw [linesT, parasT, List.length_map, List.length_cons, List.length_map]; simp only; omega), linesT, pageT]
  refine JC_exit ?_
  refine thenQ_x ?_
  refine thenQ_x ?_
  refine blockQ_x ?_
  refine thenQ_n ?_
  refine JC_seq ?_
  refine JC_region ?_
  refine JO_q (QE_mv rfl) rfl ?_
  refine JO_q (QE_as rfl) rfl ?_
  refine JO_nil ?_
  refine thenQ_n ?_
  refine JC_ret ?_
  refine retQ_mk [_] L (.inr rfl) (.tmp rfl (.nil)) rfl (Le.trans (Le.trans (Le.trans h1 h2) h3) I4.1) (fun sR hS2 => ?_)
  exact ⟨by rw [hfin]; rfl, rfl⟩
end Go.Proofs.YtoeeblegplghmaaGreatDoor
namespace Go.Proofs.YtoeeblegplghmaaGreatDoor
open Go Go.FL
section
variable (par at_ : Int) (z : Nat) (by_ : Str)
def hitC (i : Nat) (p : List Str) : Prop := (i : Int) = par ∧ 0 ≤ at_ ∧ at_ ≤ ((joinW p).length : Int) - (z : Int)
instance (i : Nat) (p : List Str) : Decidable (hitC par at_ z i p) := by unfold hitC; infer_instance
def oldC (p : List Str) : Str := ((joinW p).drop at_.toNat).take z
def newC (p : List Str) : Str := ((joinW p).take at_.toNat ++ by_) ++ (joinW p).drop (at_.toNat + z)
def chgC (i : Nat) (p : List Str) : Str := if hitC par at_ z i p then newC at_ z by_ p else joinW p
def okC1 (p : List Str) : Bool := decide (oldC at_ z p ≠ by_) && decide ((flds (oldC at_ z p)).length = 1) && decide (((flds (oldC at_ z p)).getD 0 []).length = z)
def outC : Nat → List (List Str) → Str
  | _, [] => []
  | i, p :: r => rowP (chgC par at_ z by_ i p) (chkS (joinW p)) ++ outC (i + 1) r
def okF : Bool → Nat → List (List Str) → Bool
  | acc, _, [] => acc
  | acc, i, p :: r => okF (if hitC par at_ z i p then okC1 at_ z by_ p else acc) (i + 1) r
theorem outC_none : ∀ (ps : List (List Str)) (i : Nat), (∀ j, j < ps.length → ((i + j : Nat) : Int) ≠ par) → outC par at_ z by_ i ps = rowsP (ps.map chkd)
  | [], _, _ => rfl
  | p :: r, i, h => by
    have h0 : ¬ hitC par at_ z i p := fun e => h 0 (by simp) e.1
    rw [outC, chgC, if_neg h0, outC_none r (i + 1) (fun j hj => by have := h (j + 1) (by simp only [List.length_cons]; omega); rwa [show i + 1 + j = i + (j + 1) by omega])]
    rfl
theorem outC_at : ∀ (ps : List (List Str)) (i j : Nat) (p : List Str), ps[j]? = some p → ((i + j : Nat) : Int) = par → outC par at_ z by_ i ps = rowsP ((ps.take j).map chkd) ++ (rowP (chgC par at_ z by_ (i + j) p) (chkS (joinW p)) ++ rowsP ((ps.drop (j + 1)).map chkd))
  | [], _, _, _, h, _ => by cases h
  | q :: r, i, 0, p, h, he => by
    simp only [List.getElem?_cons_zero, Option.some.injEq] at h
    subst h
    rw [outC, outC_none par at_ z by_ r (i + 1) (fun j hj e => by omega)]
    rfl
  | q :: r, i, j + 1, p, h, he => by
    rw [outC, outC_at r (i + 1) j p (by simpa using h) (by omega)]
    have h0 : ¬ hitC par at_ z i q := fun e => by have := e.1; omega
    rw [chgC, if_neg h0, show i + 1 + j = i + (j + 1) by omega, List.take_succ_cons, List.map_cons, List.drop_succ_cons]
    show rowP (joinW q) (chkS (joinW q)) ++ _ = (rowP (joinW q) (chkS (joinW q)) ++ rowsP ((r.take j).map chkd)) ++ _
    rw [List.append_assoc]
theorem okF_hit : ∀ (ps : List (List Str)) (acc : Bool) (i : Nat), okF par at_ z by_ acc i ps = true → acc = true ∨ ∃ j p, ps[j]? = some p ∧ hitC par at_ z (i + j) p ∧ okC1 at_ z by_ p = true
  | [], acc, i, h => .inl h
  | p :: r, acc, i, h => by
    rw [okF] at h
    rcases okF_hit r _ (i + 1) h with h1 | ⟨j, q, h1, h2, h3⟩
    · by_cases hh : hitC par at_ z i p
      · rw [if_pos hh] at h1; exact .inr ⟨0, p, rfl, hh, h1⟩
      · rw [if_neg hh] at h1; exact .inl h1
    · exact .inr ⟨j + 1, q, by simpa using h1, by rwa [show i + (j + 1) = i + 1 + j by omega], h3⟩
end
variable {at_ : Int} {z : Nat}
theorem split_C {p : List Str} (h0 : 0 ≤ at_) : joinW p = (joinW p).take at_.toNat ++ oldC at_ z p ++ (joinW p).drop (at_.toNat + z) := by
  rw [oldC, List.append_assoc, ← List.drop_drop, List.take_append_drop, List.take_append_drop]
theorem old_len {p : List Str} (h0 : 0 ≤ at_) (h1 : at_ ≤ ((joinW p).length : Int) - (z : Int)) : (oldC at_ z p).length = z := by
  rw [oldC, List.length_take, List.length_drop]; omega
theorem two_nb {a b : UInt8} (h : ((flds [a, b]).getD 0 []).length = 2) : isBlk a = false ∧ isBlk b = false := by
  have ea : isBlk a = false := by
    cases e : isBlk a with
    | false => rfl
    | true =>
      have h1 : flds [a, b] = flds [b] := fw_blank a [b] e
      rw [h1] at h
      cases hf : flds [b] with
      | nil => rw [hf] at h; cases h
      | cons x r =>
        have := flds_short [b] x (by rw [hf]; exact List.mem_cons_self ..)
        rw [hf] at h
        simp at h this; omega
  refine ⟨ea, ?_⟩
  cases e : isBlk b with
  | false => rfl
  | true =>
    have h1 : flds ([a] ++ [b]) = flds [a] := flds_end [a] b e
    rw [show [a, b] = [a] ++ [b] from rfl, h1] at h
    cases hf : flds [a] with
    | nil => rw [hf] at h; cases h
    | cons x r =>
      have := flds_short [a] x (by rw [hf]; exact List.mem_cons_self ..)
      rw [hf] at h
      simp at h this; omega
theorem ok_char {t : Tab} (hT : TabP t) {k : Nat} {p : List Str} (hk : (parasT t)[k]? = some p) {c : UInt8} (hc : c ∈ joinW p) : okC c = true := by
  have : okT (joinW p) = true := join_ok fun w hw => (paras_ok hT p (List.mem_of_getElem? hk) w hw).2.1
  exact List.all_eq_true.1 this c hc
section
variable {t : Tab} (hT : TabP t) {par at_ : Int} {tx : Str}
include hT
theorem change_two {k0 : Nat} {p0 : List Str} (hk0 : (parasT t)[k0]? = some p0) (hp0 : (k0 : Int) = par) (h2 : 0 ≤ at_) {a b : UInt8} (ha : (joinW p0)[at_.toNat]? = some a) (hb : (joinW p0)[at_.toNat + 1]? = some b) (hok : okF par at_ 2 [b, a] false 0 (parasT t) = true) (htx : tx = outC par at_ 2 [b, a] 0 (parasT t)) (hl : ¬ 50000 < tx.length) : damR tx = [par] ∧ readR tx = (tab0, 16, par) := by
  rcases okF_hit par at_ 2 [b, a] _ _ _ hok with h | ⟨k, p, hk, hh, hc⟩
  · cases h
  rw [Nat.zero_add] at hh
  obtain ⟨h1, _, h3⟩ := hh
  obtain rfl : k = k0 := by omega
  obtain rfl : p = p0 := by rw [hk] at hk0; injection hk0
  simp only [okC1, Bool.and_eq_true, decide_eq_true_eq] at hc
  obtain ⟨⟨c1, c2⟩, c3⟩ := hc
  have hold : oldC at_ 2 p = [a, b] := by
    obtain ⟨k1, e1⟩ := List.getElem?_eq_some_iff.1 ha
    obtain ⟨k2, e2⟩ := List.getElem?_eq_some_iff.1 hb
    rw [oldC, List.drop_eq_getElem_cons k1, List.drop_eq_getElem_cons k2, e1, e2]; rfl
  have hsp := split_C (z := 2) (p := p) h2
  rw [hold] at c1 c2 c3 hsp
  have hnb := two_nb c3
  have haok := ok_char hT hk (c := a) (by rw [hsp]; simp)
  have hbok := ok_char hT hk (c := b) (by rw [hsp]; simp)
  have hne : a ≠ b := fun e => c1 (by rw [e])
  have hck := chk_two (P := (joinW p).take at_.toNat) (Q := (joinW p).drop (at_.toNat + 2)) haok hbok hne
  have hat := outC_at par at_ 2 [b, a] (parasT t) 0 k p hk (by rw [Nat.zero_add]; exact h1)
  rw [Nat.zero_add, chgC, if_pos ⟨h1, h2, h3⟩] at hat
  have := seg_change hT hk (P := (joinW p).take at_.toNat) (old := [a, b]) (new := [b, a]) (Q := (joinW p).drop (at_.toNat + 2)) hsp (by simp) (fun c hc => by
    simp only [List.mem_cons, List.not_mem_nil, or_false] at hc
    rcases hc with rfl | rfl
    · exact hnb.1
    · exact hnb.2) (fun c hc => by
    simp only [List.mem_cons, List.not_mem_nil, or_false] at hc
    rcases hc with rfl | rfl
    · exact ⟨hnb.2, hbok⟩
    · exact ⟨hnb.1, haok⟩) rfl (fun h => by
    simp only [List.mem_cons, List.not_mem_nil, or_false] at h ⊢
    exact h.symm) hck (htx.trans hat) hl
  rw [h1] at this; exact this
end
end Go.Proofs.YtoeeblegplghmaaGreatDoor
