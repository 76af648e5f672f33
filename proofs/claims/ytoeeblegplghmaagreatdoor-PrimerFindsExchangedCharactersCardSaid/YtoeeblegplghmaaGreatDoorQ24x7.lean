/- The law PrimerFindsExchangedCharacters: for every input it returns true, and its arguments read behind the call as they read before; what the package-level variables of the library hold is tied tgt the text of the program. Part 7 of the proof of primerFindsExchangedCharacters_holds: texts P24, P26, Rk, Ri, Rx, Q24. -/
import Derived.Test.YtoeeblegplghmaaGreatDoorQ24x6
import Derived.ProofKit
import Derived.OpenShut
import Derived.SizedLaws
import Derived.Deep.Slices
import Derived.Test.YtoeeblegplghmaaGreatDoorRows
import Derived.Lay
import Derived.Lib.LaidTab
import Derived.Stop.LaidErr
import Derived.SevenTiedAt
import Derived.Test.YtoeeblegplghmaaGreatDoorCards
import Derived.Test.YtoeeblegplghmaaGreatDoorTie
set_option linter.unusedVariables false
set_option linter.unusedSimpArgs false
set_option linter.unnecessarySimpa false
namespace Go.Proofs.YtoeeblegplghmaaGreatDoor
open Go.FL
attribute [local irreducible] JC JO JA JB thenQ blockQ retQ AC fill CellsAt QE Ev Mid
theorem page_paraR {t : Tab} (hT : TabP t) : paraR (flds (pageT t)) = (parasT t).map fun p => (p, 0) := by
  have hok := paras_ok hT
  rw [paraR, page_flds (fun p hp w hw => (hok p hp w hw).1), dv_paras _ (fun p hp w hw => (hok p hp w hw).2.2), List.map_map]
  refine List.map_congr_left fun p hp => ?_
  show (p, codeP (paraOf p)) = _
  rw [codeP_ok (join_ok fun w hw => (hok p hp w hw).2.1)]
section
variable {at_ : Int} {z : Nat} {by_ : List UInt8} {p : List (List UInt8)}
theorem okC_f1 (h : oldC at_ z p = by_) : okC1 at_ z by_ p = false := by rw [okC1, decide_eq_false (fun e => e h)]; rfl
theorem okC_f2 (h : ¬ (flds (oldC at_ z p)).length = 1) : okC1 at_ z by_ p = false := by rw [okC1, decide_eq_false h]; simp
theorem okC_t {x : List UInt8} (h1 : ¬ oldC at_ z p = by_) (h2 : (flds (oldC at_ z p)).length = 1) (hx : (flds (oldC at_ z p))[0]? = some x) : okC1 at_ z by_ p = decide ((x.length : Int) = (z : Int)) := by
  rw [okC1, decide_eq_true (show oldC at_ z p ≠ by_ from h1), decide_eq_true h2, List.getD_eq_getElem?_getD, hx, Option.getD_some, Bool.true_and, Bool.true_and]
  exact decide_eq_decide.2 (by omega)
end
set_option maxHeartbeats 4000000 in
set_option maxRecDepth 100000 in
theorem changed_ac (D : Nat) (L : Hl) (s : World) (t : Tab) (A : Option Addr) (n c : Nat) (hA : Inss s A n c t.ins) (hT : TabP t) (par at_ : Int) (z : Nat) (hz : z ≤ 2) (by_ : List UInt8) (hby : by_.length ≤ 2) : AC Tryz.prog D 21 [.agg #[.int .i64 t.cells, .slice A n c], .int .i64 par, .int .i64 at_, .int .i64 (z : Int), St by_] L s fun v L' _ => v = .tuple #[St (outC par at_ z by_ 0 (parasT t)), .bool (okF par at_ z by_ false 0 (parasT t))] ∧ L = L' := by
 have hpl := page_len hT
 have hps : (parasT t).length ≤ 65 := by rw [parasT, List.length_cons, List.length_map]; have := hT.len; omega
 refine AC_enter (TT := TT) (fn := Tryz.f21) TT_ok Tryz.func21 (by kernel_rfl) rfl Tryz.ntmps21 rfl (rs := [.tmp 10, .tmp 11]) rfl [(0, _), (1, _), (2, _), (3, _), (4, _)] rfl ?_
 refine JC_seq ?_
 refine JC_region ?_
 refine JO_boxA rfl rfl ?_
 intro β1 s1 h1
 refine JO_q (QE_as rfl) rfl ?_
 refine JO_q (QE_as rfl) rfl ?_
 refine JO_nil ?_
 refine thenQ_n ?_
 refine JC_seq ?_
 refine JC_region ?_
 refine JO_q (QE_ldA 0 [_, _] rfl rfl rfl rfl rfl) rfl ?_
 refine JO_call (first := []) (captured := []) rfl rfl rfl (rpage_ac D _ _ t _ _ _ (hA.le h1) hT) ?_
 rintro _ _ s2 h2 ⟨rfl, rfl⟩
 refine JO_call (first := []) (captured := []) rfl rfl rfl (parasR_ac D _ _ (pageT t) (by omega)) ?_
 rintro _ _ s3 h3 ⟨rfl, Ap, np, cp, rfl, hP⟩
 rw [page_paraR hT] at hP
 have hn := hP.1
 rw [List.length_map] at hn
 refine JO_q (QE_as rfl) rfl ?_
 refine JO_nil ?_
 refine thenQ_n ?_
 refine JC_seq ?_
 refine JC_region ?_
 refine JO_q (QE_as rfl) rfl ?_
 refine JO_nil ?_
 refine thenQ_n ?_
 refine JC_seq ?_
 refine JC_region ?_
 refine JO_q (QE_as rfl) rfl ?_
 refine JO_nil ?_
 refine thenQ_n ?_
 refine JC_seq ?_
 refine JC_seq ?_
 refine JC_region ?_
 refine JO_q (QE_as rfl) rfl ?_
 refine JO_nil ?_
 refine thenQ_n ?_
 refine JC_block ?_
 refine JC_loop (γ := Nat × List UInt8 × Bool) (fun g => [(1, _), (2, _), (3, _), (4, _), (10, _), (11, _), (12, _), (13, St g.2.1), (14, .bool g.2.2), (15, .int .i64 (g.1 : Int))]) (fun _ => _) (fun g tw => Le D s3 tw ∧ (g.1 ≤ np ∧ g.2.1 ++ outC par at_ z by_ g.1 ((parasT t).drop g.1) = outC par at_ z by_ 0 (parasT t) ∧ okF par at_ z by_ g.2.2 g.1 ((parasT t).drop g.1) = okF par at_ z by_ false 0 (parasT t) ∧ g.2.1.length ≤ 2000 * g.1)) (fun g => np - g.1) (fun _ _ _ h hl => ⟨h.1.trans hl, h.2⟩) (0, [], false) (Keeps.cons rfl (Keeps.cons rfl (Keeps.cons rfl (Keeps.cons rfl (Keeps.cons rfl (Keeps.cons rfl (Keeps.cons rfl (Keeps.cons rfl (Keeps.cons rfl (Keeps.cons rfl (Keeps.nil _))))))))))) rfl ⟨Le.refl _, ⟨Nat.zero_le _, rfl, rfl, Nat.le_refl _⟩⟩ ?_
 intro g s4 I4
 obtain ⟨k, out, okv⟩ := g
 obtain ⟨hk0, hE, hF, hol⟩ := I4.2
 simp only at hk0 hE hF hol
 dsimp only
 refine JC_seq ?_
 refine JC_seq ?_
 refine JC_region ?_
 refine JO_q (QE_mv rfl) rfl ?_
 refine JO_q (QE_mv rfl) rfl ?_
 refine JO_q (QE_lenS rfl rfl rfl) rfl ?_
 refine JO_q (QE_lt rfl rfl) rfl ?_
 refine JO_nil ?_
 refine thenQ_n ?_
 refine JC_ifD rfl (fun c5 => ?_) (fun c5 => ?_)
 ·
  have hk : k < np := by omega
  obtain ⟨b, off, pg, A', n', c', rfl, hpg, hcp, hSp⟩ := Pgs.at_ (hP.le I4.1) hk
  obtain ⟨p, hp, rfl⟩ : ∃ p, (parasT t)[k]? = some p ∧ (p, 0) = pg := by
    rw [List.getElem?_map] at hpg
    obtain ⟨p, h1, h2⟩ := Option.map_eq_some_iff.1 hpg
    exact ⟨p, h1, h2⟩
  have hpm := List.mem_of_getElem? hp
  have hpz := para_size hT p hpm
  have hjl := join_len p
  have hokT : okT (joinW p) = true := join_ok fun w hw => (paras_ok hT p hpm w hw).2.1
  obtain ⟨cn, hcn⟩ := Int.eq_ofNat_of_zero_le (chk_lt (joinW p)).1
  have hc2 := (chk_lt (joinW p)).2
  have hdl := (dec_len (u := cn) (by omega)).2
  simp only at hSp
  refine JC_skip ?_
  refine thenQ_n ?_
  refine JC_seq ?_
  refine JC_block ?_
  refine JC_seq ?_
  refine JC_region ?_
  refine JO_q (QE_mv rfl) rfl ?_
  refine JO_q (QE_mv rfl) rfl ?_
  refine JO_q (QE_iaN rfl rfl rfl rfl rfl rfl hk) rfl ?_
  refine JO_q (QE_fa0 rfl rfl rfl rfl) rfl ?_
  refine JO_q (QE_ldsR0 rfl rfl rfl (hcp.le (Le.refl (D := D) _)) rfl) rfl ?_
  refine JO_call (first := []) (captured := []) rfl rfl rfl (rjoined_ac D _ _ A' n' c' p (hSp.le (Le.refl (D := D) _)) (by omega)) ?_
  rintro _ _ s6 h6 ⟨rfl, rfl⟩
  refine JO_q (QE_as rfl) rfl ?_
  refine JO_nil ?_
  refine thenQ_n ?_
  refine JC_seq ?_
  refine JC_region ?_
  refine JO_q (QE_mv rfl) rfl ?_
  refine JO_call (first := []) (captured := []) rfl rfl rfl (rcheck_ac D _ _ (joinW p) (by omega)) ?_
  rintro _ _ s7 h7 ⟨rfl, rfl⟩
  rw [if_pos hokT, hcn]
  refine JO_q (QE_as rfl) rfl ?_
  refine JO_nil ?_
  refine thenQ_n ?_
  refine JC_seq ?_
  refine JC_seq ?_
  refine JC_region ?_
  refine JO_q (QE_mv rfl) rfl ?_
  refine JO_q (QE_mv rfl) rfl ?_
  refine JO_q (QE_eq rfl rfl) rfl ?_
  refine JO_q (QE_mv rfl) rfl ?_
  refine JO_caseD (t := 39) rfl (fun c8 => ?_) (fun c8 => ?_)
  ·
   refine JO_gT rfl rfl ?_
   refine JO_q (QE_mv rfl) rfl ?_
   refine JO_gT rfl rfl ?_
   refine JO_q (QE_mv rfl) rfl ?_
   refine JO_gT rfl rfl ?_
   refine JO_q (QE_lenT rfl rfl rfl) rfl ?_
   refine JO_gT rfl rfl ?_
   refine JO_q (QE_mv rfl) rfl ?_
   refine JO_gT rfl rfl ?_
   refine JO_q (QE_sub' rfl rfl (w64 (by omega) (by omega))) rfl ?_
   refine JO_gT rfl rfl ?_
   refine JO_call (first := []) (captured := []) rfl rfl rfl (in_ac D _ _ _ _ _) ?_
   rintro _ _ s9 h9 ⟨rfl, rfl⟩
   refine JO_q (QE_pickT rfl rfl) rfl ?_
   refine JO_nil ?_
   refine thenQ_n ?_
   refine JC_ifD rfl (fun c10 => ?_) (fun c10 => ?_)
   ·
    have hh : hitC par at_ z k p := ⟨by omega, by have := c10; omega, by have := c10; omega⟩
    obtain ⟨an, han⟩ := Int.eq_ofNat_of_zero_le hh.2.1
    subst han
    have hal := hh.2.2
    have hoE : ((joinW p).drop an).take (an + z - an) = oldC (an : Int) z p := by rw [oldC, Int.toNat_natCast, Nat.add_sub_cancel_left]
    have hol2 := old_len (p := p) hh.2.1 hh.2.2
    refine JC_seq ?_
    refine JC_region ?_
    refine JO_q (QE_mv rfl) rfl ?_
    refine JO_q (QE_mv rfl) rfl ?_
    refine JO_q (QE_mv rfl) rfl ?_
    refine JO_q (QE_mv rfl) rfl ?_
    refine JO_q (QE_add' (c := ((an + z : Nat) : Int)) rfl rfl (by rw [w64 (by omega) (by omega)]; omega)) rfl ?_
    refine JO_q (QE_cast (v' := St (oldC (an : Int) z p)) (QE_stLH rfl rfl rfl rfl rfl (by omega) (by omega)) (by rw [hoE])) rfl ?_
    refine JO_q (QE_as rfl) rfl ?_
    refine JO_nil ?_
    refine thenQ_n ?_
    refine JC_seq ?_
    refine JC_region ?_
    refine JO_q (QE_mv rfl) rfl ?_
    refine JO_q (QE_mv rfl) rfl ?_
    refine JO_q (QE_sne rfl rfl) rfl ?_
    refine JO_q (QE_mv rfl) rfl ?_
    refine JO_caseN (t := 56) rfl (fun c11 => ?_) (fun c11 => ?_)
    ·
     refine JO_gT rfl rfl ?_
     refine JO_q (QE_mv rfl) rfl ?_
     refine JO_gT rfl rfl ?_
     refine JO_call (first := []) (captured := []) rfl rfl rfl (rfields_ac D _ _ (oldC (an : Int) z p) (by omega)) ?_
     rintro _ _ s12 h12 ⟨rfl, Ao, no, co, rfl, hOf⟩
     have hno := hOf.1
     refine JO_gT rfl rfl ?_
     refine JO_q (QE_lenS rfl rfl rfl) rfl ?_
     refine JO_gT rfl rfl ?_
     refine JO_q (QE_eq rfl rfl) rfl ?_
     refine JO_q (QE_pickT rfl rfl) rfl ?_
     refine JO_q (QE_mv rfl) rfl ?_
     refine JO_caseD (t := 62) rfl (fun c13 => ?_) (fun c13 => ?_)
     ·
      refine JO_gT rfl rfl ?_
      refine JO_q (QE_mv rfl) rfl ?_
      refine JO_gT rfl rfl ?_
      refine JO_call (first := []) (captured := []) rfl rfl rfl (rfields_ac D _ _ (oldC (an : Int) z p) (by omega)) ?_
      rintro _ _ s14 h14 ⟨rfl, Ao2, no2, co2, rfl, hOf2⟩
      have hno2 := hOf2.1
      have hlen1 : (flds (oldC (an : Int) z p)).length = 1 := by omega
      obtain ⟨bx, offx, x, hEx, hx, hcx, _⟩ := Strs.at_ hOf2 (show 0 < no2 by omega)
      subst hEx
      refine JO_gT rfl rfl ?_
      refine JO_q (QE_ia1 (j := 0) rfl rfl rfl rfl rfl rfl (show 0 < no2 by omega)) rfl ?_
      refine JO_gT rfl rfl ?_
      refine JO_q (QE_ldsR0 rfl rfl rfl (hcx.le (Le.refl (D := D) _)) rfl) rfl ?_
      refine JO_gT rfl rfl ?_
      refine JO_q (QE_lenT rfl rfl rfl) rfl ?_
      refine JO_gT rfl rfl ?_
      refine JO_q (QE_mv rfl) rfl ?_
      refine JO_gT rfl rfl ?_
      refine JO_q (QE_eq rfl rfl) rfl ?_
      refine JO_q (QE_pickT rfl rfl) rfl ?_
      refine JO_q (QE_as rfl) rfl ?_
      refine JO_nil ?_
      refine thenQ_n ?_
      refine JC_draw drawsMixed 12 rfl _ (fun _ h => h) ?_
      intro s15 h15
      refine JA_q 0 rfl (by kernel_rfl) (by kernel_rfl) (by kernel_rfl) trivial (QE_mv rfl) rfl ?_
      refine JA_q 1 rfl (by kernel_rfl) (by kernel_rfl) (by kernel_rfl) trivial (QE_mv rfl) rfl ?_
      refine JA_q 2 rfl (by kernel_rfl) (by kernel_rfl) (by kernel_rfl) trivial (QE_stH rfl rfl rfl rfl (by omega)) rfl ?_
      refine JA_q 3 rfl (by kernel_rfl) (by kernel_rfl) (by kernel_rfl) trivial (QE_mv rfl) rfl ?_
      refine JA_q 4 rfl (by kernel_rfl) (by kernel_rfl) (by kernel_rfl) trivial (QE_sadd rfl rfl (by first | omega | (simp only [List.length_append, List.length_cons, List.length_nil, List.length_take, List.length_drop]; omega))) rfl ?_
      refine JA_q 5 rfl (by kernel_rfl) (by kernel_rfl) (by kernel_rfl) trivial (QE_mv rfl) rfl ?_
      refine JA_q 6 rfl (by kernel_rfl) (by kernel_rfl) (by kernel_rfl) trivial (QE_mv rfl) rfl ?_
      refine JA_q 7 rfl (by kernel_rfl) (by kernel_rfl) (by kernel_rfl) trivial (QE_mv rfl) rfl ?_
      refine JA_q 8 rfl (by kernel_rfl) (by kernel_rfl) (by kernel_rfl) trivial (QE_add' (c := ((an + z : Nat) : Int)) rfl rfl (by rw [w64 (by omega) (by omega)]; omega)) rfl ?_
      refine JA_q 9 rfl (by kernel_rfl) (by kernel_rfl) (by kernel_rfl) trivial (QE_stL rfl rfl rfl rfl (by omega)) rfl ?_
      refine JA_q 10 rfl (by kernel_rfl) (by kernel_rfl) (by kernel_rfl) trivial (QE_sadd rfl rfl (by first | omega | (simp only [List.length_append, List.length_cons, List.length_nil, List.length_take, List.length_drop]; omega))) rfl ?_
      refine JA_q 11 rfl (by kernel_rfl) (by kernel_rfl) (by kernel_rfl) trivial (QE_as rfl) rfl ?_
      refine JA_done (by kernel_rfl) ?_
      refine thenQ_n ?_
      refine JC_region ?_
      refine JO_q (QE_mv rfl) rfl ?_
      refine JO_q (QE_mv rfl) rfl ?_
      refine JO_q (QE_sadd rfl rfl (by first | omega | (simp only [List.length_append, List.length_cons, List.length_nil, List.length_take, List.length_drop]; omega))) rfl ?_
      refine JO_q (QE_sadd rfl rfl (by first | omega | (simp only [List.length_append, List.length_cons, List.length_nil, List.length_take, List.length_drop]; omega))) rfl ?_
      refine JO_q (QE_mv rfl) rfl ?_
      refine JO_q (QE_conv' rfl rfl rfl rfl rfl (show IntKind.u32.wrap (cn : Int) = (cn : Int) by rw [IntKind.wrap_u32]; omega)) rfl ?_
      refine JO_call (first := []) (captured := []) rfl rfl rfl (decimal_ac D cn (by omega) _ _) ?_
      rintro _ _ s16 h16 ⟨rfl, rfl⟩
      refine JO_q (QE_sadd rfl rfl (by first | omega | (simp only [List.length_append, List.length_cons, List.length_nil, List.length_take, List.length_drop]; omega))) rfl ?_
      refine JO_q (QE_sadd rfl rfl (by first | omega | (simp only [List.length_append, List.length_cons, List.length_nil, List.length_take, List.length_drop]; omega))) rfl ?_
      refine JO_q (QE_as rfl) rfl ?_
      refine JO_nil ?_
      refine blockQ_n ?_
      refine thenQ_n ?_
      refine JC_region ?_
      refine JO_q (QE_mv rfl) rfl ?_
      refine JO_q (QE_add' rfl rfl (w64 (by omega) (by omega))) rfl ?_
      refine JO_q (QE_as rfl) rfl ?_
      refine JO_nil ?_
      refine thenQ_n ⟨(k + 1, (((out ++ newC (an : Int) z by_ p) ++ [32, 67, 104, 101, 99, 107, 32]) ++ Lib.decDigits cn) ++ [46, 10], okC1 (an : Int) z by_ p), [], (Keeps.cons rfl (Keeps.cons rfl (Keeps.cons rfl (Keeps.cons rfl (Keeps.cons rfl (Keeps.cons rfl (Keeps.cons rfl (Keeps.cons rfl (Keeps.cons (by first | rfl | exact congrArg (fun b => some (Value.bool b)) (okC_f1 (by assumption)).symm | exact congrArg (fun b => some (Value.bool b)) (okC_f2 (by omega)).symm | exact congrArg (fun b => some (Value.bool b)) (okC_t (by assumption) hlen1 hx).symm) (Keeps.cons rfl (Keeps.nil _))))))))))), rfl, ⟨(Le.trans (Le.trans (Le.trans (Le.trans (Le.trans (Le.trans (Le.trans I4.1 h6) h7) h9) h12) h14) h15) h16), by first | exact ⟨by simp only; omega, by simp only; rw [← hE, drop_at hp, outC, chgC, if_pos hh]; simp [rowP, cCheck, decS, hcn], by simp only; rw [← hF, drop_at hp, okF, if_pos hh], by simp only [newC, List.length_append, List.length_cons, List.length_nil, List.length_take, List.length_drop]; omega⟩ | exact ⟨by simp only; omega, by simp only; rw [← hE, drop_at hp, outC, chgC, if_neg hh]; simp [rowP, cCheck, decS, hcn], by simp only; rw [← hF, drop_at hp, okF, if_neg hh], by simp only [List.length_append, List.length_cons, List.length_nil]; omega⟩⟩, (by simp only; omega)⟩
     ·
      refine JO_gF rfl rfl rfl rfl ?_
      refine JO_gF rfl rfl rfl rfl ?_
      refine JO_gF rfl rfl rfl rfl ?_
      refine JO_gF rfl rfl rfl rfl ?_
      refine JO_gF rfl rfl rfl rfl ?_
      refine JO_gF rfl rfl rfl rfl ?_
      refine JO_gF rfl rfl rfl rfl ?_
      refine JO_q (QE_pickF rfl rfl) rfl ?_
      refine JO_q (QE_as rfl) rfl ?_
      refine JO_nil ?_
      refine thenQ_n ?_
      refine JC_draw drawsMixed 12 rfl _ (fun _ h => h) ?_
      intro s17 h17
      refine JA_q 0 rfl (by kernel_rfl) (by kernel_rfl) (by kernel_rfl) trivial (QE_mv rfl) rfl ?_
      refine JA_q 1 rfl (by kernel_rfl) (by kernel_rfl) (by kernel_rfl) trivial (QE_mv rfl) rfl ?_
      refine JA_q 2 rfl (by kernel_rfl) (by kernel_rfl) (by kernel_rfl) trivial (QE_stH rfl rfl rfl rfl (by omega)) rfl ?_
      refine JA_q 3 rfl (by kernel_rfl) (by kernel_rfl) (by kernel_rfl) trivial (QE_mv rfl) rfl ?_
      refine JA_q 4 rfl (by kernel_rfl) (by kernel_rfl) (by kernel_rfl) trivial (QE_sadd rfl rfl (by first | omega | (simp only [List.length_append, List.length_cons, List.length_nil, List.length_take, List.length_drop]; omega))) rfl ?_
      refine JA_q 5 rfl (by kernel_rfl) (by kernel_rfl) (by kernel_rfl) trivial (QE_mv rfl) rfl ?_
      refine JA_q 6 rfl (by kernel_rfl) (by kernel_rfl) (by kernel_rfl) trivial (QE_mv rfl) rfl ?_
      refine JA_q 7 rfl (by kernel_rfl) (by kernel_rfl) (by kernel_rfl) trivial (QE_mv rfl) rfl ?_
      refine JA_q 8 rfl (by kernel_rfl) (by kernel_rfl) (by kernel_rfl) trivial (QE_add' (c := ((an + z : Nat) : Int)) rfl rfl (by rw [w64 (by omega) (by omega)]; omega)) rfl ?_
      refine JA_q 9 rfl (by kernel_rfl) (by kernel_rfl) (by kernel_rfl) trivial (QE_stL rfl rfl rfl rfl (by omega)) rfl ?_
      refine JA_q 10 rfl (by kernel_rfl) (by kernel_rfl) (by kernel_rfl) trivial (QE_sadd rfl rfl (by first | omega | (simp only [List.length_append, List.length_cons, List.length_nil, List.length_take, List.length_drop]; omega))) rfl ?_
      refine JA_q 11 rfl (by kernel_rfl) (by kernel_rfl) (by kernel_rfl) trivial (QE_as rfl) rfl ?_
      refine JA_done (by kernel_rfl) ?_
      refine thenQ_n ?_
      refine JC_region ?_
      refine JO_q (QE_mv rfl) rfl ?_
      refine JO_q (QE_mv rfl) rfl ?_
      refine JO_q (QE_sadd rfl rfl (by first | omega | (simp only [List.length_append, List.length_cons, List.length_nil, List.length_take, List.length_drop]; omega))) rfl ?_
      refine JO_q (QE_sadd rfl rfl (by first | omega | (simp only [List.length_append, List.length_cons, List.length_nil, List.length_take, List.length_drop]; omega))) rfl ?_
      refine JO_q (QE_mv rfl) rfl ?_
      refine JO_q (QE_conv' rfl rfl rfl rfl rfl (show IntKind.u32.wrap (cn : Int) = (cn : Int) by rw [IntKind.wrap_u32]; omega)) rfl ?_
      refine JO_call (first := []) (captured := []) rfl rfl rfl (decimal_ac D cn (by omega) _ _) ?_
      rintro _ _ s18 h18 ⟨rfl, rfl⟩
      refine JO_q (QE_sadd rfl rfl (by first | omega | (simp only [List.length_append, List.length_cons, List.length_nil, List.length_take, List.length_drop]; omega))) rfl ?_
      refine JO_q (QE_sadd rfl rfl (by first | omega | (simp only [List.length_append, List.length_cons, List.length_nil, List.length_take, List.length_drop]; omega))) rfl ?_
      refine JO_q (QE_as rfl) rfl ?_
      refine JO_nil ?_
      refine blockQ_n ?_
      refine thenQ_n ?_
      refine JC_region ?_
      refine JO_q (QE_mv rfl) rfl ?_
      refine JO_q (QE_add' rfl rfl (w64 (by omega) (by omega))) rfl ?_
      refine JO_q (QE_as rfl) rfl ?_
      refine JO_nil ?_
      refine thenQ_n ⟨(k + 1, (((out ++ newC (an : Int) z by_ p) ++ [32, 67, 104, 101, 99, 107, 32]) ++ Lib.decDigits cn) ++ [46, 10], okC1 (an : Int) z by_ p), [], (Keeps.cons rfl (Keeps.cons rfl (Keeps.cons rfl (Keeps.cons rfl (Keeps.cons rfl (Keeps.cons rfl (Keeps.cons rfl (Keeps.cons rfl (Keeps.cons (by first | rfl | exact congrArg (fun b => some (Value.bool b)) (okC_f1 (by assumption)).symm | exact congrArg (fun b => some (Value.bool b)) (okC_f2 (by omega)).symm | exact congrArg (fun b => some (Value.bool b)) (okC_t (by assumption) hlen1 hx).symm) (Keeps.cons rfl (Keeps.nil _))))))))))), rfl, ⟨(Le.trans (Le.trans (Le.trans (Le.trans (Le.trans (Le.trans I4.1 h6) h7) h9) h12) h17) h18), by first | exact ⟨by simp only; omega, by simp only; rw [← hE, drop_at hp, outC, chgC, if_pos hh]; simp [rowP, cCheck, decS, hcn], by simp only; rw [← hF, drop_at hp, okF, if_pos hh], by simp only [newC, List.length_append, List.length_cons, List.length_nil, List.length_take, List.length_drop]; omega⟩ | exact ⟨by simp only; omega, by simp only; rw [← hE, drop_at hp, outC, chgC, if_neg hh]; simp [rowP, cCheck, decS, hcn], by simp only; rw [← hF, drop_at hp, okF, if_neg hh], by simp only [List.length_append, List.length_cons, List.length_nil]; omega⟩⟩, (by simp only; omega)⟩
    ·
     refine JO_gF rfl rfl rfl rfl ?_
     refine JO_gF rfl rfl rfl rfl ?_
     refine JO_gF rfl rfl rfl rfl ?_
     refine JO_gF rfl rfl rfl rfl ?_
     refine JO_q (QE_pickF rfl rfl) rfl ?_
     refine JO_q (QE_mv rfl) rfl ?_
     refine JO_gF rfl rfl rfl rfl ?_
     refine JO_gF rfl rfl rfl rfl ?_
     refine JO_gF rfl rfl rfl rfl ?_
     refine JO_gF rfl rfl rfl rfl ?_
     refine JO_gF rfl rfl rfl rfl ?_
     refine JO_gF rfl rfl rfl rfl ?_
     refine JO_gF rfl rfl rfl rfl ?_
     refine JO_q (QE_pickF rfl rfl) rfl ?_
     refine JO_q (QE_as rfl) rfl ?_
     refine JO_nil ?_
     refine thenQ_n ?_
     refine JC_draw drawsMixed 12 rfl _ (fun _ h => h) ?_
     intro s19 h19
     refine JA_q 0 rfl (by kernel_rfl) (by kernel_rfl) (by kernel_rfl) trivial (QE_mv rfl) rfl ?_
     refine JA_q 1 rfl (by kernel_rfl) (by kernel_rfl) (by kernel_rfl) trivial (QE_mv rfl) rfl ?_
     refine JA_q 2 rfl (by kernel_rfl) (by kernel_rfl) (by kernel_rfl) trivial (QE_stH rfl rfl rfl rfl (by omega)) rfl ?_
     refine JA_q 3 rfl (by kernel_rfl) (by kernel_rfl) (by kernel_rfl) trivial (QE_mv rfl) rfl ?_
     refine JA_q 4 rfl (by kernel_rfl) (by kernel_rfl) (by kernel_rfl) trivial (QE_sadd rfl rfl (by first | omega | (simp only [List.length_append, List.length_cons, List.length_nil, List.length_take, List.length_drop]; omega))) rfl ?_
     refine JA_q 5 rfl (by kernel_rfl) (by kernel_rfl) (by kernel_rfl) trivial (QE_mv rfl) rfl ?_
     refine JA_q 6 rfl (by kernel_rfl) (by kernel_rfl) (by kernel_rfl) trivial (QE_mv rfl) rfl ?_
     refine JA_q 7 rfl (by kernel_rfl) (by kernel_rfl) (by kernel_rfl) trivial (QE_mv rfl) rfl ?_
     refine JA_q 8 rfl (by kernel_rfl) (by kernel_rfl) (by kernel_rfl) trivial (QE_add' (c := ((an + z : Nat) : Int)) rfl rfl (by rw [w64 (by omega) (by omega)]; omega)) rfl ?_
     refine JA_q 9 rfl (by kernel_rfl) (by kernel_rfl) (by kernel_rfl) trivial (QE_stL rfl rfl rfl rfl (by omega)) rfl ?_
     refine JA_q 10 rfl (by kernel_rfl) (by kernel_rfl) (by kernel_rfl) trivial (QE_sadd rfl rfl (by first | omega | (simp only [List.length_append, List.length_cons, List.length_nil, List.length_take, List.length_drop]; omega))) rfl ?_
     refine JA_q 11 rfl (by kernel_rfl) (by kernel_rfl) (by kernel_rfl) trivial (QE_as rfl) rfl ?_
     refine JA_done (by kernel_rfl) ?_
     refine thenQ_n ?_
     refine JC_region ?_
     refine JO_q (QE_mv rfl) rfl ?_
     refine JO_q (QE_mv rfl) rfl ?_
     refine JO_q (QE_sadd rfl rfl (by first | omega | (simp only [List.length_append, List.length_cons, List.length_nil, List.length_take, List.length_drop]; omega))) rfl ?_
     refine JO_q (QE_sadd rfl rfl (by first | omega | (simp only [List.length_append, List.length_cons, List.length_nil, List.length_take, List.length_drop]; omega))) rfl ?_
     refine JO_q (QE_mv rfl) rfl ?_
     refine JO_q (QE_conv' rfl rfl rfl rfl rfl (show IntKind.u32.wrap (cn : Int) = (cn : Int) by rw [IntKind.wrap_u32]; omega)) rfl ?_
     refine JO_call (first := []) (captured := []) rfl rfl rfl (decimal_ac D cn (by omega) _ _) ?_
     rintro _ _ s20 h20 ⟨rfl, rfl⟩
     refine JO_q (QE_sadd rfl rfl (by first | omega | (simp only [List.length_append, List.length_cons, List.length_nil, List.length_take, List.length_drop]; omega))) rfl ?_
     refine JO_q (QE_sadd rfl rfl (by first | omega | (simp only [List.length_append, List.length_cons, List.length_nil, List.length_take, List.length_drop]; omega))) rfl ?_
     refine JO_q (QE_as rfl) rfl ?_
     refine JO_nil ?_
     refine blockQ_n ?_
     refine thenQ_n ?_
     refine JC_region ?_
     refine JO_q (QE_mv rfl) rfl ?_
     refine JO_q (QE_add' rfl rfl (w64 (by omega) (by omega))) rfl ?_
     refine JO_q (QE_as rfl) rfl ?_
     refine JO_nil ?_
     refine thenQ_n ⟨(k + 1, (((out ++ newC (an : Int) z by_ p) ++ [32, 67, 104, 101, 99, 107, 32]) ++ Lib.decDigits cn) ++ [46, 10], okC1 (an : Int) z by_ p), [], (Keeps.cons rfl (Keeps.cons rfl (Keeps.cons rfl (Keeps.cons rfl (Keeps.cons rfl (Keeps.cons rfl (Keeps.cons rfl (Keeps.cons rfl (Keeps.cons (by first | rfl | exact congrArg (fun b => some (Value.bool b)) (okC_f1 (by assumption)).symm | exact congrArg (fun b => some (Value.bool b)) (okC_f2 (by omega)).symm | exact congrArg (fun b => some (Value.bool b)) (okC_t (by assumption) hlen1 hx).symm) (Keeps.cons rfl (Keeps.nil _))))))))))), rfl, ⟨(Le.trans (Le.trans (Le.trans (Le.trans (Le.trans I4.1 h6) h7) h9) h19) h20), by first | exact ⟨by simp only; omega, by simp only; rw [← hE, drop_at hp, outC, chgC, if_pos hh]; simp [rowP, cCheck, decS, hcn], by simp only; rw [← hF, drop_at hp, okF, if_pos hh], by simp only [newC, List.length_append, List.length_cons, List.length_nil, List.length_take, List.length_drop]; omega⟩ | exact ⟨by simp only; omega, by simp only; rw [← hE, drop_at hp, outC, chgC, if_neg hh]; simp [rowP, cCheck, decS, hcn], by simp only; rw [← hF, drop_at hp, okF, if_neg hh], by simp only [List.length_append, List.length_cons, List.length_nil]; omega⟩⟩, (by simp only; omega)⟩
   ·
    have hh : ¬ hitC par at_ z k p := fun e => by
      first
      | exact absurd e.1 (by assumption)
      | exact absurd e.2 (by assumption)
    refine JC_skip ?_
    refine thenQ_n ?_
    refine JC_region ?_
    refine JO_q (QE_mv rfl) rfl ?_
    refine JO_q (QE_mv rfl) rfl ?_
    refine JO_q (QE_sadd rfl rfl (by first | omega | (simp only [List.length_append, List.length_cons, List.length_nil, List.length_take, List.length_drop]; omega))) rfl ?_
    refine JO_q (QE_sadd rfl rfl (by first | omega | (simp only [List.length_append, List.length_cons, List.length_nil, List.length_take, List.length_drop]; omega))) rfl ?_
    refine JO_q (QE_mv rfl) rfl ?_
    refine JO_q (QE_conv' rfl rfl rfl rfl rfl (show IntKind.u32.wrap (cn : Int) = (cn : Int) by rw [IntKind.wrap_u32]; omega)) rfl ?_
    refine JO_call (first := []) (captured := []) rfl rfl rfl (decimal_ac D cn (by omega) _ _) ?_
    rintro _ _ s21 h21 ⟨rfl, rfl⟩
    refine JO_q (QE_sadd rfl rfl (by first | omega | (simp only [List.length_append, List.length_cons, List.length_nil, List.length_take, List.length_drop]; omega))) rfl ?_
    refine JO_q (QE_sadd rfl rfl (by first | omega | (simp only [List.length_append, List.length_cons, List.length_nil, List.length_take, List.length_drop]; omega))) rfl ?_
    refine JO_q (QE_as rfl) rfl ?_
    refine JO_nil ?_
    refine blockQ_n ?_
    refine thenQ_n ?_
    refine JC_region ?_
    refine JO_q (QE_mv rfl) rfl ?_
    refine JO_q (QE_add' rfl rfl (w64 (by omega) (by omega))) rfl ?_
    refine JO_q (QE_as rfl) rfl ?_
    refine JO_nil ?_
    refine thenQ_n ⟨(k + 1, (((out ++ joinW p) ++ [32, 67, 104, 101, 99, 107, 32]) ++ Lib.decDigits cn) ++ [46, 10], okv), [], (Keeps.cons rfl (Keeps.cons rfl (Keeps.cons rfl (Keeps.cons rfl (Keeps.cons rfl (Keeps.cons rfl (Keeps.cons rfl (Keeps.cons rfl (Keeps.cons (by first | rfl | exact congrArg (fun b => some (Value.bool b)) (okC_f1 (by assumption)).symm | exact congrArg (fun b => some (Value.bool b)) (okC_f2 (by omega)).symm | exact congrArg (fun b => some (Value.bool b)) (okC_t (by assumption) hlen1 hx).symm) (Keeps.cons rfl (Keeps.nil _))))))))))), rfl, ⟨(Le.trans (Le.trans (Le.trans (Le.trans I4.1 h6) h7) h9) h21), by first | exact ⟨by simp only; omega, by simp only; rw [← hE, drop_at hp, outC, chgC, if_pos hh]; simp [rowP, cCheck, decS, hcn], by simp only; rw [← hF, drop_at hp, okF, if_pos hh], by simp only [newC, List.length_append, List.length_cons, List.length_nil, List.length_take, List.length_drop]; omega⟩ | exact ⟨by simp only; omega, by simp only; rw [← hE, drop_at hp, outC, chgC, if_neg hh]; simp [rowP, cCheck, decS, hcn], by simp only; rw [← hF, drop_at hp, okF, if_neg hh], by simp only [List.length_append, List.length_cons, List.length_nil]; omega⟩⟩, (by simp only; omega)⟩
  ·
   refine JO_gF rfl rfl rfl rfl ?_
   refine JO_gF rfl rfl rfl rfl ?_
   refine JO_gF rfl rfl rfl rfl ?_
   refine JO_gF rfl rfl rfl rfl ?_
   refine JO_gF rfl rfl rfl rfl ?_
   refine JO_gF rfl rfl rfl rfl ?_
   refine JO_q (QE_pickF rfl rfl) rfl ?_
   refine JO_nil ?_
   refine thenQ_n ?_
   refine JC_ifF rfl ?_
   have hh : ¬ hitC par at_ z k p := fun e => by
     first
     | exact absurd e.1 (by assumption)
     | exact absurd e.2 (by assumption)
   refine JC_skip ?_
   refine thenQ_n ?_
   refine JC_region ?_
   refine JO_q (QE_mv rfl) rfl ?_
   refine JO_q (QE_mv rfl) rfl ?_
   refine JO_q (QE_sadd rfl rfl (by first | omega | (simp only [List.length_append, List.length_cons, List.length_nil, List.length_take, List.length_drop]; omega))) rfl ?_
   refine JO_q (QE_sadd rfl rfl (by first | omega | (simp only [List.length_append, List.length_cons, List.length_nil, List.length_take, List.length_drop]; omega))) rfl ?_
   refine JO_q (QE_mv rfl) rfl ?_
   refine JO_q (QE_conv' rfl rfl rfl rfl rfl (show IntKind.u32.wrap (cn : Int) = (cn : Int) by rw [IntKind.wrap_u32]; omega)) rfl ?_
   refine JO_call (first := []) (captured := []) rfl rfl rfl (decimal_ac D cn (by omega) _ _) ?_
   rintro _ _ s22 h22 ⟨rfl, rfl⟩
   refine JO_q (QE_sadd rfl rfl (by first | omega | (simp only [List.length_append, List.length_cons, List.length_nil, List.length_take, List.length_drop]; omega))) rfl ?_
   refine JO_q (QE_sadd rfl rfl (by first | omega | (simp only [List.length_append, List.length_cons, List.length_nil, List.length_take, List.length_drop]; omega))) rfl ?_
   refine JO_q (QE_as rfl) rfl ?_
   refine JO_nil ?_
   refine blockQ_n ?_
   refine thenQ_n ?_
   refine JC_region ?_
   refine JO_q (QE_mv rfl) rfl ?_
   refine JO_q (QE_add' rfl rfl (w64 (by omega) (by omega))) rfl ?_
   refine JO_q (QE_as rfl) rfl ?_
   refine JO_nil ?_
   refine thenQ_n ⟨(k + 1, (((out ++ joinW p) ++ [32, 67, 104, 101, 99, 107, 32]) ++ Lib.decDigits cn) ++ [46, 10], okv), [], (Keeps.cons rfl (Keeps.cons rfl (Keeps.cons rfl (Keeps.cons rfl (Keeps.cons rfl (Keeps.cons rfl (Keeps.cons rfl (Keeps.cons rfl (Keeps.cons (by first | rfl | exact congrArg (fun b => some (Value.bool b)) (okC_f1 (by assumption)).symm | exact congrArg (fun b => some (Value.bool b)) (okC_f2 (by omega)).symm | exact congrArg (fun b => some (Value.bool b)) (okC_t (by assumption) hlen1 hx).symm) (Keeps.cons rfl (Keeps.nil _))))))))))), rfl, ⟨(Le.trans (Le.trans (Le.trans I4.1 h6) h7) h22), by first | exact ⟨by simp only; omega, by simp only; rw [← hE, drop_at hp, outC, chgC, if_pos hh]; simp [rowP, cCheck, decS, hcn], by simp only; rw [← hF, drop_at hp, okF, if_pos hh], by simp only [newC, List.length_append, List.length_cons, List.length_nil, List.length_take, List.length_drop]; omega⟩ | exact ⟨by simp only; omega, by simp only; rw [← hE, drop_at hp, outC, chgC, if_neg hh]; simp [rowP, cCheck, decS, hcn], by simp only; rw [← hF, drop_at hp, okF, if_neg hh], by simp only [List.length_append, List.length_cons, List.length_nil]; omega⟩⟩, (by simp only; omega)⟩
 ·
  have hkE : k = np := by omega
  subst hkE
  rw [hn, List.drop_length] at hE hF
  rw [outC, List.append_nil] at hE
  rw [okF] at hF
  refine JC_exit ?_
  refine thenQ_x ?_
  refine thenQ_x ?_
  refine blockQ_x ?_
  refine thenQ_n ?_
  refine JC_seq ?_
  refine JC_region ?_
  refine JO_q (QE_mv rfl) rfl ?_
  refine JO_q (QE_mv rfl) rfl ?_
  refine JO_q (QE_as rfl) rfl ?_
  refine JO_q (QE_as rfl) rfl ?_
  refine JO_nil ?_
  refine thenQ_n ?_
  refine JC_ret ?_
  refine retQ_mk [_] L (.inr rfl) (.tmp rfl (.tmp rfl (.nil))) rfl (Le.trans (Le.trans (Le.trans h1 h2) h3) I4.1) (fun sR hS2 => ?_)
  exact ⟨by rw [← hE, ← hF]; rfl, rfl⟩
end Go.Proofs.YtoeeblegplghmaaGreatDoor
namespace Go.Proofs.YtoeeblegplghmaaGreatDoor
open Go.FL
attribute [local irreducible] JC JO JA JB thenQ blockQ retQ AC fill CellsAt QE Ev Mid
set_option maxHeartbeats 4000000 in
set_option maxRecDepth 100000 in
theorem lawExchanged_ac (D : Nat) (L : Hl) (s : World) (hG : GP s) (t : Tab) (A : Option Addr) (n c : Nat) (hA : Inss s A n c t.ins) (par at_ : Int) : AC Tryz.prog D 8 [.agg #[.int .i64 t.cells, .slice A n c], .int .i64 par, .int .i64 at_] L s fun v L' _ => v = .bool true ∧ L = L' := by
 have hn := hA.1
 refine AC_enter (TT := TT) (fn := Tryz.f8) TT_ok Tryz.func8 (by kernel_rfl) rfl Tryz.ntmps8 rfl (rs := [.tmp 6]) rfl [(0, _), (1, _), (2, _)] rfl ?_
 refine JC_seq ?_
 refine JC_region ?_
 refine JO_boxA rfl rfl ?_
 intro β1 s1 h1
 refine JO_q (QE_as rfl) rfl ?_
 refine JO_nil ?_
 refine thenQ_n ?_
 refine JC_seq ?_
 refine JC_seq ?_
 refine JC_region ?_
 refine JO_call (first := []) (captured := []) rfl rfl rfl (worded_ac D _ _ (hG.le h1)) ?_
 rintro _ _ s2 h2 ⟨rfl, rfl⟩
 refine JO_q (QE_notT rfl) rfl ?_
 refine JO_nil ?_
 refine thenQ_n ?_
 refine JC_ifF rfl ?_
 refine JC_skip ?_
 refine thenQ_n ?_
 refine JC_seq ?_
 refine JC_seq ?_
 refine JC_region ?_
 refine JO_q (QE_ldA 0 [_, _] rfl rfl rfl rfl rfl) rfl ?_
 refine JO_call (first := []) (captured := []) rfl rfl rfl (tableFault_ac D _ _ _ _ _ _ (hA.le (Le.trans h1 h2))) ?_
 rintro _ _ s3 h3 ⟨rfl, rfl⟩
 refine JO_q (QE_field rfl rfl rfl rfl rfl rfl rfl rfl rfl) rfl ?_
 refine JO_q (QE_ne rfl rfl) rfl ?_
 refine JO_q (QE_mv rfl) rfl ?_
 refine JO_caseN (t := 19) rfl (fun c4 => ?_) (fun c4 => ?_)
 ·
  refine JO_gF rfl rfl rfl rfl ?_
  refine JO_gF rfl rfl rfl rfl ?_
  refine JO_gF rfl rfl rfl rfl ?_
  refine JO_gF rfl rfl rfl rfl ?_
  refine JO_gF rfl rfl rfl rfl ?_
  refine JO_gF rfl rfl rfl rfl ?_
  refine JO_q (QE_pickT rfl rfl) rfl ?_
  refine JO_nil ?_
  refine thenQ_n ?_
  refine JC_ifT rfl ?_
  refine JC_seq ?_
  refine JC_region ?_
  refine JO_q (QE_as rfl) rfl ?_
  refine JO_nil ?_
  refine thenQ_n ?_
  refine JC_ret ?_
  refine thenQ_r ?_
  refine retQ_mk [_] L (.inr rfl) (.tmp rfl (.nil)) rfl (Le.trans (Le.trans h1 h2) h3) (fun sR hS2 => ?_)
  exact ⟨rfl, rfl⟩
 ·
  refine JO_gT rfl rfl ?_
  refine JO_q (QE_mv rfl) rfl ?_
  refine JO_gT rfl rfl ?_
  refine JO_q (QE_faB rfl rfl rfl rfl) rfl ?_
  refine JO_gT rfl rfl ?_
  refine JO_q (QE_ld1 0 rfl rfl rfl rfl rfl) rfl ?_
  refine JO_gT rfl rfl ?_
  refine JO_q (QE_lenS rfl rfl rfl) rfl ?_
  refine JO_gT rfl rfl ?_
  refine JO_call (first := []) (captured := []) rfl rfl rfl (in_ac D _ _ _ _ _) ?_
  rintro _ _ s5 h5 ⟨rfl, rfl⟩
  refine JO_gT rfl rfl ?_
  refine JO_q (QE_not rfl) rfl ?_
  refine JO_q (QE_pickF rfl rfl) rfl ?_
  refine JO_nil ?_
  refine thenQ_n ?_
  refine JC_ifN rfl (fun c6 => ?_) (fun c6 => ?_)
  ·
   refine JC_seq ?_
   refine JC_region ?_
   refine JO_q (QE_as rfl) rfl ?_
   refine JO_nil ?_
   refine thenQ_n ?_
   refine JC_ret ?_
   refine thenQ_r ?_
   refine retQ_mk [_] L (.inr rfl) (.tmp rfl (.nil)) rfl (Le.trans (Le.trans (Le.trans h1 h2) h3) h5) (fun sR hS2 => ?_)
   exact ⟨rfl, rfl⟩
  ·
   have h0 : (tabFault t).1 = 0 := by assumption
   have hpr : 0 ≤ par ∧ par ≤ (n : Int) := by omega
   obtain ⟨k0, rfl⟩ := Int.eq_ofNat_of_zero_le hpr.1
   have hk0 : k0 ≤ n := by omega
   have hT := tabP (Inss.tabU hA) h0
   refine JC_skip ?_
   refine thenQ_n ?_
   refine JC_seq ?_
   refine JC_region ?_
   refine JO_q (QE_ldA 0 [_, _] rfl rfl rfl rfl rfl) rfl ?_
   refine JO_call (first := []) (captured := []) rfl rfl rfl (rpage_ac D _ _ t _ _ _ (hA.le (Le.trans (Le.trans (Le.trans h1 h2) h3) h5)) hT) ?_
   rintro _ _ s7 h7 ⟨rfl, rfl⟩
   refine JO_call (first := []) (captured := []) rfl rfl rfl (parasR_ac D _ _ (pageT t) (by have := page_len hT; omega)) ?_
   rintro _ _ s8 h8 ⟨rfl, Ap, np, cp, rfl, hP⟩
   rw [page_paraR hT] at hP
   have hnp := hP.1
   rw [List.length_map, parasT, List.length_cons, List.length_map] at hnp
   obtain ⟨b, off, pg, A', n', c', rfl, hpg, hcp, hSp⟩ := Pgs.at_ hP (show k0 < np by omega)
   obtain ⟨p, hp, rfl⟩ : ∃ p, (parasT t)[k0]? = some p ∧ (p, 0) = pg := by
     rw [List.getElem?_map] at hpg
     obtain ⟨p, h1, h2⟩ := Option.map_eq_some_iff.1 hpg
     exact ⟨p, h1, h2⟩
   have hpz := para_size hT p (List.mem_of_getElem? hp)
   have hjl := join_len p
   simp only at hSp
   refine JO_q (QE_mv rfl) rfl ?_
   refine JO_q (QE_iaN rfl rfl rfl rfl rfl rfl (show k0 < np by omega)) rfl ?_
   refine JO_q (QE_fa0 rfl rfl rfl rfl) rfl ?_
   refine JO_q (QE_ldsR0 rfl rfl rfl (hcp.le (Le.refl (D := D) _)) rfl) rfl ?_
   refine JO_call (first := []) (captured := []) rfl rfl rfl (rjoined_ac D _ _ A' n' c' p (hSp.le (Le.refl (D := D) _)) (by omega)) ?_
   rintro _ _ s9 h9 ⟨rfl, rfl⟩
   refine JO_q (QE_as rfl) rfl ?_
   refine JO_nil ?_
   refine thenQ_n ?_
   refine JC_seq ?_
   refine JC_seq ?_
   refine JC_region ?_
   refine JO_q (QE_mv rfl) rfl ?_
   refine JO_q (QE_mv rfl) rfl ?_
   refine JO_q (QE_lenT rfl rfl rfl) rfl ?_
   refine JO_q (QE_sub' rfl rfl (w64 (by omega) (by omega))) rfl ?_
   refine JO_call (first := []) (captured := []) rfl rfl rfl (in_ac D _ _ _ _ _) ?_
   rintro _ _ s10 h10 ⟨rfl, rfl⟩
   refine JO_q (QE_not rfl) rfl ?_
   refine JO_nil ?_
   refine thenQ_n ?_
   refine JC_ifN rfl (fun c11 => ?_) (fun c11 => ?_)
   ·
    refine JC_seq ?_
    refine JC_region ?_
    refine JO_q (QE_as rfl) rfl ?_
    refine JO_nil ?_
    refine thenQ_n ?_
    refine JC_ret ?_
    refine thenQ_r ?_
    refine retQ_mk [_] L (.inr rfl) (.tmp rfl (.nil)) rfl (Le.trans (Le.trans (Le.trans (Le.trans (Le.trans (Le.trans (Le.trans h1 h2) h3) h5) h7) h8) h9) h10) (fun sR hS2 => ?_)
    exact ⟨rfl, rfl⟩
   ·
    have hat : 0 ≤ at_ ∧ at_ ≤ ((joinW p).length : Int) - 2 := by omega
    obtain ⟨an, rfl⟩ := Int.eq_ofNat_of_zero_le hat.1
    have hat2 : an + 2 ≤ (joinW p).length := by omega
    obtain ⟨ca, hca1⟩ : ∃ c, (joinW p)[an]? = some c := ⟨_, List.getElem?_eq_getElem (by omega)⟩
    obtain ⟨cb, hcb1⟩ : ∃ c, (joinW p)[an + 1]? = some c := ⟨_, List.getElem?_eq_getElem (by omega)⟩
    refine JC_skip ?_
    refine thenQ_n ?_
    refine JC_seq ?_
    refine JC_draw drawsMixed 18 rfl _ (fun _ h => h) ?_
    intro s12 h12
    refine JA_q 0 rfl (by kernel_rfl) (by kernel_rfl) (by kernel_rfl) trivial (QE_ldA 0 [_, _] rfl rfl rfl rfl rfl) rfl ?_
    refine JA_q 1 rfl (by kernel_rfl) (by kernel_rfl) (by kernel_rfl) trivial (QE_mv rfl) rfl ?_
    refine JA_q 2 rfl (by kernel_rfl) (by kernel_rfl) (by kernel_rfl) trivial (QE_mv rfl) rfl ?_
    refine JA_q 3 rfl (by kernel_rfl) (by kernel_rfl) (by kernel_rfl) trivial (QE_mv rfl) rfl ?_
    refine JA_q 4 rfl (by kernel_rfl) (by kernel_rfl) (by kernel_rfl) trivial (QE_mv rfl) rfl ?_
    refine JA_q 5 rfl (by kernel_rfl) (by kernel_rfl) (by kernel_rfl) trivial (QE_add' (c := ((an + 1 : Nat) : Int)) rfl rfl (by rw [w64 (by omega) (by omega)]; omega)) rfl ?_
    refine JA_q 6 rfl (by kernel_rfl) (by kernel_rfl) (by kernel_rfl) trivial (QE_ix rfl rfl rfl rfl hcb1) rfl ?_
    refine JA_q 7 rfl (by kernel_rfl) (by kernel_rfl) (by kernel_rfl) trivial (QE_mv rfl) rfl ?_
    refine JA_q 8 rfl (by kernel_rfl) (by kernel_rfl) (by kernel_rfl) trivial (QE_mv rfl) rfl ?_
    refine JA_q 9 rfl (by kernel_rfl) (by kernel_rfl) (by kernel_rfl) trivial (QE_ix rfl rfl rfl rfl hca1) rfl ?_
    refine JA_1 10 (by kernel_rfl) ?_
    refine JB_bs rfl trivial [(_, _), (_, _)] [_, _] rfl rfl rfl rfl rfl rfl rfl rfl rfl ?_
    intro βn s13 h13 hcbs
    refine JA_1 11 (by kernel_rfl) ?_
    refine JB_q rfl trivial (QE_b2s rfl rfl rfl rfl rfl rfl rfl (bts_lit (l := [cb, ca]) (hcbs.le (Le.refl (D := D) _)) (by simp))) rfl ?_
    refine JA_1 12 (by kernel_rfl) ?_
    refine JB_call rfl trivial (first := []) (captured := []) rfl rfl rfl (changed_ac D _ _ t _ _ _ (hA.le (Le.trans (Le.trans (Le.trans (Le.trans (Le.trans (Le.trans (Le.trans (Le.trans (Le.trans h1 h2) h3) h5) h7) h8) h9) h10) h12) h13)) hT (k0 : Int) (an : Int) 2 (by omega) [cb, ca] (by simp)) ?_
    rintro _ _ s14 h14 ⟨rfl, rfl⟩
    refine ⟨fun _ _ h => h, ?_⟩
    refine JA_q 13 rfl (by kernel_rfl) (by kernel_rfl) (by kernel_rfl) trivial (QE_mv rfl) rfl ?_
    refine JA_q 14 rfl (by kernel_rfl) (by kernel_rfl) (by kernel_rfl) trivial (QE_ext rfl rfl) rfl ?_
    refine JA_q 15 rfl (by kernel_rfl) (by kernel_rfl) (by kernel_rfl) trivial (QE_ext rfl rfl) rfl ?_
    refine JA_q 16 rfl (by kernel_rfl) (by kernel_rfl) (by kernel_rfl) trivial (QE_as rfl) rfl ?_
    refine JA_q 17 rfl (by kernel_rfl) (by kernel_rfl) (by kernel_rfl) trivial (QE_as rfl) rfl ?_
    refine JA_done (by kernel_rfl) ?_
    refine thenQ_n ?_
    refine JC_seq ?_
    refine JC_seq ?_
    refine JC_region ?_
    refine JO_q (QE_mv rfl) rfl ?_
    refine JO_q (QE_not rfl) rfl ?_
    refine JO_q (QE_mv rfl) rfl ?_
    refine JO_caseM (t := 59) rfl (fun c15 => ?_) (fun c15 => ?_)
    ·
     refine JO_gF rfl rfl rfl rfl ?_
     refine JO_gF rfl rfl rfl rfl ?_
     refine JO_gF rfl rfl rfl rfl ?_
     refine JO_q (QE_pickT rfl rfl) rfl ?_
     refine JO_nil ?_
     refine thenQ_n ?_
     refine JC_ifT rfl ?_
     refine JC_seq ?_
     refine JC_region ?_
     refine JO_q (QE_as rfl) rfl ?_
     refine JO_nil ?_
     refine thenQ_n ?_
     refine JC_ret ?_
     refine thenQ_r ?_
     refine retQ_mk [_] L (.inr rfl) (.tmp rfl (.nil)) rfl (Le.trans (Le.trans (Le.trans (Le.trans (Le.trans (Le.trans (Le.trans (Le.trans (Le.trans (Le.trans h1 h2) h3) h5) h7) h8) h9) h10) h12) h13) h14) (fun sR hS2 => ?_)
     exact ⟨rfl, rfl⟩
    ·
     refine JO_gT rfl rfl ?_
     refine JO_q (QE_mv rfl) rfl ?_
     refine JO_gT rfl rfl ?_
     refine JO_q (QE_lenT rfl rfl rfl) rfl ?_
     refine JO_gT rfl rfl ?_
     refine JO_q (QE_gt rfl rfl) rfl ?_
     refine JO_q (QE_pickF rfl rfl) rfl ?_
     refine JO_nil ?_
     refine thenQ_n ?_
     refine JC_ifD rfl (fun c16 => ?_) (fun c16 => ?_)
     ·
      refine JC_seq ?_
      refine JC_region ?_
      refine JO_q (QE_as rfl) rfl ?_
      refine JO_nil ?_
      refine thenQ_n ?_
      refine JC_ret ?_
      refine thenQ_r ?_
      refine retQ_mk [_] L (.inr rfl) (.tmp rfl (.nil)) rfl (Le.trans (Le.trans (Le.trans (Le.trans (Le.trans (Le.trans (Le.trans (Le.trans (Le.trans (Le.trans h1 h2) h3) h5) h7) h8) h9) h10) h12) h13) h14) (fun sR hS2 => ?_)
      exact ⟨rfl, rfl⟩
     ·
      have hok : okF (k0 : Int) (an : Int) 2 [cb, ca] false 0 (parasT t) = true := by assumption
      have hl : ¬ 50000 < (outC (k0 : Int) (an : Int) 2 [cb, ca] 0 (parasT t)).length := by omega
      have hCC := change_two (at_ := (an : Int)) hT hp rfl (by omega) hca1 hcb1 hok rfl hl
      have hDW : damW (outC (k0 : Int) (an : Int) 2 [cb, ca] 0 (parasT t)) = damR (outC (k0 : Int) (an : Int) 2 [cb, ca] 0 (parasT t)) := if_neg hl
      have hDE : damE (outC (k0 : Int) (an : Int) 2 [cb, ca] 0 (parasT t)) = (0, 0) := if_neg hl
      refine JC_skip ?_
      refine thenQ_n ?_
      refine JC_seq ?_
      refine JC_region ?_
      refine JO_q (QE_mv rfl) rfl ?_
      refine JO_call (first := []) (captured := []) rfl rfl rfl (damaged_ac D _ _ (hG.le (Le.trans (Le.trans (Le.trans (Le.trans (Le.trans (Le.trans (Le.trans (Le.trans (Le.trans (Le.trans h1 h2) h3) h5) h7) h8) h9) h10) h12) h13) h14)) (outC (k0 : Int) (an : Int) 2 [cb, ca] 0 (parasT t))) ?_
      rintro _ _ s17 h17 ⟨rfl, Ama, nma, cma, rfl, hma⟩
      refine JO_q (QE_mv rfl) rfl ?_
      refine JO_q (QE_ext rfl rfl) rfl ?_
      refine JO_q (QE_ext rfl rfl) rfl ?_
      refine JO_allocZ rfl [_, _] rfl rfl ?_
      intro β18 s18 h18
      refine JO_q (QE_as rfl) rfl ?_
      refine JO_st 0 [_, _] rfl rfl rfl rfl rfl rfl rfl rfl rfl ?_
      refine JO_nil ?_
      refine thenQ_n ?_
      refine JC_seq ?_
      refine JC_region ?_
      refine JO_q (QE_mv rfl) rfl ?_
      refine JO_call (first := []) (captured := []) rfl rfl rfl (read_ac D _ _ (hG.le (Le.trans (Le.trans (Le.trans (Le.trans (Le.trans (Le.trans (Le.trans (Le.trans (Le.trans (Le.trans (Le.trans (Le.trans h1 h2) h3) h5) h7) h8) h9) h10) h12) h13) h14) h17) h18)) (outC (k0 : Int) (an : Int) 2 [cb, ca] 0 (parasT t))) ?_
      rintro _ _ s19 h19 ⟨rfl, Ara, nra, cra, rfl, hra⟩
      refine JO_q (QE_mv rfl) rfl ?_
      refine JO_q (QE_ext rfl rfl) rfl ?_
      refine JO_q (QE_ext rfl rfl) rfl ?_
      refine JO_allocZ rfl [_, _] rfl rfl ?_
      intro β20 s20 h20
      refine JO_allocZ rfl [_, _] rfl rfl ?_
      intro β21 s21 h21
      refine JO_st 1 [_, _] rfl rfl rfl rfl rfl rfl rfl rfl rfl ?_
      refine JO_st 0 [_, _] rfl rfl rfl rfl rfl rfl rfl rfl rfl ?_
      refine JO_nil ?_
      refine thenQ_n ?_
      refine JC_seq ?_
      refine JC_draw drawsMixed 16 rfl _ (fun _ h => h) ?_
      intro s22 h22
      refine JA_q 0 rfl (by kernel_rfl) (by kernel_rfl) (by kernel_rfl) trivial (QE_fa0 rfl rfl rfl rfl) rfl ?_
      refine JA_q 1 rfl (by kernel_rfl) (by kernel_rfl) (by kernel_rfl) trivial (QE_ld1 2 rfl rfl rfl rfl rfl) rfl ?_
      refine JA_q 2 rfl (by kernel_rfl) (by kernel_rfl) (by kernel_rfl) trivial (QE_cast (v' := .bool true) (QE_eq rfl rfl) (bT (by rw [hDE]))) rfl ?_
      refine JA_q 3 rfl (by kernel_rfl) (by kernel_rfl) (by kernel_rfl) trivial (QE_mv rfl) rfl ?_
      refine JA_q 4 rfl (by kernel_rfl) (by kernel_rfl) (by kernel_rfl) ⟨_, rfl, rfl⟩ (QE_mv rfl) rfl ?_
      refine JA_q 5 rfl (by kernel_rfl) (by kernel_rfl) (by kernel_rfl) ⟨_, rfl, rfl⟩ (QE_mv rfl) rfl ?_
      refine JA_1 6 (by kernel_rfl) ?_
      refine JB_bs rfl ⟨_, rfl, rfl⟩ [(_, _)] [_] rfl rfl rfl rfl rfl rfl rfl rfl rfl ?_
      intro βn s23 h23 hci
      refine JA_1 7 (by kernel_rfl) ?_
      refine JB_call rfl ⟨_, rfl, rfl⟩ (first := []) (captured := []) rfl rfl rfl (AC.isT (ints_ac D _ _ _ _ _ (damW (outC (k0 : Int) (an : Int) 2 [cb, ca] 0 (parasT t))) (hma.le (Le.trans (Le.trans (Le.trans (Le.trans (Le.trans h18 h19) h20) h21) h22) h23)) _ _ _ [(k0 : Int)] (its_lit (hci.le (Le.refl (D := D) _)))) (by rw [hDW, hCC.1])) ?_
      rintro _ _ s24 h24 ⟨rfl, rfl⟩
      refine ⟨fun _ _ h => h, ?_⟩
      refine JA_q 8 rfl (by kernel_rfl) (by kernel_rfl) (by kernel_rfl) trivial (QE_pickT rfl rfl) rfl ?_
      refine JA_q 9 rfl (by kernel_rfl) (by kernel_rfl) (by kernel_rfl) trivial (QE_mv rfl) rfl ?_
      refine JA_q 10 rfl (by kernel_rfl) (by kernel_rfl) (by kernel_rfl) ⟨_, rfl, rfl⟩ (QE_ldA 0 [_, _] rfl rfl rfl rfl rfl) rfl ?_
      refine JA_q 11 rfl (by kernel_rfl) (by kernel_rfl) (by kernel_rfl) ⟨_, rfl, rfl⟩ (QE_mv rfl) rfl ?_
      refine JA_1 12 (by kernel_rfl) ?_
      refine JB_call rfl ⟨_, rfl, rfl⟩ (first := []) (captured := []) rfl rfl rfl (at_ac D _ _ _ _) ?_
      rintro _ _ s25 h25 ⟨rfl, rfl⟩
      refine ⟨fun _ _ h => h, ?_⟩
      refine JA_q 13 rfl (by kernel_rfl) (by kernel_rfl) (by kernel_rfl) ⟨_, rfl, rfl⟩ (QE_cast (v' := .bool true) (QE_aeq rfl rfl (eqFault _ _ _ _)) (bT (by rw [hCC.2]; exact ⟨rfl, rfl⟩))) rfl ?_
      refine JA_q 14 rfl (by kernel_rfl) (by kernel_rfl) (by kernel_rfl) trivial (QE_pickT rfl rfl) rfl ?_
      refine JA_q 15 rfl (by kernel_rfl) (by kernel_rfl) (by kernel_rfl) trivial (QE_as rfl) rfl ?_
      refine JA_done (by kernel_rfl) ?_
      refine thenQ_n ?_
      refine JC_ret ?_
      refine retQ_mk [_, _, _, _] L (.inr rfl) (.tmp rfl (.nil)) rfl (Le.trans (Le.trans (Le.trans (Le.trans (Le.trans (Le.trans (Le.trans (Le.trans (Le.trans (Le.trans (Le.trans (Le.trans (Le.trans (Le.trans (Le.trans (Le.trans (Le.trans (Le.trans (Le.trans h1 h2) h3) h5) h7) h8) h9) h10) h12) h13) h14) h17) h18) h19) h20) h21) h22) h23) h24) h25) (fun sR hS2 => ?_)
      exact ⟨rfl, rfl⟩
end Go.Proofs.YtoeeblegplghmaaGreatDoor
namespace Go.Proofs.YtoeeblegplghmaaGreatDoor
open Go Go.FL Go.ChangeShapes Go.WideShapes Go.ChangeAt Go.RowKit Go.Deep
theorem own_knob : ownKnob Tryz.prog.godebug = none := by kernel_rfl
theorem laid_out : laidOutB Tryz.prog = true := by kernel_rfl
theorem mark_free (l : List Obj) : ∃ D, ∀ E, D ≤ E → ∀ o ∈ l, o ≠ dum E := by
  induction l with
  | nil => exact ⟨0, fun _ _ _ h => by cases h⟩
  | cons x l ih =>
    obtain ⟨D, hD⟩ := ih
    have hx : ∃ B, ∀ E, B ≤ E → x ≠ dum E := by
      cases x with
      | mapIter a n b c => exact ⟨n + 1, fun E hE h => by simp only [dum, Obj.mapIter.injEq] at h; omega⟩
      | _ => exact ⟨0, fun E _ h => by simp [dum] at h⟩
    obtain ⟨B, hB⟩ := hx
    refine ⟨max D B, fun E hE o ho => ?_⟩
    rcases List.mem_cons.1 ho with rfl | ho
    · exact hB E (by omega)
    · exact hD E (by omega) o ho
theorem mark_world (W : World) : ∃ D, ∀ k : Nat, W.heap[k]? ≠ some (dum D) := by
  obtain ⟨D, hD⟩ := mark_free W.heap.toList
  refine ⟨D, fun k hk => hD D (Nat.le_refl _) (dum D) ?_ rfl⟩
  rw [← Array.getElem?_toList] at hk
  exact List.mem_of_getElem? hk
theorem below_of {D : Nat} {W W' : World} (hD : ∀ k : Nat, W.heap[k]? ≠ some (dum D)) (h : Le D W W') : Below W.heap.size W W' :=
  ⟨h.os, h.tape, h.output, h.size, fun k hk => (h.block k hk).resolve_left (hD k)⟩
theorem law_calls {P : Program} {f : FuncId} {args : List Value} {W : World} (h : ∀ D, AC P D f args [] W fun v L' _ => v = .bool true ∧ [] = L') :
    Calls P f args.toArray W fun e W' => e = .returned (.bool true) ∧ Below W.heap.size W W' := by
  obtain ⟨D, hD⟩ := mark_world W
  refine ((h D).2 ⟨by simp, fun x hx => by cases hx⟩).mono ?_
  rintro e w' ⟨v, L', s', h1, rfl, h3, h4, rfl, rfl⟩
  exact ⟨h1, below_of hD h4⟩
section
variable {H : Type} {enc : TypeId × Value → H} {P : Program}
theorem trodAll_stays {W W' : World} (hl : laidOutB P = true) (hb : Below W.heap.size W W') : ∀ {ts : List TypeId} {vs : List Value} {ds : List (DataW H)} {ps : List MemPlace}, (∀ t ∈ ts, P.readableRec t = true ∧ t < P.types.size) → (∀ x ∈ ps, x.block < W.heap.size) →
    DataW.TrodAll enc P W 0 (fun _ => true) true ts vs ds ps → DataW.TrodAll enc P W' 0 (fun b => decide (b < W.heap.size)) true ts vs ds ps
  | [], _, _, _, _, _, h => by
    obtain ⟨rfl, rfl, rfl⟩ := trodAll_nil h
    exact trodAll_mk0
  | t :: ts, _, _, _, hts, hp, h => by
    obtain ⟨v, vs, d, ds, a, b, rfl, rfl, rfl, h1, h2⟩ := trodAll_cons h
    have ht := hts t (List.mem_cons_self ..)
    exact trodAll_cons_mk (Below.trod hl ht.1 ht.2 h1 hb fun x hx => hp x (List.mem_append_left _ hx)) (trodAll_stays hl hb (fun t' h' => hts t' (List.mem_cons_of_mem _ h')) (fun x hx => hp x (List.mem_append_right _ hx)) h2)
theorem law_post {fn : Func} {s : ChangeSpec} {W W' : World} {args : Array Value} {ds gs : List (DataW H)} {before : List MemPlace} {tb : TypeId} (hl : laidOutB P = true) (hts : ∀ t ∈ fn.params.toList, P.readableRec t = true ∧ t < P.types.size) (hr : fn.resultTypes = #[tb]) (hb : P.underlying tb = some .bool)
    (hv : s.vars = []) (hW : DataW.Whole enc P fn.params.toList s.vars false W args.toList ds gs before) (hfn : s.fn H ds = { results := [.lit (.bool true)], args := ds }) (hB : Below W.heap.size W W') : s.post enc P fn false true false false W args (.bool true) W' := by
  have hlt : ∀ x ∈ before, x.block < W.heap.size := fun x hx => hW.lt x hx
  have hW' := hW
  obtain ⟨p, q, hA, hV, rfl, _, _⟩ := hW
  rw [hv] at hV
  obtain ⟨rfl, rfl⟩ := trodVars_none hV
  refine ⟨ds, [], p ++ [], [], p, [], hW', ?_, ?_, ?_, hB.frame _, fun h => by cases h⟩
  · rw [List.append_nil, hfn, hr]; exact trodAll_cons_mk (shut_bool hb _) trodAll_mk0
  · rw [List.append_nil, hfn]; exact trodAll_stays hl hB hts (fun x hx => hlt x (List.mem_append_left _ hx)) hA
  · rw [List.append_nil, hfn, hv]; rfl
end
def Rd (W : World) (t : TypeId) (cs : List Value) : Prop := ∃ (H : Type) (enc : TypeId × Value → H) (n : Nat) (x : DataW H × List MemPlace), DataW.trod enc Tryz.prog W 0 (fun _ => true) true n t cs = some x
section
variable {W : World} {t e : TypeId} {cs : List Value}
theorem rd_int {k : IntKind} (ht : Tryz.prog.underlying t = some (.int k)) (h : Rd W t cs) : ∃ n, cs = [.int k n] ∧ (Lit.int k n).wf = true := by
  obtain ⟨H, enc, n, x, h⟩ := h
  obtain ⟨i, h1, _, h2⟩ := DataW.trod_int ht h
  exact ⟨i, h1, h2⟩
theorem rd_bool (ht : Tryz.prog.underlying t = some .bool) (h : Rd W t cs) : ∃ b, cs = [.bool b] := by
  obtain ⟨H, enc, n, x, h⟩ := h
  obtain ⟨i, h1, _⟩ := DataW.trod_bool ht h
  exact ⟨i, h1⟩
theorem rd_str (ht : Tryz.prog.underlying t = some .string) (h : Rd W t cs) : ∃ l : List UInt8, cs = [St l] ∧ l.length ≤ 9223372036854775807 := by
  obtain ⟨H, enc, n, x, h⟩ := h
  obtain ⟨s, h1, _, h2⟩ := DataW.trod_string ht h
  refine ⟨s.data.toList, by rw [h1], ?_⟩
  have : s.data.toList.length = s.size := by rw [Array.length_toList]; rfl
  simp only [maxLen] at h2
  omega
theorem rd_field {fs : Array Field} (ht : Tryz.prog.underlying t = some (.struct fs)) (h : Rd W t cs) {sz : Nat} (hc : Tryz.prog.cellsOf t = sz) : cs.length = sz ∧ ∀ (i : Nat) (f : Field), fs[i]? = some f → ∀ (ty off n : Nat), f.type = ty → f.offset = off → Tryz.prog.cellsOf ty = n → Rd W ty ((cs.drop off).take n) := by
  obtain ⟨H, enc, n, x, h⟩ := h
  obtain ⟨xs, m, _, _, h1, h2, h3⟩ := DataW.trod_struct ht h
  refine ⟨h1.trans hc, fun i f hf ty off k e1 e2 e3 => ?_⟩
  have hi : i < xs.length := by rw [h2]; exact (Array.getElem?_eq_some_iff.1 hf).1
  have := h3 i f hf
  rw [List.getElem?_eq_getElem hi, e1, e2, e3] at this
  exact ⟨H, enc, m, _, this⟩
theorem rd_slice {sz : Nat} (ht : Tryz.prog.underlying t = some (.slice e)) (hc : Tryz.prog.cellsOf e = sz) (hp : 0 < sz) (h : Rd W t cs) : ∃ A n c, cs = [.slice A n c] ∧ n ≤ c ∧ c ≤ 9223372036854775807 ∧
    ∀ i, i < n → ∃ b off ds, A = some ⟨b, off, none⟩ ∧ CellsAt W b (off + i * sz) ds ∧ ds.length = sz ∧ Rd W e ds := by
  obtain ⟨H, enc, q, x, h⟩ := h
  rcases open_slice ht h with ⟨rfl, _⟩ | ⟨a, len, cap, m, k, D, Pl, rfl, _, h1, h2, h3, _, h4⟩
  · exact ⟨none, 0, 0, rfl, Nat.le_refl _, by omega, fun i hi => by omega⟩
  · simp only [maxLen] at h2
    refine ⟨some a, len, cap, rfl, h1, by omega, fun i hi => ?_⟩
    obtain ⟨ds, k1, k2⟩ := h4 i (by simp at h3; omega)
    rw [hc] at k1
    obtain ⟨_, k3, k4⟩ := World.cells?_some k1
    obtain ⟨b, off, spot⟩ := a
    have hs : spot = none := by
      obtain ⟨ds0, j1, _⟩ := h4 0 (by simp at h3; omega)
      rw [hc, Nat.zero_mul] at j1
      obtain ⟨_, j3, j4⟩ := World.cells?_some j1
      have := j4 0 hp
      rw [List.getElem?_eq_getElem (by omega)] at this
      simpa [Addr.add] using World.cell?_spot this
    subst hs
    refine ⟨b, off, ds, rfl, fun j v hj => ?_, k3, H, enc, k, _, k2⟩
    have hl : j < sz := by rw [← k3]; exact (List.getElem?_eq_some_iff.1 hj).1
    have := k4 j hl
    rw [hj, add_lit, add_lit] at this
    exact this
theorem sl_of {α : Type} [Inhabited α] {R : World → α → List Value → Prop} {sz : Nat} (ht : Tryz.prog.underlying t = some (.slice e)) (hc : Tryz.prog.cellsOf e = sz) (hp : 0 < sz) (h : Rd W t cs) (hel : ∀ ds, Rd W e ds → ∃ x : α, R W x ds) : ∃ A n c l, cs = [.slice A n c] ∧ Sl sz R W A n c l := by
  obtain ⟨A, n, c, h1, h2, h3, h4⟩ := rd_slice ht hc hp h
  obtain ⟨f, hf⟩ := choose_lt (α := α) (p := fun i x => ∃ b off ds, A = some ⟨b, off, none⟩ ∧ CellsAt W b (off + i * sz) ds ∧ ds.length = sz ∧ R W x ds) (n := n) (fun i hi => by
    obtain ⟨b, off, ds, k1, k2, k3, k4⟩ := h4 i hi
    obtain ⟨x, hx⟩ := hel ds k4
    exact ⟨x, b, off, ds, k1, k2, k3, hx⟩)
  refine ⟨A, n, c, (List.range n).map f, h1, by simp, h2, h3, fun i x hi => ?_⟩
  rw [List.getElem?_map] at hi
  cases hr : (List.range n)[i]? with
  | none => simp [hr] at hi
  | some j =>
    simp [hr] at hi
    obtain ⟨hi1, hi2⟩ := List.getElem?_eq_some_iff.1 hr
    simp at hi1 hi2
    subst hi2; subst hi
    exact hf i hi1
theorem len2 {l : List Value} (h : l.length = 2) : ∃ a b, l = [a, b] := by match l, h with | [a, b], _ => exact ⟨a, b, rfl⟩
theorem len4 {l : List Value} (h : l.length = 4) : ∃ a b c d, l = [a, b, c, d] := by match l, h with | [a, b, c, d], _ => exact ⟨a, b, c, d, rfl⟩
theorem len6 {l : List Value} (h : l.length = 6) : ∃ a b c d e f, l = [a, b, c, d, e, f] := by match l, h with | [a, b, c, d, e, f], _ => exact ⟨a, b, c, d, e, f, rfl⟩
theorem one_eq {a b : Value} (h : [a] = [b]) : a = b := by injection h
theorem u32_wf {n : Int} (h : (Lit.int .u32 n).wf = true) : U32 n := by have := bounds_u32 h; exact ⟨by omega, by omega⟩
end
end Go.Proofs.YtoeeblegplghmaaGreatDoor
namespace Go.Proofs.YtoeeblegplghmaaGreatDoor
open Go Go.FL Go.ChangeShapes Go.WideShapes Go.ChangeAt Go.RowKit
set_option maxRecDepth 100000
instance : Inhabited Ac := ⟨⟨0, 0, ⟨0, 0⟩, ⟨0, 0⟩⟩⟩
instance : Inhabited Ins := ⟨⟨[], 0, false, []⟩⟩
theorem c_int : Tryz.prog.cellsOf 3 = 1 := by kernel_rfl
theorem c_u32 : Tryz.prog.cellsOf 60 = 1 := by kernel_rfl
theorem c_bool : Tryz.prog.cellsOf 4 = 1 := by kernel_rfl
theorem c_str : Tryz.prog.cellsOf 9 = 1 := by kernel_rfl
theorem c_term : Tryz.prog.cellsOf 66 = 2 := by kernel_rfl
theorem c_act : Tryz.prog.cellsOf 68 = 6 := by kernel_rfl
theorem c_acts : Tryz.prog.cellsOf 61 = 1 := by kernel_rfl
theorem c_ins : Tryz.prog.cellsOf 63 = 4 := by kernel_rfl
theorem c_inss : Tryz.prog.cellsOf 22 = 1 := by kernel_rfl
theorem c_tab : Tryz.prog.cellsOf 24 = 2 := by kernel_rfl
section
variable {W : World} {cs : List Value}
theorem rd_term (h : Rd W 66 cs) : ∃ x : Tm, cs = [.int .i64 x.kind, .int .u32 x.val] ∧ U32 x.val := by
  obtain ⟨h1, h2⟩ := rd_field Tryz.underlying66 h c_term
  obtain ⟨a, b, rfl⟩ := len2 h1
  obtain ⟨k, e1, _⟩ := rd_int Tryz.underlying3 (h2 0 _ rfl _ _ _ rfl rfl c_int)
  obtain ⟨v, e2, w2⟩ := rd_int Tryz.underlying60 (h2 1 _ rfl _ _ _ rfl rfl c_u32)
  have z1 : a = .int .i64 k := one_eq e1
  have z2 : b = .int .u32 v := one_eq e2
  subst z1; subst z2
  exact ⟨⟨k, v⟩, rfl, u32_wf w2⟩
theorem rd_action (h : Rd W 68 cs) : ∃ a : Ac, cs = a.cs ∧ U32 a.x.val ∧ U32 a.y.val := by
  obtain ⟨h1, h2⟩ := rd_field Tryz.underlying68 h c_act
  obtain ⟨a, b, c, d, e, f, rfl⟩ := len6 h1
  obtain ⟨k, e1, _⟩ := rd_int Tryz.underlying3 (h2 0 _ rfl _ _ _ rfl rfl c_int)
  obtain ⟨t, e2, _⟩ := rd_int Tryz.underlying3 (h2 1 _ rfl _ _ _ rfl rfl c_int)
  obtain ⟨x, e3, wx⟩ := rd_term (h2 2 _ rfl _ _ _ rfl rfl c_term)
  obtain ⟨y, e4, wy⟩ := rd_term (h2 3 _ rfl _ _ _ rfl rfl c_term)
  have z1 : a = .int .i64 k := one_eq e1
  have z2 : b = .int .i64 t := one_eq e2
  have y3 : [c, d] = [.int .i64 x.kind, .int .u32 x.val] := e3
  have y4 : [e, f] = [.int .i64 y.kind, .int .u32 y.val] := e4
  injection y3 with z3 x3'
  injection y4 with z4 x4'
  have z3' : d = .int .u32 x.val := one_eq x3'
  have z4' : f = .int .u32 y.val := one_eq x4'
  subst z1; subst z2; subst z3; subst z3'; subst z4; subst z4'
  exact ⟨⟨k, t, x, y⟩, rfl, wx, wy⟩
theorem rd_acts (h : Rd W 61 cs) : ∃ A n c l, cs = [.slice A n c] ∧ Acs W A n c l := sl_of Tryz.underlying61 c_act (by decide) h fun _ hd => rd_action hd
theorem rd_ins (h : Rd W 63 cs) : ∃ x : Ins, InsR W x cs := by
  obtain ⟨h1, h2⟩ := rd_field Tryz.underlying63 h c_ins
  obtain ⟨a, b, c, d, rfl⟩ := len4 h1
  obtain ⟨l, e1, w1⟩ := rd_str Tryz.underlying9 (h2 0 _ rfl _ _ _ rfl rfl c_str)
  obtain ⟨v, e2, w2⟩ := rd_int Tryz.underlying60 (h2 1 _ rfl _ _ _ rfl rfl c_u32)
  obtain ⟨o, e3⟩ := rd_bool Tryz.underlying4 (h2 2 _ rfl _ _ _ rfl rfl c_bool)
  obtain ⟨A, n, q, la, e4, w4⟩ := rd_acts (h2 3 _ rfl _ _ _ rfl rfl c_acts)
  have z1 : a = St l := one_eq e1
  have z2 : b = .int .u32 v := one_eq e2
  have z3 : c = .bool o := one_eq e3
  have z4 : d = .slice A n q := one_eq e4
  subst z1; subst z2; subst z3; subst z4
  exact ⟨⟨l, v, o, la⟩, A, n, q, rfl, w4, w1, u32_wf w2⟩
theorem rd_inss (h : Rd W 22 cs) : ∃ A n c l, cs = [.slice A n c] ∧ Inss W A n c l := sl_of Tryz.underlying22 c_ins (by decide) h fun _ hd => rd_ins hd
theorem rd_table (h : Rd W 24 cs) : ∃ (t : Tab) (A : Option Addr) (n c : Nat), cs = [.int .i64 t.cells, .slice A n c] ∧ Inss W A n c t.ins := by
  obtain ⟨h1, h2⟩ := rd_field Tryz.underlying24 h c_tab
  obtain ⟨a, b, rfl⟩ := len2 h1
  obtain ⟨k, e1, _⟩ := rd_int Tryz.underlying3 (h2 0 _ rfl _ _ _ rfl rfl c_int)
  obtain ⟨A, n, c, l, e2, w2⟩ := rd_inss (h2 1 _ rfl _ _ _ rfl rfl c_inss)
  have z1 : a = .int .i64 k := one_eq e1
  have z2 : b = .slice A n c := one_eq e2
  subst z1; subst z2
  exact ⟨⟨k, l⟩, A, n, c, rfl, w2⟩
end
section
variable {H : Type} {enc : TypeId × Value → H} {W : World} {base : Nat} {v : Value} {d : DataW H} {ps : List MemPlace}
theorem rd_of {t : TypeId} (hd : DataW.Trod enc Tryz.prog W 0 (fun _ => true) true t v d ps) : Rd W t v.cells.toList := by
  obtain ⟨n, h⟩ := hd
  exact ⟨H, enc, n, _, h⟩
theorem agg_of {t : TypeId} {fs : Array Field} (ht : Tryz.prog.underlying t = some (.struct fs)) (hv : Value.okWide Tryz.prog W .any base t v) : ∃ cs, v = .agg cs := by
  unfold Value.okWide at hv
  rw [ht] at hv
  obtain ⟨cs, h, _⟩ := hv
  exact ⟨cs, h⟩
theorem arg_table (hv : Value.okWide Tryz.prog W .any base 24 v) (hd : DataW.Trod enc Tryz.prog W 0 (fun _ => true) true 24 v d ps) : ∃ (t : Tab) (A : Option Addr) (n c : Nat), v = .agg #[.int .i64 t.cells, .slice A n c] ∧ Inss W A n c t.ins := by
  obtain ⟨cs, rfl⟩ := agg_of Tryz.underlying24 hv
  obtain ⟨t, A, n, c, h1, h2⟩ := rd_table (rd_of hd)
  refine ⟨t, A, n, c, ?_, h2⟩
  simp only [Value.cells] at h1
  rw [← h1]
end
end Go.Proofs.YtoeeblegplghmaaGreatDoor
namespace Go.Proofs.YtoeeblegplghmaaGreatDoor
open Go Go.FL Go.ChangeShapes Go.WideShapes Go.ChangeAt Go.RowKit Go.Deep
theorem row_err (u : TypeId) (hu : Tryz.prog.typeName? 3 u = Tryz.prog.typeName? 3 189) : u = 189 :=
  have hn : Tryz.prog.typeName? 3 189 = some ("*" ++ "errors.errorString") := by kernel_rfl
  typeName_ptr_named (nm := "errors.errorString") (by kernel_rfl) (by kernel_rfl) (by decide) u (hu.trans hn)
theorem gw_var {W : World} {nm : String} {g : Nat} {cs : Array Value} (hg : Tryz.prog.globalNamed nm = some g) (h : W.var? Tryz.prog nm = some cs) : ∃ ty fz, W.heap[g]? = some (.cells cs ty fz) := by
  unfold World.var? at h
  rw [hg] at h
  simp only [Option.bind_some] at h
  split at h
  · rename_i c t f hb
    injection h with h
    subst h
    exact ⟨t, f, hb⟩
  · cases h
set_option maxRecDepth 100000 in
theorem gp_of {W : World} (h : laidMetH Tryz.prog Rows.primerTextMatchesSpecRow.laid W) : GP W := by
  rw [MakeChecks.laidMetH_plain _ _ _ (by kernel_rfl)] at h
  have h2 := h.tail.tail
  have hpow := Lib.tabIs_of_head (zs := Lib.pow10Tab) (k := .u64) (g := 3) (by kernel_rfl) (by kernel_rfl) Tryz.underlying176 Tryz.underlying123 (by kernel_rfl) (by kernel_rfl) h2
  have h4 := h2.tail.tail
  obtain ⟨a1, s1, hv1, _⟩ := laid_sentinel (g := 5) h4 (by kernel_rfl) (by kernel_rfl) Tryz.underlying93 (fun u hu => row_err u (hu.trans (by kernel_rfl))) Tryz.underlying189 Tryz.underlying191 rfl rfl Tryz.underlying9 (by kernel_rfl) (by kernel_rfl)
  obtain ⟨a2, s2, hv2, _⟩ := laid_sentinel (g := 4) h4.tail (by kernel_rfl) (by kernel_rfl) Tryz.underlying93 (fun u hu => row_err u (hu.trans (by kernel_rfl))) Tryz.underlying189 Tryz.underlying191 rfl rfl Tryz.underlying9 (by kernel_rfl) (by kernel_rfl)
  have hasc := Lib.tabIs_of_head (zs := Lib.asciiSpaceTab) (k := .u8) (g := 0) (by kernel_rfl) (by kernel_rfl) Tryz.underlying115 Tryz.underlying5 (by kernel_rfl) (by kernel_rfl) h4.tail.tail.tail
  refine ⟨⟨?_, ?_, ?_⟩, gw_var (g := 0) (by kernel_rfl) hasc⟩
  · exact gw_var (g := 3) (by kernel_rfl) hpow
  · exact ⟨_, _, World.var?_cell (g := 4) (by kernel_rfl) hv2 0⟩
  · exact ⟨_, _, World.var?_cell (g := 5) (by kernel_rfl) hv1 0⟩
end Go.Proofs.YtoeeblegplghmaaGreatDoor
namespace Go.Proofs.YtoeeblegplghmaaGreatDoor
open Go Go.FL Go.ChangeShapes Go.WideShapes Go.ChangeAt Go.RowKit
theorem primerFindsExchangedCharacters_reads : ∀ t ∈ Tryz.f8.params.toList, Tryz.prog.readableRec t = true ∧ t < Tryz.prog.types.size := by
  rw [Tryz.params8]
  intro t ht
  simp only [List.mem_cons, List.not_mem_nil, or_false] at ht
  rcases ht with rfl | rfl | rfl <;> exact ⟨by kernel_rfl, of_decide_eq_true (by kernel_rfl)⟩
set_option maxRecDepth 100000 in
theorem primerFindsExchangedCharacters_contract (H : Type) (enc : TypeId × Value → H) (W : World) (base : Nat) (args : Array Value) (ds gs : List (DataW H)) (before : List MemPlace)
    (hval : ∀ (j : Nat) t v, Tryz.f8.params[j]? = some t → args[j]? = some v → Value.okWide Tryz.prog W .any base t v)
    (hW : DataW.Whole enc Tryz.prog Tryz.f8.params.toList Rows.primerFindsExchangedCharactersSpec.vars false W args.toList ds gs before) (hL : laidMetH Tryz.prog Rows.primerFindsExchangedCharactersRow.laid W) :
    Calls Tryz.prog 8 args W fun e W' => ∃ v, e = .returned v ∧ Rows.primerFindsExchangedCharactersSpec.post enc Tryz.prog Tryz.f8 false true false false W args v W' := by
  have hW' := hW
  obtain ⟨p, q, hA0, hV, rfl, hfz, hnd⟩ := hW'
  have hA : DataW.TrodAll enc Tryz.prog W 0 (fun _ => true) true Tryz.f8.params.toList args.toList ds p := hA0
  rw [Tryz.params8] at hA hval
  obtain ⟨v0, vs0, d0, ds0, p0, q0, hargs0, rfl, rfl, h0, r0⟩ := trodAll_cons hA
  obtain ⟨v1, vs1, d1, ds1, p1, q1, hargs1, rfl, rfl, h1, r1⟩ := trodAll_cons r0
  obtain ⟨v2, vs2, d2, ds2, p2, q2, hargs2, rfl, rfl, h2, r2⟩ := trodAll_cons r1
  obtain ⟨rfl, rfl, rfl⟩ := trodAll_nil r2
  obtain rfl : args = #[v0, v1, v2] := by cases args; simp_all
  obtain ⟨rfl, rfl⟩ := trodVars_none hV
  obtain ⟨t0, A0, n0, c0, rfl, hT0⟩ := arg_table (hval 0 24 v0 rfl rfl) h0
  obtain ⟨k1, rfl, rfl, rfl, wk1⟩ := open_int Tryz.underlying3 (hval 1 3 v1 rfl rfl) h1
  obtain ⟨k2, rfl, rfl, rfl, wk2⟩ := open_int Tryz.underlying3 (hval 2 3 v2 rfl rfl) h2
  refine (law_calls (args := [_, _, _]) fun D => lawExchanged_ac D [] W (gp_of hL) t0 A0 n0 c0 hT0 k1 k2).mono fun e W' ⟨he, hg⟩ => ?_
  subst he
  exact ⟨_, rfl, law_post laid_out primerFindsExchangedCharacters_reads (by kernel_rfl) Tryz.underlying4 rfl hW rfl hg⟩
set_option maxRecDepth 100000 in
theorem primerFindsExchangedCharacters_lifted (os : Os) (started : os.Started) (H : Type) (enc : TypeId × Value → H) :
    ReturnsInHanded {} Tryz.checked os 8 .any (fun w args => (Rows.primerFindsExchangedCharactersSpec.pre enc Tryz.prog Tryz.f8 [] false w args ∧ laidMetH Tryz.prog Rows.primerFindsExchangedCharactersRow.laid w) ∧ sizedMet enc Tryz.prog Tryz.f8 (OpenSpec.ofChange Rows.primerFindsExchangedCharactersSpec) false w args) (Rows.primerFindsExchangedCharactersSpec.post enc Tryz.prog Tryz.f8 false true false false) := by
  refine returnsInHanded_of_change_and (C := Tryz.checked) (X := fun w _ => laidMetH Tryz.prog Rows.primerFindsExchangedCharactersRow.laid w) (fun _ _ _ hh h => h.of_heap hh) own_knob started (by kernel_rfl) Tryz.func8
    (ChangeSpec.witness_shaped (enc := enc) (C := Tryz.checked) (os := os) (X := fun w _ => laidMetH Tryz.prog Rows.primerFindsExchangedCharactersRow.laid w) false (World.laidAll Tryz.prog os Rows.primerFindsExchangedCharactersRow.laid) #[.agg #[.int .i64 0, .slice none 0 0], .int .i64 0, .int .i64 0] 8 (World.laidAll_os _ _ _)
      (World.shaped_of_ZipB (by kernel_rfl) (by kernel_rfl)) (by kernel_rfl) (by kernel_rfl) (by kernel_rfl)
      (by rw [MakeChecks.laidMetH_plain _ _ _ (by kernel_rfl)]; exact laidMet_laidAll _ (by kernel_rfl) (by kernel_rfl))) ?_
  intro W base args ds gs before hval hW _ _ hL _
  exact primerFindsExchangedCharacters_contract H enc W base args ds gs before hval hW hL
theorem primerFindsExchangedCharacters_said : Rows.PrimerFindsExchangedCharactersSaid :=
  OpenClaim.holds_of_wide 8 Tryz.f8 rfl rfl rfl rfl rfl rfl rfl ⟨rfl, rfl, rfl, rfl, rfl⟩ rfl rfl rfl rfl rfl (by kernel_rfl) Tryz.func8 (by kernel_rfl)
    (of_decide_eq_true (by kernel_rfl)) (by unfold Func.isWrapper; first | (rw [if_pos (by decide +kernel)]; kernel_rfl) | (rw [if_neg (by decide +kernel)]; exact ⟨rfl, rfl⟩))
    (fun os started H enc _ => primerFindsExchangedCharacters_lifted os started H enc)
theorem primerFindsExchangedCharacters_plain (f : FuncId) (fn : Func) (hf : Tryz.pinned.checked.prog.funcNamed Rows.primerFindsExchangedCharactersRow.func = some f) (hfn : Tryz.pinned.checked.prog.funcs[f]? = some fn) : true = Tryz.pinned.checked.prog.looks [] ∧ ∀ (j : Nat) t, fn.params[j]? = some t → Tryz.pinned.checked.prog.wantsStandIn t = false := by
  obtain rfl : f = 8 := Option.some.inj ((show Tryz.prog.funcNamed Rows.primerFindsExchangedCharactersRow.func = some 8 by kernel_rfl).symm.trans hf) |>.symm
  obtain rfl : fn = Tryz.f8 := (Option.some.inj (Tryz.func8.symm.trans hfn)).symm
  exact ⟨by kernel_rfl, fun j t ht => by
    rw [Tryz.params8] at ht
    have hm : t ∈ [24, 3, 3] := by simpa using Array.mem_of_getElem? ht
    have hall : ([24, 3, 3].all fun u => !Tryz.prog.wantsStandIn u) = true := by kernel_rfl
    exact (show Tryz.prog.wantsStandIn t = false by simpa using List.all_eq_true.1 hall t hm)⟩
theorem primerFindsExchangedCharacters_holds : Rows.PrimerFindsExchangedCharactersCardSaid :=
  Claim7.holds_tied_plain_at .later [] _ _ _ _ primerFindsExchangedCharacters_said (fun _ h => by cases h) (by kernel_rfl) (fun _ h => by cases h) primerFindsExchangedCharacters_row_tie rfl ⟨rfl, rfl⟩ (by kernel_rfl) rfl primerFindsExchangedCharacters_plain (by kernel_rfl)
end Go.Proofs.YtoeeblegplghmaaGreatDoor
