/- The law PrimerReadMatchesSpec: for every input it returns true, and its arguments read behind the call as they read before; what the package-level variables of the library hold is tied tgt the text of the program. Part 8 of the proof of primerReadMatchesSpec_holds: texts P31, P32, Rk, Ri, Rx, Q19. -/
import Derived.Test.YtoeeblegplghmaaGreatDoorQ19x7
import Derived.ProofKit
import Derived.OpenShut
import Derived.SizedLaws
import Derived.Deep.Slices
import Derived.Test.YtoeeblegplghmaaGreatDoorRows
import Derived.Lay
import Derived.Lib.LaidTab
import Derived.Stop.LaidErr
import Derived.SevenTiedAt
import Derived.Test.YtoeeblegplghmaaGreatDoorCards
import Derived.Test.YtoeeblegplghmaaGreatDoorTie
set_option linter.unusedVariables false
set_option linter.unusedSimpArgs false
set_option linter.unnecessarySimpa false
namespace Go.Proofs.YtoeeblegplghmaaGreatDoor
open Go.FL
attribute [local irreducible] JC JO JA JB thenQ blockQ retQ AC fill CellsAt QE Ev Mid
set_option maxHeartbeats 6000000 in
set_option maxRecDepth 100000 in
theorem rtableO_ac (D : Nat) (L : Hl) (s : World) (tx : List UInt8) (htx : tx.length ≤ 9223372036854775807) : AC Tryz.prog D 15 [St tx] L s fun v L' s' => ∃ M', L' = M' ++ L ∧ ∀ s2, Le D s' s2 → Pub M' s2 → ∃ A n c, v = .tuple #[.agg #[.int .i64 (readR tx).1.cells, .slice A n c], .agg #[.int .i64 (readR tx).2.1, .int .i64 (readR tx).2.2]] ∧ Inss s2 A n c (readR tx).1.ins := by
 refine AC_enter (TT := TT) (fn := Tryz.f15) TT_ok Tryz.func15 (by kernel_rfl) rfl Tryz.ntmps15 rfl (rs := [.cell 2 24, .cell 3 26]) rfl [(0, _)] rfl ?_
 refine JC_seq ?_
 refine JC_region ?_
 refine JO_allocZ rfl [_, _] rfl rfl ?_
 intro β1 s1 h1
 refine JO_allocZ rfl [_, _] rfl rfl ?_
 intro β2 s2 h2
 refine JO_nil ?_
 refine thenQ_n ?_
 refine JC_seq ?_
 refine JC_region ?_
 refine JO_allocZ rfl [_, _] rfl rfl ?_
 intro β3 s3 h3
 refine JO_nil ?_
 refine thenQ_n ?_
 refine JC_seq ?_
 refine JC_seq ?_
 refine JC_region ?_
 refine JO_q (QE_mv rfl) rfl ?_
 refine JO_q (QE_lenT rfl rfl rfl) rfl ?_
 refine JO_q (QE_gt rfl rfl) rfl ?_
 refine JO_nil ?_
 refine thenQ_n ?_
 refine JC_ifD rfl (fun c4 => ?_) (fun c4 => ?_)
 ·
  have hR := rr_long (tx := tx) (by omega)
  refine JC_seq ?_
  refine JC_drawE drawsMixed 4 rfl [2, 1] (by intro x hx; exact eraseAll_mem hx) ?_
  intro s5 h5
  refine JA_q 0 rfl (by kernel_rfl) (by kernel_rfl) (by kernel_rfl) trivial (QE_ldA 0 [_, _] rfl rfl rfl rfl rfl) rfl ?_
  refine JA_1 1 (by kernel_rfl) ?_
  refine JB_call rfl trivial (first := []) (captured := []) rfl rfl rfl (at_ac D _ _ _ _) ?_
  rintro _ _ s6 h6 ⟨rfl, rfl⟩
  refine ⟨fun _ _ h => h, ?_⟩
  refine JA_1 2 (by kernel_rfl) ?_
  refine JB_st rfl trivial 2 [_, _] rfl rfl rfl rfl rfl rfl rfl rfl rfl (fun _ hx => sub_mem (sbY (sbN (sbE _))) hx) ?_
  refine JA_1 3 (by kernel_rfl) ?_
  refine JB_st rfl trivial 1 [_, _] rfl rfl rfl rfl rfl rfl rfl rfl rfl (fun _ hx => sub_mem (sbY (sbN (sbE _))) hx) ?_
  refine JA_done (by kernel_rfl) ?_
  refine thenQ_n ?_
  refine JC_ret ?_
  refine thenQ_r ?_
  refine retQ_mk [_, _, _] _ (.inr rfl) (.agg (us := [_, _]) 2 rfl rfl rfl rfl rfl (.agg (us := [_, _]) 1 rfl rfl rfl rfl rfl (.nil))) rfl (Le.trans (Le.trans (Le.trans (Le.trans h1 h2) h3) h5) h6) (fun sR hS2 => ?_)
  rw [hR]
  first
    | exact ⟨[], rfl, fun s2 hs2 hp => ⟨none, 0, 0, rfl, inss_nil _⟩⟩
    | exact ⟨Mo, rfl, fun s2 hs2 hp => ⟨none, 0, 0, rfl, inss_nil _⟩⟩
    | exact ⟨[], rfl, fun s2 hs2 hp => ⟨Ao, acc.length, co, by rw [h0, h0b]; rfl, hIn.le (Le.trans (noSuchMark) (Le.trans hS2 hs2))⟩⟩
 ·
  have hshort : ¬ 50000 < tx.length := by omega
  have hfs := flds_size tx
  have hfl := flds_len tx
  have hdl := dv_len (flds tx) []
  refine JC_skip ?_
  refine thenQ_n ?_
  refine JC_seq ?_
  refine JC_region ?_
  refine JO_q (QE_mv rfl) rfl ?_
  refine JO_call (first := []) (captured := []) rfl rfl rfl (parasR_ac D _ _ tx (by omega)) ?_
  rintro _ _ s7 h7 ⟨rfl, Ap, np, cp, rfl, hP⟩
  have hn := hP.1
  rw [paraR_len] at hn
  refine JO_q (QE_as rfl) rfl ?_
  refine JO_nil ?_
  refine thenQ_n ?_
  refine JC_seq ?_
  refine JC_seq ?_
  refine JC_region ?_
  refine JO_q (QE_mv rfl) rfl ?_
  refine JO_q (QE_lenS rfl rfl rfl) rfl ?_
  refine JO_q (QE_eq rfl rfl) rfl ?_
  refine JO_nil ?_
  refine thenQ_n ?_
  refine JC_ifD rfl (fun c8 => ?_) (fun c8 => ?_)
  ·
   have hR := rr_fault (f := (1, 0)) hshort (by rw [List.eq_nil_of_length_eq_zero (l := dvF [] (flds tx)) (by omega)]; rfl)
   refine JC_seq ?_
   refine JC_drawE drawsMixed 4 rfl [2, 1] (by intro x hx; exact eraseAll_mem hx) ?_
   intro s9 h9
   refine JA_q 0 rfl (by kernel_rfl) (by kernel_rfl) (by kernel_rfl) trivial (QE_ldA 0 [_, _] rfl rfl rfl rfl rfl) rfl ?_
   refine JA_1 1 (by kernel_rfl) ?_
   refine JB_call rfl trivial (first := []) (captured := []) rfl rfl rfl (at_ac D _ _ _ _) ?_
   rintro _ _ s10 h10 ⟨rfl, rfl⟩
   refine ⟨fun _ _ h => h, ?_⟩
   refine JA_1 2 (by kernel_rfl) ?_
   refine JB_st rfl trivial 2 [_, _] rfl rfl rfl rfl rfl rfl rfl rfl rfl (fun _ hx => sub_mem (sbY (sbN (sbE _))) hx) ?_
   refine JA_1 3 (by kernel_rfl) ?_
   refine JB_st rfl trivial 1 [_, _] rfl rfl rfl rfl rfl rfl rfl rfl rfl (fun _ hx => sub_mem (sbY (sbN (sbE _))) hx) ?_
   refine JA_done (by kernel_rfl) ?_
   refine thenQ_n ?_
   refine JC_ret ?_
   refine thenQ_r ?_
   refine retQ_mk [_, _, _] _ (.inr rfl) (.agg (us := [_, _]) 2 rfl rfl rfl rfl rfl (.agg (us := [_, _]) 1 rfl rfl rfl rfl rfl (.nil))) rfl (Le.trans (Le.trans (Le.trans (Le.trans (Le.trans h1 h2) h3) h7) h9) h10) (fun sR hS2 => ?_)
   rw [hR]
   first
     | exact ⟨[], rfl, fun s2 hs2 hp => ⟨none, 0, 0, rfl, inss_nil _⟩⟩
     | exact ⟨Mo, rfl, fun s2 hs2 hp => ⟨none, 0, 0, rfl, inss_nil _⟩⟩
     | exact ⟨[], rfl, fun s2 hs2 hp => ⟨Ao, acc.length, co, by rw [h0, h0b]; rfl, hIn.le (Le.trans (noSuchMark) (Le.trans hS2 hs2))⟩⟩
  ·
   have hnp : 0 < np := by omega
   refine JC_skip ?_
   refine thenQ_n ?_
   refine JC_seq ?_
   refine JC_seq ?_
   refine JC_region ?_
   refine JO_q (QE_as rfl) rfl ?_
   refine JO_nil ?_
   refine thenQ_n ?_
   refine JC_block ?_
   refine JC_loop (γ := Nat × Int × Value × Hl × List Ins) (fun g => [(2, _), (3, _), (4, _), (5, _), (6, .int .i64 (g.1 : Int))]) (fun g => (β3, cb [.int .i64 g.2.1, g.2.2.1] 24) :: (β2, cb [.int .i64 0, .int .i64 0] 26) :: (β1, cb [.int .i64 0, .slice none 0 0] 24) :: (g.2.2.2.1 ++ L)) (fun g tw => Le D s7 tw ∧ (g.1 ≤ np ∧ RdI tw (none, g.1, g.2.1, g.2.2.1, g.2.2.2.1, g.2.2.2.2) ∧ rdT g.1 g.2.1 g.2.2.2.2 ((dvF [] (flds tx)).drop g.1) = rdT 0 0 [] (dvF [] (flds tx)))) (fun g => np - g.1) (fun _ _ _ h hl => ⟨h.1.trans hl, by obtain ⟨_, k1, k2, k3⟩ := h; exact ⟨k1, k2.le hl, k3⟩⟩) (0, 0, .slice none 0 0, [], []) (Keeps.cons rfl (Keeps.cons rfl (Keeps.cons rfl (Keeps.cons rfl (Keeps.cons rfl (Keeps.nil _)))))) rfl ⟨Le.refl _, ⟨Nat.zero_le _, ⟨[], FL.Own.nil, .nil, fun _ => Nat.le_refl _⟩, rfl⟩⟩ ?_
   intro g s11 I11
   obtain ⟨k, cc, vo, Mo, acc⟩ := g
   obtain ⟨hk0, ⟨css, hO, hcs, hol⟩, hT⟩ := I11.2
   simp only at hk0 hO hcs hol hT
   have hol : acc.length ≤ k := by first | exact hol rfl | exact hol trivial | exact hol
   dsimp only
   obtain ⟨Ao, co, hvo, _, _⟩ := Own.slice hO
   subst hvo
   refine JC_seq ?_
   refine JC_seq ?_
   refine JC_region ?_
   refine JO_q (QE_mv rfl) rfl ?_
   refine JO_q (QE_mv rfl) rfl ?_
   refine JO_q (QE_lenS rfl rfl rfl) rfl ?_
   refine JO_q (QE_lt rfl rfl) rfl ?_
   refine JO_nil ?_
   refine thenQ_n ?_
   refine JC_ifD rfl (fun c12 => ?_) (fun c12 => ?_)
   ·
    have hk : k < np := by omega
    obtain ⟨b, off, pg, A', n', c', hEp, hpg, hcp, hSp⟩ := Pgs.at_ (hP.le I11.1) hk
    subst hEp
    obtain ⟨p, hp, rfl⟩ := paraR_at hpg
    have hpm := List.mem_of_getElem? hp
    have hpz := (dv_size (flds tx) [] p hpm).1
    rw [sizeW_nil] at hpz
    have hpp : sizeW p.1 ≤ sizeW (pw p) := by
      obtain ⟨p1, p2⟩ := p
      cases p2 with
      | none => exact Nat.le_refl _
      | some l => simp only [pw, sizeW_app]; omega
    have hbare : ∀ w ∈ p.1, bare1 w := fun w hw => by
      rcases (dv_size (flds tx) [] p hpm).2 w (by
        obtain ⟨p1, p2⟩ := p
        cases p2 with
        | none => exact hw
        | some l => exact List.mem_append_left _ hw) with h | h
      · cases h
      · exact flds_bare tx w h
    have hSp : Strs _ A' n' c' p.1 := hSp
    have hn' := hSp.1
    have hn2 := hSp.2.1
    have hn3 := hSp.2.2.1
    have hps := size_len p.1
    refine JC_skip ?_
    refine thenQ_n ?_
    refine JC_seq ?_
    refine JC_block ?_
    refine JC_seq ?_
    refine JC_seq ?_
    refine JC_region ?_
    refine JO_q (QE_mv rfl) rfl ?_
    refine JO_q (QE_mv rfl) rfl ?_
    refine JO_q (QE_iaN rfl rfl rfl rfl rfl rfl hk) rfl ?_
    refine JO_q (QE_fa rfl rfl rfl rfl) rfl ?_
    refine JO_q (QE_ldsR 1 rfl rfl rfl (hcp.le (Le.refl (D := D) _)) rfl) rfl ?_
    refine JO_q (QE_ne rfl rfl) rfl ?_
    refine JO_nil ?_
    refine thenQ_n ?_
    refine JC_ifN rfl (fun c13 => ?_) (fun c13 => ?_)
    ·
     have hc : codeP p ≠ 0 := c13
     have hst : rdS k cc acc p = .inl (codeP p, (k : Int)) := if_pos hc
     have hR := rr_fault (f := (codeP p, (k : Int))) hshort (by rw [← hT, rd_stepT hp, hst])
     refine JC_seq ?_
     refine JC_region ?_
     refine JO_q (QE_build [] [_, _] rfl rfl rfl rfl rfl rfl) rfl ?_
     refine JO_q (QE_mv rfl) rfl ?_
     refine JO_q (QE_mv rfl) rfl ?_
     refine JO_q (QE_iaN rfl rfl rfl rfl rfl rfl hk) rfl ?_
     refine JO_q (QE_fa rfl rfl rfl rfl) rfl ?_
     refine JO_q (QE_ldsR 1 rfl rfl rfl (hcp.le (Le.refl (D := D) _)) rfl) rfl ?_
     refine JO_q (QE_mv rfl) rfl ?_
     refine JO_call (first := []) (captured := []) rfl rfl rfl (at_ac D _ _ _ _) ?_
     rintro _ _ s14 h14 ⟨rfl, rfl⟩
     refine JO_st 2 [_, _] rfl rfl rfl rfl rfl rfl rfl rfl rfl ?_
     refine JO_st 1 [_, _] rfl rfl rfl rfl rfl rfl rfl rfl rfl ?_
     refine JO_nil ?_
     refine thenQ_n ?_
     refine JC_ret ?_
     refine thenQ_r ?_
     refine blockQ_r ?_
     refine thenQ_r ?_
     refine thenQ_r ?_
     refine blockQ_r ?_
     refine thenQ_r ?_
     refine retQ_mk [_, _, _] _ (.inr rfl) (.agg (us := [_, _]) 2 rfl rfl rfl rfl rfl (.agg (us := [_, _]) 1 rfl rfl rfl rfl rfl (.nil))) rfl (Le.trans (Le.trans (Le.trans (Le.trans (Le.trans h1 h2) h3) h7) I11.1) h14) (fun sR hS2 => ?_)
     rw [hR]
     first
       | exact ⟨[], rfl, fun s2 hs2 hp => ⟨none, 0, 0, rfl, inss_nil _⟩⟩
       | exact ⟨Mo, rfl, fun s2 hs2 hp => ⟨none, 0, 0, rfl, inss_nil _⟩⟩
       | exact ⟨[], rfl, fun s2 hs2 hp => ⟨Ao, acc.length, co, by rw [h0, h0b]; rfl, hIn.le (Le.trans (noSuchMark) (Le.trans hS2 hs2))⟩⟩
    ·
     have hc : codeP p = 0 := by first | exact c13 | simpa using c13
     have hokT : okT (joinW p.1) = true := by obtain ⟨ws, l, e, h⟩ := code_parts hc; rw [e]; exact h
     refine JC_skip ?_
     refine thenQ_n ?_
     refine JC_seq ?_
     refine JC_seq ?_
     refine JC_region ?_
     refine JO_q (QE_mv rfl) rfl ?_
     refine JO_q (QE_eq rfl rfl) rfl ?_
     refine JO_nil ?_
     refine thenQ_n ?_
     refine JC_ifD rfl (fun c15 => ?_) (fun c15 => ?_)
     ·
      have hkz : k = 0 := by omega
      have hcp0 := hcp
      rw [hkz] at hcp0
      refine JC_seq ?_
      refine JC_region ?_
      refine JO_q (QE_mv rfl) rfl ?_
      refine JO_q (QE_iaN rfl rfl rfl rfl rfl rfl (show 0 < np by omega)) rfl ?_
      refine JO_q (QE_fa0 rfl rfl rfl rfl) rfl ?_
      refine JO_q (QE_ldsR0 rfl rfl rfl (hcp0.le (Le.refl (D := D) _)) rfl) rfl ?_
      refine JO_q (QE_lenS rfl rfl rfl) rfl ?_
      refine JO_q (QE_gt rfl rfl) rfl ?_
      refine JO_q (QE_as rfl) rfl ?_
      refine JO_nil ?_
      refine thenQ_n ?_
      refine JC_seq ?_
      refine JC_region ?_
      refine JO_q (QE_as rfl) rfl ?_
      refine JO_nil ?_
      refine thenQ_n ?_
      refine JC_seq ?_
      refine JC_seq ?_
      refine JC_region ?_
      refine JO_q (QE_mv rfl) rfl ?_
      refine JO_nil ?_
      refine thenQ_n ?_
      refine JC_ifD rfl (fun c16 => ?_) (fun c16 => ?_)
      ·
       have h3n : 3 < n' := by omega
       obtain ⟨b3, off3, w3, hE3, hw3, hcw3, _⟩ := Strs.at_ (hSp.le (Le.refl (D := D) _)) h3n
       subst hE3
       have hl3 := mem_size (List.mem_of_getElem? hw3)
       refine JC_region ?_
       refine JO_q (QE_mv rfl) rfl ?_
       refine JO_q (QE_iaN rfl rfl rfl rfl rfl rfl (show 0 < np by omega)) rfl ?_
       refine JO_q (QE_fa0 rfl rfl rfl rfl) rfl ?_
       refine JO_q (QE_ldsR0 rfl rfl rfl (hcp0.le (Le.refl (D := D) _)) rfl) rfl ?_
       refine JO_q (QE_ia1 rfl rfl rfl rfl rfl rfl h3n) rfl ?_
       refine JO_q (QE_ldsR0 rfl rfl rfl (hcw3.le (Le.refl (D := D) _)) rfl) rfl ?_
       refine JO_call (first := []) (captured := []) rfl rfl rfl (numberOf_ac D _ _ w3 (by omega)) ?_
       rintro _ _ s17 h17 ⟨rfl, rfl⟩
       refine JO_q (QE_mv rfl) rfl ?_
       refine JO_q (QE_ext rfl rfl) rfl ?_
       refine JO_q (QE_ext rfl rfl) rfl ?_
       refine JO_q (QE_as rfl) rfl ?_
       refine JO_q (QE_as rfl) rfl ?_
       refine JO_nil ?_
       refine thenQ_n ?_
       refine JC_seq ?_
       refine JC_seq ?_
       refine JC_region ?_
       refine JO_q (QE_mv rfl) rfl ?_
       refine JO_q (QE_not rfl) rfl ?_
       refine JO_q (QE_mv rfl) rfl ?_
       refine JO_caseM (t := 65) rfl (fun c18 => ?_) (fun c18 => ?_)
       ·
        refine JO_gF rfl rfl rfl rfl ?_
        refine JO_gF rfl rfl rfl rfl ?_
        refine JO_gF rfl rfl rfl rfl ?_
        refine JO_gF rfl rfl rfl rfl ?_
        refine JO_gF rfl rfl rfl rfl ?_
        refine JO_gF rfl rfl rfl rfl ?_
        refine JO_gF rfl rfl rfl rfl ?_
        refine JO_gF rfl rfl rfl rfl ?_
        refine JO_q (QE_pickT rfl rfl) rfl ?_
        refine JO_nil ?_
        refine thenQ_n ?_
        refine JC_ifT rfl ?_
        have hrc : rdCells p.1 = none := by
          first
          | exact rc_short (by omega)
          | exact rc_num hw3 (by assumption)
          | exact rc_ne hw3 (by assumption) (by assumption)
        have hst : rdS k cc acc p = .inl (1, 0) := by rw [rdS, if_neg (fun h => h hc), if_pos hkz, hrc]
        have hR := rr_fault (f := (1, 0)) hshort (by rw [← hT, rd_stepT hp, hst])
        refine JC_seq ?_
        refine JC_region ?_
        refine JO_q (QE_build [] [_, _] rfl rfl rfl rfl rfl rfl) rfl ?_
        refine JO_call (first := []) (captured := []) rfl rfl rfl (at_ac D _ _ _ _) ?_
        rintro _ _ s19 h19 ⟨rfl, rfl⟩
        refine JO_st 2 [_, _] rfl rfl rfl rfl rfl rfl rfl rfl rfl ?_
        refine JO_st 1 [_, _] rfl rfl rfl rfl rfl rfl rfl rfl rfl ?_
        refine JO_nil ?_
        refine thenQ_n ?_
        refine JC_ret ?_
        refine thenQ_r ?_
        refine thenQ_r ?_
        refine blockQ_r ?_
        refine thenQ_r ?_
        refine thenQ_r ?_
        refine blockQ_r ?_
        refine thenQ_r ?_
        refine retQ_mk [_, _, _] _ (.inr rfl) (.agg (us := [_, _]) 2 rfl rfl rfl rfl rfl (.agg (us := [_, _]) 1 rfl rfl rfl rfl rfl (.nil))) rfl (Le.trans (Le.trans (Le.trans (Le.trans (Le.trans (Le.trans h1 h2) h3) h7) I11.1) h17) h19) (fun sR hS2 => ?_)
        rw [hR]
        first
          | exact ⟨[], rfl, fun s2 hs2 hp => ⟨none, 0, 0, rfl, inss_nil _⟩⟩
          | exact ⟨Mo, rfl, fun s2 hs2 hp => ⟨none, 0, 0, rfl, inss_nil _⟩⟩
          | exact ⟨[], rfl, fun s2 hs2 hp => ⟨Ao, acc.length, co, by rw [h0, h0b]; rfl, hIn.le (Le.trans (noSuchMark) (Le.trans hS2 hs2))⟩⟩
       ·
        refine JO_gT rfl rfl ?_
        refine JO_q (QE_mv rfl) rfl ?_
        refine JO_gT rfl rfl ?_
        refine JO_q (QE_iaN rfl rfl rfl rfl rfl rfl (show 0 < np by omega)) rfl ?_
        refine JO_gT rfl rfl ?_
        refine JO_q (QE_fa0 rfl rfl rfl rfl) rfl ?_
        refine JO_gT rfl rfl ?_
        refine JO_q (QE_ldsR0 rfl rfl rfl (hcp0.le h17) rfl) rfl ?_
        refine JO_gT rfl rfl ?_
        refine JO_call (first := []) (captured := []) rfl rfl rfl (rjoined_ac D _ _ _ n' c' p.1 (hSp.le h17) (by omega)) ?_
        rintro _ _ s20 h20 ⟨rfl, rfl⟩
        refine JO_gT rfl rfl ?_
        refine JO_q (QE_mv rfl) rfl ?_
        refine JO_gT rfl rfl ?_
        refine JO_call (first := []) (captured := []) rfl rfl rfl (ropen_ac D _ _ ((numL w3).getD 0) (by have := (numL_u32 w3).2; omega)) ?_
        rintro _ _ s21 h21 ⟨rfl, rfl⟩
        refine JO_gT rfl rfl ?_
        refine JO_q (QE_sne rfl rfl) rfl ?_
        refine JO_q (QE_pickF rfl rfl) rfl ?_
        refine JO_nil ?_
        refine thenQ_n ?_
        refine JC_ifN rfl (fun c22 => ?_) (fun c22 => ?_)
        ·
         have hrc : rdCells p.1 = none := by
           first
           | exact rc_short (by omega)
           | exact rc_num hw3 (by assumption)
           | exact rc_ne hw3 (by assumption) (by assumption)
         have hst : rdS k cc acc p = .inl (1, 0) := by rw [rdS, if_neg (fun h => h hc), if_pos hkz, hrc]
         have hR := rr_fault (f := (1, 0)) hshort (by rw [← hT, rd_stepT hp, hst])
         refine JC_seq ?_
         refine JC_region ?_
         refine JO_q (QE_build [] [_, _] rfl rfl rfl rfl rfl rfl) rfl ?_
         refine JO_call (first := []) (captured := []) rfl rfl rfl (at_ac D _ _ _ _) ?_
         rintro _ _ s23 h23 ⟨rfl, rfl⟩
         refine JO_st 2 [_, _] rfl rfl rfl rfl rfl rfl rfl rfl rfl ?_
         refine JO_st 1 [_, _] rfl rfl rfl rfl rfl rfl rfl rfl rfl ?_
         refine JO_nil ?_
         refine thenQ_n ?_
         refine JC_ret ?_
         refine thenQ_r ?_
         refine thenQ_r ?_
         refine blockQ_r ?_
         refine thenQ_r ?_
         refine thenQ_r ?_
         refine blockQ_r ?_
         refine thenQ_r ?_
         refine retQ_mk [_, _, _] _ (.inr rfl) (.agg (us := [_, _]) 2 rfl rfl rfl rfl rfl (.agg (us := [_, _]) 1 rfl rfl rfl rfl rfl (.nil))) rfl (Le.trans (Le.trans (Le.trans (Le.trans (Le.trans (Le.trans (Le.trans (Le.trans h1 h2) h3) h7) I11.1) h17) h20) h21) h23) (fun sR hS2 => ?_)
         rw [hR]
         first
           | exact ⟨[], rfl, fun s2 hs2 hp => ⟨none, 0, 0, rfl, inss_nil _⟩⟩
           | exact ⟨Mo, rfl, fun s2 hs2 hp => ⟨none, 0, 0, rfl, inss_nil _⟩⟩
           | exact ⟨[], rfl, fun s2 hs2 hp => ⟨Ao, acc.length, co, by rw [h0, h0b]; rfl, hIn.le (Le.trans (noSuchMark) (Le.trans hS2 hs2))⟩⟩
        ·
         have hrc := rc_eq hbare (w3 := w3) (by assumption)
         have hst : rdS k cc acc p = .inr (k + 1, (((numL w3).getD 0 : Nat) : Int), acc) := by rw [rdS, if_neg (fun h => h hc), if_pos hkz, hrc, hkz]
         refine JC_skip ?_
         refine thenQ_n ?_
         refine JC_seq ?_
         refine JC_region ?_
         refine JO_q (QE_mv rfl) rfl ?_
         refine JO_q (QE_conv' rfl rfl rfl rfl rfl (w64 (by have := (numL_u32 w3).1; omega) (by have := (numL_u32 w3).2; omega))) rfl ?_
         refine JO_q (QE_fa0 rfl rfl rfl rfl) rfl ?_
         refine JO_st 0 [_, _] rfl rfl rfl rfl rfl rfl rfl rfl rfl ?_
         refine JO_nil ?_
         refine thenQ_n ?_
         refine JC_exit ?_
         refine thenQ_x ?_
         refine blockQ_x ?_
         refine thenQ_n ?_
         refine JC_region ?_
         refine JO_q (QE_mv rfl) rfl ?_
         refine JO_q (QE_add' rfl rfl (w64 (by omega) (by omega))) rfl ?_
         refine JO_q (QE_as rfl) rfl ?_
         refine JO_nil ?_
         refine thenQ_n ⟨(k + 1, (((numL w3).getD 0 : Nat) : Int), _, Mo, acc), [], (Keeps.cons rfl (Keeps.cons rfl (Keeps.cons rfl (Keeps.cons rfl (Keeps.cons rfl (Keeps.nil _)))))), rfl, ⟨(Le.trans (Le.trans (Le.trans I11.1 h17) h20) h21), by
           first
           | exact ⟨by simp only; omega, ⟨css, hO, hcs.mono fun y cs q => ⟨q.1, q.2.le (Le.trans (Le.trans h17 h20) h21)⟩, fun _ => by simp only; omega⟩, by simp only; rw [← hT, rd_stepT hp, hst]⟩
           | exact ⟨by simp only; omega, ⟨css ++ [[St x.name, .int .u32 x.code, .bool x.operand, .slice Ai ni ci]], by simp only; rw [List.length_append, flat_snocI]; exact oq, All2.snoc (hcs.mono fun y cs q => ⟨q.1, q.2.le (Le.trans (Le.trans h17 h20) h21)⟩) ⟨rfl, Ai, ni, ci, rfl, hAc.le (noSuchMark), by omega, hxu⟩, fun _ => by simp only [List.length_append, List.length_cons, List.length_nil]; omega⟩, by simp only; rw [← hT, rd_stepT hp, hst]⟩⟩, (by simp only; omega)⟩
      ·
       have h3n : ¬ 3 < n' := by omega
       refine JC_skip ?_
       refine thenQ_n ?_
       refine JC_seq ?_
       refine JC_seq ?_
       refine JC_region ?_
       refine JO_q (QE_cast (v' := .bool false) (QE_mv rfl) (congrArg Value.bool (decide_eq_false (by omega)))) rfl ?_
       refine JO_q (QE_notF rfl) rfl ?_
       refine JO_q (QE_mv rfl) rfl ?_
       refine JO_gF rfl rfl rfl rfl ?_
       refine JO_gF rfl rfl rfl rfl ?_
       refine JO_gF rfl rfl rfl rfl ?_
       refine JO_gF rfl rfl rfl rfl ?_
       refine JO_gF rfl rfl rfl rfl ?_
       refine JO_gF rfl rfl rfl rfl ?_
       refine JO_gF rfl rfl rfl rfl ?_
       refine JO_gF rfl rfl rfl rfl ?_
       refine JO_q (QE_pickT rfl rfl) rfl ?_
       refine JO_nil ?_
       refine thenQ_n ?_
       refine JC_ifT rfl ?_
       have hrc : rdCells p.1 = none := by
         first
         | exact rc_short (by omega)
         | exact rc_num hw3 (by assumption)
         | exact rc_ne hw3 (by assumption) (by assumption)
       have hst : rdS k cc acc p = .inl (1, 0) := by rw [rdS, if_neg (fun h => h hc), if_pos hkz, hrc]
       have hR := rr_fault (f := (1, 0)) hshort (by rw [← hT, rd_stepT hp, hst])
       refine JC_seq ?_
       refine JC_region ?_
       refine JO_q (QE_build [] [_, _] rfl rfl rfl rfl rfl rfl) rfl ?_
       refine JO_call (first := []) (captured := []) rfl rfl rfl (at_ac D _ _ _ _) ?_
       rintro _ _ s24 h24 ⟨rfl, rfl⟩
       refine JO_st 2 [_, _] rfl rfl rfl rfl rfl rfl rfl rfl rfl ?_
       refine JO_st 1 [_, _] rfl rfl rfl rfl rfl rfl rfl rfl rfl ?_
       refine JO_nil ?_
       refine thenQ_n ?_
       refine JC_ret ?_
       refine thenQ_r ?_
       refine thenQ_r ?_
       refine blockQ_r ?_
       refine thenQ_r ?_
       refine thenQ_r ?_
       refine blockQ_r ?_
       refine thenQ_r ?_
       refine retQ_mk [_, _, _] _ (.inr rfl) (.agg (us := [_, _]) 2 rfl rfl rfl rfl rfl (.agg (us := [_, _]) 1 rfl rfl rfl rfl rfl (.nil))) rfl (Le.trans (Le.trans (Le.trans (Le.trans (Le.trans h1 h2) h3) h7) I11.1) h24) (fun sR hS2 => ?_)
       rw [hR]
       first
         | exact ⟨[], rfl, fun s2 hs2 hp => ⟨none, 0, 0, rfl, inss_nil _⟩⟩
         | exact ⟨Mo, rfl, fun s2 hs2 hp => ⟨none, 0, 0, rfl, inss_nil _⟩⟩
         | exact ⟨[], rfl, fun s2 hs2 hp => ⟨Ao, acc.length, co, by rw [h0, h0b]; rfl, hIn.le (Le.trans (noSuchMark) (Le.trans hS2 hs2))⟩⟩
     ·
      have hkz : ¬ k = 0 := by omega
      refine JC_skip ?_
      refine thenQ_n ?_
      refine JC_seq ?_
      refine JC_region ?_
      refine JO_q (QE_mv rfl) rfl ?_
      refine JO_q (QE_mv rfl) rfl ?_
      refine JO_q (QE_iaN rfl rfl rfl rfl rfl rfl hk) rfl ?_
      refine JO_q (QE_fa0 rfl rfl rfl rfl) rfl ?_
      refine JO_q (QE_ldsR0 rfl rfl rfl (hcp.le (Le.refl (D := D) _)) rfl) rfl ?_
      refine JO_call (first := []) (captured := []) rfl rfl rfl (rinsIn_ac D _ _ _ n' c' p.1 (hSp.le (Le.refl (D := D) _)) (by omega) hokT hbare) ?_
      rintro _ _ s25 h25 ⟨rfl, x, Ai, ni, ci, rfl, hAc, hxn, hxu, hrx⟩
      refine JO_q (QE_mv rfl) rfl ?_
      refine JO_q (QE_ext rfl rfl) rfl ?_
      refine JO_q (QE_ext rfl rfl) rfl ?_
      refine JO_allocZ rfl [_, _, _, _] rfl rfl ?_
      intro β26 s26 h26
      refine JO_st 0 [_, _, _, _] rfl rfl rfl rfl rfl rfl rfl rfl rfl ?_
      refine JO_q (QE_as rfl) rfl ?_
      refine JO_nil ?_
      refine thenQ_n ?_
      refine JC_seq ?_
      refine JC_seq ?_
      refine JC_region ?_
      refine JO_q (QE_mv rfl) rfl ?_
      refine JO_q (QE_not rfl) rfl ?_
      refine JO_nil ?_
      refine thenQ_n ?_
      refine JC_ifM rfl (fun c27 => ?_) (fun c27 => ?_)
      ·
       have hrn : rdIns p.1 = none := by simpa using c27
       have hst : rdS k cc acc p = .inl (1, (k : Int)) := by rw [rdS, if_neg (fun h => h hc), if_neg hkz, hrn]
       have hR := rr_fault (f := (1, (k : Int))) hshort (by rw [← hT, rd_stepT hp, hst])
       refine JC_seq ?_
       refine JC_region ?_
       refine JO_q (QE_build [] [_, _] rfl rfl rfl rfl rfl rfl) rfl ?_
       refine JO_q (QE_mv rfl) rfl ?_
       refine JO_call (first := []) (captured := []) rfl rfl rfl (at_ac D _ _ _ _) ?_
       rintro _ _ s28 h28 ⟨rfl, rfl⟩
       refine JO_st 3 [_, _] rfl rfl rfl rfl rfl rfl rfl rfl rfl ?_
       refine JO_st 2 [_, _] rfl rfl rfl rfl rfl rfl rfl rfl rfl ?_
       refine JO_nil ?_
       refine thenQ_n ?_
       refine JC_ret ?_
       refine thenQ_r ?_
       refine blockQ_r ?_
       refine thenQ_r ?_
       refine thenQ_r ?_
       refine blockQ_r ?_
       refine thenQ_r ?_
       refine retQ_mk [_, _, _, _] _ (.inr rfl) (.agg (us := [_, _]) 3 rfl rfl rfl rfl rfl (.agg (us := [_, _]) 2 rfl rfl rfl rfl rfl (.nil))) rfl (Le.trans (Le.trans (Le.trans (Le.trans (Le.trans (Le.trans (Le.trans h1 h2) h3) h7) I11.1) h25) h26) h28) (fun sR hS2 => ?_)
       rw [hR]
       first
         | exact ⟨[], rfl, fun s2 hs2 hp => ⟨none, 0, 0, rfl, inss_nil _⟩⟩
         | exact ⟨Mo, rfl, fun s2 hs2 hp => ⟨none, 0, 0, rfl, inss_nil _⟩⟩
         | exact ⟨[], rfl, fun s2 hs2 hp => ⟨Ao, acc.length, co, by rw [h0, h0b]; rfl, hIn.le (Le.trans (noSuchMark) (Le.trans hS2 hs2))⟩⟩
      ·
       obtain ⟨y, hy⟩ := Option.isSome_iff_exists.1 c27
       obtain rfl := hrx y hy
       have hst : rdS k cc acc p = .inr (k + 1, cc, acc ++ [x]) := by rw [rdS, if_neg (fun h => h hc), if_neg hkz, hy]
       refine JC_skip ?_
       refine thenQ_n ?_
       refine JC_region ?_
       refine JO_q (QE_faB rfl rfl rfl rfl) rfl ?_
       refine JO_q (QE_ld1 1 rfl rfl rfl rfl rfl) rfl ?_
       refine JO_q (QE_ldA 0 [_, _, _, _] rfl rfl rfl rfl rfl) rfl ?_
       refine JO_bs [(_, _)] [_, _, _, _] rfl rfl rfl rfl rfl rfl rfl rfl rfl ?_
       intro βn s29 h29 hcb2
       refine JO_app (sz := 4) [_, _, _, _] Mo L rfl rfl rfl rfl rfl rfl rfl hO (Row.of_cells (hcb2.le (Le.refl (D := D) _)) rfl rfl) ⟨by simp [ti63]; omega, by omega⟩ rfl ?_
       intro vq Mq s30 h30 oq
       obtain ⟨Avq, cvq, rfl, _, _⟩ := Own.slice oq
       simp only [List.cons_append, List.nil_append]
       refine JO_q (QE_faB rfl rfl rfl rfl) rfl ?_
       refine JO_st 1 [_, _] rfl rfl rfl rfl rfl rfl rfl rfl rfl ?_
       refine JO_nil ?_
       refine blockQ_n ?_
       refine thenQ_n ?_
       refine JC_region ?_
       refine JO_q (QE_mv rfl) rfl ?_
       refine JO_q (QE_add' rfl rfl (w64 (by omega) (by omega))) rfl ?_
       refine JO_q (QE_as rfl) rfl ?_
       refine JO_nil ?_
       refine thenQ_n ⟨(k + 1, cc, .slice Avq (acc.length + 1) cvq, Mq, acc ++ [x]), [_], (Keeps.cons rfl (Keeps.cons rfl (Keeps.cons rfl (Keeps.cons rfl (Keeps.cons rfl (Keeps.nil _)))))), rfl, ⟨(Le.trans (Le.trans (Le.trans (Le.trans I11.1 h25) h26) h29) h30), by
         first
         | exact ⟨by simp only; omega, ⟨css, hO, hcs.mono fun y cs q => ⟨q.1, q.2.le (Le.trans (Le.trans (Le.trans h25 h26) h29) h30)⟩, fun _ => by simp only; omega⟩, by simp only; rw [← hT, rd_stepT hp, hst]⟩
         | exact ⟨by simp only; omega, ⟨css ++ [[St x.name, .int .u32 x.code, .bool x.operand, .slice Ai ni ci]], by simp only; rw [List.length_append, flat_snocI]; exact oq, All2.snoc (hcs.mono fun y cs q => ⟨q.1, q.2.le (Le.trans (Le.trans (Le.trans h25 h26) h29) h30)⟩) ⟨rfl, Ai, ni, ci, rfl, hAc.le (Le.trans (Le.trans h26 h29) h30), by omega, hxu⟩, fun _ => by simp only [List.length_append, List.length_cons, List.length_nil]; omega⟩, by simp only; rw [← hT, rd_stepT hp, hst]⟩⟩, (by simp only; omega)⟩
   ·
    have hkE : k = np := by omega
    rw [hkE, hn, List.drop_length] at hT
    have hF2 : rdT 0 0 [] (dvF [] (flds tx)) = .inr ⟨cc, acc⟩ := by rw [← hT, rdT, if_neg (by omega)]
    refine JC_exit ?_
    refine thenQ_x ?_
    refine thenQ_x ?_
    refine blockQ_x ?_
    refine thenQ_n ?_
    refine JC_seq ?_
    refine JC_pubX [_, _, _] Mo _ ?_
    intro s31 h31 hpub31
    simp only [List.cons_append, List.nil_append]
    have hIn : Inss s31 Ao acc.length co acc := Own.rows hO hpub31 (hcs.mono fun y cs q => ⟨q.1, q.2.le h31⟩) rfl
    refine JC_region ?_
    refine JO_q (QE_ldA 0 [_, _] rfl rfl rfl rfl rfl) rfl ?_
    refine JO_call (first := []) (captured := []) rfl rfl rfl (tableFault_ac D _ _ ⟨cc, acc⟩ _ _ _ (hIn.le (Le.refl (D := D) _))) ?_
    rintro _ _ s32 h32 ⟨rfl, rfl⟩
    refine JO_allocZ rfl [_, _] rfl rfl ?_
    intro β33 s33 h33
    refine JO_st 0 [_, _] rfl rfl rfl rfl rfl rfl rfl rfl rfl ?_
    refine JO_nil ?_
    refine thenQ_n ?_
    refine JC_seq ?_
    refine JC_seq ?_
    refine JC_region ?_
    refine JO_q (QE_fa0 rfl rfl rfl rfl) rfl ?_
    refine JO_q (QE_ld1 0 rfl rfl rfl rfl rfl) rfl ?_
    refine JO_q (QE_ne rfl rfl) rfl ?_
    refine JO_nil ?_
    refine thenQ_n ?_
    refine JC_ifN rfl (fun c34 => ?_) (fun c34 => ?_)
    ·
     have hbad : (tabFault ⟨cc, acc⟩).1 ≠ 0 := c34
     have hR := rr_bad hshort hF2 hbad
     refine JC_seq ?_
     refine JC_drawE drawsMixed 4 rfl [3, 2] (by intro x hx; exact eraseAll_mem hx) ?_
     intro s35 h35
     refine JA_q 0 rfl (by kernel_rfl) (by kernel_rfl) (by kernel_rfl) trivial (QE_build [] [_, _] rfl rfl rfl rfl rfl rfl) rfl ?_
     refine JA_q 1 rfl (by kernel_rfl) (by kernel_rfl) (by kernel_rfl) trivial (QE_ldA 0 [_, _] rfl rfl rfl rfl rfl) rfl ?_
     refine JA_1 2 (by kernel_rfl) ?_
     refine JB_st rfl trivial 3 [_, _] rfl rfl rfl rfl rfl rfl rfl rfl rfl (fun _ hx => sub_mem (sbY (sbY (sbN (sbE _)))) hx) ?_
     refine JA_1 3 (by kernel_rfl) ?_
     refine JB_st rfl trivial 2 [_, _] rfl rfl rfl rfl rfl rfl rfl rfl rfl (fun _ hx => sub_mem (sbY (sbY (sbN (sbE _)))) hx) ?_
     refine JA_done (by kernel_rfl) ?_
     refine thenQ_n ?_
     refine JC_ret ?_
     refine thenQ_r ?_
     refine retQ_mk [_, _, _, _] _ (.inr rfl) (.agg (us := [_, _]) 3 rfl rfl rfl rfl rfl (.agg (us := [_, _]) 2 rfl rfl rfl rfl rfl (.nil))) rfl (Le.trans (Le.trans (Le.trans (Le.trans (Le.trans (Le.trans (Le.trans (Le.trans h1 h2) h3) h7) I11.1) h31) h32) h33) h35) (fun sR hS2 => ?_)
     rw [hR]
     first
       | exact ⟨[], rfl, fun s2 hs2 hp => ⟨none, 0, 0, rfl, inss_nil _⟩⟩
       | exact ⟨Mo, rfl, fun s2 hs2 hp => ⟨none, 0, 0, rfl, inss_nil _⟩⟩
       | exact ⟨[], rfl, fun s2 hs2 hp => ⟨Ao, acc.length, co, by rw [h0, h0b]; rfl, hIn.le (Le.trans (Le.trans (Le.trans h32 h33) h35) (Le.trans hS2 hs2))⟩⟩
    ·
     have h0 : (tabFault ⟨cc, acc⟩).1 = 0 := c34
     have h0b := tab_zero _ h0
     have hR := rr_good hshort hF2 h0
     refine JC_skip ?_
     refine thenQ_n ?_
     refine JC_seq ?_
     refine JC_drawE drawsMixed 4 rfl [3, 2] (by intro x hx; exact eraseAll_mem hx) ?_
     intro s36 h36
     refine JA_q 0 rfl (by kernel_rfl) (by kernel_rfl) (by kernel_rfl) trivial (QE_ldA 1 [_, _] rfl rfl rfl rfl rfl) rfl ?_
     refine JA_q 1 rfl (by kernel_rfl) (by kernel_rfl) (by kernel_rfl) trivial (QE_ldA 0 [_, _] rfl rfl rfl rfl rfl) rfl ?_
     refine JA_1 2 (by kernel_rfl) ?_
     refine JB_st rfl trivial 3 [_, _] rfl rfl rfl rfl rfl rfl rfl rfl rfl (fun _ hx => sub_mem (sbY (sbY (sbN (sbE _)))) hx) ?_
     refine JA_1 3 (by kernel_rfl) ?_
     refine JB_st rfl trivial 2 [_, _] rfl rfl rfl rfl rfl rfl rfl rfl rfl (fun _ hx => sub_mem (sbY (sbY (sbN (sbE _)))) hx) ?_
     refine JA_done (by kernel_rfl) ?_
     refine thenQ_n ?_
     refine JC_ret ?_
     refine retQ_mk [_, _, _, _] _ (.inr rfl) (.agg (us := [_, _]) 3 rfl rfl rfl rfl rfl (.agg (us := [_, _]) 2 rfl rfl rfl rfl rfl (.nil))) rfl (Le.trans (Le.trans (Le.trans (Le.trans (Le.trans (Le.trans (Le.trans (Le.trans h1 h2) h3) h7) I11.1) h31) h32) h33) h36) (fun sR hS2 => ?_)
     rw [hR]
     first
       | exact ⟨[], rfl, fun s2 hs2 hp => ⟨none, 0, 0, rfl, inss_nil _⟩⟩
       | exact ⟨Mo, rfl, fun s2 hs2 hp => ⟨none, 0, 0, rfl, inss_nil _⟩⟩
       | exact ⟨[], rfl, fun s2 hs2 hp => ⟨Ao, acc.length, co, by rw [h0, h0b]; rfl, hIn.le (Le.trans (Le.trans (Le.trans h32 h33) h36) (Le.trans hS2 hs2))⟩⟩
theorem rtable_ac (D : Nat) (L : Hl) (s : World) (tx : List UInt8) (htx : tx.length ≤ 9223372036854775807) : AC Tryz.prog D 15 [St tx] L s fun v L' s' => L = L' ∧ ∃ A n c, v = .tuple #[.agg #[.int .i64 (readR tx).1.cells, .slice A n c], .agg #[.int .i64 (readR tx).2.1, .int .i64 (readR tx).2.2]] ∧ Inss s' A n c (readR tx).1.ins := AC.pubW (rtableO_ac D L s tx htx)
end Go.Proofs.YtoeeblegplghmaaGreatDoor
namespace Go.Proofs.YtoeeblegplghmaaGreatDoor
open Go.FL
attribute [local irreducible] JC JO JA JB thenQ blockQ retQ AC fill CellsAt QE Ev Mid
set_option maxHeartbeats 4000000 in
set_option maxRecDepth 100000 in
theorem lawRead_ac (D : Nat) (L : Hl) (s : World) (hG : GP s) (tx : List UInt8) (htx : tx.length ≤ 9223372036854775807) : AC Tryz.prog D 4 [St tx] L s fun v L' _ => v = .bool true ∧ L = L' := by
 refine AC_enter (TT := TT) (fn := Tryz.f4) TT_ok Tryz.func4 (by kernel_rfl) rfl Tryz.ntmps4 rfl (rs := [.tmp 2]) rfl [(0, _)] rfl ?_
 refine JC_seq ?_
 refine JC_region ?_
 refine JO_q (QE_as rfl) rfl ?_
 refine JO_nil ?_
 refine thenQ_n ?_
 refine JC_seq ?_
 refine JC_region ?_
 refine JO_q (QE_mv rfl) rfl ?_
 refine JO_call (first := []) (captured := []) rfl rfl rfl (read_ac D _ _ (hG.le (Le.refl (D := D) _)) tx) ?_
 rintro _ _ s1 h1 ⟨rfl, Ara, nra, cra, rfl, hra⟩
 refine JO_q (QE_mv rfl) rfl ?_
 refine JO_q (QE_ext rfl rfl) rfl ?_
 refine JO_q (QE_ext rfl rfl) rfl ?_
 refine JO_allocZ rfl [_, _] rfl rfl ?_
 intro β2 s2 h2
 refine JO_allocZ rfl [_, _] rfl rfl ?_
 intro β3 s3 h3
 refine JO_st 1 [_, _] rfl rfl rfl rfl rfl rfl rfl rfl rfl ?_
 refine JO_st 0 [_, _] rfl rfl rfl rfl rfl rfl rfl rfl rfl ?_
 refine JO_nil ?_
 refine thenQ_n ?_
 refine JC_seq ?_
 refine JC_region ?_
 refine JO_q (QE_mv rfl) rfl ?_
 refine JO_call (first := []) (captured := []) rfl rfl rfl (damaged_ac D _ _ (hG.le (Le.trans (Le.trans h1 h2) h3)) tx) ?_
 rintro _ _ s4 h4 ⟨rfl, Ama, nma, cma, rfl, hma⟩
 refine JO_q (QE_mv rfl) rfl ?_
 refine JO_q (QE_ext rfl rfl) rfl ?_
 refine JO_q (QE_ext rfl rfl) rfl ?_
 refine JO_allocZ rfl [_, _] rfl rfl ?_
 intro β5 s5 h5
 refine JO_q (QE_as rfl) rfl ?_
 refine JO_st 0 [_, _] rfl rfl rfl rfl rfl rfl rfl rfl rfl ?_
 refine JO_nil ?_
 refine thenQ_n ?_
 refine JC_seq ?_
 refine JC_region ?_
 refine JO_q (QE_mv rfl) rfl ?_
 refine JO_call (first := []) (captured := []) rfl rfl rfl (rtable_ac D _ _ tx htx) ?_
 rintro _ _ s6 h6 ⟨rfl, Arb, nrb, crb, rfl, hrb⟩
 refine JO_q (QE_mv rfl) rfl ?_
 refine JO_q (QE_ext rfl rfl) rfl ?_
 refine JO_q (QE_ext rfl rfl) rfl ?_
 refine JO_allocZ rfl [_, _] rfl rfl ?_
 intro β7 s7 h7
 refine JO_allocZ rfl [_, _] rfl rfl ?_
 intro β8 s8 h8
 refine JO_st 1 [_, _] rfl rfl rfl rfl rfl rfl rfl rfl rfl ?_
 refine JO_st 0 [_, _] rfl rfl rfl rfl rfl rfl rfl rfl rfl ?_
 refine JO_nil ?_
 refine thenQ_n ?_
 refine JC_seq ?_
 refine JC_seq ?_
 refine JC_region ?_
 refine JO_call (first := []) (captured := []) rfl rfl rfl (worded_ac D _ _ (hG.le (Le.trans (Le.trans (Le.trans (Le.trans (Le.trans (Le.trans (Le.trans h1 h2) h3) h4) h5) h6) h7) h8))) ?_
 rintro _ _ s9 h9 ⟨rfl, rfl⟩
 refine JO_q (QE_notT rfl) rfl ?_
 refine JO_q (QE_mv rfl) rfl ?_
 refine JO_gT rfl rfl ?_
 refine JO_q (QE_ldA 3 [_, _] rfl rfl rfl rfl rfl) rfl ?_
 refine JO_gT rfl rfl ?_
 refine JO_q (QE_ldA 0 [_, _] rfl rfl rfl rfl rfl) rfl ?_
 refine JO_gT rfl rfl ?_
 refine JO_q (QE_cast (v' := .bool false) (QE_ane rfl rfl (eqFault _ _ _ _)) (bF ⟨rfl, rfl⟩)) rfl ?_
 refine JO_q (QE_pickF rfl rfl) rfl ?_
 refine JO_q (QE_mv rfl) rfl ?_
 refine JO_gT rfl rfl ?_
 refine JO_q (QE_ldA 4 [_, _] rfl rfl rfl rfl rfl) rfl ?_
 refine JO_gT rfl rfl ?_
 refine JO_q (QE_ldA 1 [_, _] rfl rfl rfl rfl rfl) rfl ?_
 refine JO_gT rfl rfl ?_
 refine JO_call (first := []) (captured := []) rfl rfl rfl (AC.isT (sameTable_ac D _ _ (readR tx).1 _ _ _ (hra.le (Le.trans (Le.trans (Le.trans (Le.trans (Le.trans (Le.trans (Le.trans h2 h3) h4) h5) h6) h7) h8) h9)) (readR tx).1 _ _ _ (hrb.le (Le.trans (Le.trans h7 h8) h9))) rfl) ?_
 rintro _ _ s10 h10 ⟨rfl, rfl⟩
 refine JO_gT rfl rfl ?_
 refine JO_q (QE_notT rfl) rfl ?_
 refine JO_q (QE_pickF rfl rfl) rfl ?_
 refine JO_nil ?_
 refine thenQ_n ?_
 refine JC_ifF rfl ?_
 refine JC_skip ?_
 refine thenQ_n ?_
 refine JC_seq ?_
 refine JC_seq ?_
 refine JC_region ?_
 refine JO_q (QE_mv rfl) rfl ?_
 refine JO_q (QE_lenT rfl rfl rfl) rfl ?_
 refine JO_q (QE_gt rfl rfl) rfl ?_
 refine JO_nil ?_
 refine thenQ_n ?_
 refine JC_ifD rfl (fun c11 => ?_) (fun c11 => ?_)
 ·
  have hl : 50000 < tx.length := by omega
  have hR := rr_long hl
  have hDE : damE tx = (3, -1) := if_pos hl
  have hDW : damW tx = [] := if_pos hl
  refine JC_seq ?_
  refine JC_region ?_
  refine JO_q (QE_ldA 2 [_, _] rfl rfl rfl rfl rfl) rfl ?_
  refine JO_q (QE_ldA 0 [_, _] rfl rfl rfl rfl rfl) rfl ?_
  refine JO_q (QE_cast (v' := .bool true) (QE_aeq rfl rfl (eqFault _ _ _ _)) (bT (by rw [hR, hDE]; exact ⟨rfl, rfl⟩))) rfl ?_
  refine JO_q (QE_mv rfl) rfl ?_
  refine JO_gT rfl rfl ?_
  refine JO_q (QE_mv rfl) rfl ?_
  refine JO_gT rfl rfl ?_
  refine JO_q (QE_lenS rfl rfl rfl) rfl ?_
  refine JO_gT rfl rfl ?_
  refine JO_q (QE_cast (v' := .bool true) (QE_eq rfl rfl) (bT (by rw [hma.1, hDW]; rfl))) rfl ?_
  refine JO_q (QE_pickT rfl rfl) rfl ?_
  refine JO_q (QE_as rfl) rfl ?_
  refine JO_nil ?_
  refine thenQ_n ?_
  refine JC_ret ?_
  refine thenQ_r ?_
  refine retQ_mk [_, _, _, _, _] L (.inr rfl) (.tmp rfl (.nil)) rfl (Le.trans (Le.trans (Le.trans (Le.trans (Le.trans (Le.trans (Le.trans (Le.trans (Le.trans h1 h2) h3) h4) h5) h6) h7) h8) h9) h10) (fun sR hS2 => ?_)
  exact ⟨rfl, rfl⟩
 ·
  have hl : ¬ 50000 < tx.length := by omega
  have hDE : damE tx = (0, 0) := if_neg hl
  have hDW : damW tx = damR tx := if_neg hl
  refine JC_skip ?_
  refine thenQ_n ?_
  refine JC_seq ?_
  refine JC_region ?_
  refine JO_q (QE_fa0 rfl rfl rfl rfl) rfl ?_
  refine JO_q (QE_ld1 2 rfl rfl rfl rfl rfl) rfl ?_
  refine JO_q (QE_cast (v' := .bool true) (QE_eq rfl rfl) (bT (by rw [hDE]))) rfl ?_
  refine JO_q (QE_mv rfl) rfl ?_
  refine JO_gT rfl rfl ?_
  refine JO_q (QE_mv rfl) rfl ?_
  refine JO_gT rfl rfl ?_
  refine JO_q (QE_mv rfl) rfl ?_
  refine JO_gT rfl rfl ?_
  refine JO_call (first := []) (captured := []) rfl rfl rfl (rdam_ac D _ _ tx (by omega)) ?_
  rintro _ _ s12 h12 ⟨rfl, Ad, nd, cd, rfl, hDm⟩
  refine JO_gT rfl rfl ?_
  refine JO_call (first := []) (captured := []) rfl rfl rfl (AC.isT (ints_ac D _ _ _ _ _ (damW tx) (hma.le (Le.trans (Le.trans (Le.trans (Le.trans (Le.trans (Le.trans h5 h6) h7) h8) h9) h10) h12)) _ _ _ (damR tx) (hDm.le (Le.refl (D := D) _))) hDW) ?_
  rintro _ _ s13 h13 ⟨rfl, rfl⟩
  refine JO_q (QE_pickT rfl rfl) rfl ?_
  refine JO_q (QE_as rfl) rfl ?_
  refine JO_nil ?_
  refine thenQ_n ?_
  refine JC_ret ?_
  refine retQ_mk [_, _, _, _, _] L (.inr rfl) (.tmp rfl (.nil)) rfl (Le.trans (Le.trans (Le.trans (Le.trans (Le.trans (Le.trans (Le.trans (Le.trans (Le.trans (Le.trans (Le.trans h1 h2) h3) h4) h5) h6) h7) h8) h9) h10) h12) h13) (fun sR hS2 => ?_)
  exact ⟨rfl, rfl⟩
end Go.Proofs.YtoeeblegplghmaaGreatDoor
namespace Go.Proofs.YtoeeblegplghmaaGreatDoor
open Go Go.FL Go.ChangeShapes Go.WideShapes Go.ChangeAt Go.RowKit Go.Deep
theorem own_knob : ownKnob Tryz.prog.godebug = none := by kernel_rfl
theorem laid_out : laidOutB Tryz.prog = true := by kernel_rfl
theorem mark_free (l : List Obj) : ∃ D, ∀ E, D ≤ E → ∀ o ∈ l, o ≠ dum E := by
  induction l with
  | nil => exact ⟨0, fun _ _ _ h => by cases h⟩
  | cons x l ih =>
    obtain ⟨D, hD⟩ := ih
    have hx : ∃ B, ∀ E, B ≤ E → x ≠ dum E := by
      cases x with
      | mapIter a n b c => exact ⟨n + 1, fun E hE h => by simp only [dum, Obj.mapIter.injEq] at h; omega⟩
      | _ => exact ⟨0, fun E _ h => by simp [dum] at h⟩
    obtain ⟨B, hB⟩ := hx
    refine ⟨max D B, fun E hE o ho => ?_⟩
    rcases List.mem_cons.1 ho with rfl | ho
    · exact hB E (by omega)
    · exact hD E (by omega) o ho
theorem mark_world (W : World) : ∃ D, ∀ k : Nat, W.heap[k]? ≠ some (dum D) := by
  obtain ⟨D, hD⟩ := mark_free W.heap.toList
  refine ⟨D, fun k hk => hD D (Nat.le_refl _) (dum D) ?_ rfl⟩
  rw [← Array.getElem?_toList] at hk
  exact List.mem_of_getElem? hk
theorem below_of {D : Nat} {W W' : World} (hD : ∀ k : Nat, W.heap[k]? ≠ some (dum D)) (h : Le D W W') : Below W.heap.size W W' :=
  ⟨h.os, h.tape, h.output, h.size, fun k hk => (h.block k hk).resolve_left (hD k)⟩
theorem law_calls {P : Program} {f : FuncId} {args : List Value} {W : World} (h : ∀ D, AC P D f args [] W fun v L' _ => v = .bool true ∧ [] = L') :
    Calls P f args.toArray W fun e W' => e = .returned (.bool true) ∧ Below W.heap.size W W' := by
  obtain ⟨D, hD⟩ := mark_world W
  refine ((h D).2 ⟨by simp, fun x hx => by cases hx⟩).mono ?_
  rintro e w' ⟨v, L', s', h1, rfl, h3, h4, rfl, rfl⟩
  exact ⟨h1, below_of hD h4⟩
section
variable {H : Type} {enc : TypeId × Value → H} {P : Program}
theorem trodAll_stays {W W' : World} (hl : laidOutB P = true) (hb : Below W.heap.size W W') : ∀ {ts : List TypeId} {vs : List Value} {ds : List (DataW H)} {ps : List MemPlace}, (∀ t ∈ ts, P.readableRec t = true ∧ t < P.types.size) → (∀ x ∈ ps, x.block < W.heap.size) →
    DataW.TrodAll enc P W 0 (fun _ => true) true ts vs ds ps → DataW.TrodAll enc P W' 0 (fun b => decide (b < W.heap.size)) true ts vs ds ps
  | [], _, _, _, _, _, h => by
    obtain ⟨rfl, rfl, rfl⟩ := trodAll_nil h
    exact trodAll_mk0
  | t :: ts, _, _, _, hts, hp, h => by
    obtain ⟨v, vs, d, ds, a, b, rfl, rfl, rfl, h1, h2⟩ := trodAll_cons h
    have ht := hts t (List.mem_cons_self ..)
    exact trodAll_cons_mk (Below.trod hl ht.1 ht.2 h1 hb fun x hx => hp x (List.mem_append_left _ hx)) (trodAll_stays hl hb (fun t' h' => hts t' (List.mem_cons_of_mem _ h')) (fun x hx => hp x (List.mem_append_right _ hx)) h2)
theorem law_post {fn : Func} {s : ChangeSpec} {W W' : World} {args : Array Value} {ds gs : List (DataW H)} {before : List MemPlace} {tb : TypeId} (hl : laidOutB P = true) (hts : ∀ t ∈ fn.params.toList, P.readableRec t = true ∧ t < P.types.size) (hr : fn.resultTypes = #[tb]) (hb : P.underlying tb = some .bool)
    (hv : s.vars = []) (hW : DataW.Whole enc P fn.params.toList s.vars false W args.toList ds gs before) (hfn : s.fn H ds = { results := [.lit (.bool true)], args := ds }) (hB : Below W.heap.size W W') : s.post enc P fn false true false false W args (.bool true) W' := by
  have hlt : ∀ x ∈ before, x.block < W.heap.size := fun x hx => hW.lt x hx
  have hW' := hW
  obtain ⟨p, q, hA, hV, rfl, _, _⟩ := hW
  rw [hv] at hV
  obtain ⟨rfl, rfl⟩ := trodVars_none hV
  refine ⟨ds, [], p ++ [], [], p, [], hW', ?_, ?_, ?_, hB.frame _, fun h => by cases h⟩
  · rw [List.append_nil, hfn, hr]; exact trodAll_cons_mk (shut_bool hb _) trodAll_mk0
  · rw [List.append_nil, hfn]; exact trodAll_stays hl hB hts (fun x hx => hlt x (List.mem_append_left _ hx)) hA
  · rw [List.append_nil, hfn, hv]; rfl
end
def Rd (W : World) (t : TypeId) (cs : List Value) : Prop := ∃ (H : Type) (enc : TypeId × Value → H) (n : Nat) (x : DataW H × List MemPlace), DataW.trod enc Tryz.prog W 0 (fun _ => true) true n t cs = some x
section
variable {W : World} {t e : TypeId} {cs : List Value}
theorem rd_str (ht : Tryz.prog.underlying t = some .string) (h : Rd W t cs) : ∃ l : List UInt8, cs = [St l] ∧ l.length ≤ 9223372036854775807 := by
  obtain ⟨H, enc, n, x, h⟩ := h
  obtain ⟨s, h1, _, h2⟩ := DataW.trod_string ht h
  refine ⟨s.data.toList, by rw [h1], ?_⟩
  have : s.data.toList.length = s.size := by rw [Array.length_toList]; rfl
  simp only [maxLen] at h2
  omega
theorem one_eq {a b : Value} (h : [a] = [b]) : a = b := by injection h
end
end Go.Proofs.YtoeeblegplghmaaGreatDoor
namespace Go.Proofs.YtoeeblegplghmaaGreatDoor
open Go Go.FL Go.ChangeShapes Go.WideShapes Go.ChangeAt Go.RowKit
set_option maxRecDepth 100000
instance : Inhabited Ac := ⟨⟨0, 0, ⟨0, 0⟩, ⟨0, 0⟩⟩⟩
instance : Inhabited Ins := ⟨⟨[], 0, false, []⟩⟩
section
variable {H : Type} {enc : TypeId × Value → H} {W : World} {base : Nat} {v : Value} {d : DataW H} {ps : List MemPlace}
theorem rd_of {t : TypeId} (hd : DataW.Trod enc Tryz.prog W 0 (fun _ => true) true t v d ps) : Rd W t v.cells.toList := by
  obtain ⟨n, h⟩ := hd
  exact ⟨H, enc, n, _, h⟩
end
end Go.Proofs.YtoeeblegplghmaaGreatDoor
namespace Go.Proofs.YtoeeblegplghmaaGreatDoor
open Go Go.FL Go.ChangeShapes Go.WideShapes Go.ChangeAt Go.RowKit Go.Deep
theorem row_err (u : TypeId) (hu : Tryz.prog.typeName? 3 u = Tryz.prog.typeName? 3 189) : u = 189 :=
  have hn : Tryz.prog.typeName? 3 189 = some ("*" ++ "errors.errorString") := by kernel_rfl
  typeName_ptr_named (nm := "errors.errorString") (by kernel_rfl) (by kernel_rfl) (by decide) u (hu.trans hn)
theorem gw_var {W : World} {nm : String} {g : Nat} {cs : Array Value} (hg : Tryz.prog.globalNamed nm = some g) (h : W.var? Tryz.prog nm = some cs) : ∃ ty fz, W.heap[g]? = some (.cells cs ty fz) := by
  unfold World.var? at h
  rw [hg] at h
  simp only [Option.bind_some] at h
  split at h
  · rename_i c t f hb
    injection h with h
    subst h
    exact ⟨t, f, hb⟩
  · cases h
set_option maxRecDepth 100000 in
theorem gp_of {W : World} (h : laidMetH Tryz.prog Rows.primerTextMatchesSpecRow.laid W) : GP W := by
  rw [MakeChecks.laidMetH_plain _ _ _ (by kernel_rfl)] at h
  have h2 := h.tail.tail
  have hpow := Lib.tabIs_of_head (zs := Lib.pow10Tab) (k := .u64) (g := 3) (by kernel_rfl) (by kernel_rfl) Tryz.underlying176 Tryz.underlying123 (by kernel_rfl) (by kernel_rfl) h2
  have h4 := h2.tail.tail
  obtain ⟨a1, s1, hv1, _⟩ := laid_sentinel (g := 5) h4 (by kernel_rfl) (by kernel_rfl) Tryz.underlying93 (fun u hu => row_err u (hu.trans (by kernel_rfl))) Tryz.underlying189 Tryz.underlying191 rfl rfl Tryz.underlying9 (by kernel_rfl) (by kernel_rfl)
  obtain ⟨a2, s2, hv2, _⟩ := laid_sentinel (g := 4) h4.tail (by kernel_rfl) (by kernel_rfl) Tryz.underlying93 (fun u hu => row_err u (hu.trans (by kernel_rfl))) Tryz.underlying189 Tryz.underlying191 rfl rfl Tryz.underlying9 (by kernel_rfl) (by kernel_rfl)
  have hasc := Lib.tabIs_of_head (zs := Lib.asciiSpaceTab) (k := .u8) (g := 0) (by kernel_rfl) (by kernel_rfl) Tryz.underlying115 Tryz.underlying5 (by kernel_rfl) (by kernel_rfl) h4.tail.tail.tail
  refine ⟨⟨?_, ?_, ?_⟩, gw_var (g := 0) (by kernel_rfl) hasc⟩
  · exact gw_var (g := 3) (by kernel_rfl) hpow
  · exact ⟨_, _, World.var?_cell (g := 4) (by kernel_rfl) hv2 0⟩
  · exact ⟨_, _, World.var?_cell (g := 5) (by kernel_rfl) hv1 0⟩
section
variable {H : Type} {enc : TypeId × Value → H} {W : World} {base : Nat} {v : Value} {d : DataW H} {ps : List MemPlace}
set_option maxRecDepth 100000 in
theorem arg_str (hv : Value.okWide Tryz.prog W .any base 9 v) (hd : DataW.Trod enc Tryz.prog W 0 (fun _ => true) true 9 v d ps) : ∃ l, v = St l ∧ l.length ≤ 9223372036854775807 := by
  obtain ⟨x, h1, h2⟩ := rd_str Tryz.underlying9 (rd_of hd)
  obtain ⟨u, rfl⟩ := okWide_string Tryz.underlying9 hv
  exact ⟨x, one_eq h1, h2⟩
end
end Go.Proofs.YtoeeblegplghmaaGreatDoor
namespace Go.Proofs.YtoeeblegplghmaaGreatDoor
open Go Go.FL Go.ChangeShapes Go.WideShapes Go.ChangeAt Go.RowKit
theorem primerReadMatchesSpec_reads : ∀ t ∈ Tryz.f4.params.toList, Tryz.prog.readableRec t = true ∧ t < Tryz.prog.types.size := by
  rw [Tryz.params4]
  intro t ht
  simp only [List.mem_cons, List.not_mem_nil, or_false] at ht
  rcases ht with rfl <;> exact ⟨by kernel_rfl, of_decide_eq_true (by kernel_rfl)⟩
set_option maxRecDepth 100000 in
theorem primerReadMatchesSpec_contract (H : Type) (enc : TypeId × Value → H) (W : World) (base : Nat) (args : Array Value) (ds gs : List (DataW H)) (before : List MemPlace)
    (hval : ∀ (j : Nat) t v, Tryz.f4.params[j]? = some t → args[j]? = some v → Value.okWide Tryz.prog W .any base t v)
    (hW : DataW.Whole enc Tryz.prog Tryz.f4.params.toList Rows.primerReadMatchesSpecSpec.vars false W args.toList ds gs before) (hL : laidMetH Tryz.prog Rows.primerReadMatchesSpecRow.laid W) :
    Calls Tryz.prog 4 args W fun e W' => ∃ v, e = .returned v ∧ Rows.primerReadMatchesSpecSpec.post enc Tryz.prog Tryz.f4 false true false false W args v W' := by
  have hW' := hW
  obtain ⟨p, q, hA0, hV, rfl, hfz, hnd⟩ := hW'
  have hA : DataW.TrodAll enc Tryz.prog W 0 (fun _ => true) true Tryz.f4.params.toList args.toList ds p := hA0
  rw [Tryz.params4] at hA hval
  obtain ⟨v0, vs0, d0, ds0, p0, q0, hargs0, rfl, rfl, h0, r0⟩ := trodAll_cons hA
  obtain ⟨rfl, rfl, rfl⟩ := trodAll_nil r0
  obtain rfl : args = #[v0] := by cases args; simp_all
  obtain ⟨rfl, rfl⟩ := trodVars_none hV
  obtain ⟨l0, rfl, hL0⟩ := arg_str (hval 0 9 v0 rfl rfl) h0
  refine (law_calls (args := [_]) fun D => lawRead_ac D [] W (gp_of hL) l0 hL0).mono fun e W' ⟨he, hg⟩ => ?_
  subst he
  exact ⟨_, rfl, law_post laid_out primerReadMatchesSpec_reads (by kernel_rfl) Tryz.underlying4 rfl hW rfl hg⟩
set_option maxRecDepth 100000 in
theorem primerReadMatchesSpec_lifted (os : Os) (started : os.Started) (H : Type) (enc : TypeId × Value → H) :
    ReturnsInHanded {} Tryz.checked os 4 .any (fun w args => (Rows.primerReadMatchesSpecSpec.pre enc Tryz.prog Tryz.f4 [] false w args ∧ laidMetH Tryz.prog Rows.primerReadMatchesSpecRow.laid w) ∧ sizedMet enc Tryz.prog Tryz.f4 (OpenSpec.ofChange Rows.primerReadMatchesSpecSpec) false w args) (Rows.primerReadMatchesSpecSpec.post enc Tryz.prog Tryz.f4 false true false false) := by
  refine returnsInHanded_of_change_and (C := Tryz.checked) (X := fun w _ => laidMetH Tryz.prog Rows.primerReadMatchesSpecRow.laid w) (fun _ _ _ hh h => h.of_heap hh) own_knob started (by kernel_rfl) Tryz.func4
    (ChangeSpec.witness_shaped (enc := enc) (C := Tryz.checked) (os := os) (X := fun w _ => laidMetH Tryz.prog Rows.primerReadMatchesSpecRow.laid w) false (World.laidAll Tryz.prog os Rows.primerReadMatchesSpecRow.laid) #[.string .empty] 8 (World.laidAll_os _ _ _)
      (World.shaped_of_ZipB (by kernel_rfl) (by kernel_rfl)) (by kernel_rfl) (by kernel_rfl) (by kernel_rfl)
      (by rw [MakeChecks.laidMetH_plain _ _ _ (by kernel_rfl)]; exact laidMet_laidAll _ (by kernel_rfl) (by kernel_rfl))) ?_
  intro W base args ds gs before hval hW _ _ hL _
  exact primerReadMatchesSpec_contract H enc W base args ds gs before hval hW hL
theorem primerReadMatchesSpec_said : Rows.PrimerReadMatchesSpecSaid :=
  OpenClaim.holds_of_wide 4 Tryz.f4 rfl rfl rfl rfl rfl rfl rfl ⟨rfl, rfl, rfl, rfl, rfl⟩ rfl rfl rfl rfl rfl (by kernel_rfl) Tryz.func4 (by kernel_rfl)
    (of_decide_eq_true (by kernel_rfl)) (by unfold Func.isWrapper; first | (rw [if_pos (by decide +kernel)]; kernel_rfl) | (rw [if_neg (by decide +kernel)]; exact ⟨rfl, rfl⟩))
    (fun os started H enc _ => primerReadMatchesSpec_lifted os started H enc)
theorem primerReadMatchesSpec_plain (f : FuncId) (fn : Func) (hf : Tryz.pinned.checked.prog.funcNamed Rows.primerReadMatchesSpecRow.func = some f) (hfn : Tryz.pinned.checked.prog.funcs[f]? = some fn) : true = Tryz.pinned.checked.prog.looks [] ∧ ∀ (j : Nat) t, fn.params[j]? = some t → Tryz.pinned.checked.prog.wantsStandIn t = false := by
  obtain rfl : f = 4 := Option.some.inj ((show Tryz.prog.funcNamed Rows.primerReadMatchesSpecRow.func = some 4 by kernel_rfl).symm.trans hf) |>.symm
  obtain rfl : fn = Tryz.f4 := (Option.some.inj (Tryz.func4.symm.trans hfn)).symm
  exact ⟨by kernel_rfl, fun j t ht => by
    rw [Tryz.params4] at ht
    have hm : t ∈ [9] := by simpa using Array.mem_of_getElem? ht
    have hall : ([9].all fun u => !Tryz.prog.wantsStandIn u) = true := by kernel_rfl
    exact (show Tryz.prog.wantsStandIn t = false by simpa using List.all_eq_true.1 hall t hm)⟩
theorem primerReadMatchesSpec_holds : Rows.PrimerReadMatchesSpecCardSaid :=
  Claim7.holds_tied_plain_at .later [] _ _ _ _ primerReadMatchesSpec_said (fun _ h => by cases h) (by kernel_rfl) (fun _ h => by cases h) primerReadMatchesSpec_row_tie rfl ⟨rfl, rfl⟩ (by kernel_rfl) rfl primerReadMatchesSpec_plain (by kernel_rfl)
end Go.Proofs.YtoeeblegplghmaaGreatDoor
