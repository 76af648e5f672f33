/- The law AsmAssembleMatchesSpec: for every input it returns true, and its arguments read behind the call as they read before; what the package-level variables of the library hold is tied tgt the text of the program. Part 8 of the proof of asmAssembleMatchesSpec_holds: texts W29, Rr, Rs, W30, Rf, Rg, Rc, Rd, M3. -/
import Derived.Test.YteomcjpigoaioaaGreatDoorQ3x7
import Derived.ProofKit
import Derived.OpenShut
import Derived.SizedLaws
import Derived.Deep.Slices
import Derived.Test.YteomcjpigoaioaaGreatDoorRows
import Derived.Lay
import Derived.Lib.LaidTab
import Derived.Stop.LaidErr
import Derived.SevenTiedAt
import Derived.Test.YteomcjpigoaioaaGreatDoorCards
import Derived.Test.YteomcjpigoaioaaGreatDoorTie
set_option linter.unusedVariables false
set_option linter.unusedSimpArgs false
set_option linter.unnecessarySimpa false
namespace Go.Proofs.YteomcjpigoaioaaGreatDoor
open Go.FL
attribute [local irreducible] JC JO JA JB thenQ blockQ retQ AC fill CellsAt QE Ev Mid
set_option maxHeartbeats 4000000 in
set_option maxRecDepth 100000 in
theorem assembledO_ac (D : Nat) (L : Hl) (s : World) (t : Tab) (A : Option Addr) (n c : Nat) (hA : Inss s A n c t.ins) (hcells : t.cells ≤ 65536) (tx : List UInt8) (htx : tx.length ≤ 400000) (hnf : ∀ rs, RLs (splitB 10 tx) rs → lcF t [] 0 0 rs = none ∧ urF (labF 0 rs) 0 rs = none) : AC Tryz.prog D 16 [.agg #[.int .i64 t.cells, .slice A n c], St tx] L s fun v L' s' => ∃ M', L' = M' ++ L ∧ ∀ s2, Le D s' s2 → Pub M' s2 → ∃ A2 n2 c2 rs, v = .slice A2 n2 c2 ∧ Wds s2 A2 n2 c2 (wdF t (labF 0 rs) rs) ∧ RLs (splitB 10 tx) rs := by
 have hn := hA.1
 refine AC_enter (TT := TT) (fn := Tryz.f16) TT_ok Tryz.func16 (by kernel_rfl) rfl Tryz.ntmps16 rfl (rs := [.tmp 4]) rfl [(0, _), (1, _)] rfl ?_
 refine JC_seq ?_
 refine JC_region ?_
 refine JO_boxA rfl rfl ?_
 intro β1 s1 h1
 refine JO_q (QE_as rfl) rfl ?_
 refine JO_nil ?_
 refine thenQ_n ?_
 refine JC_seq ?_
 refine JC_region ?_
 refine JO_q (QE_mv rfl) rfl ?_
 refine JO_call (first := []) (captured := []) rfl rfl rfl (lines_ac D _ _ tx (by omega)) ?_
 rintro _ _ s2 h2 ⟨rfl, A1, n1, c1, rs, rfl, hR, hRL⟩
 have hn1 := hR.1
 have hnl := splitF_len 10 [] tx
 have hrl2 : rs.length = (splitF 10 [] tx).length := hRL.1
 obtain ⟨hlc0, hur0⟩ := hnf rs hRL
 refine JO_q (QE_as rfl) rfl ?_
 refine JO_nil ?_
 refine thenQ_n ?_
 refine JC_seq ?_
 refine JC_region ?_
 refine JO_q (QE_ldA 0 [_, _] rfl rfl rfl rfl rfl) rfl ?_
 refine JO_q (QE_mv rfl) rfl ?_
 refine JO_call (first := []) (captured := []) rfl rfl rfl (labelsOf_ac D _ _ t _ _ _ (hA.le (Le.trans h1 h2)) _ _ _ rs (hR.le (Le.refl (D := D) _)) (by omega)) ?_
 rintro _ _ s3 h3 ⟨rfl, A2, n2, c2, rfl, hLb⟩
 have hnb := hLb.1
 refine JO_q (QE_as rfl) rfl ?_
 refine JO_nil ?_
 refine thenQ_n ?_
 refine JC_seq ?_
 refine JC_region ?_
 refine JO_q (QE_as rfl) rfl ?_
 refine JO_nil ?_
 refine thenQ_n ?_
 refine JC_seq ?_
 refine JC_seq ?_
 refine JC_region ?_
 refine JO_q (QE_as rfl) rfl ?_
 refine JO_nil ?_
 refine thenQ_n ?_
 refine JC_block ?_
 refine JC_loop (γ := Nat × Int × Value × Hl × List Int) (fun g => [(2, _), (4, .slice none 0 0), (5, _), (6, _), (7, g.2.2.1), (8, .int .i64 (g.1 : Int))]) (fun g => (β1, cb [.int .i64 t.cells, .slice A n c] 24) :: (g.2.2.2.1 ++ L)) (fun g tw => Le D s3 tw ∧ (g.1 ≤ n1 ∧ (0 ≤ g.2.1 ∧ g.2.1 ≤ 65536) ∧ lcF t (rs.take g.1) g.2.1 g.1 (rs.drop g.1) = none ∧ urF (labF 0 rs) g.1 (rs.drop g.1) = none ∧ Own 52 1 g.2.2.2.1 g.2.2.1 g.2.2.2.2.length (wv g.2.2.2.2) ∧ ((g.2.2.2.2.length : Int) ≤ g.2.1 + g.1 ∧ ∀ x ∈ g.2.2.2.2, U32 x) ∧ wdF t (labF 0 rs) rs = g.2.2.2.2 ++ wdF t (labF 0 rs) (rs.drop g.1))) (fun g => n1 - g.1) (fun _ _ _ h hl => ⟨h.1.trans hl, h.2⟩) (0, 0, .slice none 0 0, [], []) (Keeps.cons rfl (Keeps.cons rfl (Keeps.cons rfl (Keeps.cons rfl (Keeps.cons rfl (Keeps.cons rfl (Keeps.nil _))))))) rfl ⟨Le.refl _, ⟨Nat.zero_le _, ⟨by simp, by simp⟩, hlc0, hur0, Own.nil, ⟨by simp, fun _ h => by cases h⟩, rfl⟩⟩ ?_
 intro g s4 I4
 obtain ⟨k, sz, vo, Mo, out⟩ := g
 obtain ⟨hk0, hz0, hlc, hur, hO, hol0, hS⟩ := I4.2
 simp only at hk0 hz0 hlc hur hO hol0 hS
 obtain ⟨hz1, hz2⟩ := hz0
 obtain ⟨hol, huo⟩ := hol0
 dsimp only
 refine JC_seq ?_
 refine JC_seq ?_
 refine JC_region ?_
 refine JO_q (QE_mv rfl) rfl ?_
 refine JO_q (QE_mv rfl) rfl ?_
 refine JO_q (QE_lenS rfl rfl rfl) rfl ?_
 refine JO_q (QE_lt rfl rfl) rfl ?_
 refine JO_nil ?_
 refine thenQ_n ?_
 refine JC_ifD rfl (fun c5 => ?_) (fun c5 => ?_)
 ·
  have hk : k < n1 := by omega
  obtain ⟨b, off, r, rfl, hx, hcx, hux⟩ := Rls.at_ (hR.le (Le.trans h3 I4.1)) hk
  have hsz := szL_bound hux
  obtain ⟨hl0, hlcn⟩ := lc_line hx hlc
  obtain ⟨hul, hurn⟩ := ur_line hx hur
  have hzn := sz_next hl0 hcells hz2
  have hr1 := hux.1
  have hr2 := hux.2
  have hsz1 := hsz.1
  refine JC_skip ?_
  refine thenQ_n ?_
  refine JC_seq ?_
  refine JC_block ?_
  refine JC_seq ?_
  refine JC_region ?_
  refine JO_q (QE_mv rfl) rfl ?_
  refine JO_q (QE_mv rfl) rfl ?_
  refine JO_q (QE_iaN rfl rfl rfl rfl rfl rfl hk) rfl ?_
  refine JO_q (QE_ldsA rfl rfl rfl (hcx.le (Le.refl (D := D) _)) rfl) rfl ?_
  refine JO_allocZ rfl [_, _, _, _, _, _] rfl rfl ?_
  intro β6 s6 h6
  refine JO_st 0 [_, _, _, _, _, _] rfl rfl rfl rfl rfl rfl rfl rfl rfl ?_
  refine JO_nil ?_
  refine thenQ_n ?_
  refine JC_seq ?_
  refine JC_seq ?_
  refine JC_region ?_
  refine JO_q (QE_faB rfl rfl rfl rfl) rfl ?_
  refine JO_q (QE_ld1 0 rfl rfl rfl rfl rfl) rfl ?_
  refine JO_q (QE_seq rfl rfl) rfl ?_
  refine JO_nil ?_
  refine thenQ_n ?_
  refine JC_ifD rfl (fun c7 => ?_) (fun c7 => ?_)
  ·
   have hsp : r.op = spaceB := c7
   have hszr : szL r = r.num := by rw [szL, if_neg (by rw [hsp]; decide), if_pos hsp]
   refine JC_seq ?_
   refine JC_seq ?_
   refine JC_region ?_
   refine JO_q (QE_as rfl) rfl ?_
   refine JO_nil ?_
   refine thenQ_n ?_
   refine JC_block ?_
   refine JC_loop (γ := Nat × Value × Hl) (fun g => [(2, _), (4, _), (5, _), (6, _), (7, g.2.1), (8, _), (9, _), (10, .int .i64 (g.1 : Int))]) (fun g => (β6, cb [.bool r.ok, St r.label, St r.op, .bool r.given, St r.name, .int .u32 r.num] 90) :: (β1, cb [.int .i64 t.cells, .slice A n c] 24) :: (g.2.2 ++ L)) (fun g tw => Le D s6 tw ∧ (g.1 ≤ r.num.toNat ∧ Own 52 1 g.2.2 g.2.1 (out.length + g.1) (wv (out ++ List.replicate g.1 0)))) (fun g => r.num.toNat - g.1) (fun _ _ _ h hl => ⟨h.1.trans hl, h.2⟩) (0, vo, Mo) (Keeps.cons rfl (Keeps.cons rfl (Keeps.cons rfl (Keeps.cons rfl (Keeps.cons rfl (Keeps.cons rfl (Keeps.cons rfl (Keeps.cons rfl (Keeps.nil _))))))))) rfl ⟨Le.refl _, ⟨Nat.zero_le _, by simpa using hO⟩⟩ ?_
   intro g s8 I8
   obtain ⟨j, vj, Mj⟩ := g
   obtain ⟨hj0, hOj⟩ := I8.2
   simp only at hj0 hOj
   dsimp only
   refine JC_seq ?_
   refine JC_seq ?_
   refine JC_region ?_
   refine JO_q (QE_mv rfl) rfl ?_
   refine JO_q (QE_faB rfl rfl rfl rfl) rfl ?_
   refine JO_q (QE_ld1 0 rfl rfl rfl rfl rfl) rfl ?_
   refine JO_q (QE_conv' rfl rfl rfl rfl rfl (w64 (by omega) (by omega))) rfl ?_
   refine JO_q (QE_lt rfl rfl) rfl ?_
   refine JO_nil ?_
   refine thenQ_n ?_
   refine JC_ifD rfl (fun c9 => ?_) (fun c9 => ?_)
   ·
    have hj : j < r.num.toNat := by omega
    refine JC_skip ?_
    refine thenQ_n ?_
    refine JC_seq ?_
    refine JC_block ?_
    refine JC_region ?_
    refine JO_q (QE_mv rfl) rfl ?_
    refine JO_bs [(_, _)] [_] rfl rfl rfl rfl rfl rfl rfl rfl rfl ?_
    intro βn s10 h10 hcb
    refine JO_app (sz := 1) [_, _] Mj L rfl rfl rfl rfl rfl rfl rfl hOj (Row.of_cells (hcb.le (Le.refl (D := D) _)) rfl rfl) ⟨by simp [ti52]; omega, by omega⟩ rfl ?_
    intro vq Mq s11 h11 oq
    obtain ⟨Avq, cvq, rfl, _, _⟩ := Own.slice oq
    simp only [List.cons_append, List.nil_append]
    refine JO_q (QE_as rfl) rfl ?_
    refine JO_nil ?_
    refine blockQ_n ?_
    refine thenQ_n ?_
    refine JC_region ?_
    refine JO_q (QE_mv rfl) rfl ?_
    refine JO_q (QE_add' rfl rfl (w64 (by omega) (by omega))) rfl ?_
    refine JO_q (QE_as rfl) rfl ?_
    refine JO_nil ?_
    refine thenQ_n ⟨(j + 1, .slice Avq (out.length + j + 1) cvq, Mq), [], (Keeps.cons rfl (Keeps.cons rfl (Keeps.cons rfl (Keeps.cons rfl (Keeps.cons rfl (Keeps.cons rfl (Keeps.cons rfl (Keeps.cons rfl (Keeps.nil _))))))))), rfl, ⟨(Le.trans (Le.trans I8.1 h10) h11), ⟨by simp only; omega, by rw [List.replicate_succ', ← List.append_assoc, wv_snoc]; exact oq⟩⟩, (by simp only; omega)⟩
   ·
    have hjE : j = r.num.toNat := by omega
    subst hjE
    refine JC_exit ?_
    refine thenQ_x ?_
    refine thenQ_x ?_
    refine blockQ_x ?_
    refine thenQ_n ?_
    refine JC_exit ?_
    refine thenQ_x ?_
    refine blockQ_x ?_
    refine thenQ_n ?_
    refine JC_region ?_
    refine JO_q (QE_mv rfl) rfl ?_
    refine JO_q (QE_add' rfl rfl (w64 (by omega) (by omega))) rfl ?_
    refine JO_q (QE_as rfl) rfl ?_
    refine JO_nil ?_
    refine thenQ_n ⟨(k + 1, sz + szL r, vj, Mj, out ++ List.replicate r.num.toNat 0), [_], (Keeps.cons rfl (Keeps.cons rfl (Keeps.cons rfl (Keeps.cons rfl (Keeps.cons rfl (Keeps.cons rfl (Keeps.nil _))))))), rfl, ⟨(Le.trans (Le.trans I4.1 h6) I8.1), by exact ⟨by simp only; omega, ⟨by simp only; omega, by simp only; omega⟩, hlcn, hurn, by simp only [List.length_append, List.length_replicate]; exact hOj, ⟨by simp only [List.length_append, List.length_replicate]; omega, u32_rep huo _⟩, by simp only; rw [hS, wdF_at hx, lnW, if_pos hsp]; simp⟩⟩, (by simp only; omega)⟩
  ·
   have hsp : ¬ r.op = spaceB := c7
   refine JC_skip ?_
   refine thenQ_n ?_
   refine JC_seq ?_
   refine JC_cutB 47 (r.op ≠ [] ∧ r.op ≠ wordB) ?_ ?_
   ·
    refine JC_region ?_
    refine JO_q (QE_faB rfl rfl rfl rfl) rfl ?_
    refine JO_q (QE_ld1 0 rfl rfl rfl rfl rfl) rfl ?_
    refine JO_q (QE_sne rfl rfl) rfl ?_
    refine JO_q (QE_mv rfl) rfl ?_
    refine JO_caseN (t := 43) rfl (fun c13 => ?_) (fun c13 => ?_)
    ·
     refine JO_gT rfl rfl ?_
     refine JO_q (QE_faB rfl rfl rfl rfl) rfl ?_
     refine JO_gT rfl rfl ?_
     refine JO_q (QE_ld1 0 rfl rfl rfl rfl rfl) rfl ?_
     refine JO_gT rfl rfl ?_
     refine JO_q (QE_sne rfl rfl) rfl ?_
     refine JO_q (QE_pickT rfl rfl) rfl ?_
     refine JO_nil ?_
     refine thenQ_n (MidB.mk (Le.refl (D := D) _) (by repeat (first | exact Suf.refl | refine Suf.push rfl ?_)) rfl (ndec_eq (⟨fun h => h.2, fun h => ⟨by assumption, h⟩⟩)))
    ·
     refine JO_gF rfl rfl rfl rfl ?_
     refine JO_gF rfl rfl rfl rfl ?_
     refine JO_gF rfl rfl rfl rfl ?_
     refine JO_q (QE_pickF rfl rfl) rfl ?_
     refine JO_nil ?_
     refine thenQ_n (MidB.mk (Le.refl (D := D) _) (by repeat (first | exact Suf.refl | refine Suf.push rfl ?_)) rfl ((decide_eq_false (fun h => h.1 (by assumption))).symm))
   ·
    intro s12 h12
    refine JC_ifD rfl (fun c14 => ?_) (fun c14 => ?_)
    ·
     have h47 := c14
     obtain ⟨kk, z, hkk, hz, hfz⟩ := pos_find (ins_line hl0 h47.1 h47.2 hsp)
     have hkn : kk < n := by have := (List.getElem?_eq_some_iff.1 hz).1; omega
     obtain ⟨b8, off8, z', A', n', c', hE8, hz', hcz, _, _, hcd⟩ := Inss.at_ (hA.le (Le.trans (Le.trans (Le.trans (Le.trans (Le.trans h1 h2) h3) I4.1) h6) h12)) hkn
     subst hE8
     obtain rfl : z = z' := by rw [hz] at hz'; injection hz'
     have hcode : codeOf t r.op = z.code := by rw [codeOf, hfz]
     have hs1 : 1 ≤ szL r := by
       rw [szL, if_neg h47.1, if_neg hsp]
       split <;> omega
     refine JC_drawT drawsMixed 13 rfl 2 ?_
     intro s15 h15
     refine JA_q 0 rfl (by kernel_rfl) (by kernel_rfl) (by kernel_rfl) trivial (QE_mv rfl) rfl ?_
     refine JA_q 1 rfl (by kernel_rfl) (by kernel_rfl) (by kernel_rfl) trivial (QE_faB rfl rfl rfl rfl) rfl ?_
     refine JA_q 2 rfl (by kernel_rfl) (by kernel_rfl) (by kernel_rfl) trivial (QE_ld1 1 rfl rfl rfl rfl rfl) rfl ?_
     refine JA_q 3 rfl (by kernel_rfl) (by kernel_rfl) (by kernel_rfl) trivial (QE_ldA 1 [_, _] rfl rfl rfl rfl rfl) rfl ?_
     refine JA_q 4 rfl (by kernel_rfl) (by kernel_rfl) (by kernel_rfl) trivial (QE_faB rfl rfl rfl rfl) rfl ?_
     refine JA_q 5 rfl (by kernel_rfl) (by kernel_rfl) (by kernel_rfl) trivial (QE_ld1 0 rfl rfl rfl rfl rfl) rfl ?_
     refine JA_1 6 (by kernel_rfl) ?_
     refine JB_call rfl trivial (first := []) (captured := []) rfl rfl rfl (posOf_ac D _ _ t _ _ _ (hA.le (Le.trans (Le.trans (Le.trans (Le.trans (Le.trans (Le.trans h1 h2) h3) I4.1) h6) h12) h15)) r.op) ?_
     rintro _ _ s16 h16 ⟨rfl, rfl⟩
     refine ⟨fun _ _ h => h, ?_⟩
     rw [hkk]
     refine JA_q 7 rfl (by kernel_rfl) (by kernel_rfl) (by kernel_rfl) trivial (QE_iaN rfl rfl rfl rfl rfl rfl hkn) rfl ?_
     refine JA_q 8 rfl (by kernel_rfl) (by kernel_rfl) (by kernel_rfl) trivial (QE_fa rfl rfl rfl rfl) rfl ?_
     refine JA_q 9 rfl (by kernel_rfl) (by kernel_rfl) (by kernel_rfl) trivial (QE_ldsR 1 rfl rfl rfl (hcz.le h15) rfl) rfl ?_
     refine JA_1 10 (by kernel_rfl) ?_
     refine JB_bs rfl trivial [(_, _)] [_] rfl rfl rfl rfl rfl rfl rfl rfl rfl ?_
     intro βn s17 h17 hcb
     refine JA_1 11 (by kernel_rfl) ?_
     refine JB_app (sz := 1) rfl trivial [_, _] Mo L rfl rfl rfl rfl rfl rfl rfl hO (Row.of_cells (hcb.le (Le.refl (D := D) _)) rfl rfl) ⟨by simp [ti52]; omega, by omega⟩ rfl (fun A9 x9 hx9 _ => List.mem_append_left _ hx9) ?_
     intro vc Mc s18 h18 oc
     obtain ⟨Avc, cvc, rfl, _, _⟩ := Own.slice oc
     simp only [List.cons_append, List.nil_append]
     refine JA_q 12 rfl (by kernel_rfl) (by kernel_rfl) (by kernel_rfl) trivial (QE_as rfl) rfl ?_
     refine JA_done (by kernel_rfl) ?_
     refine thenQ_n ?_
     refine JC_seq ?_
     refine JC_region ?_
     refine JO_q (QE_faB rfl rfl rfl rfl) rfl ?_
     refine JO_q (QE_ld1 0 rfl rfl rfl rfl rfl) rfl ?_
     refine JO_nil ?_
     refine thenQ_n ?_
     refine JC_if rfl (fun c19 => ?_) (fun c19 => ?_)
     ·
      have hgv : r.given = true := c19
      refine JC_seq ?_
      refine JC_region ?_
      refine JO_q (QE_faB rfl rfl rfl rfl) rfl ?_
      refine JO_q (QE_ld1 0 rfl rfl rfl rfl rfl) rfl ?_
      refine JO_q (QE_as rfl) rfl ?_
      refine JO_nil ?_
      refine thenQ_n ?_
      refine JC_seq ?_
      refine JC_seq ?_
      refine JC_region ?_
      refine JO_q (QE_faB rfl rfl rfl rfl) rfl ?_
      refine JO_q (QE_ld1 0 rfl rfl rfl rfl rfl) rfl ?_
      refine JO_q (QE_sne rfl rfl) rfl ?_
      refine JO_nil ?_
      refine thenQ_n ?_
      refine JC_ifN rfl (fun c20 => ?_) (fun c20 => ?_)
      ·
       have hnm : r.name ≠ [] := c20
       obtain ⟨lk, y, hlk, hy, hla⟩ := lab_pos (hul hnm)
       have hlkn : lk < n2 := by have := (List.getElem?_eq_some_iff.1 hy).1; omega
       obtain ⟨b7, off7, y', hE7, hy', hcy, huy⟩ := Labs.at_ (hLb.le (Le.trans (Le.trans (Le.trans (Le.trans (Le.trans (Le.trans I4.1 h6) h12) h15) h16) h17) h18)) hlkn
       subst hE7
       obtain rfl : y = y' := by rw [hy] at hy'; injection hy'
       have hop : oprW (labF 0 rs) r = w32 (r.num + y.2) := by rw [oprW, if_neg hnm, hla]; rfl
       refine JC_region ?_
       refine JO_q (QE_mv rfl) rfl ?_
       refine JO_q (QE_mv rfl) rfl ?_
       refine JO_q (QE_mv rfl) rfl ?_
       refine JO_q (QE_faB rfl rfl rfl rfl) rfl ?_
       refine JO_q (QE_ld1 0 rfl rfl rfl rfl rfl) rfl ?_
       refine JO_call (first := []) (captured := []) rfl rfl rfl (labelAt_ac D _ _ _ _ _ _ (hLb.le (Le.trans (Le.trans (Le.trans (Le.trans (Le.trans (Le.trans I4.1 h6) h12) h15) h16) h17) h18)) r.name) ?_
       rintro _ _ s21 h21 ⟨rfl, rfl⟩
       rw [hlk]
       refine JO_q (QE_iaN rfl rfl rfl rfl rfl rfl hlkn) rfl ?_
       refine JO_q (QE_fa rfl rfl rfl rfl) rfl ?_
       refine JO_q (QE_ldsR 1 rfl rfl rfl (hcy.le h21) rfl) rfl ?_
       refine JO_q (QE_cast (QE_add rfl rfl) (congrArg (Value.int .u32) (wrapW _))) rfl ?_
       refine JO_q (QE_as rfl) rfl ?_
       refine JO_nil ?_
       refine thenQ_n ?_
       refine JC_region ?_
       refine JO_q (QE_mv rfl) rfl ?_
       refine JO_q (QE_mv rfl) rfl ?_
       refine JO_bs [(_, _)] [_] rfl rfl rfl rfl rfl rfl rfl rfl rfl ?_
       intro βn s22 h22 hcb
       refine JO_app (sz := 1) [_, _] Mc L rfl rfl rfl rfl rfl rfl rfl oc (Row.of_cells (hcb.le (Le.refl (D := D) _)) rfl rfl) ⟨by simp [ti52]; omega, by omega⟩ rfl ?_
       intro vg Mg s23 h23 og
       obtain ⟨Avg, cvg, rfl, _, _⟩ := Own.slice og
       simp only [List.cons_append, List.nil_append]
       refine JO_q (QE_as rfl) rfl ?_
       refine JO_nil ?_
       refine blockQ_n ?_
       refine thenQ_n ?_
       refine JC_region ?_
       refine JO_q (QE_mv rfl) rfl ?_
       refine JO_q (QE_add' rfl rfl (w64 (by omega) (by omega))) rfl ?_
       refine JO_q (QE_as rfl) rfl ?_
       refine JO_nil ?_
       refine thenQ_n ⟨(k + 1, sz + szL r, .slice Avg ((out.length + 1) + 1) cvg, Mg, (out ++ [codeOf t r.op]) ++ [oprW (labF 0 rs) r]), [_], (Keeps.cons rfl (Keeps.cons rfl (Keeps.cons rfl (Keeps.cons rfl (Keeps.cons rfl (Keeps.cons rfl (Keeps.nil _))))))), rfl, ⟨(Le.trans (Le.trans (Le.trans (Le.trans (Le.trans (Le.trans (Le.trans (Le.trans (Le.trans I4.1 h6) h12) h15) h16) h17) h18) h21) h22) h23), by exact ⟨by simp only; omega, ⟨by simp only; omega, by simp only; omega⟩, hlcn, hurn, by simp only [hop, hcode, List.length_append, List.length_cons, List.length_nil, wv_snoc]; exact og, ⟨by simp only [List.length_append, List.length_cons, List.length_nil]; omega, by simp only [hop, hcode]; exact snoc_u (snoc_u huo hcd) (by first | exact w32_u _ | exact hux)⟩, by simp only; rw [hS, wdF_at hx, lnW, if_neg hsp, if_pos h47, if_pos hgv]; simp⟩⟩, (by simp only; omega)⟩
      ·
       have hnm : r.name = [] := c20
       have hop : oprW (labF 0 rs) r = r.num := by rw [oprW, if_pos hnm]
       refine JC_skip ?_
       refine thenQ_n ?_
       refine JC_region ?_
       refine JO_q (QE_mv rfl) rfl ?_
       refine JO_q (QE_mv rfl) rfl ?_
       refine JO_bs [(_, _)] [_] rfl rfl rfl rfl rfl rfl rfl rfl rfl ?_
       intro βn s24 h24 hcb
       refine JO_app (sz := 1) [_, _] Mc L rfl rfl rfl rfl rfl rfl rfl oc (Row.of_cells (hcb.le (Le.refl (D := D) _)) rfl rfl) ⟨by simp [ti52]; omega, by omega⟩ rfl ?_
       intro vg Mg s25 h25 og
       obtain ⟨Avg, cvg, rfl, _, _⟩ := Own.slice og
       simp only [List.cons_append, List.nil_append]
       refine JO_q (QE_as rfl) rfl ?_
       refine JO_nil ?_
       refine blockQ_n ?_
       refine thenQ_n ?_
       refine JC_region ?_
       refine JO_q (QE_mv rfl) rfl ?_
       refine JO_q (QE_add' rfl rfl (w64 (by omega) (by omega))) rfl ?_
       refine JO_q (QE_as rfl) rfl ?_
       refine JO_nil ?_
       refine thenQ_n ⟨(k + 1, sz + szL r, .slice Avg ((out.length + 1) + 1) cvg, Mg, (out ++ [codeOf t r.op]) ++ [oprW (labF 0 rs) r]), [_], (Keeps.cons rfl (Keeps.cons rfl (Keeps.cons rfl (Keeps.cons rfl (Keeps.cons rfl (Keeps.cons rfl (Keeps.nil _))))))), rfl, ⟨(Le.trans (Le.trans (Le.trans (Le.trans (Le.trans (Le.trans (Le.trans (Le.trans I4.1 h6) h12) h15) h16) h17) h18) h24) h25), by exact ⟨by simp only; omega, ⟨by simp only; omega, by simp only; omega⟩, hlcn, hurn, by simp only [hop, hcode, List.length_append, List.length_cons, List.length_nil, wv_snoc]; exact og, ⟨by simp only [List.length_append, List.length_cons, List.length_nil]; omega, by simp only [hop, hcode]; exact snoc_u (snoc_u huo hcd) (by first | exact w32_u _ | exact hux)⟩, by simp only; rw [hS, wdF_at hx, lnW, if_neg hsp, if_pos h47, if_pos hgv]; simp⟩⟩, (by simp only; omega)⟩
     ·
      have hgv : r.given = false := c19
      refine JC_skip ?_
      refine blockQ_n ?_
      refine thenQ_n ?_
      refine JC_region ?_
      refine JO_q (QE_mv rfl) rfl ?_
      refine JO_q (QE_add' rfl rfl (w64 (by omega) (by omega))) rfl ?_
      refine JO_q (QE_as rfl) rfl ?_
      refine JO_nil ?_
      refine thenQ_n ⟨(k + 1, sz + szL r, .slice Avc (out.length + 1) cvc, Mc, out ++ [codeOf t r.op]), [_], (Keeps.cons rfl (Keeps.cons rfl (Keeps.cons rfl (Keeps.cons rfl (Keeps.cons rfl (Keeps.cons rfl (Keeps.nil _))))))), rfl, ⟨(Le.trans (Le.trans (Le.trans (Le.trans (Le.trans (Le.trans I4.1 h6) h12) h15) h16) h17) h18), by exact ⟨by simp only; omega, ⟨by simp only; omega, by simp only; omega⟩, hlcn, hurn, by simp only [hcode, List.length_append, List.length_cons, List.length_nil, wv_snoc]; exact oc, ⟨by simp only [List.length_append, List.length_cons, List.length_nil]; omega, by simp only [hcode]; exact snoc_u huo hcd⟩, by simp only; rw [hS, wdF_at hx, lnW, if_neg hsp, if_pos h47, if_neg (by rw [hgv]; decide)]; simp⟩⟩, (by simp only; omega)⟩
    ·
     have h47 := c14
     refine JC_skip ?_
     refine thenQ_n ?_
     refine JC_seq ?_
     refine JC_region ?_
     refine JO_q (QE_faB rfl rfl rfl rfl) rfl ?_
     refine JO_q (QE_ld1 0 rfl rfl rfl rfl rfl) rfl ?_
     refine JO_nil ?_
     refine thenQ_n ?_
     refine JC_if rfl (fun c26 => ?_) (fun c26 => ?_)
     ·
      have hgv : r.given = true := c26
      refine JC_seq ?_
      refine JC_region ?_
      refine JO_q (QE_faB rfl rfl rfl rfl) rfl ?_
      refine JO_q (QE_ld1 0 rfl rfl rfl rfl rfl) rfl ?_
      refine JO_q (QE_as rfl) rfl ?_
      refine JO_nil ?_
      refine thenQ_n ?_
      refine JC_seq ?_
      refine JC_seq ?_
      refine JC_region ?_
      refine JO_q (QE_faB rfl rfl rfl rfl) rfl ?_
      refine JO_q (QE_ld1 0 rfl rfl rfl rfl rfl) rfl ?_
      refine JO_q (QE_sne rfl rfl) rfl ?_
      refine JO_nil ?_
      refine thenQ_n ?_
      refine JC_ifN rfl (fun c27 => ?_) (fun c27 => ?_)
      ·
       have hnm : r.name ≠ [] := c27
       obtain ⟨lk, y, hlk, hy, hla⟩ := lab_pos (hul hnm)
       have hlkn : lk < n2 := by have := (List.getElem?_eq_some_iff.1 hy).1; omega
       obtain ⟨b7, off7, y', hE7, hy', hcy, huy⟩ := Labs.at_ (hLb.le (Le.trans (Le.trans I4.1 h6) h12)) hlkn
       subst hE7
       obtain rfl : y = y' := by rw [hy] at hy'; injection hy'
       have hop : oprW (labF 0 rs) r = w32 (r.num + y.2) := by rw [oprW, if_neg hnm, hla]; rfl
       refine JC_region ?_
       refine JO_q (QE_mv rfl) rfl ?_
       refine JO_q (QE_mv rfl) rfl ?_
       refine JO_q (QE_mv rfl) rfl ?_
       refine JO_q (QE_faB rfl rfl rfl rfl) rfl ?_
       refine JO_q (QE_ld1 0 rfl rfl rfl rfl rfl) rfl ?_
       refine JO_call (first := []) (captured := []) rfl rfl rfl (labelAt_ac D _ _ _ _ _ _ (hLb.le (Le.trans (Le.trans I4.1 h6) h12)) r.name) ?_
       rintro _ _ s28 h28 ⟨rfl, rfl⟩
       rw [hlk]
       refine JO_q (QE_iaN rfl rfl rfl rfl rfl rfl hlkn) rfl ?_
       refine JO_q (QE_fa rfl rfl rfl rfl) rfl ?_
       refine JO_q (QE_ldsR 1 rfl rfl rfl (hcy.le h28) rfl) rfl ?_
       refine JO_q (QE_cast (QE_add rfl rfl) (congrArg (Value.int .u32) (wrapW _))) rfl ?_
       refine JO_q (QE_as rfl) rfl ?_
       refine JO_nil ?_
       refine thenQ_n ?_
       refine JC_region ?_
       refine JO_q (QE_mv rfl) rfl ?_
       refine JO_q (QE_mv rfl) rfl ?_
       refine JO_bs [(_, _)] [_] rfl rfl rfl rfl rfl rfl rfl rfl rfl ?_
       intro βn s29 h29 hcb
       refine JO_app (sz := 1) [_, _] Mo L rfl rfl rfl rfl rfl rfl rfl hO (Row.of_cells (hcb.le (Le.refl (D := D) _)) rfl rfl) ⟨by simp [ti52]; omega, by omega⟩ rfl ?_
       intro vg Mg s30 h30 og
       obtain ⟨Avg, cvg, rfl, _, _⟩ := Own.slice og
       simp only [List.cons_append, List.nil_append]
       refine JO_q (QE_as rfl) rfl ?_
       refine JO_nil ?_
       refine blockQ_n ?_
       refine thenQ_n ?_
       refine JC_region ?_
       refine JO_q (QE_mv rfl) rfl ?_
       refine JO_q (QE_add' rfl rfl (w64 (by omega) (by omega))) rfl ?_
       refine JO_q (QE_as rfl) rfl ?_
       refine JO_nil ?_
       refine thenQ_n ⟨(k + 1, sz + szL r, .slice Avg (out.length + 1) cvg, Mg, out ++ [oprW (labF 0 rs) r]), [_], (Keeps.cons rfl (Keeps.cons rfl (Keeps.cons rfl (Keeps.cons rfl (Keeps.cons rfl (Keeps.cons rfl (Keeps.nil _))))))), rfl, ⟨(Le.trans (Le.trans (Le.trans (Le.trans (Le.trans I4.1 h6) h12) h28) h29) h30), by exact ⟨by simp only; omega, ⟨by simp only; omega, by simp only; omega⟩, hlcn, hurn, by simp only [hop, List.length_append, List.length_cons, List.length_nil, wv_snoc]; exact og, ⟨by simp only [List.length_append, List.length_cons, List.length_nil]; omega, by simp only [hop]; exact snoc_u huo (by first | exact w32_u _ | exact hux)⟩, by simp only; rw [hS, wdF_at hx, lnW, if_neg hsp, if_neg h47, if_pos hgv]; simp⟩⟩, (by simp only; omega)⟩
      ·
       have hnm : r.name = [] := c27
       have hop : oprW (labF 0 rs) r = r.num := by rw [oprW, if_pos hnm]
       refine JC_skip ?_
       refine thenQ_n ?_
       refine JC_region ?_
       refine JO_q (QE_mv rfl) rfl ?_
       refine JO_q (QE_mv rfl) rfl ?_
       refine JO_bs [(_, _)] [_] rfl rfl rfl rfl rfl rfl rfl rfl rfl ?_
       intro βn s31 h31 hcb
       refine JO_app (sz := 1) [_, _] Mo L rfl rfl rfl rfl rfl rfl rfl hO (Row.of_cells (hcb.le (Le.refl (D := D) _)) rfl rfl) ⟨by simp [ti52]; omega, by omega⟩ rfl ?_
       intro vg Mg s32 h32 og
       obtain ⟨Avg, cvg, rfl, _, _⟩ := Own.slice og
       simp only [List.cons_append, List.nil_append]
       refine JO_q (QE_as rfl) rfl ?_
       refine JO_nil ?_
       refine blockQ_n ?_
       refine thenQ_n ?_
       refine JC_region ?_
       refine JO_q (QE_mv rfl) rfl ?_
       refine JO_q (QE_add' rfl rfl (w64 (by omega) (by omega))) rfl ?_
       refine JO_q (QE_as rfl) rfl ?_
       refine JO_nil ?_
       refine thenQ_n ⟨(k + 1, sz + szL r, .slice Avg (out.length + 1) cvg, Mg, out ++ [oprW (labF 0 rs) r]), [_], (Keeps.cons rfl (Keeps.cons rfl (Keeps.cons rfl (Keeps.cons rfl (Keeps.cons rfl (Keeps.cons rfl (Keeps.nil _))))))), rfl, ⟨(Le.trans (Le.trans (Le.trans (Le.trans I4.1 h6) h12) h31) h32), by exact ⟨by simp only; omega, ⟨by simp only; omega, by simp only; omega⟩, hlcn, hurn, by simp only [hop, List.length_append, List.length_cons, List.length_nil, wv_snoc]; exact og, ⟨by simp only [List.length_append, List.length_cons, List.length_nil]; omega, by simp only [hop]; exact snoc_u huo (by first | exact w32_u _ | exact hux)⟩, by simp only; rw [hS, wdF_at hx, lnW, if_neg hsp, if_neg h47, if_pos hgv]; simp⟩⟩, (by simp only; omega)⟩
     ·
      have hgv : r.given = false := c26
      refine JC_skip ?_
      refine blockQ_n ?_
      refine thenQ_n ?_
      refine JC_region ?_
      refine JO_q (QE_mv rfl) rfl ?_
      refine JO_q (QE_add' rfl rfl (w64 (by omega) (by omega))) rfl ?_
      refine JO_q (QE_as rfl) rfl ?_
      refine JO_nil ?_
      refine thenQ_n ⟨(k + 1, sz + szL r, vo, Mo, out), [_], (Keeps.cons rfl (Keeps.cons rfl (Keeps.cons rfl (Keeps.cons rfl (Keeps.cons rfl (Keeps.cons rfl (Keeps.nil _))))))), rfl, ⟨(Le.trans (Le.trans I4.1 h6) h12), by exact ⟨by simp only; omega, ⟨by simp only; omega, by simp only; omega⟩, hlcn, hurn, hO, ⟨by simp only; omega, huo⟩, by simp only; rw [hS, wdF_at hx, lnW, if_neg hsp, if_neg h47, if_neg (by rw [hgv]; decide)]; simp⟩⟩, (by simp only; omega)⟩
 ·
  rw [List.drop_eq_nil_of_le (by omega)] at hS
  rw [show wdF t (labF 0 rs) [] = [] from rfl, List.append_nil] at hS
  obtain ⟨Ao, co, rfl, _, _⟩ := Own.slice hO
  refine JC_exit ?_
  refine thenQ_x ?_
  refine thenQ_x ?_
  refine blockQ_x ?_
  refine thenQ_n ?_
  refine JC_seq ?_
  refine JC_region ?_
  refine JO_q (QE_mv rfl) rfl ?_
  refine JO_q (QE_as rfl) rfl ?_
  refine JO_nil ?_
  refine thenQ_n ?_
  refine JC_ret ?_
  refine retQ_mk [_] _ (.inr rfl) (.tmp rfl (.nil)) rfl (Le.trans (Le.trans (Le.trans h1 h2) h3) I4.1) (fun sR hS2 => ?_)
  refine ⟨Mo, rfl, fun s2 hs2 hp => ⟨Ao, out.length, co, rs, rfl, ?_, hRL⟩⟩
  rw [hS]
  exact Own.wds hO huo hp
end Go.Proofs.YteomcjpigoaioaaGreatDoor
namespace Go.Proofs.YteomcjpigoaioaaGreatDoor
open Go Go.FL Go.RowKit
theorem body_shape {lab : List UInt8} {ws : List (List UInt8)} {x : Ln} (h : bodyW lab ws = some x) : (x.has = false → x.name = []) ∧ (x.op = [] → x.has = false) := by
  match ws, h with
  | [], h => rw [bodyW] at h; injection h with h; subst h; exact ⟨fun _ => rfl, fun _ => rfl⟩
  | [o], h =>
    rw [bodyW] at h
    split at h
    · injection h with h; subst h; exact ⟨fun _ => rfl, fun _ => rfl⟩
    · cases h
  | [o, w], h =>
    rw [bodyW] at h
    split at h
    · rename_i ho
      obtain ⟨y, hy, rfl⟩ := Option.map_eq_some_iff.1 h
      exact ⟨fun h => (by cases h), fun e => absurd e (labelB_len ho).1⟩
    · cases h
  | _ :: _ :: _ :: _, h => cases h
theorem line_shape {l : List UInt8} {x : Ln} (h : lineL l = some x) : (x.has = false → x.name = []) ∧ (x.op = [] → x.has = false) := by
  unfold lineL lineW at h
  obtain ⟨y, _, hy⟩ := Option.bind_eq_some_iff.1 h
  exact body_shape hy
def ln0 (t : Tab) (r : RL) : List Int := addW t [] r.ln
theorem addW_app (t : Tab) (w : List Int) (x : Ln) : addW t w x = w ++ addW t [] x := by
  unfold addW emitW
  repeat' split
  all_goals simp
theorem own_cases {o : List UInt8} (h : isOwn o = true) : o = wordB ∨ o = spaceB := of_decide_eq_true h
theorem own_not {o : List UInt8} (h : isOwn o = false) : o ≠ wordB ∧ o ≠ spaceB := by
  have := of_decide_eq_false h
  exact ⟨fun e => this (.inl e), fun e => this (.inr e)⟩
theorem ln0_len {t : Tab} {r : RL} (hu : U32 r.num) (hg : r.op ≠ [] → r.given = (isOwn r.op || opOf t r.op)) : ((ln0 t r).length : Int) = szL r := by
  have h1 := hu.1
  unfold ln0 addW emitW szL RL.ln
  simp only
  by_cases c1 : r.op = []
  · simp [c1]
  · rw [if_neg c1, if_neg c1]
    by_cases c2 : r.op = spaceB
    · rw [if_pos c2, if_pos c2]; simp; omega
    · rw [if_neg c2, if_neg c2]
      have hgv := hg c1
      cases ho : isOwn r.op with
      | true =>
        have hw : r.op = wordB := (own_cases ho).resolve_right c2
        rw [ho] at hgv
        have hg1 : r.given = true := by rw [hgv]; rfl
        simp [hg1, hw]
      | false =>
        have hw := (own_not ho).1
        cases hgg : r.given <;> simp [hw]
theorem line_code {t : Tab} {w : List Int} {l : List (List UInt8 × Int)} {prev : List RL} {sz : Int} {r : RL} (hok : r.ok = true) (hu : U32 r.num) (hsz : (w.length : Int) = sz) (hl : r.label ≠ [] → ((labAt l r.label).isSome = true ↔ prev.any (fun x => decide (x.label = r.label)) = true)) : addE t w l (some r.ln) = lcR t prev sz r := by
  unfold addE lcR
  refine Eq.trans ?_ (if_neg (show ¬ r.ok = false by rw [hok]; decide)).symm
  by_cases c1 : r.label ≠ [] ∧ (labAt l r.label).isSome = true
  · exact (if_pos c1).trans (if_pos ⟨c1.1, (hl c1.1).1 c1.2⟩).symm
  refine (if_neg c1).trans (Eq.trans ?_ (if_neg (fun h => c1 ⟨h.1, (hl h.1).2 h.2⟩)).symm)
  by_cases c2 : r.op = []
  · exact (if_pos c2).trans (if_pos c2).symm
  refine (if_neg c2).trans (Eq.trans ?_ (if_neg c2).symm)
  by_cases c3 : (findN t.ins r.op).isSome = false ∧ isOwn r.op = false
  · exact (if_pos c3).trans (if_pos c3).symm
  refine (if_neg c3).trans (Eq.trans ?_ (if_neg c3).symm)
  by_cases c4 : r.given ≠ (isOwn r.op || opOf t r.op)
  · exact (if_pos c4).trans (if_pos c4).symm
  refine (if_neg c4).trans (Eq.trans ?_ (if_neg c4).symm)
  by_cases c5 : r.op = spaceB ∧ r.name ≠ []
  · exact (if_pos c5).trans (if_pos c5).symm
  refine (if_neg c5).trans (Eq.trans ?_ (if_neg c5).symm)
  have hln := ln0_len (t := t) hu (fun _ => Classical.not_not.1 c4)
  have e : ((addW t w r.ln).length : Int) = sz + szL r := by
    rw [addW_app, List.length_append, ← hln, ← hsz]; rfl
  by_cases c6 : t.cells < sz + szL r
  · exact (if_pos (show t.cells < ((addW t w r.ln).length : Int) by rw [e]; exact c6)).trans (if_pos c6).symm
  · exact (if_neg (show ¬ t.cells < ((addW t w r.ln).length : Int) by rw [e]; exact c6)).trans (if_neg c6).symm
theorem lc_given {t : Tab} {prev : List RL} {sz : Int} {r : RL} (hok : r.ok = true) (h0 : lcR t prev sz r = 0) (hop : r.op ≠ []) : r.given = (isOwn r.op || opOf t r.op) := by
  by_cases c4 : r.given = (isOwn r.op || opOf t r.op)
  · exact c4
  exfalso
  unfold lcR at h0
  rw [if_neg (show ¬ r.ok = false by rw [hok]; decide)] at h0
  by_cases c1 : r.label ≠ [] ∧ prev.any (fun x => decide (x.label = r.label)) = true
  · rw [if_pos c1] at h0; exact absurd h0 (by decide)
  rw [if_neg c1, if_neg hop] at h0
  by_cases c3 : (findN t.ins r.op).isSome = false ∧ isOwn r.op = false
  · rw [if_pos c3] at h0; exact absurd h0 (by decide)
  rw [if_neg c3, if_pos c4] at h0
  exact absurd h0 (by decide)
def rf1 (t : Tab) (off : Nat) (i : Int) (r : RL) : List (Int × Nat × List UInt8 × Int) :=
  if r.op = [] then [] else if r.op = spaceB then [] else if r.given = true ∧ r.name ≠ [] then [(i, (if isOwn r.op = true then off else off + 1), r.name, r.num)] else []
def rfF (t : Tab) : Nat → Nat → List RL → List (Int × Nat × List UInt8 × Int)
  | _, _, [] => []
  | off, i, r :: rs => rf1 t off (i : Int) r ++ rfF t (off + (ln0 t r).length) (i + 1) rs
def wd0 (t : Tab) (rs : List RL) : List Int := (rs.map (ln0 t)).flatten
theorem addR_app (t : Tab) (w : List Int) (rf : List (Int × Nat × List UInt8 × Int)) (i : Int) (r : RL) : addR t w rf i r.ln = rf ++ rf1 t w.length i r := by
  unfold addR emitR rf1 RL.ln
  simp only
  repeat' split
  all_goals simp_all
theorem labAt_app (l : List (List UInt8 × Int)) (k nm : List UInt8) (a : Int) : (labAt (l ++ [(k, a)]) nm).isSome = ((labAt l nm).isSome || decide (k = nm)) := by
  induction l with
  | nil => simp only [List.nil_append, labAt]; by_cases h : k = nm <;> simp [h]
  | cons x l ih =>
    simp only [List.cons_append, labAt]
    by_cases h : x.1 = nm
    · simp [h]
    · simp [h, ih]
def LabI (l : List (List UInt8 × Int)) (prev : List RL) : Prop := ∀ nm, nm ≠ [] → ((labAt l nm).isSome = true ↔ prev.any (fun x => decide (x.label = nm)) = true)
theorem LabI.next {w : List Int} {l : List (List UInt8 × Int)} {prev : List RL} (h : LabI l prev) (r : RL) : LabI (addL w l r.ln) (prev ++ [r]) := by
  intro nm hnm
  unfold addL RL.ln
  simp only [List.any_append, List.any_cons, List.any_nil, Bool.or_false]
  by_cases hl : r.label = []
  · rw [if_pos hl, h nm hnm, hl]
    have : ¬ ([] : List UInt8) = nm := fun e => hnm e.symm
    simp [this]
  · rw [if_neg hl, labAt_app, Bool.or_eq_true, Bool.or_eq_true, h nm hnm]
theorem RLs.head {l : List UInt8} {ls : List (List UInt8)} {r : RL} {rs : List RL} (h : RLs (l :: ls) (r :: rs)) : RLok l r ∧ RLs ls rs :=
  ⟨h.2 0 l r rfl rfl, by have := h.1; simpa using this, fun i x y hx hy => h.2 (i + 1) x y (by simpa using hx) (by simpa using hy)⟩
theorem asm_lc {t : Tab} (hcells : t.cells ≤ 65536) : ∀ (rs : List RL) (ls : List (List UInt8)) (prev : List RL) (i : Nat) (w : List Int) (l : List (List UInt8 × Int)) (rf : List (Int × Nat × List UInt8 × Int)) (sz : Int), RLs ls rs → (w.length : Int) = sz → sz ≤ 65536 → LabI l prev →
    asmF t i w l rf ls = match lcF t prev sz i rs with
      | some f => .inl f
      | none => .inr (w ++ wd0 t rs, l ++ labF sz rs, rf ++ rfF t w.length i rs) := by
  intro rs
  induction rs with
  | nil =>
    intro ls prev i w l rf sz h _ _ _
    have : ls = [] := List.length_eq_zero_iff.1 (by have := h.1; simpa using this.symm)
    subst this
    simp [asmF, lcF, wd0, labF, rfF]
  | cons r rs ih =>
    intro ls prev i w l rf sz h hsz hz hL
    cases ls with
    | nil => have := h.1; cases this
    | cons x ls =>
      obtain ⟨⟨hr, hu⟩, hrs⟩ := RLs.head h
      rcases hr with ⟨hok, hln⟩ | ⟨hok, hln⟩
      · have hc := line_code (t := t) (w := w) (l := l) (prev := prev) hok hu hsz (hL r.label)
        by_cases h0 : lcR t prev sz r = 0
        · have hE : addE t w l (some r.ln) = 0 := hc.trans h0
          rw [asmF_some hln hE, lcF, if_neg (fun hh => hh h0)]
          have hg : r.op ≠ [] → r.given = (isOwn r.op || opOf t r.op) := lc_given hok h0
          have hlen := ln0_len (t := t) hu hg
          have hW : addW t w r.ln = w ++ ln0 t r := addW_app t w r.ln
          have hz2 := sz_next h0 hcells hz
          rw [ih ls (prev ++ [r]) (i + 1) _ _ _ (sz + szL r) hrs (by rw [hW, List.length_append, ← hlen, ← hsz]; rfl) hz2 (hL.next r)]
          split
          · rfl
          · rw [hW, addR_app]
            congr 1
            refine Prod.ext ?_ (Prod.ext ?_ ?_)
            · simp [wd0]
            · simp only [labF]
              unfold addL RL.ln
              simp only
              by_cases hlb : r.label = []
              · rw [if_pos hlb, if_pos hlb]
              · rw [if_neg hlb, if_neg hlb, List.append_assoc, hsz, show w32 sz = sz by unfold w32; omega]; rfl
            · simp only [rfF, List.length_append]
              rw [List.append_assoc]
        · rw [asmF_none (by rw [hln, hc]; exact h0), lcF, if_pos h0, hln, hc]
      · have h1 : lcR t prev sz r = 1 := by rw [lcR, if_pos hok]
        rw [asmF_none (by rw [hln]; exact (show (1 : Int) ≠ 0 by decide)), lcF, if_pos (by rw [h1]; decide), h1, hln]
        rfl
end Go.Proofs.YteomcjpigoaioaaGreatDoor
namespace Go.Proofs.YteomcjpigoaioaaGreatDoor
open Go Go.FL Go.RowKit
def Shp (r : RL) : Prop := (r.given = false → r.name = []) ∧ (r.op = [] → r.given = false) ∧ (r.op = spaceB → r.name = [])
theorem lab_neg {labs : List (List UInt8 × Int)} {nm : List UInt8} (h : labAt labs nm = none) : idxOf (fun y => decide (y.1 = nm)) labs 0 < 0 := by
  by_cases hn : idxOf (fun y => decide (y.1 = nm)) labs 0 < 0
  · exact hn
  · obtain ⟨k, y, _, _, h3⟩ := lab_pos hn
    rw [h] at h3; cases h3
theorem lab_nn {labs : List (List UInt8 × Int)} {nm : List UInt8} {a : Int} (h : labAt labs nm = some a) : ¬ idxOf (fun y => decide (y.1 = nm)) labs 0 < 0 := fun hn => by
  rw [labAt_find, idx_neg hn] at h; cases h
theorem ln0_word {t : Tab} {r : RL} (h1 : r.op ≠ []) (h2 : r.op ≠ spaceB) (hg : r.given = true) : ln0 t r = (if isOwn r.op = true then [] else [codeOf t r.op]) ++ [r.num] := by
  unfold ln0 addW emitW RL.ln
  simp only [h1, h2, hg, if_true, if_false]
  split <;> simp_all
theorem lnW_word {t : Tab} {labs : List (List UInt8 × Int)} {r : RL} (h1 : r.op ≠ []) (h2 : r.op ≠ spaceB) (hg : r.given = true) : lnW t labs r = (if isOwn r.op = true then [] else [codeOf t r.op]) ++ [oprW labs r] := by
  unfold lnW
  rw [if_neg h2, if_pos hg]
  congr 1
  cases ho : isOwn r.op with
  | true =>
    have hw : r.op = wordB := (own_cases ho).resolve_right h2
    rw [if_neg (fun h => h.2 hw)]; rfl
  | false => rw [if_pos ⟨h1, (own_not ho).1⟩]; rfl
theorem lnW_bare {t : Tab} {labs : List (List UInt8 × Int)} {r : RL} (hs : Shp r) (hn : r.name = []) : lnW t labs r = ln0 t r := by
  by_cases h2 : r.op = spaceB
  · have h1 : r.op ≠ [] := by rw [h2]; decide
    unfold ln0 addW emitW RL.ln lnW
    simp only [h2, if_true]
    rw [if_neg (by decide)]
    simp
  · by_cases h1 : r.op = []
    · have hg := hs.2.1 h1
      unfold ln0 addW lnW RL.ln
      simp [h1, hg, spaceB]
    · cases hg : r.given with
      | true => rw [lnW_word h1 h2 hg, ln0_word h1 h2 hg, oprW, if_pos hn]
      | false =>
        unfold ln0 addW emitW RL.ln lnW
        simp only [h1, h2, hg, if_false]
        cases ho : isOwn r.op with
        | true =>
          have hw : r.op = wordB := (own_cases ho).resolve_right h2
          simp [hw]
        | false => simp [h1, (own_not ho).1]
theorem set_at {pre rest : List Int} (a b : Int) : (pre ++ a :: rest).set pre.length b = pre ++ b :: rest := by simp
theorem set_at1 {pre rest : List Int} (c a b : Int) : (pre ++ c :: a :: rest).set (pre.length + 1) b = pre ++ c :: b :: rest := by
  rw [List.set_append_right _ _ (by omega)]; simp
theorem get_at {pre rest : List Int} (a : Int) : (pre ++ a :: rest).getD pre.length 0 = a := by simp
theorem get_at1 {pre rest : List Int} (c a : Int) : (pre ++ c :: a :: rest).getD (pre.length + 1) 0 = a := by
  rw [List.getD_eq_getElem?_getD, List.getElem?_append_right (by omega)]; simp
theorem ref_ur {t : Tab} {labs : List (List UInt8 × Int)} : ∀ (rs : List RL) (i : Nat) (pre : List Int), (∀ r ∈ rs, Shp r) → refF labs (rfF t pre.length i rs) (pre ++ wd0 t rs) = match urF labs i rs with
    | some f => .inl f
    | none => .inr (pre ++ wdF t labs rs) := by
  intro rs
  induction rs with
  | nil => intro i pre _; simp [rfF, refF, urF, wd0, wdF]
  | cons r rs ih =>
    intro i pre hs
    have hr := hs r (List.mem_cons_self ..)
    have hrs : ∀ r ∈ rs, Shp r := fun x hx => hs x (List.mem_cons_of_mem _ hx)
    have e0 : wd0 t (r :: rs) = ln0 t r ++ wd0 t rs := by simp [wd0]
    have eW : wdF t labs (r :: rs) = lnW t labs r ++ wdF t labs rs := by simp [wdF]
    rw [rfF, e0, eW, urF]
    by_cases hn : r.name = []
    · have h1 : rf1 t pre.length (i : Int) r = [] := by unfold rf1; simp [hn]
      rw [h1, List.nil_append, if_neg (fun h => h.1 hn), ← List.append_assoc, ← List.length_append, ih (i + 1) (pre ++ ln0 t r) hrs, lnW_bare hr hn]
      split <;> simp_all
    · have hg : r.given = true := by
        cases hg : r.given with
        | true => rfl
        | false => exact absurd (hr.1 hg) hn
      have h1 : r.op ≠ [] := fun h => by have := hr.2.1 h; rw [hg] at this; cases this
      have h2 : r.op ≠ spaceB := fun h => hn (hr.2.2 h)
      have hrf : rf1 t pre.length (i : Int) r = [((i : Int), (if isOwn r.op = true then pre.length else pre.length + 1), r.name, r.num)] := by
        unfold rf1; rw [if_neg h1, if_neg h2, if_pos ⟨hg, hn⟩]
      cases hla : labAt labs r.name with
      | none =>
        rw [if_pos (show r.name ≠ [] ∧ idxOf (fun y => decide (y.1 = r.name)) labs 0 < 0 from ⟨hn, lab_neg hla⟩), hrf, List.cons_append, List.nil_append, refF]
        simp only [hla]
      | some a =>
        rw [if_neg (show ¬ (r.name ≠ [] ∧ idxOf (fun y => decide (y.1 = r.name)) labs 0 < 0) from fun h => lab_nn hla h.2), hrf, List.cons_append, List.nil_append, refF]
        have hopr : oprW labs r = w32 (r.num + a) := by rw [oprW, if_neg hn, hla]; rfl
        have key : (pre ++ (ln0 t r ++ wd0 t rs)).set (if isOwn r.op = true then pre.length else pre.length + 1) (w32 ((pre ++ (ln0 t r ++ wd0 t rs)).getD (if isOwn r.op = true then pre.length else pre.length + 1) 0 + a)) = (pre ++ lnW t labs r) ++ wd0 t rs := by
          rw [ln0_word h1 h2 hg, lnW_word h1 h2 hg, hopr]
          cases ho : isOwn r.op with
          | true =>
            simp only [if_true, List.nil_append, List.cons_append, List.append_assoc]
            rw [get_at, set_at]
          | false =>
            simp only [Bool.false_eq_true, if_false, List.nil_append, List.cons_append, List.append_assoc]
            rw [get_at1, set_at1]
        have hlen : (ln0 t r).length = (lnW t labs r).length := by rw [ln0_word h1 h2 hg, lnW_word h1 h2 hg]; simp
        simp only [hla]
        rw [key, hlen, ← List.length_append, ih (i + 1) (pre ++ lnW t labs r) hrs]
        split <;> simp_all
theorem lc_shape {t : Tab} : ∀ (rs : List RL) (ls : List (List UInt8)) (prev : List RL) (sz : Int) (i : Nat), RLs ls rs → lcF t prev sz i rs = none → ∀ r ∈ rs, Shp r := by
  intro rs
  induction rs with
  | nil => intro _ _ _ _ _ _ r hr; cases hr
  | cons r rs ih =>
    intro ls prev sz i h hn
    cases ls with
    | nil => have := h.1; cases this
    | cons x ls =>
      obtain ⟨⟨hr, _⟩, hrs⟩ := RLs.head h
      rw [lcF] at hn
      by_cases h0 : lcR t prev sz r ≠ 0
      · rw [if_pos h0] at hn; cases hn
      rw [if_neg h0] at hn
      intro y hy
      rcases List.mem_cons.1 hy with rfl | hy
      · rcases hr with ⟨hok, hln⟩ | ⟨hok, _⟩
        · have hsh := line_shape hln
          refine ⟨hsh.1, hsh.2, fun hsp => ?_⟩
          by_cases c : y.name = []
          · exact c
          exfalso
          have h0' := Classical.not_not.1 h0
          unfold lcR at h0'
          rw [if_neg (show ¬ y.ok = false by rw [hok]; decide)] at h0'
          by_cases c1 : y.label ≠ [] ∧ prev.any (fun x => decide (x.label = y.label)) = true
          · rw [if_pos c1] at h0'; exact absurd h0' (by decide)
          rw [if_neg c1, if_neg (by rw [hsp]; decide)] at h0'
          by_cases c3 : (findN t.ins y.op).isSome = false ∧ isOwn y.op = false
          · rw [if_pos c3] at h0'; exact absurd h0' (by decide)
          rw [if_neg c3] at h0'
          by_cases c4 : y.given ≠ (isOwn y.op || opOf t y.op)
          · rw [if_pos c4] at h0'; exact absurd h0' (by decide)
          rw [if_neg c4, if_pos ⟨hsp, c⟩] at h0'
          exact absurd h0' (by decide)
        · exact absurd (by rw [lcR, if_pos hok]; decide) h0
      · exact ih ls _ _ _ hrs hn y hy
theorem asm_refR {t : Tab} {tx : List UInt8} {rs : List RL} (ht : ¬ (tabFault t).1 ≠ 0) (hl : ¬ 400000 < tx.length) (hc : t.cells ≤ 65536) (h : RLs (splitB 10 tx) rs) : asmR t tx = match lcF t [] 0 0 rs with
    | some f => .inl f
    | none => match urF (labF 0 rs) 0 rs with
      | some f => .inl f
      | none => .inr (wdF t (labF 0 rs) rs, labF 0 rs) := by
  have hA := asm_lc hc rs (splitB 10 tx) [] 0 [] [] [] 0 h rfl (by decide) (fun nm _ => by simp [labAt])
  unfold asmR
  rw [if_neg ht, if_neg hl, hA]
  cases hlc : lcF t [] 0 0 rs with
  | some f => rfl
  | none =>
    have hr := ref_ur (t := t) (labs := labF 0 rs) rs 0 [] (lc_shape rs _ _ _ _ h hlc)
    simp only [List.nil_append, List.length_nil] at hr ⊢
    rw [hr]
    cases urF (labF 0 rs) 0 rs <;> rfl
theorem AF_asm {t : Tab} {tx : List UInt8} {f : Int × Int} (hc : (tabFault t).1 = 0 → t.cells ≤ 65536) (h : AF t tx f) : f = asmFt t tx := by
  unfold AF at h
  by_cases ht : (tabFault t).1 ≠ 0
  · rw [if_pos ht] at h
    rw [h]; unfold asmFt asmR; rw [if_pos ht]
  rw [if_neg ht] at h
  by_cases hl : 400000 < tx.length
  · rw [if_pos hl] at h
    rw [h]; unfold asmFt asmR; rw [if_neg ht, if_pos hl]
  rw [if_neg hl] at h
  obtain ⟨rs, hrs, rfl⟩ := h
  have hA := asm_refR ht hl (hc (Classical.not_not.1 ht)) hrs
  unfold asmFt fltR
  rw [hA]
  cases lcF t [] 0 0 rs with
  | some f => rfl
  | none => cases urF (labF 0 rs) 0 rs <;> rfl
end Go.Proofs.YteomcjpigoaioaaGreatDoor
namespace Go.Proofs.YteomcjpigoaioaaGreatDoor
open Go.FL
attribute [local irreducible] JC JO JA JB thenQ blockQ retQ AC fill CellsAt QE Ev Mid
theorem assembled_ac (D : Nat) (L : Hl) (s : World) (t : Tab) (A : Option Addr) (n c : Nat) (hA : Inss s A n c t.ins) (hcells : t.cells ≤ 65536) (tx : List UInt8) (htx : tx.length ≤ 400000) (hnf : ∀ rs, RLs (splitB 10 tx) rs → lcF t [] 0 0 rs = none ∧ urF (labF 0 rs) 0 rs = none) : AC Tryz.prog D 16 [.agg #[.int .i64 t.cells, .slice A n c], St tx] L s fun v L' s' => L = L' ∧ ∃ A2 n2 c2 rs, v = .slice A2 n2 c2 ∧ Wds s' A2 n2 c2 (wdF t (labF 0 rs) rs) ∧ RLs (splitB 10 tx) rs := AC.pubW (assembledO_ac D L s t A n c hA hcells tx htx hnf)
theorem asm_void {t : Tab} {tx : List UInt8} (h : (asmFt t tx).1 ≠ 0) : asmW t tx = [] ∧ asmL t tx = [] := by
  unfold asmFt at h
  unfold asmW asmL
  cases hR : asmR t tx with
  | inl f => exact ⟨rfl, rfl⟩
  | inr x => rw [hR] at h; exact absurd rfl h
theorem lcF_code {t : Tab} : ∀ (rs prev : List RL) (sz : Int) (i : Nat) (f : Int × Int), lcF t prev sz i rs = some f → f.1 ≠ 0 := by
  intro rs
  induction rs with
  | nil => intro _ _ _ _ h; cases h
  | cons r rs ih =>
    intro prev sz i f h
    rw [lcF] at h
    split at h
    · rename_i h0; injection h with h; subst h; exact h0
    · exact ih _ _ _ _ h
theorem urF_code {labs : List (List UInt8 × Int)} : ∀ (rs : List RL) (i : Nat) (f : Int × Int), urF labs i rs = some f → f.1 ≠ 0 := by
  intro rs
  induction rs with
  | nil => intro _ _ h; cases h
  | cons r rs ih =>
    intro i f h
    rw [urF] at h
    split at h
    · injection h with h; subst h; exact (show (27 : Int) ≠ 0 by decide)
    · exact ih _ _ h
theorem no_fault {t : Tab} {tx : List UInt8} (hc : (tabFault t).1 = 0 → t.cells ≤ 65536) (h : (asmFt t tx).1 = 0) : (tabFault t).1 = 0 ∧ ¬ 400000 < tx.length ∧ ∀ rs, RLs (splitB 10 tx) rs → (lcF t [] 0 0 rs = none ∧ urF (labF 0 rs) 0 rs = none) ∧ asmW t tx = wdF t (labF 0 rs) rs ∧ asmL t tx = labF 0 rs := by
  have ht : ¬ (tabFault t).1 ≠ 0 := fun hb => by
    unfold asmFt asmR at h; rw [if_pos hb] at h; exact hb h
  have hl : ¬ 400000 < tx.length := fun hb => by
    unfold asmFt asmR at h; rw [if_neg ht, if_pos hb] at h; exact absurd h (by decide)
  refine ⟨Classical.not_not.1 ht, hl, fun rs hrs => ?_⟩
  have hA := asm_refR ht hl (hc (Classical.not_not.1 ht)) hrs
  cases hlc : lcF t [] 0 0 rs with
  | some f =>
    rw [hlc] at hA
    unfold asmFt at h; rw [hA] at h
    exact absurd h (lcF_code _ _ _ _ _ hlc)
  | none =>
    cases hur : urF (labF 0 rs) 0 rs with
    | some f =>
      rw [hlc, hur] at hA
      unfold asmFt at h; rw [hA] at h
      exact absurd h (urF_code _ _ _ hur)
    | none =>
      rw [hlc, hur] at hA
      exact ⟨⟨rfl, rfl⟩, (asmW_r hA).1, (asmW_r hA).2.1⟩
set_option maxHeartbeats 2000000 in
set_option maxRecDepth 100000 in
theorem lawAssemble_ac (D : Nat) (L : Hl) (s : World) (hG : GW s) (t : Tab) (A : Option Addr) (n c : Nat) (hA : Inss s A n c t.ins) (tx : List UInt8) (htx : tx.length ≤ 9223372036854775807) : AC Tryz.prog D 3 [.agg #[.int .i64 t.cells, .slice A n c], St tx] L s fun v L' _ => v = .bool true ∧ L = L' := by
 have hcl : (tabFault t).1 = 0 → t.cells ≤ 65536 := fun h => by have := (tabG hA h).cells; omega
 refine AC_enter (TT := TT) (fn := Tryz.f3) TT_ok Tryz.func3 (by kernel_rfl) rfl Tryz.ntmps3 rfl (rs := [.tmp 4]) rfl [(0, _), (1, _)] rfl ?_
 refine JC_seq ?_
 refine JC_region ?_
 refine JO_boxA rfl rfl ?_
 intro β1 s1 h1
 refine JO_q (QE_as rfl) rfl ?_
 refine JO_nil ?_
 refine thenQ_n ?_
 refine JC_seq ?_
 refine JC_region ?_
 refine JO_q (QE_ldA 0 [_, _] rfl rfl rfl rfl rfl) rfl ?_
 refine JO_q (QE_mv rfl) rfl ?_
 refine JO_call (first := []) (captured := []) rfl rfl rfl (assembleP_ac D _ _ (hG.le h1) t _ _ _ (hA.le h1) tx) ?_
 rintro _ _ s2 h2 ⟨rfl, A5, n5, c5, rfl, hW5⟩
 refine JO_q (QE_mv rfl) rfl ?_
 refine JO_q (QE_ext rfl rfl) rfl ?_
 refine JO_q (QE_ext rfl rfl) rfl ?_
 refine JO_allocZ rfl [_, _] rfl rfl ?_
 intro β3 s3 h3
 refine JO_q (QE_as rfl) rfl ?_
 refine JO_st 0 [_, _] rfl rfl rfl rfl rfl rfl rfl rfl rfl ?_
 refine JO_nil ?_
 refine thenQ_n ?_
 refine JC_seq ?_
 refine JC_region ?_
 refine JO_q (QE_ldA 1 [_, _] rfl rfl rfl rfl rfl) rfl ?_
 refine JO_q (QE_mv rfl) rfl ?_
 refine JO_call (first := []) (captured := []) rfl rfl rfl (labelsP_ac D _ _ (hG.le (Le.trans (Le.trans h1 h2) h3)) t _ _ _ (hA.le (Le.trans (Le.trans h1 h2) h3)) tx) ?_
 rintro _ _ s4 h4 ⟨rfl, A6, n6, c6, rfl, hL6⟩
 refine JO_q (QE_mv rfl) rfl ?_
 refine JO_q (QE_ext rfl rfl) rfl ?_
 refine JO_q (QE_ext rfl rfl) rfl ?_
 refine JO_allocZ rfl [_, _] rfl rfl ?_
 intro β5 s5 h5
 refine JO_q (QE_as rfl) rfl ?_
 refine JO_st 0 [_, _] rfl rfl rfl rfl rfl rfl rfl rfl rfl ?_
 refine JO_nil ?_
 refine thenQ_n ?_
 refine JC_seq ?_
 refine JC_region ?_
 refine JO_q (QE_ldA 2 [_, _] rfl rfl rfl rfl rfl) rfl ?_
 refine JO_q (QE_mv rfl) rfl ?_
 refine JO_call (first := []) (captured := []) rfl rfl rfl (asmFault_ac D _ _ t _ _ _ (hA.le (Le.trans (Le.trans (Le.trans (Le.trans h1 h2) h3) h4) h5)) tx htx) ?_
 rintro _ _ s6 h6 ⟨rfl, f, rfl, hAF⟩
 have hfe := AF_asm hcl hAF
 subst hfe
 refine JO_allocZ rfl [_, _] rfl rfl ?_
 intro β7 s7 h7
 refine JO_st 0 [_, _] rfl rfl rfl rfl rfl rfl rfl rfl rfl ?_
 refine JO_nil ?_
 refine thenQ_n ?_
 refine JC_seq ?_
 refine JC_seq ?_
 refine JC_region ?_
 refine JO_call (first := []) (captured := []) rfl rfl rfl (translated_ac D _ _ (hG.le (Le.trans (Le.trans (Le.trans (Le.trans (Le.trans (Le.trans h1 h2) h3) h4) h5) h6) h7))) ?_
 rintro _ _ s8 h8 ⟨rfl, rfl⟩
 refine JO_q (QE_notT rfl) rfl ?_
 refine JO_q (QE_mv rfl) rfl ?_
 refine JO_gT rfl rfl ?_
 refine JO_q (QE_ldA 2 [_, _] rfl rfl rfl rfl rfl) rfl ?_
 refine JO_gT rfl rfl ?_
 refine JO_q (QE_ldA 0 [_, _] rfl rfl rfl rfl rfl) rfl ?_
 refine JO_gT rfl rfl ?_
 refine JO_q (QE_cast (v' := .bool false) (QE_ane rfl rfl (eqFault _ _ _ _)) (bF ⟨rfl, rfl⟩)) rfl ?_
 refine JO_q (QE_pickF rfl rfl) rfl ?_
 refine JO_q (QE_mv rfl) rfl ?_
 refine JO_gT rfl rfl ?_
 refine JO_q (QE_ldA 1 [_, _] rfl rfl rfl rfl rfl) rfl ?_
 refine JO_gT rfl rfl ?_
 refine JO_q (QE_ldA 0 [_, _] rfl rfl rfl rfl rfl) rfl ?_
 refine JO_gT rfl rfl ?_
 refine JO_q (QE_cast (v' := .bool false) (QE_ane rfl rfl (eqFault _ _ _ _)) (bF ⟨rfl, rfl⟩)) rfl ?_
 refine JO_q (QE_pickF rfl rfl) rfl ?_
 refine JO_nil ?_
 refine thenQ_n ?_
 refine JC_ifF rfl ?_
 refine JC_skip ?_
 refine thenQ_n ?_
 refine JC_seq ?_
 refine JC_seq ?_
 refine JC_region ?_
 refine JO_q (QE_fa0 rfl rfl rfl rfl) rfl ?_
 refine JO_q (QE_ld1 0 rfl rfl rfl rfl rfl) rfl ?_
 refine JO_q (QE_ne rfl rfl) rfl ?_
 refine JO_nil ?_
 refine thenQ_n ?_
 refine JC_ifN rfl (fun c9 => ?_) (fun c9 => ?_)
 ·
  have hbd := asm_void c9
  refine JC_seq ?_
  refine JC_region ?_
  refine JO_q (QE_mv rfl) rfl ?_
  refine JO_q (QE_lenS rfl rfl rfl) rfl ?_
  refine JO_q (QE_cast (v' := .bool true) (QE_eq rfl rfl) (bT (by have h := hW5.1; rw [hbd.1] at h; simp at h; omega))) rfl ?_
  refine JO_q (QE_mv rfl) rfl ?_
  refine JO_gT rfl rfl ?_
  refine JO_q (QE_mv rfl) rfl ?_
  refine JO_gT rfl rfl ?_
  refine JO_q (QE_lenS rfl rfl rfl) rfl ?_
  refine JO_gT rfl rfl ?_
  refine JO_q (QE_cast (v' := .bool true) (QE_eq rfl rfl) (bT (by have h := hL6.1; rw [hbd.2] at h; simp at h; omega))) rfl ?_
  refine JO_q (QE_pickT rfl rfl) rfl ?_
  refine JO_q (QE_as rfl) rfl ?_
  refine JO_nil ?_
  refine thenQ_n ?_
  refine JC_ret ?_
  refine thenQ_r ?_
  refine retQ_mk [_, _, _, _] L (.inr rfl) (.tmp rfl (.nil)) rfl (Le.trans (Le.trans (Le.trans (Le.trans (Le.trans (Le.trans (Le.trans h1 h2) h3) h4) h5) h6) h7) h8) (fun sR hS2 => ?_)
  exact ⟨rfl, rfl⟩
 ·
  obtain ⟨ht0, hshort, hall⟩ := no_fault hcl c9
  refine JC_skip ?_
  refine thenQ_n ?_
  refine JC_seq ?_
  refine JC_draw drawsMixed 14 rfl _ (fun _ h => h) ?_
  intro s10 h10
  refine JA_q 0 rfl (by kernel_rfl) (by kernel_rfl) (by kernel_rfl) trivial (QE_mv rfl) rfl ?_
  refine JA_q 1 rfl (by kernel_rfl) (by kernel_rfl) (by kernel_rfl) trivial (QE_ldA 3 [_, _] rfl rfl rfl rfl rfl) rfl ?_
  refine JA_q 2 rfl (by kernel_rfl) (by kernel_rfl) (by kernel_rfl) trivial (QE_mv rfl) rfl ?_
  refine JA_1 3 (by kernel_rfl) ?_
  refine JB_call rfl trivial (first := []) (captured := []) rfl rfl rfl (assembled_ac D _ _ t _ _ _ (hA.le (Le.trans (Le.trans (Le.trans (Le.trans (Le.trans (Le.trans (Le.trans (Le.trans h1 h2) h3) h4) h5) h6) h7) h8) h10)) (hcl ht0) tx (by omega) (fun rs h => (hall rs h).1)) ?_
  rintro _ _ s11 h11 ⟨rfl, A7, n7, c7, rs, rfl, hW7, hrs⟩
  refine ⟨fun _ _ h => h, ?_⟩
  refine JA_1 4 (by kernel_rfl) ?_
  refine JB_call rfl trivial (first := []) (captured := []) rfl rfl rfl (AC.isT (sameWords_ac D _ _ _ _ _ _ (hW5.le (Le.trans (Le.trans (Le.trans (Le.trans (Le.trans (Le.trans (Le.trans h3 h4) h5) h6) h7) h8) h10) h11)) _ _ _ _ (hW7.le (Le.refl (D := D) _))) (hall rs hrs).2.1) ?_
  rintro _ _ s12 h12 ⟨rfl, rfl⟩
  refine ⟨fun _ _ h => h, ?_⟩
  refine JA_q 5 rfl (by kernel_rfl) (by kernel_rfl) (by kernel_rfl) trivial (QE_mv rfl) rfl ?_
  refine JA_q 6 rfl (by kernel_rfl) (by kernel_rfl) (by kernel_rfl) ⟨_, rfl, rfl⟩ (QE_mv rfl) rfl ?_
  refine JA_q 7 rfl (by kernel_rfl) (by kernel_rfl) (by kernel_rfl) ⟨_, rfl, rfl⟩ (QE_ldA 3 [_, _] rfl rfl rfl rfl rfl) rfl ?_
  refine JA_q 8 rfl (by kernel_rfl) (by kernel_rfl) (by kernel_rfl) ⟨_, rfl, rfl⟩ (QE_mv rfl) rfl ?_
  refine JA_1 9 (by kernel_rfl) ?_
  refine JB_call rfl ⟨_, rfl, rfl⟩ (first := []) (captured := []) rfl rfl rfl (lines_ac D _ _ tx (by omega)) ?_
  rintro _ _ s13 h13 ⟨rfl, A8, n8, c8, rs2, rfl, hR8, hrs2⟩
  refine ⟨fun _ _ h => h, ?_⟩
  have hnl := splitF_len 10 [] tx
  have hrl2 : rs2.length = (splitF 10 [] tx).length := hrs2.1
  refine JA_1 10 (by kernel_rfl) ?_
  refine JB_call rfl ⟨_, rfl, rfl⟩ (first := []) (captured := []) rfl rfl rfl (labelsOf_ac D _ _ t _ _ _ (hA.le (Le.trans (Le.trans (Le.trans (Le.trans (Le.trans (Le.trans (Le.trans (Le.trans (Le.trans (Le.trans (Le.trans h1 h2) h3) h4) h5) h6) h7) h8) h10) h11) h12) h13)) _ _ _ rs2 (hR8.le (Le.refl (D := D) _)) (by omega)) ?_
  rintro _ _ s14 h14 ⟨rfl, A9, n9, c9, rfl, hL9⟩
  refine ⟨fun _ _ h => h, ?_⟩
  refine JA_1 11 (by kernel_rfl) ?_
  refine JB_call rfl ⟨_, rfl, rfl⟩ (first := []) (captured := []) rfl rfl rfl (AC.isT (sameLabels_ac D _ _ _ _ _ _ (hL6.le (Le.trans (Le.trans (Le.trans (Le.trans (Le.trans (Le.trans (Le.trans (Le.trans h5 h6) h7) h8) h10) h11) h12) h13) h14)) _ _ _ _ (hL9.le (Le.refl (D := D) _))) (hall rs2 hrs2).2.2) ?_
  rintro _ _ s15 h15 ⟨rfl, rfl⟩
  refine ⟨fun _ _ h => h, ?_⟩
  refine JA_q 12 rfl (by kernel_rfl) (by kernel_rfl) (by kernel_rfl) trivial (QE_pickT rfl rfl) rfl ?_
  refine JA_q 13 rfl (by kernel_rfl) (by kernel_rfl) (by kernel_rfl) trivial (QE_as rfl) rfl ?_
  refine JA_done (by kernel_rfl) ?_
  refine thenQ_n ?_
  refine JC_ret ?_
  refine retQ_mk [_, _, _, _] L (.inr rfl) (.tmp rfl (.nil)) rfl (Le.trans (Le.trans (Le.trans (Le.trans (Le.trans (Le.trans (Le.trans (Le.trans (Le.trans (Le.trans (Le.trans (Le.trans (Le.trans h1 h2) h3) h4) h5) h6) h7) h8) h10) h11) h12) h13) h14) h15) (fun sR hS2 => ?_)
  exact ⟨rfl, rfl⟩
end Go.Proofs.YteomcjpigoaioaaGreatDoor
namespace Go.Proofs.YteomcjpigoaioaaGreatDoor
open Go Go.FL Go.ChangeShapes Go.WideShapes Go.ChangeAt Go.RowKit Go.Deep
theorem own_knob : ownKnob Tryz.prog.godebug = none := by kernel_rfl
theorem laid_out : laidOutB Tryz.prog = true := by kernel_rfl
theorem mark_free (l : List Obj) : ∃ D, ∀ E, D ≤ E → ∀ o ∈ l, o ≠ dum E := by
  induction l with
  | nil => exact ⟨0, fun _ _ _ h => by cases h⟩
  | cons x l ih =>
    obtain ⟨D, hD⟩ := ih
    have hx : ∃ B, ∀ E, B ≤ E → x ≠ dum E := by
      cases x with
      | mapIter a n b c => exact ⟨n + 1, fun E hE h => by simp only [dum, Obj.mapIter.injEq] at h; omega⟩
      | _ => exact ⟨0, fun E _ h => by simp [dum] at h⟩
    obtain ⟨B, hB⟩ := hx
    refine ⟨max D B, fun E hE o ho => ?_⟩
    rcases List.mem_cons.1 ho with rfl | ho
    · exact hB E (by omega)
    · exact hD E (by omega) o ho
theorem mark_world (W : World) : ∃ D, ∀ k : Nat, W.heap[k]? ≠ some (dum D) := by
  obtain ⟨D, hD⟩ := mark_free W.heap.toList
  refine ⟨D, fun k hk => hD D (Nat.le_refl _) (dum D) ?_ rfl⟩
  rw [← Array.getElem?_toList] at hk
  exact List.mem_of_getElem? hk
theorem below_of {D : Nat} {W W' : World} (hD : ∀ k : Nat, W.heap[k]? ≠ some (dum D)) (h : Le D W W') : Below W.heap.size W W' :=
  ⟨h.os, h.tape, h.output, h.size, fun k hk => (h.block k hk).resolve_left (hD k)⟩
theorem law_calls {P : Program} {f : FuncId} {args : List Value} {W : World} (h : ∀ D, AC P D f args [] W fun v L' _ => v = .bool true ∧ [] = L') :
    Calls P f args.toArray W fun e W' => e = .returned (.bool true) ∧ Below W.heap.size W W' := by
  obtain ⟨D, hD⟩ := mark_world W
  refine ((h D).2 ⟨by simp, fun x hx => by cases hx⟩).mono ?_
  rintro e w' ⟨v, L', s', h1, rfl, h3, h4, rfl, rfl⟩
  exact ⟨h1, below_of hD h4⟩
section
variable {H : Type} {enc : TypeId × Value → H} {P : Program}
theorem trodAll_stays {W W' : World} (hl : laidOutB P = true) (hb : Below W.heap.size W W') : ∀ {ts : List TypeId} {vs : List Value} {ds : List (DataW H)} {ps : List MemPlace}, (∀ t ∈ ts, P.readableRec t = true ∧ t < P.types.size) → (∀ x ∈ ps, x.block < W.heap.size) →
    DataW.TrodAll enc P W 0 (fun _ => true) true ts vs ds ps → DataW.TrodAll enc P W' 0 (fun b => decide (b < W.heap.size)) true ts vs ds ps
  | [], _, _, _, _, _, h => by
    obtain ⟨rfl, rfl, rfl⟩ := trodAll_nil h
    exact trodAll_mk0
  | t :: ts, _, _, _, hts, hp, h => by
    obtain ⟨v, vs, d, ds, a, b, rfl, rfl, rfl, h1, h2⟩ := trodAll_cons h
    have ht := hts t (List.mem_cons_self ..)
    exact trodAll_cons_mk (Below.trod hl ht.1 ht.2 h1 hb fun x hx => hp x (List.mem_append_left _ hx)) (trodAll_stays hl hb (fun t' h' => hts t' (List.mem_cons_of_mem _ h')) (fun x hx => hp x (List.mem_append_right _ hx)) h2)
theorem law_post {fn : Func} {s : ChangeSpec} {W W' : World} {args : Array Value} {ds gs : List (DataW H)} {before : List MemPlace} {tb : TypeId} (hl : laidOutB P = true) (hts : ∀ t ∈ fn.params.toList, P.readableRec t = true ∧ t < P.types.size) (hr : fn.resultTypes = #[tb]) (hb : P.underlying tb = some .bool)
    (hv : s.vars = []) (hW : DataW.Whole enc P fn.params.toList s.vars false W args.toList ds gs before) (hfn : s.fn H ds = { results := [.lit (.bool true)], args := ds }) (hB : Below W.heap.size W W') : s.post enc P fn false true false false W args (.bool true) W' := by
  have hlt : ∀ x ∈ before, x.block < W.heap.size := fun x hx => hW.lt x hx
  have hW' := hW
  obtain ⟨p, q, hA, hV, rfl, _, _⟩ := hW
  rw [hv] at hV
  obtain ⟨rfl, rfl⟩ := trodVars_none hV
  refine ⟨ds, [], p ++ [], [], p, [], hW', ?_, ?_, ?_, hB.frame _, fun h => by cases h⟩
  · rw [List.append_nil, hfn, hr]; exact trodAll_cons_mk (shut_bool hb _) trodAll_mk0
  · rw [List.append_nil, hfn]; exact trodAll_stays hl hB hts (fun x hx => hlt x (List.mem_append_left _ hx)) hA
  · rw [List.append_nil, hfn, hv]; rfl
end
def Rd (W : World) (t : TypeId) (cs : List Value) : Prop := ∃ (H : Type) (enc : TypeId × Value → H) (n : Nat) (x : DataW H × List MemPlace), DataW.trod enc Tryz.prog W 0 (fun _ => true) true n t cs = some x
section
variable {W : World} {t e : TypeId} {cs : List Value}
theorem rd_int {k : IntKind} (ht : Tryz.prog.underlying t = some (.int k)) (h : Rd W t cs) : ∃ n, cs = [.int k n] ∧ (Lit.int k n).wf = true := by
  obtain ⟨H, enc, n, x, h⟩ := h
  obtain ⟨i, h1, _, h2⟩ := DataW.trod_int ht h
  exact ⟨i, h1, h2⟩
theorem rd_bool (ht : Tryz.prog.underlying t = some .bool) (h : Rd W t cs) : ∃ b, cs = [.bool b] := by
  obtain ⟨H, enc, n, x, h⟩ := h
  obtain ⟨i, h1, _⟩ := DataW.trod_bool ht h
  exact ⟨i, h1⟩
theorem rd_str (ht : Tryz.prog.underlying t = some .string) (h : Rd W t cs) : ∃ l : List UInt8, cs = [St l] ∧ l.length ≤ 9223372036854775807 := by
  obtain ⟨H, enc, n, x, h⟩ := h
  obtain ⟨s, h1, _, h2⟩ := DataW.trod_string ht h
  refine ⟨s.data.toList, by rw [h1], ?_⟩
  have : s.data.toList.length = s.size := by rw [Array.length_toList]; rfl
  simp only [maxLen] at h2
  omega
theorem rd_field {fs : Array Field} (ht : Tryz.prog.underlying t = some (.struct fs)) (h : Rd W t cs) {sz : Nat} (hc : Tryz.prog.cellsOf t = sz) : cs.length = sz ∧ ∀ (i : Nat) (f : Field), fs[i]? = some f → ∀ (ty off n : Nat), f.type = ty → f.offset = off → Tryz.prog.cellsOf ty = n → Rd W ty ((cs.drop off).take n) := by
  obtain ⟨H, enc, n, x, h⟩ := h
  obtain ⟨xs, m, _, _, h1, h2, h3⟩ := DataW.trod_struct ht h
  refine ⟨h1.trans hc, fun i f hf ty off k e1 e2 e3 => ?_⟩
  have hi : i < xs.length := by rw [h2]; exact (Array.getElem?_eq_some_iff.1 hf).1
  have := h3 i f hf
  rw [List.getElem?_eq_getElem hi, e1, e2, e3] at this
  exact ⟨H, enc, m, _, this⟩
theorem rd_slice {sz : Nat} (ht : Tryz.prog.underlying t = some (.slice e)) (hc : Tryz.prog.cellsOf e = sz) (hp : 0 < sz) (h : Rd W t cs) : ∃ A n c, cs = [.slice A n c] ∧ n ≤ c ∧ c ≤ 9223372036854775807 ∧
    ∀ i, i < n → ∃ b off ds, A = some ⟨b, off, none⟩ ∧ CellsAt W b (off + i * sz) ds ∧ ds.length = sz ∧ Rd W e ds := by
  obtain ⟨H, enc, q, x, h⟩ := h
  rcases open_slice ht h with ⟨rfl, _⟩ | ⟨a, len, cap, m, k, D, Pl, rfl, _, h1, h2, h3, _, h4⟩
  · exact ⟨none, 0, 0, rfl, Nat.le_refl _, by omega, fun i hi => by omega⟩
  · simp only [maxLen] at h2
    refine ⟨some a, len, cap, rfl, h1, by omega, fun i hi => ?_⟩
    obtain ⟨ds, k1, k2⟩ := h4 i (by simp at h3; omega)
    rw [hc] at k1
    obtain ⟨_, k3, k4⟩ := World.cells?_some k1
    obtain ⟨b, off, spot⟩ := a
    have hs : spot = none := by
      obtain ⟨ds0, j1, _⟩ := h4 0 (by simp at h3; omega)
      rw [hc, Nat.zero_mul] at j1
      obtain ⟨_, j3, j4⟩ := World.cells?_some j1
      have := j4 0 hp
      rw [List.getElem?_eq_getElem (by omega)] at this
      simpa [Addr.add] using World.cell?_spot this
    subst hs
    refine ⟨b, off, ds, rfl, fun j v hj => ?_, k3, H, enc, k, _, k2⟩
    have hl : j < sz := by rw [← k3]; exact (List.getElem?_eq_some_iff.1 hj).1
    have := k4 j hl
    rw [hj, add_lit, add_lit] at this
    exact this
theorem sl_of {α : Type} [Inhabited α] {R : World → α → List Value → Prop} {sz : Nat} (ht : Tryz.prog.underlying t = some (.slice e)) (hc : Tryz.prog.cellsOf e = sz) (hp : 0 < sz) (h : Rd W t cs) (hel : ∀ ds, Rd W e ds → ∃ x : α, R W x ds) : ∃ A n c l, cs = [.slice A n c] ∧ Sl sz R W A n c l := by
  obtain ⟨A, n, c, h1, h2, h3, h4⟩ := rd_slice ht hc hp h
  obtain ⟨f, hf⟩ := choose_lt (α := α) (p := fun i x => ∃ b off ds, A = some ⟨b, off, none⟩ ∧ CellsAt W b (off + i * sz) ds ∧ ds.length = sz ∧ R W x ds) (n := n) (fun i hi => by
    obtain ⟨b, off, ds, k1, k2, k3, k4⟩ := h4 i hi
    obtain ⟨x, hx⟩ := hel ds k4
    exact ⟨x, b, off, ds, k1, k2, k3, hx⟩)
  refine ⟨A, n, c, (List.range n).map f, h1, by simp, h2, h3, fun i x hi => ?_⟩
  rw [List.getElem?_map] at hi
  cases hr : (List.range n)[i]? with
  | none => simp [hr] at hi
  | some j =>
    simp [hr] at hi
    obtain ⟨hi1, hi2⟩ := List.getElem?_eq_some_iff.1 hr
    simp at hi1 hi2
    subst hi2; subst hi
    exact hf i hi1
theorem len2 {l : List Value} (h : l.length = 2) : ∃ a b, l = [a, b] := by match l, h with | [a, b], _ => exact ⟨a, b, rfl⟩
theorem len4 {l : List Value} (h : l.length = 4) : ∃ a b c d, l = [a, b, c, d] := by match l, h with | [a, b, c, d], _ => exact ⟨a, b, c, d, rfl⟩
theorem len6 {l : List Value} (h : l.length = 6) : ∃ a b c d e f, l = [a, b, c, d, e, f] := by match l, h with | [a, b, c, d, e, f], _ => exact ⟨a, b, c, d, e, f, rfl⟩
theorem one_eq {a b : Value} (h : [a] = [b]) : a = b := by injection h
theorem u32_wf {n : Int} (h : (Lit.int .u32 n).wf = true) : U32 n := by have := bounds_u32 h; exact ⟨by omega, by omega⟩
end
end Go.Proofs.YteomcjpigoaioaaGreatDoor
namespace Go.Proofs.YteomcjpigoaioaaGreatDoor
open Go Go.FL Go.ChangeShapes Go.WideShapes Go.ChangeAt Go.RowKit
set_option maxRecDepth 100000
instance : Inhabited Ac := ⟨⟨0, 0, ⟨0, 0⟩, ⟨0, 0⟩⟩⟩
instance : Inhabited Ins := ⟨⟨[], 0, false, []⟩⟩
theorem c_int : Tryz.prog.cellsOf 3 = 1 := by kernel_rfl
theorem c_u32 : Tryz.prog.cellsOf 52 = 1 := by kernel_rfl
theorem c_bool : Tryz.prog.cellsOf 4 = 1 := by kernel_rfl
theorem c_str : Tryz.prog.cellsOf 9 = 1 := by kernel_rfl
theorem c_term : Tryz.prog.cellsOf 115 = 2 := by kernel_rfl
theorem c_act : Tryz.prog.cellsOf 117 = 6 := by kernel_rfl
theorem c_acts : Tryz.prog.cellsOf 95 = 1 := by kernel_rfl
theorem c_ins : Tryz.prog.cellsOf 97 = 4 := by kernel_rfl
theorem c_inss : Tryz.prog.cellsOf 22 = 1 := by kernel_rfl
theorem c_tab : Tryz.prog.cellsOf 24 = 2 := by kernel_rfl
section
variable {W : World} {cs : List Value}
theorem rd_term (h : Rd W 115 cs) : ∃ x : Tm, cs = [.int .i64 x.kind, .int .u32 x.val] ∧ U32 x.val := by
  obtain ⟨h1, h2⟩ := rd_field Tryz.underlying115 h c_term
  obtain ⟨a, b, rfl⟩ := len2 h1
  obtain ⟨k, e1, _⟩ := rd_int Tryz.underlying3 (h2 0 _ rfl _ _ _ rfl rfl c_int)
  obtain ⟨v, e2, w2⟩ := rd_int Tryz.underlying52 (h2 1 _ rfl _ _ _ rfl rfl c_u32)
  have z1 : a = .int .i64 k := one_eq e1
  have z2 : b = .int .u32 v := one_eq e2
  subst z1; subst z2
  exact ⟨⟨k, v⟩, rfl, u32_wf w2⟩
theorem rd_action (h : Rd W 117 cs) : ∃ a : Ac, cs = a.cs ∧ U32 a.x.val ∧ U32 a.y.val := by
  obtain ⟨h1, h2⟩ := rd_field Tryz.underlying117 h c_act
  obtain ⟨a, b, c, d, e, f, rfl⟩ := len6 h1
  obtain ⟨k, e1, _⟩ := rd_int Tryz.underlying3 (h2 0 _ rfl _ _ _ rfl rfl c_int)
  obtain ⟨t, e2, _⟩ := rd_int Tryz.underlying3 (h2 1 _ rfl _ _ _ rfl rfl c_int)
  obtain ⟨x, e3, wx⟩ := rd_term (h2 2 _ rfl _ _ _ rfl rfl c_term)
  obtain ⟨y, e4, wy⟩ := rd_term (h2 3 _ rfl _ _ _ rfl rfl c_term)
  have z1 : a = .int .i64 k := one_eq e1
  have z2 : b = .int .i64 t := one_eq e2
  have y3 : [c, d] = [.int .i64 x.kind, .int .u32 x.val] := e3
  have y4 : [e, f] = [.int .i64 y.kind, .int .u32 y.val] := e4
  injection y3 with z3 x3'
  injection y4 with z4 x4'
  have z3' : d = .int .u32 x.val := one_eq x3'
  have z4' : f = .int .u32 y.val := one_eq x4'
  subst z1; subst z2; subst z3; subst z3'; subst z4; subst z4'
  exact ⟨⟨k, t, x, y⟩, rfl, wx, wy⟩
theorem rd_acts (h : Rd W 95 cs) : ∃ A n c l, cs = [.slice A n c] ∧ Acs W A n c l := sl_of Tryz.underlying95 c_act (by decide) h fun _ hd => rd_action hd
theorem rd_ins (h : Rd W 97 cs) : ∃ x : Ins, InsR W x cs := by
  obtain ⟨h1, h2⟩ := rd_field Tryz.underlying97 h c_ins
  obtain ⟨a, b, c, d, rfl⟩ := len4 h1
  obtain ⟨l, e1, w1⟩ := rd_str Tryz.underlying9 (h2 0 _ rfl _ _ _ rfl rfl c_str)
  obtain ⟨v, e2, w2⟩ := rd_int Tryz.underlying52 (h2 1 _ rfl _ _ _ rfl rfl c_u32)
  obtain ⟨o, e3⟩ := rd_bool Tryz.underlying4 (h2 2 _ rfl _ _ _ rfl rfl c_bool)
  obtain ⟨A, n, q, la, e4, w4⟩ := rd_acts (h2 3 _ rfl _ _ _ rfl rfl c_acts)
  have z1 : a = St l := one_eq e1
  have z2 : b = .int .u32 v := one_eq e2
  have z3 : c = .bool o := one_eq e3
  have z4 : d = .slice A n q := one_eq e4
  subst z1; subst z2; subst z3; subst z4
  exact ⟨⟨l, v, o, la⟩, A, n, q, rfl, w4, w1, u32_wf w2⟩
theorem rd_inss (h : Rd W 22 cs) : ∃ A n c l, cs = [.slice A n c] ∧ Inss W A n c l := sl_of Tryz.underlying22 c_ins (by decide) h fun _ hd => rd_ins hd
theorem rd_table (h : Rd W 24 cs) : ∃ (t : Tab) (A : Option Addr) (n c : Nat), cs = [.int .i64 t.cells, .slice A n c] ∧ Inss W A n c t.ins := by
  obtain ⟨h1, h2⟩ := rd_field Tryz.underlying24 h c_tab
  obtain ⟨a, b, rfl⟩ := len2 h1
  obtain ⟨k, e1, _⟩ := rd_int Tryz.underlying3 (h2 0 _ rfl _ _ _ rfl rfl c_int)
  obtain ⟨A, n, c, l, e2, w2⟩ := rd_inss (h2 1 _ rfl _ _ _ rfl rfl c_inss)
  have z1 : a = .int .i64 k := one_eq e1
  have z2 : b = .slice A n c := one_eq e2
  subst z1; subst z2
  exact ⟨⟨k, l⟩, A, n, c, rfl, w2⟩
end
section
variable {H : Type} {enc : TypeId × Value → H} {W : World} {base : Nat} {v : Value} {d : DataW H} {ps : List MemPlace}
theorem rd_of {t : TypeId} (hd : DataW.Trod enc Tryz.prog W 0 (fun _ => true) true t v d ps) : Rd W t v.cells.toList := by
  obtain ⟨n, h⟩ := hd
  exact ⟨H, enc, n, _, h⟩
theorem agg_of {t : TypeId} {fs : Array Field} (ht : Tryz.prog.underlying t = some (.struct fs)) (hv : Value.okWide Tryz.prog W .any base t v) : ∃ cs, v = .agg cs := by
  unfold Value.okWide at hv
  rw [ht] at hv
  obtain ⟨cs, h, _⟩ := hv
  exact ⟨cs, h⟩
theorem arg_table (hv : Value.okWide Tryz.prog W .any base 24 v) (hd : DataW.Trod enc Tryz.prog W 0 (fun _ => true) true 24 v d ps) : ∃ (t : Tab) (A : Option Addr) (n c : Nat), v = .agg #[.int .i64 t.cells, .slice A n c] ∧ Inss W A n c t.ins := by
  obtain ⟨cs, rfl⟩ := agg_of Tryz.underlying24 hv
  obtain ⟨t, A, n, c, h1, h2⟩ := rd_table (rd_of hd)
  refine ⟨t, A, n, c, ?_, h2⟩
  simp only [Value.cells] at h1
  rw [← h1]
end
end Go.Proofs.YteomcjpigoaioaaGreatDoor
namespace Go.Proofs.YteomcjpigoaioaaGreatDoor
open Go Go.FL Go.RowKit
theorem row_err (u : TypeId) (hu : Tryz.prog.typeName? 3 u = Tryz.prog.typeName? 3 247) : u = 247 :=
  have hn : Tryz.prog.typeName? 3 247 = some ("*" ++ "errors.errorString") := by kernel_rfl
  typeName_ptr_named (nm := "errors.errorString") (by kernel_rfl) (by kernel_rfl) (by decide) u (hu.trans hn)
theorem gw_var {W : World} {nm : String} {g : Nat} {cs : Array Value} (hg : Tryz.prog.globalNamed nm = some g) (h : W.var? Tryz.prog nm = some cs) : ∃ ty fz, W.heap[g]? = some (.cells cs ty fz) := by
  unfold World.var? at h
  rw [hg] at h
  simp only [Option.bind_some] at h
  split at h
  · rename_i c t f hb
    injection h with h
    subst h
    exact ⟨t, f, hb⟩
  · cases h
set_option maxRecDepth 100000 in
theorem gw_of {W : World} (h : laidMetH Tryz.prog Rows.asmPackIsInverseRow.laid W) : GW W := by
  rw [MakeChecks.laidMetH_plain _ _ _ (by kernel_rfl)] at h
  have h2 := h.tail.tail
  have hpow := Lib.tabIs_of_head (zs := Lib.pow10Tab) (k := .u64) (g := 0) (by kernel_rfl) (by kernel_rfl) Tryz.underlying220 Tryz.underlying123 (by kernel_rfl) (by kernel_rfl) h2
  have h4 := h2.tail.tail
  obtain ⟨a1, s1, hv1, _⟩ := laid_sentinel (g := 7) h4 (by kernel_rfl) (by kernel_rfl) Tryz.underlying106 (fun u hu => row_err u (hu.trans (by kernel_rfl))) Tryz.underlying247 Tryz.underlying249 rfl rfl Tryz.underlying9 (by kernel_rfl) (by kernel_rfl)
  obtain ⟨a2, s2, hv2, _⟩ := laid_sentinel (g := 6) h4.tail (by kernel_rfl) (by kernel_rfl) Tryz.underlying106 (fun u hu => row_err u (hu.trans (by kernel_rfl))) Tryz.underlying247 Tryz.underlying249 rfl rfl Tryz.underlying9 (by kernel_rfl) (by kernel_rfl)
  refine ⟨?_, ?_, ?_⟩
  · exact gw_var (g := 0) (by kernel_rfl) hpow
  · exact ⟨_, _, World.var?_cell (g := 6) (by kernel_rfl) hv2 0⟩
  · exact ⟨_, _, World.var?_cell (g := 7) (by kernel_rfl) hv1 0⟩
end Go.Proofs.YteomcjpigoaioaaGreatDoor
namespace Go.Proofs.YteomcjpigoaioaaGreatDoor
open Go Go.FL Go.ChangeShapes Go.WideShapes Go.ChangeAt Go.RowKit Go.Deep
set_option maxRecDepth 100000
section
variable {H : Type} {enc : TypeId × Value → H} {W : World} {base : Nat} {v : Value} {d : DataW H} {ps : List MemPlace}
theorem arg_str (hv : Value.okWide Tryz.prog W .any base 9 v) (hd : DataW.Trod enc Tryz.prog W 0 (fun _ => true) true 9 v d ps) : ∃ l, v = St l ∧ l.length ≤ 9223372036854775807 := by
  obtain ⟨x, h1, h2⟩ := rd_str Tryz.underlying9 (rd_of hd)
  obtain ⟨u, rfl⟩ := okWide_string Tryz.underlying9 hv
  exact ⟨x, one_eq h1, h2⟩
end
end Go.Proofs.YteomcjpigoaioaaGreatDoor
namespace Go.Proofs.YteomcjpigoaioaaGreatDoor
open Go Go.FL Go.ChangeShapes Go.WideShapes Go.ChangeAt Go.RowKit
theorem asmAssembleMatchesSpec_reads : ∀ t ∈ Tryz.f3.params.toList, Tryz.prog.readableRec t = true ∧ t < Tryz.prog.types.size := by
  rw [Tryz.params3]
  intro t ht
  simp only [List.mem_cons, List.not_mem_nil, or_false] at ht
  rcases ht with rfl | rfl <;> exact ⟨by kernel_rfl, of_decide_eq_true (by kernel_rfl)⟩
set_option maxRecDepth 100000 in
theorem asmAssembleMatchesSpec_contract (H : Type) (enc : TypeId × Value → H) (W : World) (base : Nat) (args : Array Value) (ds gs : List (DataW H)) (before : List MemPlace)
    (hval : ∀ (j : Nat) t v, Tryz.f3.params[j]? = some t → args[j]? = some v → Value.okWide Tryz.prog W .any base t v)
    (hW : DataW.Whole enc Tryz.prog Tryz.f3.params.toList Rows.asmAssembleMatchesSpecSpec.vars false W args.toList ds gs before) (hL : laidMetH Tryz.prog Rows.asmAssembleMatchesSpecRow.laid W) :
    Calls Tryz.prog 3 args W fun e W' => ∃ v, e = .returned v ∧ Rows.asmAssembleMatchesSpecSpec.post enc Tryz.prog Tryz.f3 false true false false W args v W' := by
  have hW' := hW
  obtain ⟨p, q, hA0, hV, rfl, hfz, hnd⟩ := hW'
  have hA : DataW.TrodAll enc Tryz.prog W 0 (fun _ => true) true Tryz.f3.params.toList args.toList ds p := hA0
  rw [Tryz.params3] at hA hval
  obtain ⟨v0, vs0, d0, ds0, p0, q0, hargs0, rfl, rfl, h0, r0⟩ := trodAll_cons hA
  obtain ⟨v1, vs1, d1, ds1, p1, q1, hargs1, rfl, rfl, h1, r1⟩ := trodAll_cons r0
  obtain ⟨rfl, rfl, rfl⟩ := trodAll_nil r1
  obtain rfl : args = #[v0, v1] := by cases args; simp_all
  obtain ⟨rfl, rfl⟩ := trodVars_none hV
  obtain ⟨t0, A0, n0, c0, rfl, hT0⟩ := arg_table (hval 0 24 v0 rfl rfl) h0
  obtain ⟨l1, rfl, hL1⟩ := arg_str (hval 1 9 v1 rfl rfl) h1
  refine (law_calls (args := [_, _]) fun D => lawAssemble_ac D [] W (gw_of hL) t0 A0 n0 c0 hT0 l1 hL1).mono fun e W' ⟨he, hg⟩ => ?_
  subst he
  exact ⟨_, rfl, law_post laid_out asmAssembleMatchesSpec_reads (by kernel_rfl) Tryz.underlying4 rfl hW rfl hg⟩
set_option maxRecDepth 100000 in
theorem asmAssembleMatchesSpec_lifted (os : Os) (started : os.Started) (H : Type) (enc : TypeId × Value → H) :
    ReturnsInHanded {} Tryz.checked os 3 .any (fun w args => (Rows.asmAssembleMatchesSpecSpec.pre enc Tryz.prog Tryz.f3 [] false w args ∧ laidMetH Tryz.prog Rows.asmAssembleMatchesSpecRow.laid w) ∧ sizedMet enc Tryz.prog Tryz.f3 (OpenSpec.ofChange Rows.asmAssembleMatchesSpecSpec) false w args) (Rows.asmAssembleMatchesSpecSpec.post enc Tryz.prog Tryz.f3 false true false false) := by
  refine returnsInHanded_of_change_and (C := Tryz.checked) (X := fun w _ => laidMetH Tryz.prog Rows.asmAssembleMatchesSpecRow.laid w) (fun _ _ _ hh h => h.of_heap hh) own_knob started (by kernel_rfl) Tryz.func3
    (ChangeSpec.witness_shaped (enc := enc) (C := Tryz.checked) (os := os) (X := fun w _ => laidMetH Tryz.prog Rows.asmAssembleMatchesSpecRow.laid w) false (World.laidAll Tryz.prog os Rows.asmAssembleMatchesSpecRow.laid) #[.agg #[.int .i64 0, .slice none 0 0], .string .empty] 8 (World.laidAll_os _ _ _)
      (World.shaped_of_ZipB (by kernel_rfl) (by kernel_rfl)) (by kernel_rfl) (by kernel_rfl) (by kernel_rfl)
      (by rw [MakeChecks.laidMetH_plain _ _ _ (by kernel_rfl)]; exact laidMet_laidAll _ (by kernel_rfl) (by kernel_rfl))) ?_
  intro W base args ds gs before hval hW _ _ hL _
  exact asmAssembleMatchesSpec_contract H enc W base args ds gs before hval hW hL
theorem asmAssembleMatchesSpec_said : Rows.AsmAssembleMatchesSpecSaid :=
  OpenClaim.holds_of_wide 3 Tryz.f3 rfl rfl rfl rfl rfl rfl rfl ⟨rfl, rfl, rfl, rfl, rfl⟩ rfl rfl rfl rfl rfl (by kernel_rfl) Tryz.func3 (by kernel_rfl)
    (of_decide_eq_true (by kernel_rfl)) (by unfold Func.isWrapper; first | (rw [if_pos (by decide +kernel)]; kernel_rfl) | (rw [if_neg (by decide +kernel)]; exact ⟨rfl, rfl⟩))
    (fun os started H enc _ => asmAssembleMatchesSpec_lifted os started H enc)
theorem asmAssembleMatchesSpec_plain (f : FuncId) (fn : Func) (hf : Tryz.pinned.checked.prog.funcNamed Rows.asmAssembleMatchesSpecRow.func = some f) (hfn : Tryz.pinned.checked.prog.funcs[f]? = some fn) : true = Tryz.pinned.checked.prog.looks [] ∧ ∀ (j : Nat) t, fn.params[j]? = some t → Tryz.pinned.checked.prog.wantsStandIn t = false := by
  obtain rfl : f = 3 := Option.some.inj ((show Tryz.prog.funcNamed Rows.asmAssembleMatchesSpecRow.func = some 3 by kernel_rfl).symm.trans hf) |>.symm
  obtain rfl : fn = Tryz.f3 := (Option.some.inj (Tryz.func3.symm.trans hfn)).symm
  exact ⟨by kernel_rfl, fun j t ht => by
    rw [Tryz.params3] at ht
    have hm : t ∈ [24, 9] := by simpa using Array.mem_of_getElem? ht
    have hall : ([24, 9].all fun u => !Tryz.prog.wantsStandIn u) = true := by kernel_rfl
    exact (show Tryz.prog.wantsStandIn t = false by simpa using List.all_eq_true.1 hall t hm)⟩
theorem asmAssembleMatchesSpec_holds : Rows.AsmAssembleMatchesSpecCardSaid :=
  Claim7.holds_tied_plain_at .later [] _ _ _ _ asmAssembleMatchesSpec_said (fun _ h => by cases h) (by kernel_rfl) (fun _ h => by cases h) asmAssembleMatchesSpec_row_tie rfl ⟨rfl, rfl⟩ (by kernel_rfl) rfl asmAssembleMatchesSpec_plain (by kernel_rfl)
end Go.Proofs.YteomcjpigoaioaaGreatDoor
