/- Part 6 of the proof of asmAssembleMatchesSpec_holds: texts V21. -/
import Derived.Test.YteomcjpigoaioaaGreatDoorQ3x5
set_option linter.unusedVariables false
set_option linter.unusedSimpArgs false
set_option linter.unnecessarySimpa false
namespace Go.Proofs.YteomcjpigoaioaaGreatDoor
open Go.FL
attribute [local irreducible] JC JO JA JB thenQ blockQ retQ AC fill CellsAt QE Ev Mid
set_option maxHeartbeats 20000000 in
set_option maxRecDepth 100000 in
theorem defaultO_ac (D : Nat) (L : Hl) (s : World) : AC Tryz.prog D 46 [] L s fun v L' s' => ∃ M', L' = M' ++ L ∧ ∀ s2, Le D s' s2 → Pub M' s2 → ∃ A n c, v = .agg #[.int .i64 65536, .slice A n c] ∧ Inss s2 A n c defT.ins := by
 refine AC_enter (TT := TT) (fn := Tryz.f46) TT_ok Tryz.func46 (by kernel_rfl) rfl Tryz.ntmps46 rfl (rs := [.cell 0 24]) rfl [] rfl ?_
 refine JC_seq ?_
 refine JC_region ?_
 refine JO_allocZ rfl [_, _] rfl rfl ?_
 intro β1 s1 h1
 refine JO_nil ?_
 refine thenQ_n ?_
 refine JC_seq ?_
 refine JC_region ?_
 refine JO_call (first := []) (captured := []) rfl rfl rfl (reg_ac D _ _ _) ?_
 rintro _ _ s2 h2 ⟨rfl, rfl⟩
 refine JO_call (first := []) (captured := []) rfl rfl rfl (reg_ac D _ _ _) ?_
 rintro _ _ s3 h3 ⟨rfl, rfl⟩
 refine JO_call (first := []) (captured := []) rfl rfl rfl (reg_ac D _ _ _) ?_
 rintro _ _ s4 h4 ⟨rfl, rfl⟩
 refine JO_call (first := []) (captured := []) rfl rfl rfl (reg_ac D _ _ _) ?_
 rintro _ _ s5 h5 ⟨rfl, rfl⟩
 refine JO_call (first := []) (captured := []) rfl rfl rfl (reg_ac D _ _ _) ?_
 rintro _ _ s6 h6 ⟨rfl, rfl⟩
 refine JO_allocZ rfl [_, _] rfl rfl ?_
 intro β7 s7 h7
 refine JO_allocZ rfl [_, _] rfl rfl ?_
 intro β8 s8 h8
 refine JO_allocZ rfl [_, _] rfl rfl ?_
 intro β9 s9 h9
 refine JO_allocZ rfl [_, _] rfl rfl ?_
 intro β10 s10 h10
 refine JO_allocZ rfl [_, _] rfl rfl ?_
 intro β11 s11 h11
 refine JO_st 4 [_, _] rfl rfl rfl rfl rfl rfl rfl rfl rfl ?_
 refine JO_st 3 [_, _] rfl rfl rfl rfl rfl rfl rfl rfl rfl ?_
 refine JO_st 2 [_, _] rfl rfl rfl rfl rfl rfl rfl rfl rfl ?_
 refine JO_st 1 [_, _] rfl rfl rfl rfl rfl rfl rfl rfl rfl ?_
 refine JO_st 0 [_, _] rfl rfl rfl rfl rfl rfl rfl rfl rfl ?_
 refine JO_nil ?_
 refine thenQ_n ?_
 refine JC_seq ?_
 refine JC_region ?_
 refine JO_q (QE_build [(_, _)] [_, _] rfl rfl rfl rfl rfl rfl) rfl ?_
 refine JO_allocZ rfl [_, _] rfl rfl ?_
 intro β12 s12 h12
 refine JO_st 0 [_, _] rfl rfl rfl rfl rfl rfl rfl rfl rfl ?_
 refine JO_nil ?_
 refine thenQ_n ?_
 refine JC_seq ?_
 refine JC_region ?_
 refine JO_q (QE_build [(_, _)] [_, _] rfl rfl rfl rfl rfl rfl) rfl ?_
 refine JO_allocZ rfl [_, _] rfl rfl ?_
 intro β13 s13 h13
 refine JO_st 0 [_, _] rfl rfl rfl rfl rfl rfl rfl rfl rfl ?_
 refine JO_nil ?_
 refine thenQ_n ?_
 refine JC_seq ?_
 refine JC_region ?_
 refine JO_q (QE_func rfl) rfl ?_
 refine JO_q (QE_as rfl) rfl ?_
 refine JO_nil ?_
 refine thenQ_n ?_
 refine JC_seq ?_
 refine JC_region ?_
 refine JO_q (QE_as rfl) rfl ?_
 refine JO_nil ?_
 refine thenQ_n ?_
 refine JC_cutN (γ := Nat × Option Addr × Nat) (fun g => [(10, .pointer (some ⟨g.1, 0, none⟩))]) (fun g => [(g.1, cb [.slice g.2.1 2 g.2.2] 95)]) (fun g tw => Acs tw g.2.1 2 g.2.2 popL) (fun _ _ _ h hl => h.le hl) ?_ ?_
 ·
  refine JC_draw drawsMixed 12 rfl _ (fun _ h => h) ?_
  intro s15 h15
  refine JA_q 0 rfl (by kernel_rfl) (by kernel_rfl) (by kernel_rfl) trivial (QE_mv rfl) rfl ?_
  refine JA_q 1 rfl (by kernel_rfl) (by kernel_rfl) (by kernel_rfl) trivial (QE_ldA 4 [_, _] rfl rfl rfl rfl rfl) rfl ?_
  refine JA_q 5 rfl (by kernel_rfl) (by kernel_rfl) (by kernel_rfl) trivial (QE_mv rfl) rfl ?_
  refine JA_q 6 rfl (by kernel_rfl) (by kernel_rfl) (by kernel_rfl) trivial (QE_ldA 4 [_, _] rfl rfl rfl rfl rfl) rfl ?_
  refine JA_3 2 7 10 (by kernel_rfl) ?_ ?_ ?_
  ·
   refine JB_call rfl trivial (first := []) (captured := []) rfl rfl rfl (num_ac D _ _ _) ?_
   rintro _ _ s16 h16 ⟨rfl, rfl⟩
   refine ⟨fun _ _ h => h, ?_⟩
   refine JA_3 3 7 10 (by kernel_rfl) ?_ ?_ ?_
   ·
    refine JB_bs rfl trivial [(_, _), (_, _)] [_, _, _, _] rfl rfl rfl rfl rfl rfl rfl rfl rfl ?_
    intro βn s17 h17 hb6_3
    refine JA_3 4 7 10 (by kernel_rfl) ?_ ?_ ?_
    ·
     refine JB_call rfl trivial (first := []) (captured := []) rfl rfl rfl (do_ac D _ _ _ _ _ _ _ _ (tms2 (hb6_3.le (Le.refl (D := D) _)) (uD rfl) (uD rfl)) (by decide)) ?_
     rintro _ _ s18 h18 ⟨rfl, rfl⟩
     refine ⟨fun _ _ h => h, ?_⟩
     refine JA_2 7 10 (by kernel_rfl) ?_ ?_
     ·
      refine JB_bs rfl trivial [(_, _)] [_, _] rfl rfl rfl rfl rfl rfl rfl rfl rfl ?_
      intro βn s19 h19 hb6_7
      refine JA_2 8 10 (by kernel_rfl) ?_ ?_
      ·
       refine JB_call rfl trivial (first := []) (captured := []) rfl rfl rfl (do_ac D _ _ _ _ _ _ _ _ (tms1 (hb6_7.le (Le.refl (D := D) _)) (uD rfl)) (by decide)) ?_
       rintro _ _ s20 h20 ⟨rfl, rfl⟩
       refine ⟨fun _ _ h => h, ?_⟩
       refine JA_2 9 10 (by kernel_rfl) ?_ ?_
       ·
        refine JB_bs rfl trivial [(_, _), (_, _)] [_, _, _, _, _, _, _, _, _, _, _, _] rfl rfl rfl rfl rfl rfl rfl rfl rfl ?_
        intro βn s21 h21 hb6_9
        refine JA_1 10 (by kernel_rfl) ?_
        refine JB_alloc rfl trivial rfl [_] rfl rfl ?_
        intro β22 s22 h22
        refine JA_1 11 (by kernel_rfl) ?_
        refine JB_st rfl trivial 0 [_] rfl rfl rfl rfl rfl rfl rfl rfl rfl (fun _ hx => sub_mem (sbY (sbY (sbY (sbY (sbY (sbY (sbY (sbY (sbE _))))))))) hx) ?_
        refine JA_done (by kernel_rfl) ?_
        refine thenQ_n (MidN.mk (β22, _, _) [] (Le.trans (Le.trans (Le.trans (Le.trans (Le.trans (Le.trans (Le.trans h15 h16) h17) h18) h19) h20) h21) h22) (Keeps.cons rfl (Suf.keeps (by repeat (first | exact Suf.refl | refine Suf.push rfl ?_)))) (List.Perm.refl _) (acs2 (hb6_9.le h22) ⟨⟨(uD rfl), (uD rfl)⟩, ⟨(uD rfl), (uD rfl)⟩⟩))
       ·
        refine JB_alloc rfl trivial rfl [_] rfl rfl ?_
        intro β23 s23 h23
        refine JA_1 9 (by kernel_rfl) ?_
        refine JB_bs rfl trivial [(_, _), (_, _)] [_, _, _, _, _, _, _, _, _, _, _, _] rfl rfl rfl rfl rfl rfl rfl rfl rfl ?_
        intro βn s24 h24 hb6_9
        refine JA_1 11 (by kernel_rfl) ?_
        refine JB_st rfl trivial 0 [_] rfl rfl rfl rfl rfl rfl rfl rfl rfl (fun _ hx => sub_mem (sbY (sbY (sbY (sbY (sbY (sbY (sbY (sbY (sbE _))))))))) hx) ?_
        refine JA_done (by kernel_rfl) ?_
        refine thenQ_n (MidN.mk (β23, _, _) [] (Le.trans (Le.trans (Le.trans (Le.trans (Le.trans (Le.trans (Le.trans h15 h16) h17) h18) h19) h20) h23) h24) (Keeps.cons rfl (Suf.keeps (by repeat (first | exact Suf.refl | refine Suf.push rfl ?_)))) (List.Perm.refl _) (acs2 (hb6_9.le (Le.refl (D := D) _)) ⟨⟨(uD rfl), (uD rfl)⟩, ⟨(uD rfl), (uD rfl)⟩⟩))
      ·
       refine JB_alloc rfl trivial rfl [_] rfl rfl ?_
       intro β25 s25 h25
       refine JA_1 8 (by kernel_rfl) ?_
       refine JB_call rfl trivial (first := []) (captured := []) rfl rfl rfl (do_ac D _ _ _ _ _ _ _ _ (tms1 (hb6_7.le h25) (uD rfl)) (by decide)) ?_
       rintro _ _ s26 h26 ⟨rfl, rfl⟩
       refine ⟨fun _ _ h => h, ?_⟩
       refine JA_1 9 (by kernel_rfl) ?_
       refine JB_bs rfl trivial [(_, _), (_, _)] [_, _, _, _, _, _, _, _, _, _, _, _] rfl rfl rfl rfl rfl rfl rfl rfl rfl ?_
       intro βn s27 h27 hb6_9
       refine JA_1 11 (by kernel_rfl) ?_
       refine JB_st rfl trivial 0 [_] rfl rfl rfl rfl rfl rfl rfl rfl rfl (fun _ hx => sub_mem (sbY (sbY (sbY (sbY (sbY (sbY (sbY (sbY (sbE _))))))))) hx) ?_
       refine JA_done (by kernel_rfl) ?_
       refine thenQ_n (MidN.mk (β25, _, _) [] (Le.trans (Le.trans (Le.trans (Le.trans (Le.trans (Le.trans (Le.trans h15 h16) h17) h18) h19) h25) h26) h27) (Keeps.cons rfl (Suf.keeps (by repeat (first | exact Suf.refl | refine Suf.push rfl ?_)))) (List.Perm.refl _) (acs2 (hb6_9.le (Le.refl (D := D) _)) ⟨⟨(uD rfl), (uD rfl)⟩, ⟨(uD rfl), (uD rfl)⟩⟩))
     ·
      refine JB_alloc rfl trivial rfl [_] rfl rfl ?_
      intro β28 s28 h28
      refine JA_1 7 (by kernel_rfl) ?_
      refine JB_bs rfl trivial [(_, _)] [_, _] rfl rfl rfl rfl rfl rfl rfl rfl rfl ?_
      intro βn s29 h29 hb6_7
      refine JA_1 8 (by kernel_rfl) ?_
      refine JB_call rfl trivial (first := []) (captured := []) rfl rfl rfl (do_ac D _ _ _ _ _ _ _ _ (tms1 (hb6_7.le (Le.refl (D := D) _)) (uD rfl)) (by decide)) ?_
      rintro _ _ s30 h30 ⟨rfl, rfl⟩
      refine ⟨fun _ _ h => h, ?_⟩
      refine JA_1 9 (by kernel_rfl) ?_
      refine JB_bs rfl trivial [(_, _), (_, _)] [_, _, _, _, _, _, _, _, _, _, _, _] rfl rfl rfl rfl rfl rfl rfl rfl rfl ?_
      intro βn s31 h31 hb6_9
      refine JA_1 11 (by kernel_rfl) ?_
      refine JB_st rfl trivial 0 [_] rfl rfl rfl rfl rfl rfl rfl rfl rfl (fun _ hx => sub_mem (sbY (sbY (sbY (sbY (sbY (sbY (sbY (sbY (sbE _))))))))) hx) ?_
      refine JA_done (by kernel_rfl) ?_
      refine thenQ_n (MidN.mk (β28, _, _) [] (Le.trans (Le.trans (Le.trans (Le.trans (Le.trans (Le.trans (Le.trans h15 h16) h17) h18) h28) h29) h30) h31) (Keeps.cons rfl (Suf.keeps (by repeat (first | exact Suf.refl | refine Suf.push rfl ?_)))) (List.Perm.refl _) (acs2 (hb6_9.le (Le.refl (D := D) _)) ⟨⟨(uD rfl), (uD rfl)⟩, ⟨(uD rfl), (uD rfl)⟩⟩))
    ·
     refine JB_bs rfl trivial [(_, _)] [_, _] rfl rfl rfl rfl rfl rfl rfl rfl rfl ?_
     intro βn s32 h32 hb6_7
     refine JA_2 4 10 (by kernel_rfl) ?_ ?_
     ·
      refine JB_call rfl trivial (first := []) (captured := []) rfl rfl rfl (do_ac D _ _ _ _ _ _ _ _ (tms2 (hb6_3.le h32) (uD rfl) (uD rfl)) (by decide)) ?_
      rintro _ _ s33 h33 ⟨rfl, rfl⟩
      refine ⟨fun _ _ h => h, ?_⟩
      refine JA_2 8 10 (by kernel_rfl) ?_ ?_
      ·
       refine JB_call rfl trivial (first := []) (captured := []) rfl rfl rfl (do_ac D _ _ _ _ _ _ _ _ (tms1 (hb6_7.le h33) (uD rfl)) (by decide)) ?_
       rintro _ _ s34 h34 ⟨rfl, rfl⟩
       refine ⟨fun _ _ h => h, ?_⟩
       refine JA_2 9 10 (by kernel_rfl) ?_ ?_
       ·
        refine JB_bs rfl trivial [(_, _), (_, _)] [_, _, _, _, _, _, _, _, _, _, _, _] rfl rfl rfl rfl rfl rfl rfl rfl rfl ?_
        intro βn s35 h35 hb6_9
        refine JA_1 10 (by kernel_rfl) ?_
        refine JB_alloc rfl trivial rfl [_] rfl rfl ?_
        intro β36 s36 h36
        refine JA_1 11 (by kernel_rfl) ?_
        refine JB_st rfl trivial 0 [_] rfl rfl rfl rfl rfl rfl rfl rfl rfl (fun _ hx => sub_mem (sbY (sbY (sbY (sbY (sbY (sbY (sbY (sbY (sbE _))))))))) hx) ?_
        refine JA_done (by kernel_rfl) ?_
        refine thenQ_n (MidN.mk (β36, _, _) [] (Le.trans (Le.trans (Le.trans (Le.trans (Le.trans (Le.trans (Le.trans h15 h16) h17) h32) h33) h34) h35) h36) (Keeps.cons rfl (Suf.keeps (by repeat (first | exact Suf.refl | refine Suf.push rfl ?_)))) (List.Perm.refl _) (acs2 (hb6_9.le h36) ⟨⟨(uD rfl), (uD rfl)⟩, ⟨(uD rfl), (uD rfl)⟩⟩))
       ·
        refine JB_alloc rfl trivial rfl [_] rfl rfl ?_
        intro β37 s37 h37
        refine JA_1 9 (by kernel_rfl) ?_
        refine JB_bs rfl trivial [(_, _), (_, _)] [_, _, _, _, _, _, _, _, _, _, _, _] rfl rfl rfl rfl rfl rfl rfl rfl rfl ?_
        intro βn s38 h38 hb6_9
        refine JA_1 11 (by kernel_rfl) ?_
        refine JB_st rfl trivial 0 [_] rfl rfl rfl rfl rfl rfl rfl rfl rfl (fun _ hx => sub_mem (sbY (sbY (sbY (sbY (sbY (sbY (sbY (sbY (sbE _))))))))) hx) ?_
        refine JA_done (by kernel_rfl) ?_
        refine thenQ_n (MidN.mk (β37, _, _) [] (Le.trans (Le.trans (Le.trans (Le.trans (Le.trans (Le.trans (Le.trans h15 h16) h17) h32) h33) h34) h37) h38) (Keeps.cons rfl (Suf.keeps (by repeat (first | exact Suf.refl | refine Suf.push rfl ?_)))) (List.Perm.refl _) (acs2 (hb6_9.le (Le.refl (D := D) _)) ⟨⟨(uD rfl), (uD rfl)⟩, ⟨(uD rfl), (uD rfl)⟩⟩))
      ·
       refine JB_alloc rfl trivial rfl [_] rfl rfl ?_
       intro β39 s39 h39
       refine JA_1 8 (by kernel_rfl) ?_
       refine JB_call rfl trivial (first := []) (captured := []) rfl rfl rfl (do_ac D _ _ _ _ _ _ _ _ (tms1 (hb6_7.le (Le.trans h33 h39)) (uD rfl)) (by decide)) ?_
       rintro _ _ s40 h40 ⟨rfl, rfl⟩
       refine ⟨fun _ _ h => h, ?_⟩
       refine JA_1 9 (by kernel_rfl) ?_
       refine JB_bs rfl trivial [(_, _), (_, _)] [_, _, _, _, _, _, _, _, _, _, _, _] rfl rfl rfl rfl rfl rfl rfl rfl rfl ?_
       intro βn s41 h41 hb6_9
       refine JA_1 11 (by kernel_rfl) ?_
       refine JB_st rfl trivial 0 [_] rfl rfl rfl rfl rfl rfl rfl rfl rfl (fun _ hx => sub_mem (sbY (sbY (sbY (sbY (sbY (sbY (sbY (sbY (sbE _))))))))) hx) ?_
       refine JA_done (by kernel_rfl) ?_
       refine thenQ_n (MidN.mk (β39, _, _) [] (Le.trans (Le.trans (Le.trans (Le.trans (Le.trans (Le.trans (Le.trans h15 h16) h17) h32) h33) h39) h40) h41) (Keeps.cons rfl (Suf.keeps (by repeat (first | exact Suf.refl | refine Suf.push rfl ?_)))) (List.Perm.refl _) (acs2 (hb6_9.le (Le.refl (D := D) _)) ⟨⟨(uD rfl), (uD rfl)⟩, ⟨(uD rfl), (uD rfl)⟩⟩))
     ·
      refine JB_alloc rfl trivial rfl [_] rfl rfl ?_
      intro β42 s42 h42
      refine JA_1 4 (by kernel_rfl) ?_
      refine JB_call rfl trivial (first := []) (captured := []) rfl rfl rfl (do_ac D _ _ _ _ _ _ _ _ (tms2 (hb6_3.le (Le.trans h32 h42)) (uD rfl) (uD rfl)) (by decide)) ?_
      rintro _ _ s43 h43 ⟨rfl, rfl⟩
      refine ⟨fun _ _ h => h, ?_⟩
      refine JA_1 8 (by kernel_rfl) ?_
      refine JB_call rfl trivial (first := []) (captured := []) rfl rfl rfl (do_ac D _ _ _ _ _ _ _ _ (tms1 (hb6_7.le (Le.trans h42 h43)) (uD rfl)) (by decide)) ?_
      rintro _ _ s44 h44 ⟨rfl, rfl⟩
      refine ⟨fun _ _ h => h, ?_⟩
      refine JA_1 9 (by kernel_rfl) ?_
      refine JB_bs rfl trivial [(_, _), (_, _)] [_, _, _, _, _, _, _, _, _, _, _, _] rfl rfl rfl rfl rfl rfl rfl rfl rfl ?_
      intro βn s45 h45 hb6_9
      refine JA_1 11 (by kernel_rfl) ?_
      refine JB_st rfl trivial 0 [_] rfl rfl rfl rfl rfl rfl rfl rfl rfl (fun _ hx => sub_mem (sbY (sbY (sbY (sbY (sbY (sbY (sbY (sbY (sbE _))))))))) hx) ?_
      refine JA_done (by kernel_rfl) ?_
      refine thenQ_n (MidN.mk (β42, _, _) [] (Le.trans (Le.trans (Le.trans (Le.trans (Le.trans (Le.trans (Le.trans h15 h16) h17) h32) h42) h43) h44) h45) (Keeps.cons rfl (Suf.keeps (by repeat (first | exact Suf.refl | refine Suf.push rfl ?_)))) (List.Perm.refl _) (acs2 (hb6_9.le (Le.refl (D := D) _)) ⟨⟨(uD rfl), (uD rfl)⟩, ⟨(uD rfl), (uD rfl)⟩⟩))
    ·
     refine JB_alloc rfl trivial rfl [_] rfl rfl ?_
     intro β46 s46 h46
     refine JA_2 4 7 (by kernel_rfl) ?_ ?_
     ·
      refine JB_call rfl trivial (first := []) (captured := []) rfl rfl rfl (do_ac D _ _ _ _ _ _ _ _ (tms2 (hb6_3.le h46) (uD rfl) (uD rfl)) (by decide)) ?_
      rintro _ _ s47 h47 ⟨rfl, rfl⟩
      refine ⟨fun _ _ h => h, ?_⟩
      refine JA_1 7 (by kernel_rfl) ?_
      refine JB_bs rfl trivial [(_, _)] [_, _] rfl rfl rfl rfl rfl rfl rfl rfl rfl ?_
      intro βn s48 h48 hb6_7
      refine JA_1 8 (by kernel_rfl) ?_
      refine JB_call rfl trivial (first := []) (captured := []) rfl rfl rfl (do_ac D _ _ _ _ _ _ _ _ (tms1 (hb6_7.le (Le.refl (D := D) _)) (uD rfl)) (by decide)) ?_
      rintro _ _ s49 h49 ⟨rfl, rfl⟩
      refine ⟨fun _ _ h => h, ?_⟩
      refine JA_1 9 (by kernel_rfl) ?_
      refine JB_bs rfl trivial [(_, _), (_, _)] [_, _, _, _, _, _, _, _, _, _, _, _] rfl rfl rfl rfl rfl rfl rfl rfl rfl ?_
      intro βn s50 h50 hb6_9
      refine JA_1 11 (by kernel_rfl) ?_
      refine JB_st rfl trivial 0 [_] rfl rfl rfl rfl rfl rfl rfl rfl rfl (fun _ hx => sub_mem (sbY (sbY (sbY (sbY (sbY (sbY (sbY (sbY (sbE _))))))))) hx) ?_
      refine JA_done (by kernel_rfl) ?_
      refine thenQ_n (MidN.mk (β46, _, _) [] (Le.trans (Le.trans (Le.trans (Le.trans (Le.trans (Le.trans (Le.trans h15 h16) h17) h46) h47) h48) h49) h50) (Keeps.cons rfl (Suf.keeps (by repeat (first | exact Suf.refl | refine Suf.push rfl ?_)))) (List.Perm.refl _) (acs2 (hb6_9.le (Le.refl (D := D) _)) ⟨⟨(uD rfl), (uD rfl)⟩, ⟨(uD rfl), (uD rfl)⟩⟩))
     ·
      refine JB_bs rfl trivial [(_, _)] [_, _] rfl rfl rfl rfl rfl rfl rfl rfl rfl ?_
      intro βn s51 h51 hb6_7
      refine JA_1 4 (by kernel_rfl) ?_
      refine JB_call rfl trivial (first := []) (captured := []) rfl rfl rfl (do_ac D _ _ _ _ _ _ _ _ (tms2 (hb6_3.le (Le.trans h46 h51)) (uD rfl) (uD rfl)) (by decide)) ?_
      rintro _ _ s52 h52 ⟨rfl, rfl⟩
      refine ⟨fun _ _ h => h, ?_⟩
      refine JA_1 8 (by kernel_rfl) ?_
      refine JB_call rfl trivial (first := []) (captured := []) rfl rfl rfl (do_ac D _ _ _ _ _ _ _ _ (tms1 (hb6_7.le h52) (uD rfl)) (by decide)) ?_
      rintro _ _ s53 h53 ⟨rfl, rfl⟩
      refine ⟨fun _ _ h => h, ?_⟩
      refine JA_1 9 (by kernel_rfl) ?_
      refine JB_bs rfl trivial [(_, _), (_, _)] [_, _, _, _, _, _, _, _, _, _, _, _] rfl rfl rfl rfl rfl rfl rfl rfl rfl ?_
      intro βn s54 h54 hb6_9
      refine JA_1 11 (by kernel_rfl) ?_
      refine JB_st rfl trivial 0 [_] rfl rfl rfl rfl rfl rfl rfl rfl rfl (fun _ hx => sub_mem (sbY (sbY (sbY (sbY (sbY (sbY (sbY (sbY (sbE _))))))))) hx) ?_
      refine JA_done (by kernel_rfl) ?_
      refine thenQ_n (MidN.mk (β46, _, _) [] (Le.trans (Le.trans (Le.trans (Le.trans (Le.trans (Le.trans (Le.trans h15 h16) h17) h46) h51) h52) h53) h54) (Keeps.cons rfl (Suf.keeps (by repeat (first | exact Suf.refl | refine Suf.push rfl ?_)))) (List.Perm.refl _) (acs2 (hb6_9.le (Le.refl (D := D) _)) ⟨⟨(uD rfl), (uD rfl)⟩, ⟨(uD rfl), (uD rfl)⟩⟩))
   ·
    refine JB_bs rfl trivial [(_, _)] [_, _] rfl rfl rfl rfl rfl rfl rfl rfl rfl ?_
    intro βn s55 h55 hb6_7
    refine JA_2 3 10 (by kernel_rfl) ?_ ?_
    ·
     refine JB_bs rfl trivial [(_, _), (_, _)] [_, _, _, _] rfl rfl rfl rfl rfl rfl rfl rfl rfl ?_
     intro βn s56 h56 hb6_3
     refine JA_2 4 10 (by kernel_rfl) ?_ ?_
     ·
      refine JB_call rfl trivial (first := []) (captured := []) rfl rfl rfl (do_ac D _ _ _ _ _ _ _ _ (tms2 (hb6_3.le (Le.refl (D := D) _)) (uD rfl) (uD rfl)) (by decide)) ?_
      rintro _ _ s57 h57 ⟨rfl, rfl⟩
      refine ⟨fun _ _ h => h, ?_⟩
      refine JA_2 8 10 (by kernel_rfl) ?_ ?_
      ·
       refine JB_call rfl trivial (first := []) (captured := []) rfl rfl rfl (do_ac D _ _ _ _ _ _ _ _ (tms1 (hb6_7.le (Le.trans h56 h57)) (uD rfl)) (by decide)) ?_
       rintro _ _ s58 h58 ⟨rfl, rfl⟩
       refine ⟨fun _ _ h => h, ?_⟩
       refine JA_2 9 10 (by kernel_rfl) ?_ ?_
       ·
        refine JB_bs rfl trivial [(_, _), (_, _)] [_, _, _, _, _, _, _, _, _, _, _, _] rfl rfl rfl rfl rfl rfl rfl rfl rfl ?_
        intro βn s59 h59 hb6_9
        refine JA_1 10 (by kernel_rfl) ?_
        refine JB_alloc rfl trivial rfl [_] rfl rfl ?_
        intro β60 s60 h60
        refine JA_1 11 (by kernel_rfl) ?_
        refine JB_st rfl trivial 0 [_] rfl rfl rfl rfl rfl rfl rfl rfl rfl (fun _ hx => sub_mem (sbY (sbY (sbY (sbY (sbY (sbY (sbY (sbY (sbE _))))))))) hx) ?_
        refine JA_done (by kernel_rfl) ?_
        refine thenQ_n (MidN.mk (β60, _, _) [] (Le.trans (Le.trans (Le.trans (Le.trans (Le.trans (Le.trans (Le.trans h15 h16) h55) h56) h57) h58) h59) h60) (Keeps.cons rfl (Suf.keeps (by repeat (first | exact Suf.refl | refine Suf.push rfl ?_)))) (List.Perm.refl _) (acs2 (hb6_9.le h60) ⟨⟨(uD rfl), (uD rfl)⟩, ⟨(uD rfl), (uD rfl)⟩⟩))
       ·
        refine JB_alloc rfl trivial rfl [_] rfl rfl ?_
        intro β61 s61 h61
        refine JA_1 9 (by kernel_rfl) ?_
        refine JB_bs rfl trivial [(_, _), (_, _)] [_, _, _, _, _, _, _, _, _, _, _, _] rfl rfl rfl rfl rfl rfl rfl rfl rfl ?_
        intro βn s62 h62 hb6_9
        refine JA_1 11 (by kernel_rfl) ?_
        refine JB_st rfl trivial 0 [_] rfl rfl rfl rfl rfl rfl rfl rfl rfl (fun _ hx => sub_mem (sbY (sbY (sbY (sbY (sbY (sbY (sbY (sbY (sbE _))))))))) hx) ?_
        refine JA_done (by kernel_rfl) ?_
        refine thenQ_n (MidN.mk (β61, _, _) [] (Le.trans (Le.trans (Le.trans (Le.trans (Le.trans (Le.trans (Le.trans h15 h16) h55) h56) h57) h58) h61) h62) (Keeps.cons rfl (Suf.keeps (by repeat (first | exact Suf.refl | refine Suf.push rfl ?_)))) (List.Perm.refl _) (acs2 (hb6_9.le (Le.refl (D := D) _)) ⟨⟨(uD rfl), (uD rfl)⟩, ⟨(uD rfl), (uD rfl)⟩⟩))
      ·
       refine JB_alloc rfl trivial rfl [_] rfl rfl ?_
       intro β63 s63 h63
       refine JA_1 8 (by kernel_rfl) ?_
       refine JB_call rfl trivial (first := []) (captured := []) rfl rfl rfl (do_ac D _ _ _ _ _ _ _ _ (tms1 (hb6_7.le (Le.trans (Le.trans h56 h57) h63)) (uD rfl)) (by decide)) ?_
       rintro _ _ s64 h64 ⟨rfl, rfl⟩
       refine ⟨fun _ _ h => h, ?_⟩
       refine JA_1 9 (by kernel_rfl) ?_
       refine JB_bs rfl trivial [(_, _), (_, _)] [_, _, _, _, _, _, _, _, _, _, _, _] rfl rfl rfl rfl rfl rfl rfl rfl rfl ?_
       intro βn s65 h65 hb6_9
       refine JA_1 11 (by kernel_rfl) ?_
       refine JB_st rfl trivial 0 [_] rfl rfl rfl rfl rfl rfl rfl rfl rfl (fun _ hx => sub_mem (sbY (sbY (sbY (sbY (sbY (sbY (sbY (sbY (sbE _))))))))) hx) ?_
       refine JA_done (by kernel_rfl) ?_
       refine thenQ_n (MidN.mk (β63, _, _) [] (Le.trans (Le.trans (Le.trans (Le.trans (Le.trans (Le.trans (Le.trans h15 h16) h55) h56) h57) h63) h64) h65) (Keeps.cons rfl (Suf.keeps (by repeat (first | exact Suf.refl | refine Suf.push rfl ?_)))) (List.Perm.refl _) (acs2 (hb6_9.le (Le.refl (D := D) _)) ⟨⟨(uD rfl), (uD rfl)⟩, ⟨(uD rfl), (uD rfl)⟩⟩))
     ·
      refine JB_alloc rfl trivial rfl [_] rfl rfl ?_
      intro β66 s66 h66
      refine JA_1 4 (by kernel_rfl) ?_
      refine JB_call rfl trivial (first := []) (captured := []) rfl rfl rfl (do_ac D _ _ _ _ _ _ _ _ (tms2 (hb6_3.le h66) (uD rfl) (uD rfl)) (by decide)) ?_
      rintro _ _ s67 h67 ⟨rfl, rfl⟩
      refine ⟨fun _ _ h => h, ?_⟩
      refine JA_1 8 (by kernel_rfl) ?_
      refine JB_call rfl trivial (first := []) (captured := []) rfl rfl rfl (do_ac D _ _ _ _ _ _ _ _ (tms1 (hb6_7.le (Le.trans (Le.trans h56 h66) h67)) (uD rfl)) (by decide)) ?_
      rintro _ _ s68 h68 ⟨rfl, rfl⟩
      refine ⟨fun _ _ h => h, ?_⟩
      refine JA_1 9 (by kernel_rfl) ?_
      refine JB_bs rfl trivial [(_, _), (_, _)] [_, _, _, _, _, _, _, _, _, _, _, _] rfl rfl rfl rfl rfl rfl rfl rfl rfl ?_
      intro βn s69 h69 hb6_9
      refine JA_1 11 (by kernel_rfl) ?_
      refine JB_st rfl trivial 0 [_] rfl rfl rfl rfl rfl rfl rfl rfl rfl (fun _ hx => sub_mem (sbY (sbY (sbY (sbY (sbY (sbY (sbY (sbY (sbE _))))))))) hx) ?_
      refine JA_done (by kernel_rfl) ?_
      refine thenQ_n (MidN.mk (β66, _, _) [] (Le.trans (Le.trans (Le.trans (Le.trans (Le.trans (Le.trans (Le.trans h15 h16) h55) h56) h66) h67) h68) h69) (Keeps.cons rfl (Suf.keeps (by repeat (first | exact Suf.refl | refine Suf.push rfl ?_)))) (List.Perm.refl _) (acs2 (hb6_9.le (Le.refl (D := D) _)) ⟨⟨(uD rfl), (uD rfl)⟩, ⟨(uD rfl), (uD rfl)⟩⟩))
    ·
     refine JB_alloc rfl trivial rfl [_] rfl rfl ?_
     intro β70 s70 h70
     refine JA_1 3 (by kernel_rfl) ?_
     refine JB_bs rfl trivial [(_, _), (_, _)] [_, _, _, _] rfl rfl rfl rfl rfl rfl rfl rfl rfl ?_
     intro βn s71 h71 hb6_3
     refine JA_1 4 (by kernel_rfl) ?_
     refine JB_call rfl trivial (first := []) (captured := []) rfl rfl rfl (do_ac D _ _ _ _ _ _ _ _ (tms2 (hb6_3.le (Le.refl (D := D) _)) (uD rfl) (uD rfl)) (by decide)) ?_
     rintro _ _ s72 h72 ⟨rfl, rfl⟩
     refine ⟨fun _ _ h => h, ?_⟩
     refine JA_1 8 (by kernel_rfl) ?_
     refine JB_call rfl trivial (first := []) (captured := []) rfl rfl rfl (do_ac D _ _ _ _ _ _ _ _ (tms1 (hb6_7.le (Le.trans (Le.trans h70 h71) h72)) (uD rfl)) (by decide)) ?_
     rintro _ _ s73 h73 ⟨rfl, rfl⟩
     refine ⟨fun _ _ h => h, ?_⟩
     refine JA_1 9 (by kernel_rfl) ?_
     refine JB_bs rfl trivial [(_, _), (_, _)] [_, _, _, _, _, _, _, _, _, _, _, _] rfl rfl rfl rfl rfl rfl rfl rfl rfl ?_
     intro βn s74 h74 hb6_9
     refine JA_1 11 (by kernel_rfl) ?_
     refine JB_st rfl trivial 0 [_] rfl rfl rfl rfl rfl rfl rfl rfl rfl (fun _ hx => sub_mem (sbY (sbY (sbY (sbY (sbY (sbY (sbY (sbY (sbE _))))))))) hx) ?_
     refine JA_done (by kernel_rfl) ?_
     refine thenQ_n (MidN.mk (β70, _, _) [] (Le.trans (Le.trans (Le.trans (Le.trans (Le.trans (Le.trans (Le.trans h15 h16) h55) h70) h71) h72) h73) h74) (Keeps.cons rfl (Suf.keeps (by repeat (first | exact Suf.refl | refine Suf.push rfl ?_)))) (List.Perm.refl _) (acs2 (hb6_9.le (Le.refl (D := D) _)) ⟨⟨(uD rfl), (uD rfl)⟩, ⟨(uD rfl), (uD rfl)⟩⟩))
   ·
    refine JB_alloc rfl trivial rfl [_] rfl rfl ?_
    intro β75 s75 h75
    refine JA_2 3 7 (by kernel_rfl) ?_ ?_
    ·
     refine JB_bs rfl trivial [(_, _), (_, _)] [_, _, _, _] rfl rfl rfl rfl rfl rfl rfl rfl rfl ?_
     intro βn s76 h76 hb6_3
     refine JA_2 4 7 (by kernel_rfl) ?_ ?_
     ·
      refine JB_call rfl trivial (first := []) (captured := []) rfl rfl rfl (do_ac D _ _ _ _ _ _ _ _ (tms2 (hb6_3.le (Le.refl (D := D) _)) (uD rfl) (uD rfl)) (by decide)) ?_
      rintro _ _ s77 h77 ⟨rfl, rfl⟩
      refine ⟨fun _ _ h => h, ?_⟩
      refine JA_1 7 (by kernel_rfl) ?_
      refine JB_bs rfl trivial [(_, _)] [_, _] rfl rfl rfl rfl rfl rfl rfl rfl rfl ?_
      intro βn s78 h78 hb6_7
      refine JA_1 8 (by kernel_rfl) ?_
      refine JB_call rfl trivial (first := []) (captured := []) rfl rfl rfl (do_ac D _ _ _ _ _ _ _ _ (tms1 (hb6_7.le (Le.refl (D := D) _)) (uD rfl)) (by decide)) ?_
      rintro _ _ s79 h79 ⟨rfl, rfl⟩
      refine ⟨fun _ _ h => h, ?_⟩
      refine JA_1 9 (by kernel_rfl) ?_
      refine JB_bs rfl trivial [(_, _), (_, _)] [_, _, _, _, _, _, _, _, _, _, _, _] rfl rfl rfl rfl rfl rfl rfl rfl rfl ?_
      intro βn s80 h80 hb6_9
      refine JA_1 11 (by kernel_rfl) ?_
      refine JB_st rfl trivial 0 [_] rfl rfl rfl rfl rfl rfl rfl rfl rfl (fun _ hx => sub_mem (sbY (sbY (sbY (sbY (sbY (sbY (sbY (sbY (sbE _))))))))) hx) ?_
      refine JA_done (by kernel_rfl) ?_
      refine thenQ_n (MidN.mk (β75, _, _) [] (Le.trans (Le.trans (Le.trans (Le.trans (Le.trans (Le.trans (Le.trans h15 h16) h75) h76) h77) h78) h79) h80) (Keeps.cons rfl (Suf.keeps (by repeat (first | exact Suf.refl | refine Suf.push rfl ?_)))) (List.Perm.refl _) (acs2 (hb6_9.le (Le.refl (D := D) _)) ⟨⟨(uD rfl), (uD rfl)⟩, ⟨(uD rfl), (uD rfl)⟩⟩))
     ·
      refine JB_bs rfl trivial [(_, _)] [_, _] rfl rfl rfl rfl rfl rfl rfl rfl rfl ?_
      intro βn s81 h81 hb6_7
      refine JA_1 4 (by kernel_rfl) ?_
      refine JB_call rfl trivial (first := []) (captured := []) rfl rfl rfl (do_ac D _ _ _ _ _ _ _ _ (tms2 (hb6_3.le h81) (uD rfl) (uD rfl)) (by decide)) ?_
      rintro _ _ s82 h82 ⟨rfl, rfl⟩
      refine ⟨fun _ _ h => h, ?_⟩
      refine JA_1 8 (by kernel_rfl) ?_
      refine JB_call rfl trivial (first := []) (captured := []) rfl rfl rfl (do_ac D _ _ _ _ _ _ _ _ (tms1 (hb6_7.le h82) (uD rfl)) (by decide)) ?_
      rintro _ _ s83 h83 ⟨rfl, rfl⟩
      refine ⟨fun _ _ h => h, ?_⟩
      refine JA_1 9 (by kernel_rfl) ?_
      refine JB_bs rfl trivial [(_, _), (_, _)] [_, _, _, _, _, _, _, _, _, _, _, _] rfl rfl rfl rfl rfl rfl rfl rfl rfl ?_
      intro βn s84 h84 hb6_9
      refine JA_1 11 (by kernel_rfl) ?_
      refine JB_st rfl trivial 0 [_] rfl rfl rfl rfl rfl rfl rfl rfl rfl (fun _ hx => sub_mem (sbY (sbY (sbY (sbY (sbY (sbY (sbY (sbY (sbE _))))))))) hx) ?_
      refine JA_done (by kernel_rfl) ?_
      refine thenQ_n (MidN.mk (β75, _, _) [] (Le.trans (Le.trans (Le.trans (Le.trans (Le.trans (Le.trans (Le.trans h15 h16) h75) h76) h81) h82) h83) h84) (Keeps.cons rfl (Suf.keeps (by repeat (first | exact Suf.refl | refine Suf.push rfl ?_)))) (List.Perm.refl _) (acs2 (hb6_9.le (Le.refl (D := D) _)) ⟨⟨(uD rfl), (uD rfl)⟩, ⟨(uD rfl), (uD rfl)⟩⟩))
    ·
     refine JB_bs rfl trivial [(_, _)] [_, _] rfl rfl rfl rfl rfl rfl rfl rfl rfl ?_
     intro βn s85 h85 hb6_7
     refine JA_1 3 (by kernel_rfl) ?_
     refine JB_bs rfl trivial [(_, _), (_, _)] [_, _, _, _] rfl rfl rfl rfl rfl rfl rfl rfl rfl ?_
     intro βn s86 h86 hb6_3
     refine JA_1 4 (by kernel_rfl) ?_
     refine JB_call rfl trivial (first := []) (captured := []) rfl rfl rfl (do_ac D _ _ _ _ _ _ _ _ (tms2 (hb6_3.le (Le.refl (D := D) _)) (uD rfl) (uD rfl)) (by decide)) ?_
     rintro _ _ s87 h87 ⟨rfl, rfl⟩
     refine ⟨fun _ _ h => h, ?_⟩
     refine JA_1 8 (by kernel_rfl) ?_
     refine JB_call rfl trivial (first := []) (captured := []) rfl rfl rfl (do_ac D _ _ _ _ _ _ _ _ (tms1 (hb6_7.le (Le.trans h86 h87)) (uD rfl)) (by decide)) ?_
     rintro _ _ s88 h88 ⟨rfl, rfl⟩
     refine ⟨fun _ _ h => h, ?_⟩
     refine JA_1 9 (by kernel_rfl) ?_
     refine JB_bs rfl trivial [(_, _), (_, _)] [_, _, _, _, _, _, _, _, _, _, _, _] rfl rfl rfl rfl rfl rfl rfl rfl rfl ?_
     intro βn s89 h89 hb6_9
     refine JA_1 11 (by kernel_rfl) ?_
     refine JB_st rfl trivial 0 [_] rfl rfl rfl rfl rfl rfl rfl rfl rfl (fun _ hx => sub_mem (sbY (sbY (sbY (sbY (sbY (sbY (sbY (sbY (sbE _))))))))) hx) ?_
     refine JA_done (by kernel_rfl) ?_
     refine thenQ_n (MidN.mk (β75, _, _) [] (Le.trans (Le.trans (Le.trans (Le.trans (Le.trans (Le.trans (Le.trans h15 h16) h75) h85) h86) h87) h88) h89) (Keeps.cons rfl (Suf.keeps (by repeat (first | exact Suf.refl | refine Suf.push rfl ?_)))) (List.Perm.refl _) (acs2 (hb6_9.le (Le.refl (D := D) _)) ⟨⟨(uD rfl), (uD rfl)⟩, ⟨(uD rfl), (uD rfl)⟩⟩))
  ·
   refine JB_bs rfl trivial [(_, _)] [_, _] rfl rfl rfl rfl rfl rfl rfl rfl rfl ?_
   intro βn s90 h90 hb6_7
   refine JA_2 2 10 (by kernel_rfl) ?_ ?_
   ·
    refine JB_call rfl trivial (first := []) (captured := []) rfl rfl rfl (num_ac D _ _ _) ?_
    rintro _ _ s91 h91 ⟨rfl, rfl⟩
    refine ⟨fun _ _ h => h, ?_⟩
    refine JA_2 3 10 (by kernel_rfl) ?_ ?_
    ·
     refine JB_bs rfl trivial [(_, _), (_, _)] [_, _, _, _] rfl rfl rfl rfl rfl rfl rfl rfl rfl ?_
     intro βn s92 h92 hb6_3
     refine JA_2 4 10 (by kernel_rfl) ?_ ?_
     ·
      refine JB_call rfl trivial (first := []) (captured := []) rfl rfl rfl (do_ac D _ _ _ _ _ _ _ _ (tms2 (hb6_3.le (Le.refl (D := D) _)) (uD rfl) (uD rfl)) (by decide)) ?_
      rintro _ _ s93 h93 ⟨rfl, rfl⟩
      refine ⟨fun _ _ h => h, ?_⟩
      refine JA_2 8 10 (by kernel_rfl) ?_ ?_
      ·
       refine JB_call rfl trivial (first := []) (captured := []) rfl rfl rfl (do_ac D _ _ _ _ _ _ _ _ (tms1 (hb6_7.le (Le.trans (Le.trans h91 h92) h93)) (uD rfl)) (by decide)) ?_
       rintro _ _ s94 h94 ⟨rfl, rfl⟩
       refine ⟨fun _ _ h => h, ?_⟩
       refine JA_2 9 10 (by kernel_rfl) ?_ ?_
       ·
        refine JB_bs rfl trivial [(_, _), (_, _)] [_, _, _, _, _, _, _, _, _, _, _, _] rfl rfl rfl rfl rfl rfl rfl rfl rfl ?_
        intro βn s95 h95 hb6_9
        refine JA_1 10 (by kernel_rfl) ?_
        refine JB_alloc rfl trivial rfl [_] rfl rfl ?_
        intro β96 s96 h96
        refine JA_1 11 (by kernel_rfl) ?_
        refine JB_st rfl trivial 0 [_] rfl rfl rfl rfl rfl rfl rfl rfl rfl (fun _ hx => sub_mem (sbY (sbY (sbY (sbY (sbY (sbY (sbY (sbY (sbE _))))))))) hx) ?_
        refine JA_done (by kernel_rfl) ?_
        refine thenQ_n (MidN.mk (β96, _, _) [] (Le.trans (Le.trans (Le.trans (Le.trans (Le.trans (Le.trans (Le.trans h15 h90) h91) h92) h93) h94) h95) h96) (Keeps.cons rfl (Suf.keeps (by repeat (first | exact Suf.refl | refine Suf.push rfl ?_)))) (List.Perm.refl _) (acs2 (hb6_9.le h96) ⟨⟨(uD rfl), (uD rfl)⟩, ⟨(uD rfl), (uD rfl)⟩⟩))
       ·
        refine JB_alloc rfl trivial rfl [_] rfl rfl ?_
        intro β97 s97 h97
        refine JA_1 9 (by kernel_rfl) ?_
        refine JB_bs rfl trivial [(_, _), (_, _)] [_, _, _, _, _, _, _, _, _, _, _, _] rfl rfl rfl rfl rfl rfl rfl rfl rfl ?_
        intro βn s98 h98 hb6_9
        refine JA_1 11 (by kernel_rfl) ?_
        refine JB_st rfl trivial 0 [_] rfl rfl rfl rfl rfl rfl rfl rfl rfl (fun _ hx => sub_mem (sbY (sbY (sbY (sbY (sbY (sbY (sbY (sbY (sbE _))))))))) hx) ?_
        refine JA_done (by kernel_rfl) ?_
        refine thenQ_n (MidN.mk (β97, _, _) [] (Le.trans (Le.trans (Le.trans (Le.trans (Le.trans (Le.trans (Le.trans h15 h90) h91) h92) h93) h94) h97) h98) (Keeps.cons rfl (Suf.keeps (by repeat (first | exact Suf.refl | refine Suf.push rfl ?_)))) (List.Perm.refl _) (acs2 (hb6_9.le (Le.refl (D := D) _)) ⟨⟨(uD rfl), (uD rfl)⟩, ⟨(uD rfl), (uD rfl)⟩⟩))
      ·
       refine JB_alloc rfl trivial rfl [_] rfl rfl ?_
       intro β99 s99 h99
       refine JA_1 8 (by kernel_rfl) ?_
       refine JB_call rfl trivial (first := []) (captured := []) rfl rfl rfl (do_ac D _ _ _ _ _ _ _ _ (tms1 (hb6_7.le (Le.trans (Le.trans (Le.trans h91 h92) h93) h99)) (uD rfl)) (by decide)) ?_
       rintro _ _ s100 h100 ⟨rfl, rfl⟩
       refine ⟨fun _ _ h => h, ?_⟩
       refine JA_1 9 (by kernel_rfl) ?_
       refine JB_bs rfl trivial [(_, _), (_, _)] [_, _, _, _, _, _, _, _, _, _, _, _] rfl rfl rfl rfl rfl rfl rfl rfl rfl ?_
       intro βn s101 h101 hb6_9
       refine JA_1 11 (by kernel_rfl) ?_
       refine JB_st rfl trivial 0 [_] rfl rfl rfl rfl rfl rfl rfl rfl rfl (fun _ hx => sub_mem (sbY (sbY (sbY (sbY (sbY (sbY (sbY (sbY (sbE _))))))))) hx) ?_
       refine JA_done (by kernel_rfl) ?_
       refine thenQ_n (MidN.mk (β99, _, _) [] (Le.trans (Le.trans (Le.trans (Le.trans (Le.trans (Le.trans (Le.trans h15 h90) h91) h92) h93) h99) h100) h101) (Keeps.cons rfl (Suf.keeps (by repeat (first | exact Suf.refl | refine Suf.push rfl ?_)))) (List.Perm.refl _) (acs2 (hb6_9.le (Le.refl (D := D) _)) ⟨⟨(uD rfl), (uD rfl)⟩, ⟨(uD rfl), (uD rfl)⟩⟩))
     ·
      refine JB_alloc rfl trivial rfl [_] rfl rfl ?_
      intro β102 s102 h102
      refine JA_1 4 (by kernel_rfl) ?_
      refine JB_call rfl trivial (first := []) (captured := []) rfl rfl rfl (do_ac D _ _ _ _ _ _ _ _ (tms2 (hb6_3.le h102) (uD rfl) (uD rfl)) (by decide)) ?_
      rintro _ _ s103 h103 ⟨rfl, rfl⟩
      refine ⟨fun _ _ h => h, ?_⟩
      refine JA_1 8 (by kernel_rfl) ?_
      refine JB_call rfl trivial (first := []) (captured := []) rfl rfl rfl (do_ac D _ _ _ _ _ _ _ _ (tms1 (hb6_7.le (Le.trans (Le.trans (Le.trans h91 h92) h102) h103)) (uD rfl)) (by decide)) ?_
      rintro _ _ s104 h104 ⟨rfl, rfl⟩
      refine ⟨fun _ _ h => h, ?_⟩
      refine JA_1 9 (by kernel_rfl) ?_
      refine JB_bs rfl trivial [(_, _), (_, _)] [_, _, _, _, _, _, _, _, _, _, _, _] rfl rfl rfl rfl rfl rfl rfl rfl rfl ?_
      intro βn s105 h105 hb6_9
      refine JA_1 11 (by kernel_rfl) ?_
      refine JB_st rfl trivial 0 [_] rfl rfl rfl rfl rfl rfl rfl rfl rfl (fun _ hx => sub_mem (sbY (sbY (sbY (sbY (sbY (sbY (sbY (sbY (sbE _))))))))) hx) ?_
      refine JA_done (by kernel_rfl) ?_
      refine thenQ_n (MidN.mk (β102, _, _) [] (Le.trans (Le.trans (Le.trans (Le.trans (Le.trans (Le.trans (Le.trans h15 h90) h91) h92) h102) h103) h104) h105) (Keeps.cons rfl (Suf.keeps (by repeat (first | exact Suf.refl | refine Suf.push rfl ?_)))) (List.Perm.refl _) (acs2 (hb6_9.le (Le.refl (D := D) _)) ⟨⟨(uD rfl), (uD rfl)⟩, ⟨(uD rfl), (uD rfl)⟩⟩))
    ·
     refine JB_alloc rfl trivial rfl [_] rfl rfl ?_
     intro β106 s106 h106
     refine JA_1 3 (by kernel_rfl) ?_
     refine JB_bs rfl trivial [(_, _), (_, _)] [_, _, _, _] rfl rfl rfl rfl rfl rfl rfl rfl rfl ?_
     intro βn s107 h107 hb6_3
     refine JA_1 4 (by kernel_rfl) ?_
     refine JB_call rfl trivial (first := []) (captured := []) rfl rfl rfl (do_ac D _ _ _ _ _ _ _ _ (tms2 (hb6_3.le (Le.refl (D := D) _)) (uD rfl) (uD rfl)) (by decide)) ?_
     rintro _ _ s108 h108 ⟨rfl, rfl⟩
     refine ⟨fun _ _ h => h, ?_⟩
     refine JA_1 8 (by kernel_rfl) ?_
     refine JB_call rfl trivial (first := []) (captured := []) rfl rfl rfl (do_ac D _ _ _ _ _ _ _ _ (tms1 (hb6_7.le (Le.trans (Le.trans (Le.trans h91 h106) h107) h108)) (uD rfl)) (by decide)) ?_
     rintro _ _ s109 h109 ⟨rfl, rfl⟩
     refine ⟨fun _ _ h => h, ?_⟩
     refine JA_1 9 (by kernel_rfl) ?_
     refine JB_bs rfl trivial [(_, _), (_, _)] [_, _, _, _, _, _, _, _, _, _, _, _] rfl rfl rfl rfl rfl rfl rfl rfl rfl ?_
     intro βn s110 h110 hb6_9
     refine JA_1 11 (by kernel_rfl) ?_
     refine JB_st rfl trivial 0 [_] rfl rfl rfl rfl rfl rfl rfl rfl rfl (fun _ hx => sub_mem (sbY (sbY (sbY (sbY (sbY (sbY (sbY (sbY (sbE _))))))))) hx) ?_
     refine JA_done (by kernel_rfl) ?_
     refine thenQ_n (MidN.mk (β106, _, _) [] (Le.trans (Le.trans (Le.trans (Le.trans (Le.trans (Le.trans (Le.trans h15 h90) h91) h106) h107) h108) h109) h110) (Keeps.cons rfl (Suf.keeps (by repeat (first | exact Suf.refl | refine Suf.push rfl ?_)))) (List.Perm.refl _) (acs2 (hb6_9.le (Le.refl (D := D) _)) ⟨⟨(uD rfl), (uD rfl)⟩, ⟨(uD rfl), (uD rfl)⟩⟩))
   ·
    refine JB_alloc rfl trivial rfl [_] rfl rfl ?_
    intro β111 s111 h111
    refine JA_1 2 (by kernel_rfl) ?_
    refine JB_call rfl trivial (first := []) (captured := []) rfl rfl rfl (num_ac D _ _ _) ?_
    rintro _ _ s112 h112 ⟨rfl, rfl⟩
    refine ⟨fun _ _ h => h, ?_⟩
    refine JA_1 3 (by kernel_rfl) ?_
    refine JB_bs rfl trivial [(_, _), (_, _)] [_, _, _, _] rfl rfl rfl rfl rfl rfl rfl rfl rfl ?_
    intro βn s113 h113 hb6_3
    refine JA_1 4 (by kernel_rfl) ?_
    refine JB_call rfl trivial (first := []) (captured := []) rfl rfl rfl (do_ac D _ _ _ _ _ _ _ _ (tms2 (hb6_3.le (Le.refl (D := D) _)) (uD rfl) (uD rfl)) (by decide)) ?_
    rintro _ _ s114 h114 ⟨rfl, rfl⟩
    refine ⟨fun _ _ h => h, ?_⟩
    refine JA_1 8 (by kernel_rfl) ?_
    refine JB_call rfl trivial (first := []) (captured := []) rfl rfl rfl (do_ac D _ _ _ _ _ _ _ _ (tms1 (hb6_7.le (Le.trans (Le.trans (Le.trans h111 h112) h113) h114)) (uD rfl)) (by decide)) ?_
    rintro _ _ s115 h115 ⟨rfl, rfl⟩
    refine ⟨fun _ _ h => h, ?_⟩
    refine JA_1 9 (by kernel_rfl) ?_
    refine JB_bs rfl trivial [(_, _), (_, _)] [_, _, _, _, _, _, _, _, _, _, _, _] rfl rfl rfl rfl rfl rfl rfl rfl rfl ?_
    intro βn s116 h116 hb6_9
    refine JA_1 11 (by kernel_rfl) ?_
    refine JB_st rfl trivial 0 [_] rfl rfl rfl rfl rfl rfl rfl rfl rfl (fun _ hx => sub_mem (sbY (sbY (sbY (sbY (sbY (sbY (sbY (sbY (sbE _))))))))) hx) ?_
    refine JA_done (by kernel_rfl) ?_
    refine thenQ_n (MidN.mk (β111, _, _) [] (Le.trans (Le.trans (Le.trans (Le.trans (Le.trans (Le.trans (Le.trans h15 h90) h111) h112) h113) h114) h115) h116) (Keeps.cons rfl (Suf.keeps (by repeat (first | exact Suf.refl | refine Suf.push rfl ?_)))) (List.Perm.refl _) (acs2 (hb6_9.le (Le.refl (D := D) _)) ⟨⟨(uD rfl), (uD rfl)⟩, ⟨(uD rfl), (uD rfl)⟩⟩))
  ·
   refine JB_alloc rfl trivial rfl [_] rfl rfl ?_
   intro β117 s117 h117
   refine JA_2 2 7 (by kernel_rfl) ?_ ?_
   ·
    refine JB_call rfl trivial (first := []) (captured := []) rfl rfl rfl (num_ac D _ _ _) ?_
    rintro _ _ s118 h118 ⟨rfl, rfl⟩
    refine ⟨fun _ _ h => h, ?_⟩
    refine JA_2 3 7 (by kernel_rfl) ?_ ?_
    ·
     refine JB_bs rfl trivial [(_, _), (_, _)] [_, _, _, _] rfl rfl rfl rfl rfl rfl rfl rfl rfl ?_
     intro βn s119 h119 hb6_3
     refine JA_2 4 7 (by kernel_rfl) ?_ ?_
     ·
      refine JB_call rfl trivial (first := []) (captured := []) rfl rfl rfl (do_ac D _ _ _ _ _ _ _ _ (tms2 (hb6_3.le (Le.refl (D := D) _)) (uD rfl) (uD rfl)) (by decide)) ?_
      rintro _ _ s120 h120 ⟨rfl, rfl⟩
      refine ⟨fun _ _ h => h, ?_⟩
      refine JA_1 7 (by kernel_rfl) ?_
      refine JB_bs rfl trivial [(_, _)] [_, _] rfl rfl rfl rfl rfl rfl rfl rfl rfl ?_
      intro βn s121 h121 hb6_7
      refine JA_1 8 (by kernel_rfl) ?_
      refine JB_call rfl trivial (first := []) (captured := []) rfl rfl rfl (do_ac D _ _ _ _ _ _ _ _ (tms1 (hb6_7.le (Le.refl (D := D) _)) (uD rfl)) (by decide)) ?_
      rintro _ _ s122 h122 ⟨rfl, rfl⟩
      refine ⟨fun _ _ h => h, ?_⟩
      refine JA_1 9 (by kernel_rfl) ?_
      refine JB_bs rfl trivial [(_, _), (_, _)] [_, _, _, _, _, _, _, _, _, _, _, _] rfl rfl rfl rfl rfl rfl rfl rfl rfl ?_
      intro βn s123 h123 hb6_9
      refine JA_1 11 (by kernel_rfl) ?_
      refine JB_st rfl trivial 0 [_] rfl rfl rfl rfl rfl rfl rfl rfl rfl (fun _ hx => sub_mem (sbY (sbY (sbY (sbY (sbY (sbY (sbY (sbY (sbE _))))))))) hx) ?_
      refine JA_done (by kernel_rfl) ?_
      refine thenQ_n (MidN.mk (β117, _, _) [] (Le.trans (Le.trans (Le.trans (Le.trans (Le.trans (Le.trans (Le.trans h15 h117) h118) h119) h120) h121) h122) h123) (Keeps.cons rfl (Suf.keeps (by repeat (first | exact Suf.refl | refine Suf.push rfl ?_)))) (List.Perm.refl _) (acs2 (hb6_9.le (Le.refl (D := D) _)) ⟨⟨(uD rfl), (uD rfl)⟩, ⟨(uD rfl), (uD rfl)⟩⟩))
     ·
      refine JB_bs rfl trivial [(_, _)] [_, _] rfl rfl rfl rfl rfl rfl rfl rfl rfl ?_
      intro βn s124 h124 hb6_7
      refine JA_1 4 (by kernel_rfl) ?_
      refine JB_call rfl trivial (first := []) (captured := []) rfl rfl rfl (do_ac D _ _ _ _ _ _ _ _ (tms2 (hb6_3.le h124) (uD rfl) (uD rfl)) (by decide)) ?_
      rintro _ _ s125 h125 ⟨rfl, rfl⟩
      refine ⟨fun _ _ h => h, ?_⟩
      refine JA_1 8 (by kernel_rfl) ?_
      refine JB_call rfl trivial (first := []) (captured := []) rfl rfl rfl (do_ac D _ _ _ _ _ _ _ _ (tms1 (hb6_7.le h125) (uD rfl)) (by decide)) ?_
      rintro _ _ s126 h126 ⟨rfl, rfl⟩
      refine ⟨fun _ _ h => h, ?_⟩
      refine JA_1 9 (by kernel_rfl) ?_
      refine JB_bs rfl trivial [(_, _), (_, _)] [_, _, _, _, _, _, _, _, _, _, _, _] rfl rfl rfl rfl rfl rfl rfl rfl rfl ?_
      intro βn s127 h127 hb6_9
      refine JA_1 11 (by kernel_rfl) ?_
      refine JB_st rfl trivial 0 [_] rfl rfl rfl rfl rfl rfl rfl rfl rfl (fun _ hx => sub_mem (sbY (sbY (sbY (sbY (sbY (sbY (sbY (sbY (sbE _))))))))) hx) ?_
      refine JA_done (by kernel_rfl) ?_
      refine thenQ_n (MidN.mk (β117, _, _) [] (Le.trans (Le.trans (Le.trans (Le.trans (Le.trans (Le.trans (Le.trans h15 h117) h118) h119) h124) h125) h126) h127) (Keeps.cons rfl (Suf.keeps (by repeat (first | exact Suf.refl | refine Suf.push rfl ?_)))) (List.Perm.refl _) (acs2 (hb6_9.le (Le.refl (D := D) _)) ⟨⟨(uD rfl), (uD rfl)⟩, ⟨(uD rfl), (uD rfl)⟩⟩))
    ·
     refine JB_bs rfl trivial [(_, _)] [_, _] rfl rfl rfl rfl rfl rfl rfl rfl rfl ?_
     intro βn s128 h128 hb6_7
     refine JA_1 3 (by kernel_rfl) ?_
     refine JB_bs rfl trivial [(_, _), (_, _)] [_, _, _, _] rfl rfl rfl rfl rfl rfl rfl rfl rfl ?_
     intro βn s129 h129 hb6_3
     refine JA_1 4 (by kernel_rfl) ?_
     refine JB_call rfl trivial (first := []) (captured := []) rfl rfl rfl (do_ac D _ _ _ _ _ _ _ _ (tms2 (hb6_3.le (Le.refl (D := D) _)) (uD rfl) (uD rfl)) (by decide)) ?_
     rintro _ _ s130 h130 ⟨rfl, rfl⟩
     refine ⟨fun _ _ h => h, ?_⟩
     refine JA_1 8 (by kernel_rfl) ?_
     refine JB_call rfl trivial (first := []) (captured := []) rfl rfl rfl (do_ac D _ _ _ _ _ _ _ _ (tms1 (hb6_7.le (Le.trans h129 h130)) (uD rfl)) (by decide)) ?_
     rintro _ _ s131 h131 ⟨rfl, rfl⟩
     refine ⟨fun _ _ h => h, ?_⟩
     refine JA_1 9 (by kernel_rfl) ?_
     refine JB_bs rfl trivial [(_, _), (_, _)] [_, _, _, _, _, _, _, _, _, _, _, _] rfl rfl rfl rfl rfl rfl rfl rfl rfl ?_
     intro βn s132 h132 hb6_9
     refine JA_1 11 (by kernel_rfl) ?_
     refine JB_st rfl trivial 0 [_] rfl rfl rfl rfl rfl rfl rfl rfl rfl (fun _ hx => sub_mem (sbY (sbY (sbY (sbY (sbY (sbY (sbY (sbY (sbE _))))))))) hx) ?_
     refine JA_done (by kernel_rfl) ?_
     refine thenQ_n (MidN.mk (β117, _, _) [] (Le.trans (Le.trans (Le.trans (Le.trans (Le.trans (Le.trans (Le.trans h15 h117) h118) h128) h129) h130) h131) h132) (Keeps.cons rfl (Suf.keeps (by repeat (first | exact Suf.refl | refine Suf.push rfl ?_)))) (List.Perm.refl _) (acs2 (hb6_9.le (Le.refl (D := D) _)) ⟨⟨(uD rfl), (uD rfl)⟩, ⟨(uD rfl), (uD rfl)⟩⟩))
   ·
    refine JB_bs rfl trivial [(_, _)] [_, _] rfl rfl rfl rfl rfl rfl rfl rfl rfl ?_
    intro βn s133 h133 hb6_7
    refine JA_1 2 (by kernel_rfl) ?_
    refine JB_call rfl trivial (first := []) (captured := []) rfl rfl rfl (num_ac D _ _ _) ?_
    rintro _ _ s134 h134 ⟨rfl, rfl⟩
    refine ⟨fun _ _ h => h, ?_⟩
    refine JA_1 3 (by kernel_rfl) ?_
    refine JB_bs rfl trivial [(_, _), (_, _)] [_, _, _, _] rfl rfl rfl rfl rfl rfl rfl rfl rfl ?_
    intro βn s135 h135 hb6_3
    refine JA_1 4 (by kernel_rfl) ?_
    refine JB_call rfl trivial (first := []) (captured := []) rfl rfl rfl (do_ac D _ _ _ _ _ _ _ _ (tms2 (hb6_3.le (Le.refl (D := D) _)) (uD rfl) (uD rfl)) (by decide)) ?_
    rintro _ _ s136 h136 ⟨rfl, rfl⟩
    refine ⟨fun _ _ h => h, ?_⟩
    refine JA_1 8 (by kernel_rfl) ?_
    refine JB_call rfl trivial (first := []) (captured := []) rfl rfl rfl (do_ac D _ _ _ _ _ _ _ _ (tms1 (hb6_7.le (Le.trans (Le.trans h134 h135) h136)) (uD rfl)) (by decide)) ?_
    rintro _ _ s137 h137 ⟨rfl, rfl⟩
    refine ⟨fun _ _ h => h, ?_⟩
    refine JA_1 9 (by kernel_rfl) ?_
    refine JB_bs rfl trivial [(_, _), (_, _)] [_, _, _, _, _, _, _, _, _, _, _, _] rfl rfl rfl rfl rfl rfl rfl rfl rfl ?_
    intro βn s138 h138 hb6_9
    refine JA_1 11 (by kernel_rfl) ?_
    refine JB_st rfl trivial 0 [_] rfl rfl rfl rfl rfl rfl rfl rfl rfl (fun _ hx => sub_mem (sbY (sbY (sbY (sbY (sbY (sbY (sbY (sbY (sbE _))))))))) hx) ?_
    refine JA_done (by kernel_rfl) ?_
    refine thenQ_n (MidN.mk (β117, _, _) [] (Le.trans (Le.trans (Le.trans (Le.trans (Le.trans (Le.trans (Le.trans h15 h117) h133) h134) h135) h136) h137) h138) (Keeps.cons rfl (Suf.keeps (by repeat (first | exact Suf.refl | refine Suf.push rfl ?_)))) (List.Perm.refl _) (acs2 (hb6_9.le (Le.refl (D := D) _)) ⟨⟨(uD rfl), (uD rfl)⟩, ⟨(uD rfl), (uD rfl)⟩⟩))
 ·
  intro g s14 h14 I14
  simp only [List.cons_append, List.nil_append]
  obtain ⟨bP, APo, cPo⟩ := g
  have hPop := I14
  simp only at hPop
  dsimp only
  refine JC_seq ?_
  refine JC_region ?_
  refine JO_q (QE_func rfl) rfl ?_
  refine JO_q (QE_as rfl) rfl ?_
  refine JO_nil ?_
  refine thenQ_n ?_
  refine JC_front 8 ?_
  refine JC_front 8 ?_
  refine JC_front 8 ?_
  refine JC_front 8 ?_
  refine JC_front 8 ?_
  refine JC_front 8 ?_
  refine JC_front 8 ?_
  have hOj : Own 97 4 [] (.slice none 0 0) 0 ([] : List (List Value)).flatten := Own.nil
  have hAj : All2 (fun x cs => cs.length = 4 ∧ InsR s14 x cs) (defT.ins.take 0) ([] : List (List Value)) := All2.nil
  refine JC_cutF [_, _, _, _, _, _, _, _] rfl (γ := Value × Hl × List (List Value)) (fun g => (β13, cb [.int .i64 65536, g.1] 24) :: (g.2.1 ++ L)) (fun g tw => Own 97 4 g.2.1 g.1 1 g.2.2.flatten ∧ All2 (fun x cs => cs.length = 4 ∧ InsR tw x cs) (defT.ins.take 1) g.2.2) (fun _ _ _ h hl => ⟨h.1, insA_le h.2 hl⟩) ?_ ?_
  ·
   refine JC_region ?_
   refine JO_q (QE_mv rfl) rfl ?_
   refine JO_q (QE_mv rfl) rfl ?_
   refine JO_q (QE_ldA 5 [_, _] rfl rfl rfl rfl rfl) rfl ?_
   refine JO_bs [(_, _)] [_, _] rfl rfl rfl rfl rfl rfl rfl rfl rfl ?_
   intro βn s140 h140 hb8_3
   refine JO_call (first := []) (captured := []) rfl rfl rfl (do_ac D _ _ _ _ _ _ _ _ (tms1 (hb8_3.le (Le.refl (D := D) _)) (uD rfl)) (by decide)) ?_
   rintro _ _ s141 h141 ⟨rfl, rfl⟩
   refine JO_bs [(_, _)] [_, _, _, _, _, _] rfl rfl rfl rfl rfl rfl rfl rfl rfl ?_
   intro βn s142 h142 hb8_5
   refine JO_call (first := []) (captured := [_]) rfl rfl rfl (AC.mid [_, _, _, _, _, _, _, _] (_ :: []) L (add_ac D _ _ _ _ _ _ _ _ _ [] 0 _ hOj (by decide))) ?_
   rintro _ _ s143 h143 ⟨_, rfl, rfl, v2, M2, rfl, o2⟩
   simp only [List.cons_append, List.nil_append]
   refine JO_nil ?_
   refine thenQ_n (MidF.mk (v2, M2, [] ++ [_]) [] (Le.trans (Le.trans (Le.trans h140 h141) h142) h143) (Suf.keeps (by repeat (first | exact Suf.refl | refine Suf.push rfl ?_))) (List.Perm.refl _) ⟨by rw [flat_snoc2]; exact o2, by rw [std_take (j := 0) (l := defT.ins) rfl]; exact All2.snoc (insA_le hAj (Le.trans (Le.trans (Le.trans h140 h141) h142) h143)) ⟨rfl, _, _, _, rfl, (acs1 (hb8_5.le h143) ⟨(uD rfl), (uD rfl)⟩), by decide, ⟨by decide, by decide⟩⟩⟩)
  intro g s139 h139 I139
  simp only [List.cons_append, List.nil_append]
  obtain ⟨vj, Mj, css⟩ := g
  obtain ⟨hOj, hAj⟩ := I139
  simp only at hOj hAj
  dsimp only
  refine JC_cutF [_, _, _, _, _, _, _, _] rfl (γ := Value × Hl × List (List Value)) (fun g => (β13, cb [.int .i64 65536, g.1] 24) :: (g.2.1 ++ L)) (fun g tw => Own 97 4 g.2.1 g.1 2 g.2.2.flatten ∧ All2 (fun x cs => cs.length = 4 ∧ InsR tw x cs) (defT.ins.take 2) g.2.2) (fun _ _ _ h hl => ⟨h.1, insA_le h.2 hl⟩) ?_ ?_
  ·
   refine JC_region ?_
   refine JO_q (QE_mv rfl) rfl ?_
   refine JO_q (QE_mv rfl) rfl ?_
   refine JO_q (QE_ldA 0 [_, _] rfl rfl rfl rfl rfl) rfl ?_
   refine JO_bs [(_, _)] [_, _] rfl rfl rfl rfl rfl rfl rfl rfl rfl ?_
   intro βn s145 h145 hb9_3
   refine JO_call (first := []) (captured := []) rfl rfl rfl (do_ac D _ _ _ _ _ _ _ _ (tms1 (hb9_3.le (Le.refl (D := D) _)) (uD rfl)) (by decide)) ?_
   rintro _ _ s146 h146 ⟨rfl, rfl⟩
   refine JO_bs [(_, _)] [_, _, _, _, _, _] rfl rfl rfl rfl rfl rfl rfl rfl rfl ?_
   intro βn s147 h147 hb9_5
   refine JO_call (first := []) (captured := [_]) rfl rfl rfl (AC.mid [_, _, _, _, _, _, _, _] (_ :: Mj) L (add_ac D _ _ _ _ _ _ _ _ _ Mj 1 _ hOj (by decide))) ?_
   rintro _ _ s148 h148 ⟨_, rfl, rfl, v2, M2, rfl, o2⟩
   simp only [List.cons_append, List.nil_append]
   refine JO_nil ?_
   refine thenQ_n (MidF.mk (v2, M2, css ++ [_]) [] (Le.trans (Le.trans (Le.trans h145 h146) h147) h148) (Suf.keeps (by repeat (first | exact Suf.refl | refine Suf.push rfl ?_))) (List.Perm.refl _) ⟨by rw [flat_snoc2]; exact o2, by rw [std_take (j := 1) (l := defT.ins) rfl]; exact All2.snoc (insA_le hAj (Le.trans (Le.trans (Le.trans h145 h146) h147) h148)) ⟨rfl, _, _, _, rfl, (acs1 (hb9_5.le h148) ⟨(uD rfl), (uD rfl)⟩), by decide, ⟨by decide, by decide⟩⟩⟩)
  intro g s144 h144 I144
  simp only [List.cons_append, List.nil_append]
  obtain ⟨vj, Mj, css⟩ := g
  obtain ⟨hOj, hAj⟩ := I144
  simp only at hOj hAj
  dsimp only
  refine JC_cutF [_, _, _, _, _, _, _, _] rfl (γ := Value × Hl × List (List Value)) (fun g => (β13, cb [.int .i64 65536, g.1] 24) :: (g.2.1 ++ L)) (fun g tw => Own 97 4 g.2.1 g.1 3 g.2.2.flatten ∧ All2 (fun x cs => cs.length = 4 ∧ InsR tw x cs) (defT.ins.take 3) g.2.2) (fun _ _ _ h hl => ⟨h.1, insA_le h.2 hl⟩) ?_ ?_
  ·
   refine JC_region ?_
   refine JO_q (QE_mv rfl) rfl ?_
   refine JO_q (QE_mv rfl) rfl ?_
   refine JO_q (QE_ldA 0 [_, _] rfl rfl rfl rfl rfl) rfl ?_
   refine JO_bs [(_, _)] [_, _] rfl rfl rfl rfl rfl rfl rfl rfl rfl ?_
   intro βn s150 h150 hb10_3
   refine JO_call (first := []) (captured := []) rfl rfl rfl (do_ac D _ _ _ _ _ _ _ _ (tms1 (hb10_3.le (Le.refl (D := D) _)) (uD rfl)) (by decide)) ?_
   rintro _ _ s151 h151 ⟨rfl, rfl⟩
   refine JO_bs [(_, _)] [_, _, _, _, _, _] rfl rfl rfl rfl rfl rfl rfl rfl rfl ?_
   intro βn s152 h152 hb10_5
   refine JO_call (first := []) (captured := [_]) rfl rfl rfl (AC.mid [_, _, _, _, _, _, _, _] (_ :: Mj) L (add_ac D _ _ _ _ _ _ _ _ _ Mj 2 _ hOj (by decide))) ?_
   rintro _ _ s153 h153 ⟨_, rfl, rfl, v2, M2, rfl, o2⟩
   simp only [List.cons_append, List.nil_append]
   refine JO_nil ?_
   refine thenQ_n (MidF.mk (v2, M2, css ++ [_]) [] (Le.trans (Le.trans (Le.trans h150 h151) h152) h153) (Suf.keeps (by repeat (first | exact Suf.refl | refine Suf.push rfl ?_))) (List.Perm.refl _) ⟨by rw [flat_snoc2]; exact o2, by rw [std_take (j := 2) (l := defT.ins) rfl]; exact All2.snoc (insA_le hAj (Le.trans (Le.trans (Le.trans h150 h151) h152) h153)) ⟨rfl, _, _, _, rfl, (acs1 (hb10_5.le h153) ⟨(uD rfl), (uD rfl)⟩), by decide, ⟨by decide, by decide⟩⟩⟩)
  intro g s149 h149 I149
  simp only [List.cons_append, List.nil_append]
  obtain ⟨vj, Mj, css⟩ := g
  obtain ⟨hOj, hAj⟩ := I149
  simp only at hOj hAj
  dsimp only
  refine JC_cutF [_, _, _, _, _, _, _, _] rfl (γ := Value × Hl × List (List Value)) (fun g => (β13, cb [.int .i64 65536, g.1] 24) :: (g.2.1 ++ L)) (fun g tw => Own 97 4 g.2.1 g.1 4 g.2.2.flatten ∧ All2 (fun x cs => cs.length = 4 ∧ InsR tw x cs) (defT.ins.take 4) g.2.2) (fun _ _ _ h hl => ⟨h.1, insA_le h.2 hl⟩) ?_ ?_
  ·
   refine JC_region ?_
   refine JO_q (QE_mv rfl) rfl ?_
   refine JO_q (QE_mv rfl) rfl ?_
   refine JO_q (QE_ldA 0 [_, _] rfl rfl rfl rfl rfl) rfl ?_
   refine JO_q (QE_ldA 5 [_, _] rfl rfl rfl rfl rfl) rfl ?_
   refine JO_bs [(_, _), (_, _)] [_, _, _, _] rfl rfl rfl rfl rfl rfl rfl rfl rfl ?_
   intro βn s155 h155 hb11_4
   refine JO_call (first := []) (captured := []) rfl rfl rfl (do_ac D _ _ _ _ _ _ _ _ (tms2 (hb11_4.le (Le.refl (D := D) _)) (uD rfl) (uD rfl)) (by decide)) ?_
   rintro _ _ s156 h156 ⟨rfl, rfl⟩
   refine JO_bs [(_, _)] [_, _, _, _, _, _] rfl rfl rfl rfl rfl rfl rfl rfl rfl ?_
   intro βn s157 h157 hb11_6
   refine JO_call (first := []) (captured := [_]) rfl rfl rfl (AC.mid [_, _, _, _, _, _, _, _] (_ :: Mj) L (add_ac D _ _ _ _ _ _ _ _ _ Mj 3 _ hOj (by decide))) ?_
   rintro _ _ s158 h158 ⟨_, rfl, rfl, v2, M2, rfl, o2⟩
   simp only [List.cons_append, List.nil_append]
   refine JO_nil ?_
   refine thenQ_n (MidF.mk (v2, M2, css ++ [_]) [] (Le.trans (Le.trans (Le.trans h155 h156) h157) h158) (Suf.keeps (by repeat (first | exact Suf.refl | refine Suf.push rfl ?_))) (List.Perm.refl _) ⟨by rw [flat_snoc2]; exact o2, by rw [std_take (j := 3) (l := defT.ins) rfl]; exact All2.snoc (insA_le hAj (Le.trans (Le.trans (Le.trans h155 h156) h157) h158)) ⟨rfl, _, _, _, rfl, (acs1 (hb11_6.le h158) ⟨(uD rfl), (uD rfl)⟩), by decide, ⟨by decide, by decide⟩⟩⟩)
  intro g s154 h154 I154
  simp only [List.cons_append, List.nil_append]
  obtain ⟨vj, Mj, css⟩ := g
  obtain ⟨hOj, hAj⟩ := I154
  simp only at hOj hAj
  dsimp only
  refine JC_cutF [_, _, _, _, _, _, _, _] rfl (γ := Value × Hl × List (List Value)) (fun g => (β13, cb [.int .i64 65536, g.1] 24) :: (g.2.1 ++ L)) (fun g tw => Own 97 4 g.2.1 g.1 5 g.2.2.flatten ∧ All2 (fun x cs => cs.length = 4 ∧ InsR tw x cs) (defT.ins.take 5) g.2.2) (fun _ _ _ h hl => ⟨h.1, insA_le h.2 hl⟩) ?_ ?_
  ·
   refine JC_drawT drawsMixed 12 rfl 8 ?_
   intro s160 h160
   refine JA_q 0 rfl (by kernel_rfl) (by kernel_rfl) (by kernel_rfl) trivial (QE_mv rfl) rfl ?_
   refine JA_q 1 rfl (by kernel_rfl) (by kernel_rfl) (by kernel_rfl) trivial (QE_mv rfl) rfl ?_
   refine JA_q 2 rfl (by kernel_rfl) (by kernel_rfl) (by kernel_rfl) trivial (QE_ldA 3 [_, _] rfl rfl rfl rfl rfl) rfl ?_
   refine JA_q 3 rfl (by kernel_rfl) (by kernel_rfl) (by kernel_rfl) trivial (QE_ldA 0 [_, _] rfl rfl rfl rfl rfl) rfl ?_
   refine JA_q 6 rfl (by kernel_rfl) (by kernel_rfl) (by kernel_rfl) trivial (QE_mv rfl) rfl ?_
   refine JA_q 7 rfl (by kernel_rfl) (by kernel_rfl) (by kernel_rfl) trivial (QE_ldA 4 [_, _] rfl rfl rfl rfl rfl) rfl ?_
   refine JA_2 4 8 (by kernel_rfl) ?_ ?_
   ·
    refine JB_bs rfl trivial [(_, _), (_, _)] [_, _, _, _] rfl rfl rfl rfl rfl rfl rfl rfl rfl ?_
    intro βn s161 h161 hb12_4
    refine JA_2 5 8 (by kernel_rfl) ?_ ?_
    ·
     refine JB_call rfl trivial (first := []) (captured := []) rfl rfl rfl (do_ac D _ _ _ _ _ _ _ _ (tms2 (hb12_4.le (Le.refl (D := D) _)) (uD rfl) (uD rfl)) (by decide)) ?_
     rintro _ _ s162 h162 ⟨rfl, rfl⟩
     refine ⟨fun _ _ h => h, ?_⟩
     refine JA_1 8 (by kernel_rfl) ?_
     refine JB_bs rfl trivial [(_, _)] [_, _] rfl rfl rfl rfl rfl rfl rfl rfl rfl ?_
     intro βn s163 h163 hb12_8
     refine JA_1 9 (by kernel_rfl) ?_
     refine JB_call rfl trivial (first := []) (captured := []) rfl rfl rfl (do_ac D _ _ _ _ _ _ _ _ (tms1 (hb12_8.le (Le.refl (D := D) _)) (uD rfl)) (by decide)) ?_
     rintro _ _ s164 h164 ⟨rfl, rfl⟩
     refine ⟨fun _ _ h => h, ?_⟩
     refine JA_1 10 (by kernel_rfl) ?_
     refine JB_bs rfl trivial [(_, _), (_, _)] [_, _, _, _, _, _, _, _, _, _, _, _] rfl rfl rfl rfl rfl rfl rfl rfl rfl ?_
     intro βn s165 h165 hb12_10
     refine JA_1 11 (by kernel_rfl) ?_
     refine JB_call rfl trivial (first := []) (captured := [_]) rfl rfl rfl (AC.mid [_, _, _, _, _, _, _, _] (_ :: Mj) L (add_ac D _ _ _ _ _ _ _ _ _ Mj 4 _ hOj (by decide))) ?_
     rintro _ _ s166 h166 ⟨_, rfl, rfl, v2, M2, rfl, o2⟩
     refine ⟨(fun x hx _ => sub_mem (sbY (sbY (sbY (sbY (sbY (sbY (sbY (sbY (sb0 _))))))))) hx), ?_⟩
     simp only [List.cons_append, List.nil_append]
     refine JA_done (by kernel_rfl) ?_
     refine thenQ_n (MidF.mk (v2, M2, css ++ [_]) [] (Le.trans (Le.trans (Le.trans (Le.trans (Le.trans (Le.trans h160 h161) h162) h163) h164) h165) h166) (Suf.keeps (by repeat (first | exact Suf.refl | refine Suf.push rfl ?_))) (List.Perm.refl _) ⟨by rw [flat_snoc2]; exact o2, by rw [std_take (j := 4) (l := defT.ins) rfl]; exact All2.snoc (insA_le hAj (Le.trans (Le.trans (Le.trans (Le.trans (Le.trans (Le.trans h160 h161) h162) h163) h164) h165) h166)) ⟨rfl, _, _, _, rfl, (acs2 (hb12_10.le h166) ⟨⟨(uD rfl), (uD rfl)⟩, ⟨(uD rfl), (uD rfl)⟩⟩), by decide, ⟨by decide, by decide⟩⟩⟩)
    ·
     refine JB_bs rfl trivial [(_, _)] [_, _] rfl rfl rfl rfl rfl rfl rfl rfl rfl ?_
     intro βn s167 h167 hb12_8
     refine JA_1 5 (by kernel_rfl) ?_
     refine JB_call rfl trivial (first := []) (captured := []) rfl rfl rfl (do_ac D _ _ _ _ _ _ _ _ (tms2 (hb12_4.le h167) (uD rfl) (uD rfl)) (by decide)) ?_
     rintro _ _ s168 h168 ⟨rfl, rfl⟩
     refine ⟨fun _ _ h => h, ?_⟩
     refine JA_1 9 (by kernel_rfl) ?_
     refine JB_call rfl trivial (first := []) (captured := []) rfl rfl rfl (do_ac D _ _ _ _ _ _ _ _ (tms1 (hb12_8.le h168) (uD rfl)) (by decide)) ?_
     rintro _ _ s169 h169 ⟨rfl, rfl⟩
     refine ⟨fun _ _ h => h, ?_⟩
     refine JA_1 10 (by kernel_rfl) ?_
     refine JB_bs rfl trivial [(_, _), (_, _)] [_, _, _, _, _, _, _, _, _, _, _, _] rfl rfl rfl rfl rfl rfl rfl rfl rfl ?_
     intro βn s170 h170 hb12_10
     refine JA_1 11 (by kernel_rfl) ?_
     refine JB_call rfl trivial (first := []) (captured := [_]) rfl rfl rfl (AC.mid [_, _, _, _, _, _, _, _] (_ :: Mj) L (add_ac D _ _ _ _ _ _ _ _ _ Mj 4 _ hOj (by decide))) ?_
     rintro _ _ s171 h171 ⟨_, rfl, rfl, v2, M2, rfl, o2⟩
     refine ⟨(fun x hx _ => sub_mem (sbY (sbY (sbY (sbY (sbY (sbY (sbY (sbY (sb0 _))))))))) hx), ?_⟩
     simp only [List.cons_append, List.nil_append]
     refine JA_done (by kernel_rfl) ?_
     refine thenQ_n (MidF.mk (v2, M2, css ++ [_]) [] (Le.trans (Le.trans (Le.trans (Le.trans (Le.trans (Le.trans h160 h161) h167) h168) h169) h170) h171) (Suf.keeps (by repeat (first | exact Suf.refl | refine Suf.push rfl ?_))) (List.Perm.refl _) ⟨by rw [flat_snoc2]; exact o2, by rw [std_take (j := 4) (l := defT.ins) rfl]; exact All2.snoc (insA_le hAj (Le.trans (Le.trans (Le.trans (Le.trans (Le.trans (Le.trans h160 h161) h167) h168) h169) h170) h171)) ⟨rfl, _, _, _, rfl, (acs2 (hb12_10.le h171) ⟨⟨(uD rfl), (uD rfl)⟩, ⟨(uD rfl), (uD rfl)⟩⟩), by decide, ⟨by decide, by decide⟩⟩⟩)
   ·
    refine JB_bs rfl trivial [(_, _)] [_, _] rfl rfl rfl rfl rfl rfl rfl rfl rfl ?_
    intro βn s172 h172 hb12_8
    refine JA_1 4 (by kernel_rfl) ?_
    refine JB_bs rfl trivial [(_, _), (_, _)] [_, _, _, _] rfl rfl rfl rfl rfl rfl rfl rfl rfl ?_
    intro βn s173 h173 hb12_4
    refine JA_1 5 (by kernel_rfl) ?_
    refine JB_call rfl trivial (first := []) (captured := []) rfl rfl rfl (do_ac D _ _ _ _ _ _ _ _ (tms2 (hb12_4.le (Le.refl (D := D) _)) (uD rfl) (uD rfl)) (by decide)) ?_
    rintro _ _ s174 h174 ⟨rfl, rfl⟩
    refine ⟨fun _ _ h => h, ?_⟩
    refine JA_1 9 (by kernel_rfl) ?_
    refine JB_call rfl trivial (first := []) (captured := []) rfl rfl rfl (do_ac D _ _ _ _ _ _ _ _ (tms1 (hb12_8.le (Le.trans h173 h174)) (uD rfl)) (by decide)) ?_
    rintro _ _ s175 h175 ⟨rfl, rfl⟩
    refine ⟨fun _ _ h => h, ?_⟩
    refine JA_1 10 (by kernel_rfl) ?_
    refine JB_bs rfl trivial [(_, _), (_, _)] [_, _, _, _, _, _, _, _, _, _, _, _] rfl rfl rfl rfl rfl rfl rfl rfl rfl ?_
    intro βn s176 h176 hb12_10
    refine JA_1 11 (by kernel_rfl) ?_
    refine JB_call rfl trivial (first := []) (captured := [_]) rfl rfl rfl (AC.mid [_, _, _, _, _, _, _, _] (_ :: Mj) L (add_ac D _ _ _ _ _ _ _ _ _ Mj 4 _ hOj (by decide))) ?_
    rintro _ _ s177 h177 ⟨_, rfl, rfl, v2, M2, rfl, o2⟩
    refine ⟨(fun x hx _ => sub_mem (sbY (sbY (sbY (sbY (sbY (sbY (sbY (sbY (sb0 _))))))))) hx), ?_⟩
    simp only [List.cons_append, List.nil_append]
    refine JA_done (by kernel_rfl) ?_
    refine thenQ_n (MidF.mk (v2, M2, css ++ [_]) [] (Le.trans (Le.trans (Le.trans (Le.trans (Le.trans (Le.trans h160 h172) h173) h174) h175) h176) h177) (Suf.keeps (by repeat (first | exact Suf.refl | refine Suf.push rfl ?_))) (List.Perm.refl _) ⟨by rw [flat_snoc2]; exact o2, by rw [std_take (j := 4) (l := defT.ins) rfl]; exact All2.snoc (insA_le hAj (Le.trans (Le.trans (Le.trans (Le.trans (Le.trans (Le.trans h160 h172) h173) h174) h175) h176) h177)) ⟨rfl, _, _, _, rfl, (acs2 (hb12_10.le h177) ⟨⟨(uD rfl), (uD rfl)⟩, ⟨(uD rfl), (uD rfl)⟩⟩), by decide, ⟨by decide, by decide⟩⟩⟩)
  intro g s159 h159 I159
  simp only [List.cons_append, List.nil_append]
  obtain ⟨vj, Mj, css⟩ := g
  obtain ⟨hOj, hAj⟩ := I159
  simp only at hOj hAj
  dsimp only
  refine JC_cutF [_, _, _, _, _, _, _, _] rfl (γ := Value × Hl × List (List Value)) (fun g => (β13, cb [.int .i64 65536, g.1] 24) :: (g.2.1 ++ L)) (fun g tw => Own 97 4 g.2.1 g.1 6 g.2.2.flatten ∧ All2 (fun x cs => cs.length = 4 ∧ InsR tw x cs) (defT.ins.take 6) g.2.2) (fun _ _ _ h hl => ⟨h.1, insA_le h.2 hl⟩) ?_ ?_
  ·
   refine JC_drawT drawsMixed 13 rfl 8 ?_
   intro s179 h179
   refine JA_q 0 rfl (by kernel_rfl) (by kernel_rfl) (by kernel_rfl) trivial (QE_mv rfl) rfl ?_
   refine JA_q 1 rfl (by kernel_rfl) (by kernel_rfl) (by kernel_rfl) trivial (QE_mv rfl) rfl ?_
   refine JA_q 2 rfl (by kernel_rfl) (by kernel_rfl) (by kernel_rfl) trivial (QE_ldA 3 [_, _] rfl rfl rfl rfl rfl) rfl ?_
   refine JA_q 3 rfl (by kernel_rfl) (by kernel_rfl) (by kernel_rfl) trivial (QE_ldA 0 [_, _] rfl rfl rfl rfl rfl) rfl ?_
   refine JA_q 6 rfl (by kernel_rfl) (by kernel_rfl) (by kernel_rfl) trivial (QE_mv rfl) rfl ?_
   refine JA_q 7 rfl (by kernel_rfl) (by kernel_rfl) (by kernel_rfl) trivial (QE_ldA 4 [_, _] rfl rfl rfl rfl rfl) rfl ?_
   refine JA_q 8 rfl (by kernel_rfl) (by kernel_rfl) (by kernel_rfl) trivial (QE_ldA 5 [_, _] rfl rfl rfl rfl rfl) rfl ?_
   refine JA_2 4 9 (by kernel_rfl) ?_ ?_
   ·
    refine JB_bs rfl trivial [(_, _), (_, _)] [_, _, _, _] rfl rfl rfl rfl rfl rfl rfl rfl rfl ?_
    intro βn s180 h180 hb13_4
    refine JA_2 5 9 (by kernel_rfl) ?_ ?_
    ·
     refine JB_call rfl trivial (first := []) (captured := []) rfl rfl rfl (do_ac D _ _ _ _ _ _ _ _ (tms2 (hb13_4.le (Le.refl (D := D) _)) (uD rfl) (uD rfl)) (by decide)) ?_
     rintro _ _ s181 h181 ⟨rfl, rfl⟩
     refine ⟨fun _ _ h => h, ?_⟩
     refine JA_1 9 (by kernel_rfl) ?_
     refine JB_bs rfl trivial [(_, _), (_, _)] [_, _, _, _] rfl rfl rfl rfl rfl rfl rfl rfl rfl ?_
     intro βn s182 h182 hb13_9
     refine JA_1 10 (by kernel_rfl) ?_
     refine JB_call rfl trivial (first := []) (captured := []) rfl rfl rfl (do_ac D _ _ _ _ _ _ _ _ (tms2 (hb13_9.le (Le.refl (D := D) _)) (uD rfl) (uD rfl)) (by decide)) ?_
     rintro _ _ s183 h183 ⟨rfl, rfl⟩
     refine ⟨fun _ _ h => h, ?_⟩
     refine JA_1 11 (by kernel_rfl) ?_
     refine JB_bs rfl trivial [(_, _), (_, _)] [_, _, _, _, _, _, _, _, _, _, _, _] rfl rfl rfl rfl rfl rfl rfl rfl rfl ?_
     intro βn s184 h184 hb13_11
     refine JA_1 12 (by kernel_rfl) ?_
     refine JB_call rfl trivial (first := []) (captured := [_]) rfl rfl rfl (AC.mid [_, _, _, _, _, _, _, _] (_ :: Mj) L (add_ac D _ _ _ _ _ _ _ _ _ Mj 5 _ hOj (by decide))) ?_
     rintro _ _ s185 h185 ⟨_, rfl, rfl, v2, M2, rfl, o2⟩
     refine ⟨(fun x hx _ => sub_mem (sbY (sbY (sbY (sbY (sbY (sbY (sbY (sbY (sb0 _))))))))) hx), ?_⟩
     simp only [List.cons_append, List.nil_append]
     refine JA_done (by kernel_rfl) ?_
     refine thenQ_n (MidF.mk (v2, M2, css ++ [_]) [] (Le.trans (Le.trans (Le.trans (Le.trans (Le.trans (Le.trans h179 h180) h181) h182) h183) h184) h185) (Suf.keeps (by repeat (first | exact Suf.refl | refine Suf.push rfl ?_))) (List.Perm.refl _) ⟨by rw [flat_snoc2]; exact o2, by rw [std_take (j := 5) (l := defT.ins) rfl]; exact All2.snoc (insA_le hAj (Le.trans (Le.trans (Le.trans (Le.trans (Le.trans (Le.trans h179 h180) h181) h182) h183) h184) h185)) ⟨rfl, _, _, _, rfl, (acs2 (hb13_11.le h185) ⟨⟨(uD rfl), (uD rfl)⟩, ⟨(uD rfl), (uD rfl)⟩⟩), by decide, ⟨by decide, by decide⟩⟩⟩)
    ·
     refine JB_bs rfl trivial [(_, _), (_, _)] [_, _, _, _] rfl rfl rfl rfl rfl rfl rfl rfl rfl ?_
     intro βn s186 h186 hb13_9
     refine JA_1 5 (by kernel_rfl) ?_
     refine JB_call rfl trivial (first := []) (captured := []) rfl rfl rfl (do_ac D _ _ _ _ _ _ _ _ (tms2 (hb13_4.le h186) (uD rfl) (uD rfl)) (by decide)) ?_
     rintro _ _ s187 h187 ⟨rfl, rfl⟩
     refine ⟨fun _ _ h => h, ?_⟩
     refine JA_1 10 (by kernel_rfl) ?_
     refine JB_call rfl trivial (first := []) (captured := []) rfl rfl rfl (do_ac D _ _ _ _ _ _ _ _ (tms2 (hb13_9.le h187) (uD rfl) (uD rfl)) (by decide)) ?_
     rintro _ _ s188 h188 ⟨rfl, rfl⟩
     refine ⟨fun _ _ h => h, ?_⟩
     refine JA_1 11 (by kernel_rfl) ?_
     refine JB_bs rfl trivial [(_, _), (_, _)] [_, _, _, _, _, _, _, _, _, _, _, _] rfl rfl rfl rfl rfl rfl rfl rfl rfl ?_
     intro βn s189 h189 hb13_11
     refine JA_1 12 (by kernel_rfl) ?_
     refine JB_call rfl trivial (first := []) (captured := [_]) rfl rfl rfl (AC.mid [_, _, _, _, _, _, _, _] (_ :: Mj) L (add_ac D _ _ _ _ _ _ _ _ _ Mj 5 _ hOj (by decide))) ?_
     rintro _ _ s190 h190 ⟨_, rfl, rfl, v2, M2, rfl, o2⟩
     refine ⟨(fun x hx _ => sub_mem (sbY (sbY (sbY (sbY (sbY (sbY (sbY (sbY (sb0 _))))))))) hx), ?_⟩
     simp only [List.cons_append, List.nil_append]
     refine JA_done (by kernel_rfl) ?_
     refine thenQ_n (MidF.mk (v2, M2, css ++ [_]) [] (Le.trans (Le.trans (Le.trans (Le.trans (Le.trans (Le.trans h179 h180) h186) h187) h188) h189) h190) (Suf.keeps (by repeat (first | exact Suf.refl | refine Suf.push rfl ?_))) (List.Perm.refl _) ⟨by rw [flat_snoc2]; exact o2, by rw [std_take (j := 5) (l := defT.ins) rfl]; exact All2.snoc (insA_le hAj (Le.trans (Le.trans (Le.trans (Le.trans (Le.trans (Le.trans h179 h180) h186) h187) h188) h189) h190)) ⟨rfl, _, _, _, rfl, (acs2 (hb13_11.le h190) ⟨⟨(uD rfl), (uD rfl)⟩, ⟨(uD rfl), (uD rfl)⟩⟩), by decide, ⟨by decide, by decide⟩⟩⟩)
   ·
    refine JB_bs rfl trivial [(_, _), (_, _)] [_, _, _, _] rfl rfl rfl rfl rfl rfl rfl rfl rfl ?_
    intro βn s191 h191 hb13_9
    refine JA_1 4 (by kernel_rfl) ?_
    refine JB_bs rfl trivial [(_, _), (_, _)] [_, _, _, _] rfl rfl rfl rfl rfl rfl rfl rfl rfl ?_
    intro βn s192 h192 hb13_4
    refine JA_1 5 (by kernel_rfl) ?_
    refine JB_call rfl trivial (first := []) (captured := []) rfl rfl rfl (do_ac D _ _ _ _ _ _ _ _ (tms2 (hb13_4.le (Le.refl (D := D) _)) (uD rfl) (uD rfl)) (by decide)) ?_
    rintro _ _ s193 h193 ⟨rfl, rfl⟩
    refine ⟨fun _ _ h => h, ?_⟩
    refine JA_1 10 (by kernel_rfl) ?_
    refine JB_call rfl trivial (first := []) (captured := []) rfl rfl rfl (do_ac D _ _ _ _ _ _ _ _ (tms2 (hb13_9.le (Le.trans h192 h193)) (uD rfl) (uD rfl)) (by decide)) ?_
    rintro _ _ s194 h194 ⟨rfl, rfl⟩
    refine ⟨fun _ _ h => h, ?_⟩
    refine JA_1 11 (by kernel_rfl) ?_
    refine JB_bs rfl trivial [(_, _), (_, _)] [_, _, _, _, _, _, _, _, _, _, _, _] rfl rfl rfl rfl rfl rfl rfl rfl rfl ?_
    intro βn s195 h195 hb13_11
    refine JA_1 12 (by kernel_rfl) ?_
    refine JB_call rfl trivial (first := []) (captured := [_]) rfl rfl rfl (AC.mid [_, _, _, _, _, _, _, _] (_ :: Mj) L (add_ac D _ _ _ _ _ _ _ _ _ Mj 5 _ hOj (by decide))) ?_
    rintro _ _ s196 h196 ⟨_, rfl, rfl, v2, M2, rfl, o2⟩
    refine ⟨(fun x hx _ => sub_mem (sbY (sbY (sbY (sbY (sbY (sbY (sbY (sbY (sb0 _))))))))) hx), ?_⟩
    simp only [List.cons_append, List.nil_append]
    refine JA_done (by kernel_rfl) ?_
    refine thenQ_n (MidF.mk (v2, M2, css ++ [_]) [] (Le.trans (Le.trans (Le.trans (Le.trans (Le.trans (Le.trans h179 h191) h192) h193) h194) h195) h196) (Suf.keeps (by repeat (first | exact Suf.refl | refine Suf.push rfl ?_))) (List.Perm.refl _) ⟨by rw [flat_snoc2]; exact o2, by rw [std_take (j := 5) (l := defT.ins) rfl]; exact All2.snoc (insA_le hAj (Le.trans (Le.trans (Le.trans (Le.trans (Le.trans (Le.trans h179 h191) h192) h193) h194) h195) h196)) ⟨rfl, _, _, _, rfl, (acs2 (hb13_11.le h196) ⟨⟨(uD rfl), (uD rfl)⟩, ⟨(uD rfl), (uD rfl)⟩⟩), by decide, ⟨by decide, by decide⟩⟩⟩)
  intro g s178 h178 I178
  simp only [List.cons_append, List.nil_append]
  obtain ⟨vj, Mj, css⟩ := g
  obtain ⟨hOj, hAj⟩ := I178
  simp only at hOj hAj
  dsimp only
  refine JC_cutF [_, _, _, _, _, _, _, _] rfl (γ := Value × Hl × List (List Value)) (fun g => (β13, cb [.int .i64 65536, g.1] 24) :: (g.2.1 ++ L)) (fun g tw => Own 97 4 g.2.1 g.1 7 g.2.2.flatten ∧ All2 (fun x cs => cs.length = 4 ∧ InsR tw x cs) (defT.ins.take 7) g.2.2) (fun _ _ _ h hl => ⟨h.1, insA_le h.2 hl⟩) ?_ ?_
  ·
   refine JC_drawT drawsMixed 12 rfl 8 ?_
   intro s198 h198
   refine JA_q 0 rfl (by kernel_rfl) (by kernel_rfl) (by kernel_rfl) trivial (QE_mv rfl) rfl ?_
   refine JA_q 1 rfl (by kernel_rfl) (by kernel_rfl) (by kernel_rfl) trivial (QE_mv rfl) rfl ?_
   refine JA_q 2 rfl (by kernel_rfl) (by kernel_rfl) (by kernel_rfl) trivial (QE_ldA 5 [_, _] rfl rfl rfl rfl rfl) rfl ?_
   refine JA_q 3 rfl (by kernel_rfl) (by kernel_rfl) (by kernel_rfl) trivial (QE_ldA 0 [_, _] rfl rfl rfl rfl rfl) rfl ?_
   refine JA_q 6 rfl (by kernel_rfl) (by kernel_rfl) (by kernel_rfl) trivial (QE_mv rfl) rfl ?_
   refine JA_q 7 rfl (by kernel_rfl) (by kernel_rfl) (by kernel_rfl) trivial (QE_ldA 4 [_, _] rfl rfl rfl rfl rfl) rfl ?_
   refine JA_2 4 8 (by kernel_rfl) ?_ ?_
   ·
    refine JB_bs rfl trivial [(_, _), (_, _)] [_, _, _, _] rfl rfl rfl rfl rfl rfl rfl rfl rfl ?_
    intro βn s199 h199 hb14_4
    refine JA_2 5 8 (by kernel_rfl) ?_ ?_
    ·
     refine JB_call rfl trivial (first := []) (captured := []) rfl rfl rfl (do_ac D _ _ _ _ _ _ _ _ (tms2 (hb14_4.le (Le.refl (D := D) _)) (uD rfl) (uD rfl)) (by decide)) ?_
     rintro _ _ s200 h200 ⟨rfl, rfl⟩
     refine ⟨fun _ _ h => h, ?_⟩
     refine JA_1 8 (by kernel_rfl) ?_
     refine JB_bs rfl trivial [(_, _)] [_, _] rfl rfl rfl rfl rfl rfl rfl rfl rfl ?_
     intro βn s201 h201 hb14_8
     refine JA_1 9 (by kernel_rfl) ?_
     refine JB_call rfl trivial (first := []) (captured := []) rfl rfl rfl (do_ac D _ _ _ _ _ _ _ _ (tms1 (hb14_8.le (Le.refl (D := D) _)) (uD rfl)) (by decide)) ?_
     rintro _ _ s202 h202 ⟨rfl, rfl⟩
     refine ⟨fun _ _ h => h, ?_⟩
     refine JA_1 10 (by kernel_rfl) ?_
     refine JB_bs rfl trivial [(_, _), (_, _)] [_, _, _, _, _, _, _, _, _, _, _, _] rfl rfl rfl rfl rfl rfl rfl rfl rfl ?_
     intro βn s203 h203 hb14_10
     refine JA_1 11 (by kernel_rfl) ?_
     refine JB_call rfl trivial (first := []) (captured := [_]) rfl rfl rfl (AC.mid [_, _, _, _, _, _, _, _] (_ :: Mj) L (add_ac D _ _ _ _ _ _ _ _ _ Mj 6 _ hOj (by decide))) ?_
     rintro _ _ s204 h204 ⟨_, rfl, rfl, v2, M2, rfl, o2⟩
     refine ⟨(fun x hx _ => sub_mem (sbY (sbY (sbY (sbY (sbY (sbY (sbY (sbY (sb0 _))))))))) hx), ?_⟩
     simp only [List.cons_append, List.nil_append]
     refine JA_done (by kernel_rfl) ?_
     refine thenQ_n (MidF.mk (v2, M2, css ++ [_]) [] (Le.trans (Le.trans (Le.trans (Le.trans (Le.trans (Le.trans h198 h199) h200) h201) h202) h203) h204) (Suf.keeps (by repeat (first | exact Suf.refl | refine Suf.push rfl ?_))) (List.Perm.refl _) ⟨by rw [flat_snoc2]; exact o2, by rw [std_take (j := 6) (l := defT.ins) rfl]; exact All2.snoc (insA_le hAj (Le.trans (Le.trans (Le.trans (Le.trans (Le.trans (Le.trans h198 h199) h200) h201) h202) h203) h204)) ⟨rfl, _, _, _, rfl, (acs2 (hb14_10.le h204) ⟨⟨(uD rfl), (uD rfl)⟩, ⟨(uD rfl), (uD rfl)⟩⟩), by decide, ⟨by decide, by decide⟩⟩⟩)
    ·
     refine JB_bs rfl trivial [(_, _)] [_, _] rfl rfl rfl rfl rfl rfl rfl rfl rfl ?_
     intro βn s205 h205 hb14_8
     refine JA_1 5 (by kernel_rfl) ?_
     refine JB_call rfl trivial (first := []) (captured := []) rfl rfl rfl (do_ac D _ _ _ _ _ _ _ _ (tms2 (hb14_4.le h205) (uD rfl) (uD rfl)) (by decide)) ?_
     rintro _ _ s206 h206 ⟨rfl, rfl⟩
     refine ⟨fun _ _ h => h, ?_⟩
     refine JA_1 9 (by kernel_rfl) ?_
     refine JB_call rfl trivial (first := []) (captured := []) rfl rfl rfl (do_ac D _ _ _ _ _ _ _ _ (tms1 (hb14_8.le h206) (uD rfl)) (by decide)) ?_
     rintro _ _ s207 h207 ⟨rfl, rfl⟩
     refine ⟨fun _ _ h => h, ?_⟩
     refine JA_1 10 (by kernel_rfl) ?_
     refine JB_bs rfl trivial [(_, _), (_, _)] [_, _, _, _, _, _, _, _, _, _, _, _] rfl rfl rfl rfl rfl rfl rfl rfl rfl ?_
     intro βn s208 h208 hb14_10
     refine JA_1 11 (by kernel_rfl) ?_
     refine JB_call rfl trivial (first := []) (captured := [_]) rfl rfl rfl (AC.mid [_, _, _, _, _, _, _, _] (_ :: Mj) L (add_ac D _ _ _ _ _ _ _ _ _ Mj 6 _ hOj (by decide))) ?_
     rintro _ _ s209 h209 ⟨_, rfl, rfl, v2, M2, rfl, o2⟩
     refine ⟨(fun x hx _ => sub_mem (sbY (sbY (sbY (sbY (sbY (sbY (sbY (sbY (sb0 _))))))))) hx), ?_⟩
     simp only [List.cons_append, List.nil_append]
     refine JA_done (by kernel_rfl) ?_
     refine thenQ_n (MidF.mk (v2, M2, css ++ [_]) [] (Le.trans (Le.trans (Le.trans (Le.trans (Le.trans (Le.trans h198 h199) h205) h206) h207) h208) h209) (Suf.keeps (by repeat (first | exact Suf.refl | refine Suf.push rfl ?_))) (List.Perm.refl _) ⟨by rw [flat_snoc2]; exact o2, by rw [std_take (j := 6) (l := defT.ins) rfl]; exact All2.snoc (insA_le hAj (Le.trans (Le.trans (Le.trans (Le.trans (Le.trans (Le.trans h198 h199) h205) h206) h207) h208) h209)) ⟨rfl, _, _, _, rfl, (acs2 (hb14_10.le h209) ⟨⟨(uD rfl), (uD rfl)⟩, ⟨(uD rfl), (uD rfl)⟩⟩), by decide, ⟨by decide, by decide⟩⟩⟩)
   ·
    refine JB_bs rfl trivial [(_, _)] [_, _] rfl rfl rfl rfl rfl rfl rfl rfl rfl ?_
    intro βn s210 h210 hb14_8
    refine JA_1 4 (by kernel_rfl) ?_
    refine JB_bs rfl trivial [(_, _), (_, _)] [_, _, _, _] rfl rfl rfl rfl rfl rfl rfl rfl rfl ?_
    intro βn s211 h211 hb14_4
    refine JA_1 5 (by kernel_rfl) ?_
    refine JB_call rfl trivial (first := []) (captured := []) rfl rfl rfl (do_ac D _ _ _ _ _ _ _ _ (tms2 (hb14_4.le (Le.refl (D := D) _)) (uD rfl) (uD rfl)) (by decide)) ?_
    rintro _ _ s212 h212 ⟨rfl, rfl⟩
    refine ⟨fun _ _ h => h, ?_⟩
    refine JA_1 9 (by kernel_rfl) ?_
    refine JB_call rfl trivial (first := []) (captured := []) rfl rfl rfl (do_ac D _ _ _ _ _ _ _ _ (tms1 (hb14_8.le (Le.trans h211 h212)) (uD rfl)) (by decide)) ?_
    rintro _ _ s213 h213 ⟨rfl, rfl⟩
    refine ⟨fun _ _ h => h, ?_⟩
    refine JA_1 10 (by kernel_rfl) ?_
    refine JB_bs rfl trivial [(_, _), (_, _)] [_, _, _, _, _, _, _, _, _, _, _, _] rfl rfl rfl rfl rfl rfl rfl rfl rfl ?_
    intro βn s214 h214 hb14_10
    refine JA_1 11 (by kernel_rfl) ?_
    refine JB_call rfl trivial (first := []) (captured := [_]) rfl rfl rfl (AC.mid [_, _, _, _, _, _, _, _] (_ :: Mj) L (add_ac D _ _ _ _ _ _ _ _ _ Mj 6 _ hOj (by decide))) ?_
    rintro _ _ s215 h215 ⟨_, rfl, rfl, v2, M2, rfl, o2⟩
    refine ⟨(fun x hx _ => sub_mem (sbY (sbY (sbY (sbY (sbY (sbY (sbY (sbY (sb0 _))))))))) hx), ?_⟩
    simp only [List.cons_append, List.nil_append]
    refine JA_done (by kernel_rfl) ?_
    refine thenQ_n (MidF.mk (v2, M2, css ++ [_]) [] (Le.trans (Le.trans (Le.trans (Le.trans (Le.trans (Le.trans h198 h210) h211) h212) h213) h214) h215) (Suf.keeps (by repeat (first | exact Suf.refl | refine Suf.push rfl ?_))) (List.Perm.refl _) ⟨by rw [flat_snoc2]; exact o2, by rw [std_take (j := 6) (l := defT.ins) rfl]; exact All2.snoc (insA_le hAj (Le.trans (Le.trans (Le.trans (Le.trans (Le.trans (Le.trans h198 h210) h211) h212) h213) h214) h215)) ⟨rfl, _, _, _, rfl, (acs2 (hb14_10.le h215) ⟨⟨(uD rfl), (uD rfl)⟩, ⟨(uD rfl), (uD rfl)⟩⟩), by decide, ⟨by decide, by decide⟩⟩⟩)
  intro g s197 h197 I197
  simp only [List.cons_append, List.nil_append]
  obtain ⟨vj, Mj, css⟩ := g
  obtain ⟨hOj, hAj⟩ := I197
  simp only at hOj hAj
  dsimp only
  refine JC_cutF [_, _, _, _, _, _, _, _] rfl (γ := Value × Hl × List (List Value)) (fun g => (β13, cb [.int .i64 65536, g.1] 24) :: (g.2.1 ++ L)) (fun g tw => Own 97 4 g.2.1 g.1 8 g.2.2.flatten ∧ All2 (fun x cs => cs.length = 4 ∧ InsR tw x cs) (defT.ins.take 8) g.2.2) (fun _ _ _ h hl => ⟨h.1, insA_le h.2 hl⟩) ?_ ?_
  ·
   refine JC_drawT drawsMixed 15 rfl 8 ?_
   intro s217 h217
   refine JA_q 0 rfl (by kernel_rfl) (by kernel_rfl) (by kernel_rfl) trivial (QE_mv rfl) rfl ?_
   refine JA_q 1 rfl (by kernel_rfl) (by kernel_rfl) (by kernel_rfl) trivial (QE_mv rfl) rfl ?_
   refine JA_q 2 rfl (by kernel_rfl) (by kernel_rfl) (by kernel_rfl) trivial (QE_mv rfl) rfl ?_
   refine JA_q 3 rfl (by kernel_rfl) (by kernel_rfl) (by kernel_rfl) trivial (QE_ldA 4 [_, _] rfl rfl rfl rfl rfl) rfl ?_
   refine JA_q 4 rfl (by kernel_rfl) (by kernel_rfl) (by kernel_rfl) trivial (QE_ldA 0 [_, _] rfl rfl rfl rfl rfl) rfl ?_
   refine JA_q 7 rfl (by kernel_rfl) (by kernel_rfl) (by kernel_rfl) trivial (QE_mv rfl) rfl ?_
   refine JA_q 8 rfl (by kernel_rfl) (by kernel_rfl) (by kernel_rfl) trivial (QE_ldA 4 [_, _] rfl rfl rfl rfl rfl) rfl ?_
   refine JA_q 9 rfl (by kernel_rfl) (by kernel_rfl) (by kernel_rfl) trivial (QE_ldA 5 [_, _] rfl rfl rfl rfl rfl) rfl ?_
   refine JA_2 5 10 (by kernel_rfl) ?_ ?_
   ·
    refine JB_bs rfl trivial [(_, _), (_, _)] [_, _, _, _] rfl rfl rfl rfl rfl rfl rfl rfl rfl ?_
    intro βn s218 h218 hb15_5
    refine JA_2 6 10 (by kernel_rfl) ?_ ?_
    ·
     refine JB_call rfl trivial (first := []) (captured := []) rfl rfl rfl (do_ac D _ _ _ _ _ _ _ _ (tms2 (hb15_5.le (Le.refl (D := D) _)) (uD rfl) (uD rfl)) (by decide)) ?_
     rintro _ _ s219 h219 ⟨rfl, rfl⟩
     refine ⟨fun _ _ h => h, ?_⟩
     refine JA_1 10 (by kernel_rfl) ?_
     refine JB_bs rfl trivial [(_, _), (_, _)] [_, _, _, _] rfl rfl rfl rfl rfl rfl rfl rfl rfl ?_
     intro βn s220 h220 hb15_10
     refine JA_1 11 (by kernel_rfl) ?_
     refine JB_call rfl trivial (first := []) (captured := []) rfl rfl rfl (do_ac D _ _ _ _ _ _ _ _ (tms2 (hb15_10.le (Le.refl (D := D) _)) (uD rfl) (uD rfl)) (by decide)) ?_
     rintro _ _ s221 h221 ⟨rfl, rfl⟩
     refine ⟨fun _ _ h => h, ?_⟩
     refine JA_1 12 (by kernel_rfl) ?_
     refine JB_bs rfl trivial [(_, _), (_, _)] [_, _, _, _, _, _, _, _, _, _, _, _] rfl rfl rfl rfl rfl rfl rfl rfl rfl ?_
     intro βn s222 h222 hb15_12
     refine JA_1 13 (by kernel_rfl) ?_
     refine JB_call rfl trivial (first := []) (captured := [_]) rfl rfl rfl (AC.mid [_, _, _, _, _, _, _] [_] _ (popped_mid D _ _ _ _ _ _ (acs2 (hb15_12.le (Le.refl (D := D) _)) ⟨⟨(uD rfl), (uD rfl)⟩, ⟨(uD rfl), (uD rfl)⟩⟩) _ _ _ _ _ (hPop.le (Le.trans (Le.trans (Le.trans (Le.trans (Le.trans (Le.trans (Le.trans (Le.trans (Le.trans (Le.trans (Le.trans (Le.trans h139 h144) h149) h154) h159) h178) h197) h217) h218) h219) h220) h221) h222)) (by decide))) ?_
     rintro _ _ s223 h223 ⟨_, rfl, rfl, Ap15, np15, cp15, rfl, hPa15⟩
     refine ⟨(fun x hx _ => sub_mem (sbY (sbY (sbY (sbY (sbY (sbY (sbY (sbY (sb0 _))))))))) hx), ?_⟩
     simp only [List.cons_append, List.nil_append]
     refine JA_1 14 (by kernel_rfl) ?_
     refine JB_call rfl trivial (first := []) (captured := [_]) rfl rfl rfl (AC.mid [_, _, _, _, _, _, _, _] (_ :: Mj) L (add_ac D _ _ _ _ _ _ _ _ _ Mj 7 _ hOj (by decide))) ?_
     rintro _ _ s224 h224 ⟨_, rfl, rfl, v2, M2, rfl, o2⟩
     refine ⟨(fun x hx _ => sub_mem (sbY (sbY (sbY (sbY (sbY (sbY (sbY (sbY (sb0 _))))))))) hx), ?_⟩
     simp only [List.cons_append, List.nil_append]
     refine JA_done (by kernel_rfl) ?_
     refine thenQ_n (MidF.mk (v2, M2, css ++ [_]) [] (Le.trans (Le.trans (Le.trans (Le.trans (Le.trans (Le.trans (Le.trans h217 h218) h219) h220) h221) h222) h223) h224) (Suf.keeps (by repeat (first | exact Suf.refl | refine Suf.push rfl ?_))) (List.Perm.refl _) ⟨by rw [flat_snoc2]; exact o2, by rw [std_take (j := 7) (l := defT.ins) rfl]; exact All2.snoc (insA_le hAj (Le.trans (Le.trans (Le.trans (Le.trans (Le.trans (Le.trans (Le.trans h217 h218) h219) h220) h221) h222) h223) h224)) ⟨rfl, _, _, _, rfl, (hPa15.le h224), by decide, ⟨by decide, by decide⟩⟩⟩)
    ·
     refine JB_bs rfl trivial [(_, _), (_, _)] [_, _, _, _] rfl rfl rfl rfl rfl rfl rfl rfl rfl ?_
     intro βn s225 h225 hb15_10
     refine JA_1 6 (by kernel_rfl) ?_
     refine JB_call rfl trivial (first := []) (captured := []) rfl rfl rfl (do_ac D _ _ _ _ _ _ _ _ (tms2 (hb15_5.le h225) (uD rfl) (uD rfl)) (by decide)) ?_
     rintro _ _ s226 h226 ⟨rfl, rfl⟩
     refine ⟨fun _ _ h => h, ?_⟩
     refine JA_1 11 (by kernel_rfl) ?_
     refine JB_call rfl trivial (first := []) (captured := []) rfl rfl rfl (do_ac D _ _ _ _ _ _ _ _ (tms2 (hb15_10.le h226) (uD rfl) (uD rfl)) (by decide)) ?_
     rintro _ _ s227 h227 ⟨rfl, rfl⟩
     refine ⟨fun _ _ h => h, ?_⟩
     refine JA_1 12 (by kernel_rfl) ?_
     refine JB_bs rfl trivial [(_, _), (_, _)] [_, _, _, _, _, _, _, _, _, _, _, _] rfl rfl rfl rfl rfl rfl rfl rfl rfl ?_
     intro βn s228 h228 hb15_12
     refine JA_1 13 (by kernel_rfl) ?_
     refine JB_call rfl trivial (first := []) (captured := [_]) rfl rfl rfl (AC.mid [_, _, _, _, _, _, _] [_] _ (popped_mid D _ _ _ _ _ _ (acs2 (hb15_12.le (Le.refl (D := D) _)) ⟨⟨(uD rfl), (uD rfl)⟩, ⟨(uD rfl), (uD rfl)⟩⟩) _ _ _ _ _ (hPop.le (Le.trans (Le.trans (Le.trans (Le.trans (Le.trans (Le.trans (Le.trans (Le.trans (Le.trans (Le.trans (Le.trans (Le.trans h139 h144) h149) h154) h159) h178) h197) h217) h218) h225) h226) h227) h228)) (by decide))) ?_
     rintro _ _ s229 h229 ⟨_, rfl, rfl, Ap15, np15, cp15, rfl, hPa15⟩
     refine ⟨(fun x hx _ => sub_mem (sbY (sbY (sbY (sbY (sbY (sbY (sbY (sbY (sb0 _))))))))) hx), ?_⟩
     simp only [List.cons_append, List.nil_append]
     refine JA_1 14 (by kernel_rfl) ?_
     refine JB_call rfl trivial (first := []) (captured := [_]) rfl rfl rfl (AC.mid [_, _, _, _, _, _, _, _] (_ :: Mj) L (add_ac D _ _ _ _ _ _ _ _ _ Mj 7 _ hOj (by decide))) ?_
     rintro _ _ s230 h230 ⟨_, rfl, rfl, v2, M2, rfl, o2⟩
     refine ⟨(fun x hx _ => sub_mem (sbY (sbY (sbY (sbY (sbY (sbY (sbY (sbY (sb0 _))))))))) hx), ?_⟩
     simp only [List.cons_append, List.nil_append]
     refine JA_done (by kernel_rfl) ?_
     refine thenQ_n (MidF.mk (v2, M2, css ++ [_]) [] (Le.trans (Le.trans (Le.trans (Le.trans (Le.trans (Le.trans (Le.trans h217 h218) h225) h226) h227) h228) h229) h230) (Suf.keeps (by repeat (first | exact Suf.refl | refine Suf.push rfl ?_))) (List.Perm.refl _) ⟨by rw [flat_snoc2]; exact o2, by rw [std_take (j := 7) (l := defT.ins) rfl]; exact All2.snoc (insA_le hAj (Le.trans (Le.trans (Le.trans (Le.trans (Le.trans (Le.trans (Le.trans h217 h218) h225) h226) h227) h228) h229) h230)) ⟨rfl, _, _, _, rfl, (hPa15.le h230), by decide, ⟨by decide, by decide⟩⟩⟩)
   ·
    refine JB_bs rfl trivial [(_, _), (_, _)] [_, _, _, _] rfl rfl rfl rfl rfl rfl rfl rfl rfl ?_
    intro βn s231 h231 hb15_10
    refine JA_1 5 (by kernel_rfl) ?_
    refine JB_bs rfl trivial [(_, _), (_, _)] [_, _, _, _] rfl rfl rfl rfl rfl rfl rfl rfl rfl ?_
    intro βn s232 h232 hb15_5
    refine JA_1 6 (by kernel_rfl) ?_
    refine JB_call rfl trivial (first := []) (captured := []) rfl rfl rfl (do_ac D _ _ _ _ _ _ _ _ (tms2 (hb15_5.le (Le.refl (D := D) _)) (uD rfl) (uD rfl)) (by decide)) ?_
    rintro _ _ s233 h233 ⟨rfl, rfl⟩
    refine ⟨fun _ _ h => h, ?_⟩
    refine JA_1 11 (by kernel_rfl) ?_
    refine JB_call rfl trivial (first := []) (captured := []) rfl rfl rfl (do_ac D _ _ _ _ _ _ _ _ (tms2 (hb15_10.le (Le.trans h232 h233)) (uD rfl) (uD rfl)) (by decide)) ?_
    rintro _ _ s234 h234 ⟨rfl, rfl⟩
    refine ⟨fun _ _ h => h, ?_⟩
    refine JA_1 12 (by kernel_rfl) ?_
    refine JB_bs rfl trivial [(_, _), (_, _)] [_, _, _, _, _, _, _, _, _, _, _, _] rfl rfl rfl rfl rfl rfl rfl rfl rfl ?_
    intro βn s235 h235 hb15_12
    refine JA_1 13 (by kernel_rfl) ?_
    refine JB_call rfl trivial (first := []) (captured := [_]) rfl rfl rfl (AC.mid [_, _, _, _, _, _, _] [_] _ (popped_mid D _ _ _ _ _ _ (acs2 (hb15_12.le (Le.refl (D := D) _)) ⟨⟨(uD rfl), (uD rfl)⟩, ⟨(uD rfl), (uD rfl)⟩⟩) _ _ _ _ _ (hPop.le (Le.trans (Le.trans (Le.trans (Le.trans (Le.trans (Le.trans (Le.trans (Le.trans (Le.trans (Le.trans (Le.trans (Le.trans h139 h144) h149) h154) h159) h178) h197) h217) h231) h232) h233) h234) h235)) (by decide))) ?_
    rintro _ _ s236 h236 ⟨_, rfl, rfl, Ap15, np15, cp15, rfl, hPa15⟩
    refine ⟨(fun x hx _ => sub_mem (sbY (sbY (sbY (sbY (sbY (sbY (sbY (sbY (sb0 _))))))))) hx), ?_⟩
    simp only [List.cons_append, List.nil_append]
    refine JA_1 14 (by kernel_rfl) ?_
    refine JB_call rfl trivial (first := []) (captured := [_]) rfl rfl rfl (AC.mid [_, _, _, _, _, _, _, _] (_ :: Mj) L (add_ac D _ _ _ _ _ _ _ _ _ Mj 7 _ hOj (by decide))) ?_
    rintro _ _ s237 h237 ⟨_, rfl, rfl, v2, M2, rfl, o2⟩
    refine ⟨(fun x hx _ => sub_mem (sbY (sbY (sbY (sbY (sbY (sbY (sbY (sbY (sb0 _))))))))) hx), ?_⟩
    simp only [List.cons_append, List.nil_append]
    refine JA_done (by kernel_rfl) ?_
    refine thenQ_n (MidF.mk (v2, M2, css ++ [_]) [] (Le.trans (Le.trans (Le.trans (Le.trans (Le.trans (Le.trans (Le.trans h217 h231) h232) h233) h234) h235) h236) h237) (Suf.keeps (by repeat (first | exact Suf.refl | refine Suf.push rfl ?_))) (List.Perm.refl _) ⟨by rw [flat_snoc2]; exact o2, by rw [std_take (j := 7) (l := defT.ins) rfl]; exact All2.snoc (insA_le hAj (Le.trans (Le.trans (Le.trans (Le.trans (Le.trans (Le.trans (Le.trans h217 h231) h232) h233) h234) h235) h236) h237)) ⟨rfl, _, _, _, rfl, (hPa15.le h237), by decide, ⟨by decide, by decide⟩⟩⟩)
  intro g s216 h216 I216
  simp only [List.cons_append, List.nil_append]
  obtain ⟨vj, Mj, css⟩ := g
  obtain ⟨hOj, hAj⟩ := I216
  simp only at hOj hAj
  dsimp only
  refine JC_cutF [_, _, _, _, _, _, _, _] rfl (γ := Value × Hl × List (List Value)) (fun g => (β13, cb [.int .i64 65536, g.1] 24) :: (g.2.1 ++ L)) (fun g tw => Own 97 4 g.2.1 g.1 9 g.2.2.flatten ∧ All2 (fun x cs => cs.length = 4 ∧ InsR tw x cs) (defT.ins.take 9) g.2.2) (fun _ _ _ h hl => ⟨h.1, insA_le h.2 hl⟩) ?_ ?_
  ·
   refine JC_drawT drawsMixed 13 rfl 8 ?_
   intro s239 h239
   refine JA_q 0 rfl (by kernel_rfl) (by kernel_rfl) (by kernel_rfl) trivial (QE_mv rfl) rfl ?_
   refine JA_q 1 rfl (by kernel_rfl) (by kernel_rfl) (by kernel_rfl) trivial (QE_mv rfl) rfl ?_
   refine JA_q 2 rfl (by kernel_rfl) (by kernel_rfl) (by kernel_rfl) trivial (QE_ldA 3 [_, _] rfl rfl rfl rfl rfl) rfl ?_
   refine JA_q 3 rfl (by kernel_rfl) (by kernel_rfl) (by kernel_rfl) trivial (QE_ldA 5 [_, _] rfl rfl rfl rfl rfl) rfl ?_
   refine JA_q 6 rfl (by kernel_rfl) (by kernel_rfl) (by kernel_rfl) trivial (QE_mv rfl) rfl ?_
   refine JA_q 7 rfl (by kernel_rfl) (by kernel_rfl) (by kernel_rfl) trivial (QE_ldA 3 [_, _] rfl rfl rfl rfl rfl) rfl ?_
   refine JA_1 4 (by kernel_rfl) ?_
   refine JB_bs rfl trivial [(_, _), (_, _)] [_, _, _, _] rfl rfl rfl rfl rfl rfl rfl rfl rfl ?_
   intro βn s240 h240 hb16_4
   refine JA_1 5 (by kernel_rfl) ?_
   refine JB_call rfl trivial (first := []) (captured := []) rfl rfl rfl (do_ac D _ _ _ _ _ _ _ _ (tms2 (hb16_4.le (Le.refl (D := D) _)) (uD rfl) (uD rfl)) (by decide)) ?_
   rintro _ _ s241 h241 ⟨rfl, rfl⟩
   refine ⟨fun _ _ h => h, ?_⟩
   refine JA_1 8 (by kernel_rfl) ?_
   refine JB_call rfl trivial (first := []) (captured := []) rfl rfl rfl (num_ac D _ _ _) ?_
   rintro _ _ s242 h242 ⟨rfl, rfl⟩
   refine ⟨fun _ _ h => h, ?_⟩
   refine JA_1 9 (by kernel_rfl) ?_
   refine JB_bs rfl trivial [(_, _), (_, _)] [_, _, _, _] rfl rfl rfl rfl rfl rfl rfl rfl rfl ?_
   intro βn s243 h243 hb16_9
   refine JA_1 10 (by kernel_rfl) ?_
   refine JB_call rfl trivial (first := []) (captured := []) rfl rfl rfl (do_ac D _ _ _ _ _ _ _ _ (tms2 (hb16_9.le (Le.refl (D := D) _)) (uD rfl) (uD rfl)) (by decide)) ?_
   rintro _ _ s244 h244 ⟨rfl, rfl⟩
   refine ⟨fun _ _ h => h, ?_⟩
   refine JA_1 11 (by kernel_rfl) ?_
   refine JB_bs rfl trivial [(_, _), (_, _)] [_, _, _, _, _, _, _, _, _, _, _, _] rfl rfl rfl rfl rfl rfl rfl rfl rfl ?_
   intro βn s245 h245 hb16_11
   refine JA_1 12 (by kernel_rfl) ?_
   refine JB_call rfl trivial (first := []) (captured := [_]) rfl rfl rfl (AC.mid [_, _, _, _, _, _, _, _] (_ :: Mj) L (add_ac D _ _ _ _ _ _ _ _ _ Mj 8 _ hOj (by decide))) ?_
   rintro _ _ s246 h246 ⟨_, rfl, rfl, v2, M2, rfl, o2⟩
   refine ⟨(fun x hx _ => sub_mem (sbY (sbY (sbY (sbY (sbY (sbY (sbY (sbY (sb0 _))))))))) hx), ?_⟩
   simp only [List.cons_append, List.nil_append]
   refine JA_done (by kernel_rfl) ?_
   refine thenQ_n (MidF.mk (v2, M2, css ++ [_]) [] (Le.trans (Le.trans (Le.trans (Le.trans (Le.trans (Le.trans (Le.trans h239 h240) h241) h242) h243) h244) h245) h246) (Suf.keeps (by repeat (first | exact Suf.refl | refine Suf.push rfl ?_))) (List.Perm.refl _) ⟨by rw [flat_snoc2]; exact o2, by rw [std_take (j := 8) (l := defT.ins) rfl]; exact All2.snoc (insA_le hAj (Le.trans (Le.trans (Le.trans (Le.trans (Le.trans (Le.trans (Le.trans h239 h240) h241) h242) h243) h244) h245) h246)) ⟨rfl, _, _, _, rfl, (acs2 (hb16_11.le h246) ⟨⟨(uD rfl), (uD rfl)⟩, ⟨(uD rfl), (uD rfl)⟩⟩), by decide, ⟨by decide, by decide⟩⟩⟩)
  intro g s238 h238 I238
  simp only [List.cons_append, List.nil_append]
  obtain ⟨vj, Mj, css⟩ := g
  obtain ⟨hOj, hAj⟩ := I238
  simp only at hOj hAj
  dsimp only
  refine JC_cutF [_, _, _, _, _, _, _, _] rfl (γ := Value × Hl × List (List Value)) (fun g => (β13, cb [.int .i64 65536, g.1] 24) :: (g.2.1 ++ L)) (fun g tw => Own 97 4 g.2.1 g.1 10 g.2.2.flatten ∧ All2 (fun x cs => cs.length = 4 ∧ InsR tw x cs) (defT.ins.take 10) g.2.2) (fun _ _ _ h hl => ⟨h.1, insA_le h.2 hl⟩) ?_ ?_
  ·
   refine JC_region ?_
   refine JO_q (QE_mv rfl) rfl ?_
   refine JO_q (QE_mv rfl) rfl ?_
   refine JO_q (QE_ldA 3 [_, _] rfl rfl rfl rfl rfl) rfl ?_
   refine JO_q (QE_ldA 0 [_, _] rfl rfl rfl rfl rfl) rfl ?_
   refine JO_bs [(_, _), (_, _)] [_, _, _, _] rfl rfl rfl rfl rfl rfl rfl rfl rfl ?_
   intro βn s248 h248 hb17_4
   refine JO_call (first := []) (captured := []) rfl rfl rfl (do_ac D _ _ _ _ _ _ _ _ (tms2 (hb17_4.le (Le.refl (D := D) _)) (uD rfl) (uD rfl)) (by decide)) ?_
   rintro _ _ s249 h249 ⟨rfl, rfl⟩
   refine JO_bs [(_, _)] [_, _, _, _, _, _] rfl rfl rfl rfl rfl rfl rfl rfl rfl ?_
   intro βn s250 h250 hb17_6
   refine JO_call (first := []) (captured := [_]) rfl rfl rfl (AC.mid [_, _, _, _, _, _, _, _] (_ :: Mj) L (add_ac D _ _ _ _ _ _ _ _ _ Mj 9 _ hOj (by decide))) ?_
   rintro _ _ s251 h251 ⟨_, rfl, rfl, v2, M2, rfl, o2⟩
   simp only [List.cons_append, List.nil_append]
   refine JO_nil ?_
   refine thenQ_n (MidF.mk (v2, M2, css ++ [_]) [] (Le.trans (Le.trans (Le.trans h248 h249) h250) h251) (Suf.keeps (by repeat (first | exact Suf.refl | refine Suf.push rfl ?_))) (List.Perm.refl _) ⟨by rw [flat_snoc2]; exact o2, by rw [std_take (j := 9) (l := defT.ins) rfl]; exact All2.snoc (insA_le hAj (Le.trans (Le.trans (Le.trans h248 h249) h250) h251)) ⟨rfl, _, _, _, rfl, (acs1 (hb17_6.le h251) ⟨(uD rfl), (uD rfl)⟩), by decide, ⟨by decide, by decide⟩⟩⟩)
  intro g s247 h247 I247
  simp only [List.cons_append, List.nil_append]
  obtain ⟨vj, Mj, css⟩ := g
  obtain ⟨hOj, hAj⟩ := I247
  simp only at hOj hAj
  dsimp only
  refine JC_cutF [_, _, _, _, _, _, _, _] rfl (γ := Value × Hl × List (List Value)) (fun g => (β13, cb [.int .i64 65536, g.1] 24) :: (g.2.1 ++ L)) (fun g tw => Own 97 4 g.2.1 g.1 11 g.2.2.flatten ∧ All2 (fun x cs => cs.length = 4 ∧ InsR tw x cs) (defT.ins.take 11) g.2.2) (fun _ _ _ h hl => ⟨h.1, insA_le h.2 hl⟩) ?_ ?_
  ·
   refine JC_region ?_
   refine JO_q (QE_mv rfl) rfl ?_
   refine JO_q (QE_mv rfl) rfl ?_
   refine JO_q (QE_mv rfl) rfl ?_
   refine JO_q (QE_ldA 4 [_, _] rfl rfl rfl rfl rfl) rfl ?_
   refine JO_q (QE_ldA 5 [_, _] rfl rfl rfl rfl rfl) rfl ?_
   refine JO_bs [(_, _), (_, _)] [_, _, _, _] rfl rfl rfl rfl rfl rfl rfl rfl rfl ?_
   intro βn s253 h253 hb18_5
   refine JO_call (first := []) (captured := []) rfl rfl rfl (do_ac D _ _ _ _ _ _ _ _ (tms2 (hb18_5.le (Le.refl (D := D) _)) (uD rfl) (uD rfl)) (by decide)) ?_
   rintro _ _ s254 h254 ⟨rfl, rfl⟩
   refine JO_bs [(_, _)] [_, _, _, _, _, _] rfl rfl rfl rfl rfl rfl rfl rfl rfl ?_
   intro βn s255 h255 hb18_7
   refine JO_call (first := []) (captured := [_]) rfl rfl rfl (AC.mid [_, _, _, _, _, _, _] [_] _ (popped_mid D _ _ _ _ _ _ (acs1 (hb18_7.le (Le.refl (D := D) _)) ⟨(uD rfl), (uD rfl)⟩) _ _ _ _ _ (hPop.le (Le.trans (Le.trans (Le.trans (Le.trans (Le.trans (Le.trans (Le.trans (Le.trans (Le.trans (Le.trans (Le.trans (Le.trans h139 h144) h149) h154) h159) h178) h197) h216) h238) h247) h253) h254) h255)) (by decide))) ?_
   rintro _ _ s256 h256 ⟨_, rfl, rfl, Ap18, np18, cp18, rfl, hPa18⟩
   simp only [List.cons_append, List.nil_append]
   refine JO_call (first := []) (captured := [_]) rfl rfl rfl (AC.mid [_, _, _, _, _, _, _, _] (_ :: Mj) L (add_ac D _ _ _ _ _ _ _ _ _ Mj 10 _ hOj (by decide))) ?_
   rintro _ _ s257 h257 ⟨_, rfl, rfl, v2, M2, rfl, o2⟩
   simp only [List.cons_append, List.nil_append]
   refine JO_nil ?_
   refine thenQ_n (MidF.mk (v2, M2, css ++ [_]) [] (Le.trans (Le.trans (Le.trans (Le.trans h253 h254) h255) h256) h257) (Suf.keeps (by repeat (first | exact Suf.refl | refine Suf.push rfl ?_))) (List.Perm.refl _) ⟨by rw [flat_snoc2]; exact o2, by rw [std_take (j := 10) (l := defT.ins) rfl]; exact All2.snoc (insA_le hAj (Le.trans (Le.trans (Le.trans (Le.trans h253 h254) h255) h256) h257)) ⟨rfl, _, _, _, rfl, (hPa18.le h257), by decide, ⟨by decide, by decide⟩⟩⟩)
  intro g s252 h252 I252
  simp only [List.cons_append, List.nil_append]
  obtain ⟨vj, Mj, css⟩ := g
  obtain ⟨hOj, hAj⟩ := I252
  simp only at hOj hAj
  dsimp only
  refine JC_cutF [_, _, _, _, _, _, _, _] rfl (γ := Value × Hl × List (List Value)) (fun g => (β13, cb [.int .i64 65536, g.1] 24) :: (g.2.1 ++ L)) (fun g tw => Own 97 4 g.2.1 g.1 12 g.2.2.flatten ∧ All2 (fun x cs => cs.length = 4 ∧ InsR tw x cs) (defT.ins.take 12) g.2.2) (fun _ _ _ h hl => ⟨h.1, insA_le h.2 hl⟩) ?_ ?_
  ·
   refine JC_region ?_
   refine JO_q (QE_mv rfl) rfl ?_
   refine JO_q (QE_mv rfl) rfl ?_
   refine JO_q (QE_mv rfl) rfl ?_
   refine JO_q (QE_ldA 4 [_, _] rfl rfl rfl rfl rfl) rfl ?_
   refine JO_q (QE_ldA 5 [_, _] rfl rfl rfl rfl rfl) rfl ?_
   refine JO_bs [(_, _), (_, _)] [_, _, _, _] rfl rfl rfl rfl rfl rfl rfl rfl rfl ?_
   intro βn s259 h259 hb19_5
   refine JO_call (first := []) (captured := []) rfl rfl rfl (do_ac D _ _ _ _ _ _ _ _ (tms2 (hb19_5.le (Le.refl (D := D) _)) (uD rfl) (uD rfl)) (by decide)) ?_
   rintro _ _ s260 h260 ⟨rfl, rfl⟩
   refine JO_bs [(_, _)] [_, _, _, _, _, _] rfl rfl rfl rfl rfl rfl rfl rfl rfl ?_
   intro βn s261 h261 hb19_7
   refine JO_call (first := []) (captured := [_]) rfl rfl rfl (AC.mid [_, _, _, _, _, _, _] [_] _ (popped_mid D _ _ _ _ _ _ (acs1 (hb19_7.le (Le.refl (D := D) _)) ⟨(uD rfl), (uD rfl)⟩) _ _ _ _ _ (hPop.le (Le.trans (Le.trans (Le.trans (Le.trans (Le.trans (Le.trans (Le.trans (Le.trans (Le.trans (Le.trans (Le.trans (Le.trans (Le.trans h139 h144) h149) h154) h159) h178) h197) h216) h238) h247) h252) h259) h260) h261)) (by decide))) ?_
   rintro _ _ s262 h262 ⟨_, rfl, rfl, Ap19, np19, cp19, rfl, hPa19⟩
   simp only [List.cons_append, List.nil_append]
   refine JO_call (first := []) (captured := [_]) rfl rfl rfl (AC.mid [_, _, _, _, _, _, _, _] (_ :: Mj) L (add_ac D _ _ _ _ _ _ _ _ _ Mj 11 _ hOj (by decide))) ?_
   rintro _ _ s263 h263 ⟨_, rfl, rfl, v2, M2, rfl, o2⟩
   simp only [List.cons_append, List.nil_append]
   refine JO_nil ?_
   refine thenQ_n (MidF.mk (v2, M2, css ++ [_]) [] (Le.trans (Le.trans (Le.trans (Le.trans h259 h260) h261) h262) h263) (Suf.keeps (by repeat (first | exact Suf.refl | refine Suf.push rfl ?_))) (List.Perm.refl _) ⟨by rw [flat_snoc2]; exact o2, by rw [std_take (j := 11) (l := defT.ins) rfl]; exact All2.snoc (insA_le hAj (Le.trans (Le.trans (Le.trans (Le.trans h259 h260) h261) h262) h263)) ⟨rfl, _, _, _, rfl, (hPa19.le h263), by decide, ⟨by decide, by decide⟩⟩⟩)
  intro g s258 h258 I258
  simp only [List.cons_append, List.nil_append]
  obtain ⟨vj, Mj, css⟩ := g
  obtain ⟨hOj, hAj⟩ := I258
  simp only at hOj hAj
  dsimp only
  refine JC_cutF [_, _, _, _, _, _, _, _] rfl (γ := Value × Hl × List (List Value)) (fun g => (β13, cb [.int .i64 65536, g.1] 24) :: (g.2.1 ++ L)) (fun g tw => Own 97 4 g.2.1 g.1 13 g.2.2.flatten ∧ All2 (fun x cs => cs.length = 4 ∧ InsR tw x cs) (defT.ins.take 13) g.2.2) (fun _ _ _ h hl => ⟨h.1, insA_le h.2 hl⟩) ?_ ?_
  ·
   refine JC_region ?_
   refine JO_q (QE_mv rfl) rfl ?_
   refine JO_q (QE_mv rfl) rfl ?_
   refine JO_q (QE_mv rfl) rfl ?_
   refine JO_q (QE_ldA 4 [_, _] rfl rfl rfl rfl rfl) rfl ?_
   refine JO_q (QE_ldA 5 [_, _] rfl rfl rfl rfl rfl) rfl ?_
   refine JO_bs [(_, _), (_, _)] [_, _, _, _] rfl rfl rfl rfl rfl rfl rfl rfl rfl ?_
   intro βn s265 h265 hb20_5
   refine JO_call (first := []) (captured := []) rfl rfl rfl (do_ac D _ _ _ _ _ _ _ _ (tms2 (hb20_5.le (Le.refl (D := D) _)) (uD rfl) (uD rfl)) (by decide)) ?_
   rintro _ _ s266 h266 ⟨rfl, rfl⟩
   refine JO_bs [(_, _)] [_, _, _, _, _, _] rfl rfl rfl rfl rfl rfl rfl rfl rfl ?_
   intro βn s267 h267 hb20_7
   refine JO_call (first := []) (captured := [_]) rfl rfl rfl (AC.mid [_, _, _, _, _, _, _] [_] _ (popped_mid D _ _ _ _ _ _ (acs1 (hb20_7.le (Le.refl (D := D) _)) ⟨(uD rfl), (uD rfl)⟩) _ _ _ _ _ (hPop.le (Le.trans (Le.trans (Le.trans (Le.trans (Le.trans (Le.trans (Le.trans (Le.trans (Le.trans (Le.trans (Le.trans (Le.trans (Le.trans (Le.trans h139 h144) h149) h154) h159) h178) h197) h216) h238) h247) h252) h258) h265) h266) h267)) (by decide))) ?_
   rintro _ _ s268 h268 ⟨_, rfl, rfl, Ap20, np20, cp20, rfl, hPa20⟩
   simp only [List.cons_append, List.nil_append]
   refine JO_call (first := []) (captured := [_]) rfl rfl rfl (AC.mid [_, _, _, _, _, _, _, _] (_ :: Mj) L (add_ac D _ _ _ _ _ _ _ _ _ Mj 12 _ hOj (by decide))) ?_
   rintro _ _ s269 h269 ⟨_, rfl, rfl, v2, M2, rfl, o2⟩
   simp only [List.cons_append, List.nil_append]
   refine JO_nil ?_
   refine thenQ_n (MidF.mk (v2, M2, css ++ [_]) [] (Le.trans (Le.trans (Le.trans (Le.trans h265 h266) h267) h268) h269) (Suf.keeps (by repeat (first | exact Suf.refl | refine Suf.push rfl ?_))) (List.Perm.refl _) ⟨by rw [flat_snoc2]; exact o2, by rw [std_take (j := 12) (l := defT.ins) rfl]; exact All2.snoc (insA_le hAj (Le.trans (Le.trans (Le.trans (Le.trans h265 h266) h267) h268) h269)) ⟨rfl, _, _, _, rfl, (hPa20.le h269), by decide, ⟨by decide, by decide⟩⟩⟩)
  intro g s264 h264 I264
  simp only [List.cons_append, List.nil_append]
  obtain ⟨vj, Mj, css⟩ := g
  obtain ⟨hOj, hAj⟩ := I264
  simp only at hOj hAj
  dsimp only
  refine JC_cutF [_, _, _, _, _, _, _, _] rfl (γ := Value × Hl × List (List Value)) (fun g => (β13, cb [.int .i64 65536, g.1] 24) :: (g.2.1 ++ L)) (fun g tw => Own 97 4 g.2.1 g.1 14 g.2.2.flatten ∧ All2 (fun x cs => cs.length = 4 ∧ InsR tw x cs) (defT.ins.take 14) g.2.2) (fun _ _ _ h hl => ⟨h.1, insA_le h.2 hl⟩) ?_ ?_
  ·
   refine JC_drawT drawsMixed 15 rfl 8 ?_
   intro s271 h271
   refine JA_q 0 rfl (by kernel_rfl) (by kernel_rfl) (by kernel_rfl) trivial (QE_mv rfl) rfl ?_
   refine JA_q 1 rfl (by kernel_rfl) (by kernel_rfl) (by kernel_rfl) trivial (QE_mv rfl) rfl ?_
   refine JA_q 2 rfl (by kernel_rfl) (by kernel_rfl) (by kernel_rfl) trivial (QE_mv rfl) rfl ?_
   refine JA_q 4 rfl (by kernel_rfl) (by kernel_rfl) (by kernel_rfl) trivial (QE_ldA 5 [_, _] rfl rfl rfl rfl rfl) rfl ?_
   refine JA_q 7 rfl (by kernel_rfl) (by kernel_rfl) (by kernel_rfl) trivial (QE_mv rfl) rfl ?_
   refine JA_q 8 rfl (by kernel_rfl) (by kernel_rfl) (by kernel_rfl) trivial (QE_ldA 4 [_, _] rfl rfl rfl rfl rfl) rfl ?_
   refine JA_q 9 rfl (by kernel_rfl) (by kernel_rfl) (by kernel_rfl) trivial (QE_ldA 5 [_, _] rfl rfl rfl rfl rfl) rfl ?_
   refine JA_2 3 10 (by kernel_rfl) ?_ ?_
   ·
    refine JB_call rfl trivial (first := []) (captured := []) rfl rfl rfl (num_ac D _ _ _) ?_
    rintro _ _ s272 h272 ⟨rfl, rfl⟩
    refine ⟨fun _ _ h => h, ?_⟩
    refine JA_2 5 10 (by kernel_rfl) ?_ ?_
    ·
     refine JB_bs rfl trivial [(_, _), (_, _)] [_, _, _, _] rfl rfl rfl rfl rfl rfl rfl rfl rfl ?_
     intro βn s273 h273 hb21_5
     refine JA_2 6 10 (by kernel_rfl) ?_ ?_
     ·
      refine JB_call rfl trivial (first := []) (captured := []) rfl rfl rfl (do_ac D _ _ _ _ _ _ _ _ (tms2 (hb21_5.le (Le.refl (D := D) _)) (uD rfl) (uD rfl)) (by decide)) ?_
      rintro _ _ s274 h274 ⟨rfl, rfl⟩
      refine ⟨fun _ _ h => h, ?_⟩
      refine JA_1 10 (by kernel_rfl) ?_
      refine JB_bs rfl trivial [(_, _), (_, _)] [_, _, _, _] rfl rfl rfl rfl rfl rfl rfl rfl rfl ?_
      intro βn s275 h275 hb21_10
      refine JA_1 11 (by kernel_rfl) ?_
      refine JB_call rfl trivial (first := []) (captured := []) rfl rfl rfl (do_ac D _ _ _ _ _ _ _ _ (tms2 (hb21_10.le (Le.refl (D := D) _)) (uD rfl) (uD rfl)) (by decide)) ?_
      rintro _ _ s276 h276 ⟨rfl, rfl⟩
      refine ⟨fun _ _ h => h, ?_⟩
      refine JA_1 12 (by kernel_rfl) ?_
      refine JB_bs rfl trivial [(_, _), (_, _)] [_, _, _, _, _, _, _, _, _, _, _, _] rfl rfl rfl rfl rfl rfl rfl rfl rfl ?_
      intro βn s277 h277 hb21_12
      refine JA_1 13 (by kernel_rfl) ?_
      refine JB_call rfl trivial (first := []) (captured := [_]) rfl rfl rfl (AC.mid [_, _, _, _, _, _, _] [_] _ (popped_mid D _ _ _ _ _ _ (acs2 (hb21_12.le (Le.refl (D := D) _)) ⟨⟨(uD rfl), (uD rfl)⟩, ⟨(uD rfl), (uD rfl)⟩⟩) _ _ _ _ _ (hPop.le (Le.trans (Le.trans (Le.trans (Le.trans (Le.trans (Le.trans (Le.trans (Le.trans (Le.trans (Le.trans (Le.trans (Le.trans (Le.trans (Le.trans (Le.trans (Le.trans (Le.trans (Le.trans (Le.trans h139 h144) h149) h154) h159) h178) h197) h216) h238) h247) h252) h258) h264) h271) h272) h273) h274) h275) h276) h277)) (by decide))) ?_
      rintro _ _ s278 h278 ⟨_, rfl, rfl, Ap21, np21, cp21, rfl, hPa21⟩
      refine ⟨(fun x hx _ => sub_mem (sbY (sbY (sbY (sbY (sbY (sbY (sbY (sbY (sb0 _))))))))) hx), ?_⟩
      simp only [List.cons_append, List.nil_append]
      refine JA_1 14 (by kernel_rfl) ?_
      refine JB_call rfl trivial (first := []) (captured := [_]) rfl rfl rfl (AC.mid [_, _, _, _, _, _, _, _] (_ :: Mj) L (add_ac D _ _ _ _ _ _ _ _ _ Mj 13 _ hOj (by decide))) ?_
      rintro _ _ s279 h279 ⟨_, rfl, rfl, v2, M2, rfl, o2⟩
      refine ⟨(fun x hx _ => sub_mem (sbY (sbY (sbY (sbY (sbY (sbY (sbY (sbY (sb0 _))))))))) hx), ?_⟩
      simp only [List.cons_append, List.nil_append]
      refine JA_done (by kernel_rfl) ?_
      refine thenQ_n (MidF.mk (v2, M2, css ++ [_]) [] (Le.trans (Le.trans (Le.trans (Le.trans (Le.trans (Le.trans (Le.trans (Le.trans h271 h272) h273) h274) h275) h276) h277) h278) h279) (Suf.keeps (by repeat (first | exact Suf.refl | refine Suf.push rfl ?_))) (List.Perm.refl _) ⟨by rw [flat_snoc2]; exact o2, by rw [std_take (j := 13) (l := defT.ins) rfl]; exact All2.snoc (insA_le hAj (Le.trans (Le.trans (Le.trans (Le.trans (Le.trans (Le.trans (Le.trans (Le.trans h271 h272) h273) h274) h275) h276) h277) h278) h279)) ⟨rfl, _, _, _, rfl, (hPa21.le h279), by decide, ⟨by decide, by decide⟩⟩⟩)
     ·
      refine JB_bs rfl trivial [(_, _), (_, _)] [_, _, _, _] rfl rfl rfl rfl rfl rfl rfl rfl rfl ?_
      intro βn s280 h280 hb21_10
      refine JA_1 6 (by kernel_rfl) ?_
      refine JB_call rfl trivial (first := []) (captured := []) rfl rfl rfl (do_ac D _ _ _ _ _ _ _ _ (tms2 (hb21_5.le h280) (uD rfl) (uD rfl)) (by decide)) ?_
      rintro _ _ s281 h281 ⟨rfl, rfl⟩
      refine ⟨fun _ _ h => h, ?_⟩
      refine JA_1 11 (by kernel_rfl) ?_
      refine JB_call rfl trivial (first := []) (captured := []) rfl rfl rfl (do_ac D _ _ _ _ _ _ _ _ (tms2 (hb21_10.le h281) (uD rfl) (uD rfl)) (by decide)) ?_
      rintro _ _ s282 h282 ⟨rfl, rfl⟩
      refine ⟨fun _ _ h => h, ?_⟩
      refine JA_1 12 (by kernel_rfl) ?_
      refine JB_bs rfl trivial [(_, _), (_, _)] [_, _, _, _, _, _, _, _, _, _, _, _] rfl rfl rfl rfl rfl rfl rfl rfl rfl ?_
      intro βn s283 h283 hb21_12
      refine JA_1 13 (by kernel_rfl) ?_
      refine JB_call rfl trivial (first := []) (captured := [_]) rfl rfl rfl (AC.mid [_, _, _, _, _, _, _] [_] _ (popped_mid D _ _ _ _ _ _ (acs2 (hb21_12.le (Le.refl (D := D) _)) ⟨⟨(uD rfl), (uD rfl)⟩, ⟨(uD rfl), (uD rfl)⟩⟩) _ _ _ _ _ (hPop.le (Le.trans (Le.trans (Le.trans (Le.trans (Le.trans (Le.trans (Le.trans (Le.trans (Le.trans (Le.trans (Le.trans (Le.trans (Le.trans (Le.trans (Le.trans (Le.trans (Le.trans (Le.trans (Le.trans h139 h144) h149) h154) h159) h178) h197) h216) h238) h247) h252) h258) h264) h271) h272) h273) h280) h281) h282) h283)) (by decide))) ?_
      rintro _ _ s284 h284 ⟨_, rfl, rfl, Ap21, np21, cp21, rfl, hPa21⟩
      refine ⟨(fun x hx _ => sub_mem (sbY (sbY (sbY (sbY (sbY (sbY (sbY (sbY (sb0 _))))))))) hx), ?_⟩
      simp only [List.cons_append, List.nil_append]
      refine JA_1 14 (by kernel_rfl) ?_
      refine JB_call rfl trivial (first := []) (captured := [_]) rfl rfl rfl (AC.mid [_, _, _, _, _, _, _, _] (_ :: Mj) L (add_ac D _ _ _ _ _ _ _ _ _ Mj 13 _ hOj (by decide))) ?_
      rintro _ _ s285 h285 ⟨_, rfl, rfl, v2, M2, rfl, o2⟩
      refine ⟨(fun x hx _ => sub_mem (sbY (sbY (sbY (sbY (sbY (sbY (sbY (sbY (sb0 _))))))))) hx), ?_⟩
      simp only [List.cons_append, List.nil_append]
      refine JA_done (by kernel_rfl) ?_
      refine thenQ_n (MidF.mk (v2, M2, css ++ [_]) [] (Le.trans (Le.trans (Le.trans (Le.trans (Le.trans (Le.trans (Le.trans (Le.trans h271 h272) h273) h280) h281) h282) h283) h284) h285) (Suf.keeps (by repeat (first | exact Suf.refl | refine Suf.push rfl ?_))) (List.Perm.refl _) ⟨by rw [flat_snoc2]; exact o2, by rw [std_take (j := 13) (l := defT.ins) rfl]; exact All2.snoc (insA_le hAj (Le.trans (Le.trans (Le.trans (Le.trans (Le.trans (Le.trans (Le.trans (Le.trans h271 h272) h273) h280) h281) h282) h283) h284) h285)) ⟨rfl, _, _, _, rfl, (hPa21.le h285), by decide, ⟨by decide, by decide⟩⟩⟩)
    ·
     refine JB_bs rfl trivial [(_, _), (_, _)] [_, _, _, _] rfl rfl rfl rfl rfl rfl rfl rfl rfl ?_
     intro βn s286 h286 hb21_10
     refine JA_1 5 (by kernel_rfl) ?_
     refine JB_bs rfl trivial [(_, _), (_, _)] [_, _, _, _] rfl rfl rfl rfl rfl rfl rfl rfl rfl ?_
     intro βn s287 h287 hb21_5
     refine JA_1 6 (by kernel_rfl) ?_
     refine JB_call rfl trivial (first := []) (captured := []) rfl rfl rfl (do_ac D _ _ _ _ _ _ _ _ (tms2 (hb21_5.le (Le.refl (D := D) _)) (uD rfl) (uD rfl)) (by decide)) ?_
     rintro _ _ s288 h288 ⟨rfl, rfl⟩
     refine ⟨fun _ _ h => h, ?_⟩
     refine JA_1 11 (by kernel_rfl) ?_
     refine JB_call rfl trivial (first := []) (captured := []) rfl rfl rfl (do_ac D _ _ _ _ _ _ _ _ (tms2 (hb21_10.le (Le.trans h287 h288)) (uD rfl) (uD rfl)) (by decide)) ?_
     rintro _ _ s289 h289 ⟨rfl, rfl⟩
     refine ⟨fun _ _ h => h, ?_⟩
     refine JA_1 12 (by kernel_rfl) ?_
     refine JB_bs rfl trivial [(_, _), (_, _)] [_, _, _, _, _, _, _, _, _, _, _, _] rfl rfl rfl rfl rfl rfl rfl rfl rfl ?_
     intro βn s290 h290 hb21_12
     refine JA_1 13 (by kernel_rfl) ?_
     refine JB_call rfl trivial (first := []) (captured := [_]) rfl rfl rfl (AC.mid [_, _, _, _, _, _, _] [_] _ (popped_mid D _ _ _ _ _ _ (acs2 (hb21_12.le (Le.refl (D := D) _)) ⟨⟨(uD rfl), (uD rfl)⟩, ⟨(uD rfl), (uD rfl)⟩⟩) _ _ _ _ _ (hPop.le (Le.trans (Le.trans (Le.trans (Le.trans (Le.trans (Le.trans (Le.trans (Le.trans (Le.trans (Le.trans (Le.trans (Le.trans (Le.trans (Le.trans (Le.trans (Le.trans (Le.trans (Le.trans (Le.trans h139 h144) h149) h154) h159) h178) h197) h216) h238) h247) h252) h258) h264) h271) h272) h286) h287) h288) h289) h290)) (by decide))) ?_
     rintro _ _ s291 h291 ⟨_, rfl, rfl, Ap21, np21, cp21, rfl, hPa21⟩
     refine ⟨(fun x hx _ => sub_mem (sbY (sbY (sbY (sbY (sbY (sbY (sbY (sbY (sb0 _))))))))) hx), ?_⟩
     simp only [List.cons_append, List.nil_append]
     refine JA_1 14 (by kernel_rfl) ?_
     refine JB_call rfl trivial (first := []) (captured := [_]) rfl rfl rfl (AC.mid [_, _, _, _, _, _, _, _] (_ :: Mj) L (add_ac D _ _ _ _ _ _ _ _ _ Mj 13 _ hOj (by decide))) ?_
     rintro _ _ s292 h292 ⟨_, rfl, rfl, v2, M2, rfl, o2⟩
     refine ⟨(fun x hx _ => sub_mem (sbY (sbY (sbY (sbY (sbY (sbY (sbY (sbY (sb0 _))))))))) hx), ?_⟩
     simp only [List.cons_append, List.nil_append]
     refine JA_done (by kernel_rfl) ?_
     refine thenQ_n (MidF.mk (v2, M2, css ++ [_]) [] (Le.trans (Le.trans (Le.trans (Le.trans (Le.trans (Le.trans (Le.trans (Le.trans h271 h272) h286) h287) h288) h289) h290) h291) h292) (Suf.keeps (by repeat (first | exact Suf.refl | refine Suf.push rfl ?_))) (List.Perm.refl _) ⟨by rw [flat_snoc2]; exact o2, by rw [std_take (j := 13) (l := defT.ins) rfl]; exact All2.snoc (insA_le hAj (Le.trans (Le.trans (Le.trans (Le.trans (Le.trans (Le.trans (Le.trans (Le.trans h271 h272) h286) h287) h288) h289) h290) h291) h292)) ⟨rfl, _, _, _, rfl, (hPa21.le h292), by decide, ⟨by decide, by decide⟩⟩⟩)
   ·
    refine JB_bs rfl trivial [(_, _), (_, _)] [_, _, _, _] rfl rfl rfl rfl rfl rfl rfl rfl rfl ?_
    intro βn s293 h293 hb21_10
    refine JA_1 3 (by kernel_rfl) ?_
    refine JB_call rfl trivial (first := []) (captured := []) rfl rfl rfl (num_ac D _ _ _) ?_
    rintro _ _ s294 h294 ⟨rfl, rfl⟩
    refine ⟨fun _ _ h => h, ?_⟩
    refine JA_1 5 (by kernel_rfl) ?_
    refine JB_bs rfl trivial [(_, _), (_, _)] [_, _, _, _] rfl rfl rfl rfl rfl rfl rfl rfl rfl ?_
    intro βn s295 h295 hb21_5
    refine JA_1 6 (by kernel_rfl) ?_
    refine JB_call rfl trivial (first := []) (captured := []) rfl rfl rfl (do_ac D _ _ _ _ _ _ _ _ (tms2 (hb21_5.le (Le.refl (D := D) _)) (uD rfl) (uD rfl)) (by decide)) ?_
    rintro _ _ s296 h296 ⟨rfl, rfl⟩
    refine ⟨fun _ _ h => h, ?_⟩
    refine JA_1 11 (by kernel_rfl) ?_
    refine JB_call rfl trivial (first := []) (captured := []) rfl rfl rfl (do_ac D _ _ _ _ _ _ _ _ (tms2 (hb21_10.le (Le.trans (Le.trans h294 h295) h296)) (uD rfl) (uD rfl)) (by decide)) ?_
    rintro _ _ s297 h297 ⟨rfl, rfl⟩
    refine ⟨fun _ _ h => h, ?_⟩
    refine JA_1 12 (by kernel_rfl) ?_
    refine JB_bs rfl trivial [(_, _), (_, _)] [_, _, _, _, _, _, _, _, _, _, _, _] rfl rfl rfl rfl rfl rfl rfl rfl rfl ?_
    intro βn s298 h298 hb21_12
    refine JA_1 13 (by kernel_rfl) ?_
    refine JB_call rfl trivial (first := []) (captured := [_]) rfl rfl rfl (AC.mid [_, _, _, _, _, _, _] [_] _ (popped_mid D _ _ _ _ _ _ (acs2 (hb21_12.le (Le.refl (D := D) _)) ⟨⟨(uD rfl), (uD rfl)⟩, ⟨(uD rfl), (uD rfl)⟩⟩) _ _ _ _ _ (hPop.le (Le.trans (Le.trans (Le.trans (Le.trans (Le.trans (Le.trans (Le.trans (Le.trans (Le.trans (Le.trans (Le.trans (Le.trans (Le.trans (Le.trans (Le.trans (Le.trans (Le.trans (Le.trans (Le.trans h139 h144) h149) h154) h159) h178) h197) h216) h238) h247) h252) h258) h264) h271) h293) h294) h295) h296) h297) h298)) (by decide))) ?_
    rintro _ _ s299 h299 ⟨_, rfl, rfl, Ap21, np21, cp21, rfl, hPa21⟩
    refine ⟨(fun x hx _ => sub_mem (sbY (sbY (sbY (sbY (sbY (sbY (sbY (sbY (sb0 _))))))))) hx), ?_⟩
    simp only [List.cons_append, List.nil_append]
    refine JA_1 14 (by kernel_rfl) ?_
    refine JB_call rfl trivial (first := []) (captured := [_]) rfl rfl rfl (AC.mid [_, _, _, _, _, _, _, _] (_ :: Mj) L (add_ac D _ _ _ _ _ _ _ _ _ Mj 13 _ hOj (by decide))) ?_
    rintro _ _ s300 h300 ⟨_, rfl, rfl, v2, M2, rfl, o2⟩
    refine ⟨(fun x hx _ => sub_mem (sbY (sbY (sbY (sbY (sbY (sbY (sbY (sbY (sb0 _))))))))) hx), ?_⟩
    simp only [List.cons_append, List.nil_append]
    refine JA_done (by kernel_rfl) ?_
    refine thenQ_n (MidF.mk (v2, M2, css ++ [_]) [] (Le.trans (Le.trans (Le.trans (Le.trans (Le.trans (Le.trans (Le.trans (Le.trans h271 h293) h294) h295) h296) h297) h298) h299) h300) (Suf.keeps (by repeat (first | exact Suf.refl | refine Suf.push rfl ?_))) (List.Perm.refl _) ⟨by rw [flat_snoc2]; exact o2, by rw [std_take (j := 13) (l := defT.ins) rfl]; exact All2.snoc (insA_le hAj (Le.trans (Le.trans (Le.trans (Le.trans (Le.trans (Le.trans (Le.trans (Le.trans h271 h293) h294) h295) h296) h297) h298) h299) h300)) ⟨rfl, _, _, _, rfl, (hPa21.le h300), by decide, ⟨by decide, by decide⟩⟩⟩)
  intro g s270 h270 I270
  simp only [List.cons_append, List.nil_append]
  obtain ⟨vj, Mj, css⟩ := g
  obtain ⟨hOj, hAj⟩ := I270
  simp only at hOj hAj
  dsimp only
  refine JC_cutF [_, _, _, _, _, _, _, _] rfl (γ := Value × Hl × List (List Value)) (fun g => (β13, cb [.int .i64 65536, g.1] 24) :: (g.2.1 ++ L)) (fun g tw => Own 97 4 g.2.1 g.1 15 g.2.2.flatten ∧ All2 (fun x cs => cs.length = 4 ∧ InsR tw x cs) (defT.ins.take 15) g.2.2) (fun _ _ _ h hl => ⟨h.1, insA_le h.2 hl⟩) ?_ ?_
  ·
   refine JC_drawT drawsMixed 15 rfl 8 ?_
   intro s302 h302
   refine JA_q 0 rfl (by kernel_rfl) (by kernel_rfl) (by kernel_rfl) trivial (QE_mv rfl) rfl ?_
   refine JA_q 1 rfl (by kernel_rfl) (by kernel_rfl) (by kernel_rfl) trivial (QE_mv rfl) rfl ?_
   refine JA_q 2 rfl (by kernel_rfl) (by kernel_rfl) (by kernel_rfl) trivial (QE_mv rfl) rfl ?_
   refine JA_q 4 rfl (by kernel_rfl) (by kernel_rfl) (by kernel_rfl) trivial (QE_ldA 5 [_, _] rfl rfl rfl rfl rfl) rfl ?_
   refine JA_q 7 rfl (by kernel_rfl) (by kernel_rfl) (by kernel_rfl) trivial (QE_mv rfl) rfl ?_
   refine JA_q 8 rfl (by kernel_rfl) (by kernel_rfl) (by kernel_rfl) trivial (QE_ldA 4 [_, _] rfl rfl rfl rfl rfl) rfl ?_
   refine JA_q 9 rfl (by kernel_rfl) (by kernel_rfl) (by kernel_rfl) trivial (QE_ldA 5 [_, _] rfl rfl rfl rfl rfl) rfl ?_
   refine JA_2 3 10 (by kernel_rfl) ?_ ?_
   ·
    refine JB_call rfl trivial (first := []) (captured := []) rfl rfl rfl (num_ac D _ _ _) ?_
    rintro _ _ s303 h303 ⟨rfl, rfl⟩
    refine ⟨fun _ _ h => h, ?_⟩
    refine JA_2 5 10 (by kernel_rfl) ?_ ?_
    ·
     refine JB_bs rfl trivial [(_, _), (_, _)] [_, _, _, _] rfl rfl rfl rfl rfl rfl rfl rfl rfl ?_
     intro βn s304 h304 hb22_5
     refine JA_2 6 10 (by kernel_rfl) ?_ ?_
     ·
      refine JB_call rfl trivial (first := []) (captured := []) rfl rfl rfl (do_ac D _ _ _ _ _ _ _ _ (tms2 (hb22_5.le (Le.refl (D := D) _)) (uD rfl) (uD rfl)) (by decide)) ?_
      rintro _ _ s305 h305 ⟨rfl, rfl⟩
      refine ⟨fun _ _ h => h, ?_⟩
      refine JA_1 10 (by kernel_rfl) ?_
      refine JB_bs rfl trivial [(_, _), (_, _)] [_, _, _, _] rfl rfl rfl rfl rfl rfl rfl rfl rfl ?_
      intro βn s306 h306 hb22_10
      refine JA_1 11 (by kernel_rfl) ?_
      refine JB_call rfl trivial (first := []) (captured := []) rfl rfl rfl (do_ac D _ _ _ _ _ _ _ _ (tms2 (hb22_10.le (Le.refl (D := D) _)) (uD rfl) (uD rfl)) (by decide)) ?_
      rintro _ _ s307 h307 ⟨rfl, rfl⟩
      refine ⟨fun _ _ h => h, ?_⟩
      refine JA_1 12 (by kernel_rfl) ?_
      refine JB_bs rfl trivial [(_, _), (_, _)] [_, _, _, _, _, _, _, _, _, _, _, _] rfl rfl rfl rfl rfl rfl rfl rfl rfl ?_
      intro βn s308 h308 hb22_12
      refine JA_1 13 (by kernel_rfl) ?_
      refine JB_call rfl trivial (first := []) (captured := [_]) rfl rfl rfl (AC.mid [_, _, _, _, _, _, _] [_] _ (popped_mid D _ _ _ _ _ _ (acs2 (hb22_12.le (Le.refl (D := D) _)) ⟨⟨(uD rfl), (uD rfl)⟩, ⟨(uD rfl), (uD rfl)⟩⟩) _ _ _ _ _ (hPop.le (Le.trans (Le.trans (Le.trans (Le.trans (Le.trans (Le.trans (Le.trans (Le.trans (Le.trans (Le.trans (Le.trans (Le.trans (Le.trans (Le.trans (Le.trans (Le.trans (Le.trans (Le.trans (Le.trans (Le.trans h139 h144) h149) h154) h159) h178) h197) h216) h238) h247) h252) h258) h264) h270) h302) h303) h304) h305) h306) h307) h308)) (by decide))) ?_
      rintro _ _ s309 h309 ⟨_, rfl, rfl, Ap22, np22, cp22, rfl, hPa22⟩
      refine ⟨(fun x hx _ => sub_mem (sbY (sbY (sbY (sbY (sbY (sbY (sbY (sbY (sb0 _))))))))) hx), ?_⟩
      simp only [List.cons_append, List.nil_append]
      refine JA_1 14 (by kernel_rfl) ?_
      refine JB_call rfl trivial (first := []) (captured := [_]) rfl rfl rfl (AC.mid [_, _, _, _, _, _, _, _] (_ :: Mj) L (add_ac D _ _ _ _ _ _ _ _ _ Mj 14 _ hOj (by decide))) ?_
      rintro _ _ s310 h310 ⟨_, rfl, rfl, v2, M2, rfl, o2⟩
      refine ⟨(fun x hx _ => sub_mem (sbY (sbY (sbY (sbY (sbY (sbY (sbY (sbY (sb0 _))))))))) hx), ?_⟩
      simp only [List.cons_append, List.nil_append]
      refine JA_done (by kernel_rfl) ?_
      refine thenQ_n (MidF.mk (v2, M2, css ++ [_]) [] (Le.trans (Le.trans (Le.trans (Le.trans (Le.trans (Le.trans (Le.trans (Le.trans h302 h303) h304) h305) h306) h307) h308) h309) h310) (Suf.keeps (by repeat (first | exact Suf.refl | refine Suf.push rfl ?_))) (List.Perm.refl _) ⟨by rw [flat_snoc2]; exact o2, by rw [std_take (j := 14) (l := defT.ins) rfl]; exact All2.snoc (insA_le hAj (Le.trans (Le.trans (Le.trans (Le.trans (Le.trans (Le.trans (Le.trans (Le.trans h302 h303) h304) h305) h306) h307) h308) h309) h310)) ⟨rfl, _, _, _, rfl, (hPa22.le h310), by decide, ⟨by decide, by decide⟩⟩⟩)
     ·
      refine JB_bs rfl trivial [(_, _), (_, _)] [_, _, _, _] rfl rfl rfl rfl rfl rfl rfl rfl rfl ?_
      intro βn s311 h311 hb22_10
      refine JA_1 6 (by kernel_rfl) ?_
      refine JB_call rfl trivial (first := []) (captured := []) rfl rfl rfl (do_ac D _ _ _ _ _ _ _ _ (tms2 (hb22_5.le h311) (uD rfl) (uD rfl)) (by decide)) ?_
      rintro _ _ s312 h312 ⟨rfl, rfl⟩
      refine ⟨fun _ _ h => h, ?_⟩
      refine JA_1 11 (by kernel_rfl) ?_
      refine JB_call rfl trivial (first := []) (captured := []) rfl rfl rfl (do_ac D _ _ _ _ _ _ _ _ (tms2 (hb22_10.le h312) (uD rfl) (uD rfl)) (by decide)) ?_
      rintro _ _ s313 h313 ⟨rfl, rfl⟩
      refine ⟨fun _ _ h => h, ?_⟩
      refine JA_1 12 (by kernel_rfl) ?_
      refine JB_bs rfl trivial [(_, _), (_, _)] [_, _, _, _, _, _, _, _, _, _, _, _] rfl rfl rfl rfl rfl rfl rfl rfl rfl ?_
      intro βn s314 h314 hb22_12
      refine JA_1 13 (by kernel_rfl) ?_
      refine JB_call rfl trivial (first := []) (captured := [_]) rfl rfl rfl (AC.mid [_, _, _, _, _, _, _] [_] _ (popped_mid D _ _ _ _ _ _ (acs2 (hb22_12.le (Le.refl (D := D) _)) ⟨⟨(uD rfl), (uD rfl)⟩, ⟨(uD rfl), (uD rfl)⟩⟩) _ _ _ _ _ (hPop.le (Le.trans (Le.trans (Le.trans (Le.trans (Le.trans (Le.trans (Le.trans (Le.trans (Le.trans (Le.trans (Le.trans (Le.trans (Le.trans (Le.trans (Le.trans (Le.trans (Le.trans (Le.trans (Le.trans (Le.trans h139 h144) h149) h154) h159) h178) h197) h216) h238) h247) h252) h258) h264) h270) h302) h303) h304) h311) h312) h313) h314)) (by decide))) ?_
      rintro _ _ s315 h315 ⟨_, rfl, rfl, Ap22, np22, cp22, rfl, hPa22⟩
      refine ⟨(fun x hx _ => sub_mem (sbY (sbY (sbY (sbY (sbY (sbY (sbY (sbY (sb0 _))))))))) hx), ?_⟩
      simp only [List.cons_append, List.nil_append]
      refine JA_1 14 (by kernel_rfl) ?_
      refine JB_call rfl trivial (first := []) (captured := [_]) rfl rfl rfl (AC.mid [_, _, _, _, _, _, _, _] (_ :: Mj) L (add_ac D _ _ _ _ _ _ _ _ _ Mj 14 _ hOj (by decide))) ?_
      rintro _ _ s316 h316 ⟨_, rfl, rfl, v2, M2, rfl, o2⟩
      refine ⟨(fun x hx _ => sub_mem (sbY (sbY (sbY (sbY (sbY (sbY (sbY (sbY (sb0 _))))))))) hx), ?_⟩
      simp only [List.cons_append, List.nil_append]
      refine JA_done (by kernel_rfl) ?_
      refine thenQ_n (MidF.mk (v2, M2, css ++ [_]) [] (Le.trans (Le.trans (Le.trans (Le.trans (Le.trans (Le.trans (Le.trans (Le.trans h302 h303) h304) h311) h312) h313) h314) h315) h316) (Suf.keeps (by repeat (first | exact Suf.refl | refine Suf.push rfl ?_))) (List.Perm.refl _) ⟨by rw [flat_snoc2]; exact o2, by rw [std_take (j := 14) (l := defT.ins) rfl]; exact All2.snoc (insA_le hAj (Le.trans (Le.trans (Le.trans (Le.trans (Le.trans (Le.trans (Le.trans (Le.trans h302 h303) h304) h311) h312) h313) h314) h315) h316)) ⟨rfl, _, _, _, rfl, (hPa22.le h316), by decide, ⟨by decide, by decide⟩⟩⟩)
    ·
     refine JB_bs rfl trivial [(_, _), (_, _)] [_, _, _, _] rfl rfl rfl rfl rfl rfl rfl rfl rfl ?_
     intro βn s317 h317 hb22_10
     refine JA_1 5 (by kernel_rfl) ?_
     refine JB_bs rfl trivial [(_, _), (_, _)] [_, _, _, _] rfl rfl rfl rfl rfl rfl rfl rfl rfl ?_
     intro βn s318 h318 hb22_5
     refine JA_1 6 (by kernel_rfl) ?_
     refine JB_call rfl trivial (first := []) (captured := []) rfl rfl rfl (do_ac D _ _ _ _ _ _ _ _ (tms2 (hb22_5.le (Le.refl (D := D) _)) (uD rfl) (uD rfl)) (by decide)) ?_
     rintro _ _ s319 h319 ⟨rfl, rfl⟩
     refine ⟨fun _ _ h => h, ?_⟩
     refine JA_1 11 (by kernel_rfl) ?_
     refine JB_call rfl trivial (first := []) (captured := []) rfl rfl rfl (do_ac D _ _ _ _ _ _ _ _ (tms2 (hb22_10.le (Le.trans h318 h319)) (uD rfl) (uD rfl)) (by decide)) ?_
     rintro _ _ s320 h320 ⟨rfl, rfl⟩
     refine ⟨fun _ _ h => h, ?_⟩
     refine JA_1 12 (by kernel_rfl) ?_
     refine JB_bs rfl trivial [(_, _), (_, _)] [_, _, _, _, _, _, _, _, _, _, _, _] rfl rfl rfl rfl rfl rfl rfl rfl rfl ?_
     intro βn s321 h321 hb22_12
     refine JA_1 13 (by kernel_rfl) ?_
     refine JB_call rfl trivial (first := []) (captured := [_]) rfl rfl rfl (AC.mid [_, _, _, _, _, _, _] [_] _ (popped_mid D _ _ _ _ _ _ (acs2 (hb22_12.le (Le.refl (D := D) _)) ⟨⟨(uD rfl), (uD rfl)⟩, ⟨(uD rfl), (uD rfl)⟩⟩) _ _ _ _ _ (hPop.le (Le.trans (Le.trans (Le.trans (Le.trans (Le.trans (Le.trans (Le.trans (Le.trans (Le.trans (Le.trans (Le.trans (Le.trans (Le.trans (Le.trans (Le.trans (Le.trans (Le.trans (Le.trans (Le.trans (Le.trans h139 h144) h149) h154) h159) h178) h197) h216) h238) h247) h252) h258) h264) h270) h302) h303) h317) h318) h319) h320) h321)) (by decide))) ?_
     rintro _ _ s322 h322 ⟨_, rfl, rfl, Ap22, np22, cp22, rfl, hPa22⟩
     refine ⟨(fun x hx _ => sub_mem (sbY (sbY (sbY (sbY (sbY (sbY (sbY (sbY (sb0 _))))))))) hx), ?_⟩
     simp only [List.cons_append, List.nil_append]
     refine JA_1 14 (by kernel_rfl) ?_
     refine JB_call rfl trivial (first := []) (captured := [_]) rfl rfl rfl (AC.mid [_, _, _, _, _, _, _, _] (_ :: Mj) L (add_ac D _ _ _ _ _ _ _ _ _ Mj 14 _ hOj (by decide))) ?_
     rintro _ _ s323 h323 ⟨_, rfl, rfl, v2, M2, rfl, o2⟩
     refine ⟨(fun x hx _ => sub_mem (sbY (sbY (sbY (sbY (sbY (sbY (sbY (sbY (sb0 _))))))))) hx), ?_⟩
     simp only [List.cons_append, List.nil_append]
     refine JA_done (by kernel_rfl) ?_
     refine thenQ_n (MidF.mk (v2, M2, css ++ [_]) [] (Le.trans (Le.trans (Le.trans (Le.trans (Le.trans (Le.trans (Le.trans (Le.trans h302 h303) h317) h318) h319) h320) h321) h322) h323) (Suf.keeps (by repeat (first | exact Suf.refl | refine Suf.push rfl ?_))) (List.Perm.refl _) ⟨by rw [flat_snoc2]; exact o2, by rw [std_take (j := 14) (l := defT.ins) rfl]; exact All2.snoc (insA_le hAj (Le.trans (Le.trans (Le.trans (Le.trans (Le.trans (Le.trans (Le.trans (Le.trans h302 h303) h317) h318) h319) h320) h321) h322) h323)) ⟨rfl, _, _, _, rfl, (hPa22.le h323), by decide, ⟨by decide, by decide⟩⟩⟩)
   ·
    refine JB_bs rfl trivial [(_, _), (_, _)] [_, _, _, _] rfl rfl rfl rfl rfl rfl rfl rfl rfl ?_
    intro βn s324 h324 hb22_10
    refine JA_1 3 (by kernel_rfl) ?_
    refine JB_call rfl trivial (first := []) (captured := []) rfl rfl rfl (num_ac D _ _ _) ?_
    rintro _ _ s325 h325 ⟨rfl, rfl⟩
    refine ⟨fun _ _ h => h, ?_⟩
    refine JA_1 5 (by kernel_rfl) ?_
    refine JB_bs rfl trivial [(_, _), (_, _)] [_, _, _, _] rfl rfl rfl rfl rfl rfl rfl rfl rfl ?_
    intro βn s326 h326 hb22_5
    refine JA_1 6 (by kernel_rfl) ?_
    refine JB_call rfl trivial (first := []) (captured := []) rfl rfl rfl (do_ac D _ _ _ _ _ _ _ _ (tms2 (hb22_5.le (Le.refl (D := D) _)) (uD rfl) (uD rfl)) (by decide)) ?_
    rintro _ _ s327 h327 ⟨rfl, rfl⟩
    refine ⟨fun _ _ h => h, ?_⟩
    refine JA_1 11 (by kernel_rfl) ?_
    refine JB_call rfl trivial (first := []) (captured := []) rfl rfl rfl (do_ac D _ _ _ _ _ _ _ _ (tms2 (hb22_10.le (Le.trans (Le.trans h325 h326) h327)) (uD rfl) (uD rfl)) (by decide)) ?_
    rintro _ _ s328 h328 ⟨rfl, rfl⟩
    refine ⟨fun _ _ h => h, ?_⟩
    refine JA_1 12 (by kernel_rfl) ?_
    refine JB_bs rfl trivial [(_, _), (_, _)] [_, _, _, _, _, _, _, _, _, _, _, _] rfl rfl rfl rfl rfl rfl rfl rfl rfl ?_
    intro βn s329 h329 hb22_12
    refine JA_1 13 (by kernel_rfl) ?_
    refine JB_call rfl trivial (first := []) (captured := [_]) rfl rfl rfl (AC.mid [_, _, _, _, _, _, _] [_] _ (popped_mid D _ _ _ _ _ _ (acs2 (hb22_12.le (Le.refl (D := D) _)) ⟨⟨(uD rfl), (uD rfl)⟩, ⟨(uD rfl), (uD rfl)⟩⟩) _ _ _ _ _ (hPop.le (Le.trans (Le.trans (Le.trans (Le.trans (Le.trans (Le.trans (Le.trans (Le.trans (Le.trans (Le.trans (Le.trans (Le.trans (Le.trans (Le.trans (Le.trans (Le.trans (Le.trans (Le.trans (Le.trans (Le.trans h139 h144) h149) h154) h159) h178) h197) h216) h238) h247) h252) h258) h264) h270) h302) h324) h325) h326) h327) h328) h329)) (by decide))) ?_
    rintro _ _ s330 h330 ⟨_, rfl, rfl, Ap22, np22, cp22, rfl, hPa22⟩
    refine ⟨(fun x hx _ => sub_mem (sbY (sbY (sbY (sbY (sbY (sbY (sbY (sbY (sb0 _))))))))) hx), ?_⟩
    simp only [List.cons_append, List.nil_append]
    refine JA_1 14 (by kernel_rfl) ?_
    refine JB_call rfl trivial (first := []) (captured := [_]) rfl rfl rfl (AC.mid [_, _, _, _, _, _, _, _] (_ :: Mj) L (add_ac D _ _ _ _ _ _ _ _ _ Mj 14 _ hOj (by decide))) ?_
    rintro _ _ s331 h331 ⟨_, rfl, rfl, v2, M2, rfl, o2⟩
    refine ⟨(fun x hx _ => sub_mem (sbY (sbY (sbY (sbY (sbY (sbY (sbY (sbY (sb0 _))))))))) hx), ?_⟩
    simp only [List.cons_append, List.nil_append]
    refine JA_done (by kernel_rfl) ?_
    refine thenQ_n (MidF.mk (v2, M2, css ++ [_]) [] (Le.trans (Le.trans (Le.trans (Le.trans (Le.trans (Le.trans (Le.trans (Le.trans h302 h324) h325) h326) h327) h328) h329) h330) h331) (Suf.keeps (by repeat (first | exact Suf.refl | refine Suf.push rfl ?_))) (List.Perm.refl _) ⟨by rw [flat_snoc2]; exact o2, by rw [std_take (j := 14) (l := defT.ins) rfl]; exact All2.snoc (insA_le hAj (Le.trans (Le.trans (Le.trans (Le.trans (Le.trans (Le.trans (Le.trans (Le.trans h302 h324) h325) h326) h327) h328) h329) h330) h331)) ⟨rfl, _, _, _, rfl, (hPa22.le h331), by decide, ⟨by decide, by decide⟩⟩⟩)
  intro g s301 h301 I301
  simp only [List.cons_append, List.nil_append]
  obtain ⟨vj, Mj, css⟩ := g
  obtain ⟨hOj, hAj⟩ := I301
  simp only at hOj hAj
  dsimp only
  refine JC_cutF [_, _, _, _, _, _, _, _] rfl (γ := Value × Hl × List (List Value)) (fun g => (β13, cb [.int .i64 65536, g.1] 24) :: (g.2.1 ++ L)) (fun g tw => Own 97 4 g.2.1 g.1 16 g.2.2.flatten ∧ All2 (fun x cs => cs.length = 4 ∧ InsR tw x cs) (defT.ins.take 16) g.2.2) (fun _ _ _ h hl => ⟨h.1, insA_le h.2 hl⟩) ?_ ?_
  ·
   refine JC_region ?_
   refine JO_q (QE_mv rfl) rfl ?_
   refine JO_q (QE_mv rfl) rfl ?_
   refine JO_q (QE_mv rfl) rfl ?_
   refine JO_q (QE_ldA 4 [_, _] rfl rfl rfl rfl rfl) rfl ?_
   refine JO_q (QE_ldA 5 [_, _] rfl rfl rfl rfl rfl) rfl ?_
   refine JO_bs [(_, _), (_, _)] [_, _, _, _] rfl rfl rfl rfl rfl rfl rfl rfl rfl ?_
   intro βn s333 h333 hb23_5
   refine JO_call (first := []) (captured := []) rfl rfl rfl (do_ac D _ _ _ _ _ _ _ _ (tms2 (hb23_5.le (Le.refl (D := D) _)) (uD rfl) (uD rfl)) (by decide)) ?_
   rintro _ _ s334 h334 ⟨rfl, rfl⟩
   refine JO_bs [(_, _)] [_, _, _, _, _, _] rfl rfl rfl rfl rfl rfl rfl rfl rfl ?_
   intro βn s335 h335 hb23_7
   refine JO_call (first := []) (captured := [_]) rfl rfl rfl (AC.mid [_, _, _, _, _, _, _] [_] _ (popped_mid D _ _ _ _ _ _ (acs1 (hb23_7.le (Le.refl (D := D) _)) ⟨(uD rfl), (uD rfl)⟩) _ _ _ _ _ (hPop.le (Le.trans (Le.trans (Le.trans (Le.trans (Le.trans (Le.trans (Le.trans (Le.trans (Le.trans (Le.trans (Le.trans (Le.trans (Le.trans (Le.trans (Le.trans (Le.trans (Le.trans h139 h144) h149) h154) h159) h178) h197) h216) h238) h247) h252) h258) h264) h270) h301) h333) h334) h335)) (by decide))) ?_
   rintro _ _ s336 h336 ⟨_, rfl, rfl, Ap23, np23, cp23, rfl, hPa23⟩
   simp only [List.cons_append, List.nil_append]
   refine JO_call (first := []) (captured := [_]) rfl rfl rfl (AC.mid [_, _, _, _, _, _, _, _] (_ :: Mj) L (add_ac D _ _ _ _ _ _ _ _ _ Mj 15 _ hOj (by decide))) ?_
   rintro _ _ s337 h337 ⟨_, rfl, rfl, v2, M2, rfl, o2⟩
   simp only [List.cons_append, List.nil_append]
   refine JO_nil ?_
   refine thenQ_n (MidF.mk (v2, M2, css ++ [_]) [] (Le.trans (Le.trans (Le.trans (Le.trans h333 h334) h335) h336) h337) (Suf.keeps (by repeat (first | exact Suf.refl | refine Suf.push rfl ?_))) (List.Perm.refl _) ⟨by rw [flat_snoc2]; exact o2, by rw [std_take (j := 15) (l := defT.ins) rfl]; exact All2.snoc (insA_le hAj (Le.trans (Le.trans (Le.trans (Le.trans h333 h334) h335) h336) h337)) ⟨rfl, _, _, _, rfl, (hPa23.le h337), by decide, ⟨by decide, by decide⟩⟩⟩)
  intro g s332 h332 I332
  simp only [List.cons_append, List.nil_append]
  obtain ⟨vj, Mj, css⟩ := g
  obtain ⟨hOj, hAj⟩ := I332
  simp only at hOj hAj
  dsimp only
  refine JC_cutF [_, _, _, _, _, _, _, _] rfl (γ := Value × Hl × List (List Value)) (fun g => (β13, cb [.int .i64 65536, g.1] 24) :: (g.2.1 ++ L)) (fun g tw => Own 97 4 g.2.1 g.1 17 g.2.2.flatten ∧ All2 (fun x cs => cs.length = 4 ∧ InsR tw x cs) (defT.ins.take 17) g.2.2) (fun _ _ _ h hl => ⟨h.1, insA_le h.2 hl⟩) ?_ ?_
  ·
   refine JC_region ?_
   refine JO_q (QE_mv rfl) rfl ?_
   refine JO_q (QE_mv rfl) rfl ?_
   refine JO_q (QE_mv rfl) rfl ?_
   refine JO_q (QE_ldA 4 [_, _] rfl rfl rfl rfl rfl) rfl ?_
   refine JO_q (QE_ldA 5 [_, _] rfl rfl rfl rfl rfl) rfl ?_
   refine JO_bs [(_, _), (_, _)] [_, _, _, _] rfl rfl rfl rfl rfl rfl rfl rfl rfl ?_
   intro βn s339 h339 hb24_5
   refine JO_call (first := []) (captured := []) rfl rfl rfl (do_ac D _ _ _ _ _ _ _ _ (tms2 (hb24_5.le (Le.refl (D := D) _)) (uD rfl) (uD rfl)) (by decide)) ?_
   rintro _ _ s340 h340 ⟨rfl, rfl⟩
   refine JO_bs [(_, _)] [_, _, _, _, _, _] rfl rfl rfl rfl rfl rfl rfl rfl rfl ?_
   intro βn s341 h341 hb24_7
   refine JO_call (first := []) (captured := [_]) rfl rfl rfl (AC.mid [_, _, _, _, _, _, _] [_] _ (popped_mid D _ _ _ _ _ _ (acs1 (hb24_7.le (Le.refl (D := D) _)) ⟨(uD rfl), (uD rfl)⟩) _ _ _ _ _ (hPop.le (Le.trans (Le.trans (Le.trans (Le.trans (Le.trans (Le.trans (Le.trans (Le.trans (Le.trans (Le.trans (Le.trans (Le.trans (Le.trans (Le.trans (Le.trans (Le.trans (Le.trans (Le.trans h139 h144) h149) h154) h159) h178) h197) h216) h238) h247) h252) h258) h264) h270) h301) h332) h339) h340) h341)) (by decide))) ?_
   rintro _ _ s342 h342 ⟨_, rfl, rfl, Ap24, np24, cp24, rfl, hPa24⟩
   simp only [List.cons_append, List.nil_append]
   refine JO_call (first := []) (captured := [_]) rfl rfl rfl (AC.mid [_, _, _, _, _, _, _, _] (_ :: Mj) L (add_ac D _ _ _ _ _ _ _ _ _ Mj 16 _ hOj (by decide))) ?_
   rintro _ _ s343 h343 ⟨_, rfl, rfl, v2, M2, rfl, o2⟩
   simp only [List.cons_append, List.nil_append]
   refine JO_nil ?_
   refine thenQ_n (MidF.mk (v2, M2, css ++ [_]) [] (Le.trans (Le.trans (Le.trans (Le.trans h339 h340) h341) h342) h343) (Suf.keeps (by repeat (first | exact Suf.refl | refine Suf.push rfl ?_))) (List.Perm.refl _) ⟨by rw [flat_snoc2]; exact o2, by rw [std_take (j := 16) (l := defT.ins) rfl]; exact All2.snoc (insA_le hAj (Le.trans (Le.trans (Le.trans (Le.trans h339 h340) h341) h342) h343)) ⟨rfl, _, _, _, rfl, (hPa24.le h343), by decide, ⟨by decide, by decide⟩⟩⟩)
  intro g s338 h338 I338
  simp only [List.cons_append, List.nil_append]
  obtain ⟨vj, Mj, css⟩ := g
  obtain ⟨hOj, hAj⟩ := I338
  simp only at hOj hAj
  dsimp only
  refine JC_cutF [_, _, _, _, _, _, _, _] rfl (γ := Value × Hl × List (List Value)) (fun g => (β13, cb [.int .i64 65536, g.1] 24) :: (g.2.1 ++ L)) (fun g tw => Own 97 4 g.2.1 g.1 18 g.2.2.flatten ∧ All2 (fun x cs => cs.length = 4 ∧ InsR tw x cs) (defT.ins.take 18) g.2.2) (fun _ _ _ h hl => ⟨h.1, insA_le h.2 hl⟩) ?_ ?_
  ·
   refine JC_region ?_
   refine JO_q (QE_mv rfl) rfl ?_
   refine JO_q (QE_mv rfl) rfl ?_
   refine JO_q (QE_mv rfl) rfl ?_
   refine JO_q (QE_ldA 4 [_, _] rfl rfl rfl rfl rfl) rfl ?_
   refine JO_q (QE_ldA 5 [_, _] rfl rfl rfl rfl rfl) rfl ?_
   refine JO_bs [(_, _), (_, _)] [_, _, _, _] rfl rfl rfl rfl rfl rfl rfl rfl rfl ?_
   intro βn s345 h345 hb25_5
   refine JO_call (first := []) (captured := []) rfl rfl rfl (do_ac D _ _ _ _ _ _ _ _ (tms2 (hb25_5.le (Le.refl (D := D) _)) (uD rfl) (uD rfl)) (by decide)) ?_
   rintro _ _ s346 h346 ⟨rfl, rfl⟩
   refine JO_bs [(_, _)] [_, _, _, _, _, _] rfl rfl rfl rfl rfl rfl rfl rfl rfl ?_
   intro βn s347 h347 hb25_7
   refine JO_call (first := []) (captured := [_]) rfl rfl rfl (AC.mid [_, _, _, _, _, _, _] [_] _ (popped_mid D _ _ _ _ _ _ (acs1 (hb25_7.le (Le.refl (D := D) _)) ⟨(uD rfl), (uD rfl)⟩) _ _ _ _ _ (hPop.le (Le.trans (Le.trans (Le.trans (Le.trans (Le.trans (Le.trans (Le.trans (Le.trans (Le.trans (Le.trans (Le.trans (Le.trans (Le.trans (Le.trans (Le.trans (Le.trans (Le.trans (Le.trans (Le.trans h139 h144) h149) h154) h159) h178) h197) h216) h238) h247) h252) h258) h264) h270) h301) h332) h338) h345) h346) h347)) (by decide))) ?_
   rintro _ _ s348 h348 ⟨_, rfl, rfl, Ap25, np25, cp25, rfl, hPa25⟩
   simp only [List.cons_append, List.nil_append]
   refine JO_call (first := []) (captured := [_]) rfl rfl rfl (AC.mid [_, _, _, _, _, _, _, _] (_ :: Mj) L (add_ac D _ _ _ _ _ _ _ _ _ Mj 17 _ hOj (by decide))) ?_
   rintro _ _ s349 h349 ⟨_, rfl, rfl, v2, M2, rfl, o2⟩
   simp only [List.cons_append, List.nil_append]
   refine JO_nil ?_
   refine thenQ_n (MidF.mk (v2, M2, css ++ [_]) [] (Le.trans (Le.trans (Le.trans (Le.trans h345 h346) h347) h348) h349) (Suf.keeps (by repeat (first | exact Suf.refl | refine Suf.push rfl ?_))) (List.Perm.refl _) ⟨by rw [flat_snoc2]; exact o2, by rw [std_take (j := 17) (l := defT.ins) rfl]; exact All2.snoc (insA_le hAj (Le.trans (Le.trans (Le.trans (Le.trans h345 h346) h347) h348) h349)) ⟨rfl, _, _, _, rfl, (hPa25.le h349), by decide, ⟨by decide, by decide⟩⟩⟩)
  intro g s344 h344 I344
  simp only [List.cons_append, List.nil_append]
  obtain ⟨vj, Mj, css⟩ := g
  obtain ⟨hOj, hAj⟩ := I344
  simp only at hOj hAj
  dsimp only
  refine JC_cutF [_, _, _, _, _, _, _, _] rfl (γ := Value × Hl × List (List Value)) (fun g => (β13, cb [.int .i64 65536, g.1] 24) :: (g.2.1 ++ L)) (fun g tw => Own 97 4 g.2.1 g.1 19 g.2.2.flatten ∧ All2 (fun x cs => cs.length = 4 ∧ InsR tw x cs) (defT.ins.take 19) g.2.2) (fun _ _ _ h hl => ⟨h.1, insA_le h.2 hl⟩) ?_ ?_
  ·
   refine JC_region ?_
   refine JO_q (QE_mv rfl) rfl ?_
   refine JO_q (QE_mv rfl) rfl ?_
   refine JO_q (QE_mv rfl) rfl ?_
   refine JO_q (QE_ldA 4 [_, _] rfl rfl rfl rfl rfl) rfl ?_
   refine JO_q (QE_ldA 5 [_, _] rfl rfl rfl rfl rfl) rfl ?_
   refine JO_bs [(_, _), (_, _)] [_, _, _, _] rfl rfl rfl rfl rfl rfl rfl rfl rfl ?_
   intro βn s351 h351 hb26_5
   refine JO_call (first := []) (captured := []) rfl rfl rfl (do_ac D _ _ _ _ _ _ _ _ (tms2 (hb26_5.le (Le.refl (D := D) _)) (uD rfl) (uD rfl)) (by decide)) ?_
   rintro _ _ s352 h352 ⟨rfl, rfl⟩
   refine JO_bs [(_, _)] [_, _, _, _, _, _] rfl rfl rfl rfl rfl rfl rfl rfl rfl ?_
   intro βn s353 h353 hb26_7
   refine JO_call (first := []) (captured := [_]) rfl rfl rfl (AC.mid [_, _, _, _, _, _, _] [_] _ (popped_mid D _ _ _ _ _ _ (acs1 (hb26_7.le (Le.refl (D := D) _)) ⟨(uD rfl), (uD rfl)⟩) _ _ _ _ _ (hPop.le (Le.trans (Le.trans (Le.trans (Le.trans (Le.trans (Le.trans (Le.trans (Le.trans (Le.trans (Le.trans (Le.trans (Le.trans (Le.trans (Le.trans (Le.trans (Le.trans (Le.trans (Le.trans (Le.trans (Le.trans h139 h144) h149) h154) h159) h178) h197) h216) h238) h247) h252) h258) h264) h270) h301) h332) h338) h344) h351) h352) h353)) (by decide))) ?_
   rintro _ _ s354 h354 ⟨_, rfl, rfl, Ap26, np26, cp26, rfl, hPa26⟩
   simp only [List.cons_append, List.nil_append]
   refine JO_call (first := []) (captured := [_]) rfl rfl rfl (AC.mid [_, _, _, _, _, _, _, _] (_ :: Mj) L (add_ac D _ _ _ _ _ _ _ _ _ Mj 18 _ hOj (by decide))) ?_
   rintro _ _ s355 h355 ⟨_, rfl, rfl, v2, M2, rfl, o2⟩
   simp only [List.cons_append, List.nil_append]
   refine JO_nil ?_
   refine thenQ_n (MidF.mk (v2, M2, css ++ [_]) [] (Le.trans (Le.trans (Le.trans (Le.trans h351 h352) h353) h354) h355) (Suf.keeps (by repeat (first | exact Suf.refl | refine Suf.push rfl ?_))) (List.Perm.refl _) ⟨by rw [flat_snoc2]; exact o2, by rw [std_take (j := 18) (l := defT.ins) rfl]; exact All2.snoc (insA_le hAj (Le.trans (Le.trans (Le.trans (Le.trans h351 h352) h353) h354) h355)) ⟨rfl, _, _, _, rfl, (hPa26.le h355), by decide, ⟨by decide, by decide⟩⟩⟩)
  intro g s350 h350 I350
  simp only [List.cons_append, List.nil_append]
  obtain ⟨vj, Mj, css⟩ := g
  obtain ⟨hOj, hAj⟩ := I350
  simp only at hOj hAj
  dsimp only
  refine JC_cutF [_, _, _, _, _, _, _, _] rfl (γ := Value × Hl × List (List Value)) (fun g => (β13, cb [.int .i64 65536, g.1] 24) :: (g.2.1 ++ L)) (fun g tw => Own 97 4 g.2.1 g.1 20 g.2.2.flatten ∧ All2 (fun x cs => cs.length = 4 ∧ InsR tw x cs) (defT.ins.take 20) g.2.2) (fun _ _ _ h hl => ⟨h.1, insA_le h.2 hl⟩) ?_ ?_
  ·
   refine JC_region ?_
   refine JO_q (QE_mv rfl) rfl ?_
   refine JO_q (QE_mv rfl) rfl ?_
   refine JO_q (QE_mv rfl) rfl ?_
   refine JO_q (QE_ldA 4 [_, _] rfl rfl rfl rfl rfl) rfl ?_
   refine JO_q (QE_ldA 5 [_, _] rfl rfl rfl rfl rfl) rfl ?_
   refine JO_bs [(_, _), (_, _)] [_, _, _, _] rfl rfl rfl rfl rfl rfl rfl rfl rfl ?_
   intro βn s357 h357 hb27_5
   refine JO_call (first := []) (captured := []) rfl rfl rfl (do_ac D _ _ _ _ _ _ _ _ (tms2 (hb27_5.le (Le.refl (D := D) _)) (uD rfl) (uD rfl)) (by decide)) ?_
   rintro _ _ s358 h358 ⟨rfl, rfl⟩
   refine JO_bs [(_, _)] [_, _, _, _, _, _] rfl rfl rfl rfl rfl rfl rfl rfl rfl ?_
   intro βn s359 h359 hb27_7
   refine JO_call (first := []) (captured := [_]) rfl rfl rfl (AC.mid [_, _, _, _, _, _, _] [_] _ (popped_mid D _ _ _ _ _ _ (acs1 (hb27_7.le (Le.refl (D := D) _)) ⟨(uD rfl), (uD rfl)⟩) _ _ _ _ _ (hPop.le (Le.trans (Le.trans (Le.trans (Le.trans (Le.trans (Le.trans (Le.trans (Le.trans (Le.trans (Le.trans (Le.trans (Le.trans (Le.trans (Le.trans (Le.trans (Le.trans (Le.trans (Le.trans (Le.trans (Le.trans (Le.trans h139 h144) h149) h154) h159) h178) h197) h216) h238) h247) h252) h258) h264) h270) h301) h332) h338) h344) h350) h357) h358) h359)) (by decide))) ?_
   rintro _ _ s360 h360 ⟨_, rfl, rfl, Ap27, np27, cp27, rfl, hPa27⟩
   simp only [List.cons_append, List.nil_append]
   refine JO_call (first := []) (captured := [_]) rfl rfl rfl (AC.mid [_, _, _, _, _, _, _, _] (_ :: Mj) L (add_ac D _ _ _ _ _ _ _ _ _ Mj 19 _ hOj (by decide))) ?_
   rintro _ _ s361 h361 ⟨_, rfl, rfl, v2, M2, rfl, o2⟩
   simp only [List.cons_append, List.nil_append]
   refine JO_nil ?_
   refine thenQ_n (MidF.mk (v2, M2, css ++ [_]) [] (Le.trans (Le.trans (Le.trans (Le.trans h357 h358) h359) h360) h361) (Suf.keeps (by repeat (first | exact Suf.refl | refine Suf.push rfl ?_))) (List.Perm.refl _) ⟨by rw [flat_snoc2]; exact o2, by rw [std_take (j := 19) (l := defT.ins) rfl]; exact All2.snoc (insA_le hAj (Le.trans (Le.trans (Le.trans (Le.trans h357 h358) h359) h360) h361)) ⟨rfl, _, _, _, rfl, (hPa27.le h361), by decide, ⟨by decide, by decide⟩⟩⟩)
  intro g s356 h356 I356
  simp only [List.cons_append, List.nil_append]
  obtain ⟨vj, Mj, css⟩ := g
  obtain ⟨hOj, hAj⟩ := I356
  simp only at hOj hAj
  dsimp only
  refine JC_cutF [_, _, _, _, _, _, _, _] rfl (γ := Value × Hl × List (List Value)) (fun g => (β13, cb [.int .i64 65536, g.1] 24) :: (g.2.1 ++ L)) (fun g tw => Own 97 4 g.2.1 g.1 21 g.2.2.flatten ∧ All2 (fun x cs => cs.length = 4 ∧ InsR tw x cs) (defT.ins.take 21) g.2.2) (fun _ _ _ h hl => ⟨h.1, insA_le h.2 hl⟩) ?_ ?_
  ·
   refine JC_region ?_
   refine JO_q (QE_mv rfl) rfl ?_
   refine JO_q (QE_mv rfl) rfl ?_
   refine JO_q (QE_mv rfl) rfl ?_
   refine JO_q (QE_ldA 4 [_, _] rfl rfl rfl rfl rfl) rfl ?_
   refine JO_q (QE_ldA 5 [_, _] rfl rfl rfl rfl rfl) rfl ?_
   refine JO_bs [(_, _), (_, _)] [_, _, _, _] rfl rfl rfl rfl rfl rfl rfl rfl rfl ?_
   intro βn s363 h363 hb28_5
   refine JO_call (first := []) (captured := []) rfl rfl rfl (do_ac D _ _ _ _ _ _ _ _ (tms2 (hb28_5.le (Le.refl (D := D) _)) (uD rfl) (uD rfl)) (by decide)) ?_
   rintro _ _ s364 h364 ⟨rfl, rfl⟩
   refine JO_bs [(_, _)] [_, _, _, _, _, _] rfl rfl rfl rfl rfl rfl rfl rfl rfl ?_
   intro βn s365 h365 hb28_7
   refine JO_call (first := []) (captured := [_]) rfl rfl rfl (AC.mid [_, _, _, _, _, _, _] [_] _ (popped_mid D _ _ _ _ _ _ (acs1 (hb28_7.le (Le.refl (D := D) _)) ⟨(uD rfl), (uD rfl)⟩) _ _ _ _ _ (hPop.le (Le.trans (Le.trans (Le.trans (Le.trans (Le.trans (Le.trans (Le.trans (Le.trans (Le.trans (Le.trans (Le.trans (Le.trans (Le.trans (Le.trans (Le.trans (Le.trans (Le.trans (Le.trans (Le.trans (Le.trans (Le.trans (Le.trans h139 h144) h149) h154) h159) h178) h197) h216) h238) h247) h252) h258) h264) h270) h301) h332) h338) h344) h350) h356) h363) h364) h365)) (by decide))) ?_
   rintro _ _ s366 h366 ⟨_, rfl, rfl, Ap28, np28, cp28, rfl, hPa28⟩
   simp only [List.cons_append, List.nil_append]
   refine JO_call (first := []) (captured := [_]) rfl rfl rfl (AC.mid [_, _, _, _, _, _, _, _] (_ :: Mj) L (add_ac D _ _ _ _ _ _ _ _ _ Mj 20 _ hOj (by decide))) ?_
   rintro _ _ s367 h367 ⟨_, rfl, rfl, v2, M2, rfl, o2⟩
   simp only [List.cons_append, List.nil_append]
   refine JO_nil ?_
   refine thenQ_n (MidF.mk (v2, M2, css ++ [_]) [] (Le.trans (Le.trans (Le.trans (Le.trans h363 h364) h365) h366) h367) (Suf.keeps (by repeat (first | exact Suf.refl | refine Suf.push rfl ?_))) (List.Perm.refl _) ⟨by rw [flat_snoc2]; exact o2, by rw [std_take (j := 20) (l := defT.ins) rfl]; exact All2.snoc (insA_le hAj (Le.trans (Le.trans (Le.trans (Le.trans h363 h364) h365) h366) h367)) ⟨rfl, _, _, _, rfl, (hPa28.le h367), by decide, ⟨by decide, by decide⟩⟩⟩)
  intro g s362 h362 I362
  simp only [List.cons_append, List.nil_append]
  obtain ⟨vj, Mj, css⟩ := g
  obtain ⟨hOj, hAj⟩ := I362
  simp only at hOj hAj
  dsimp only
  refine JC_cutF [_, _, _, _, _, _, _, _] rfl (γ := Value × Hl × List (List Value)) (fun g => (β13, cb [.int .i64 65536, g.1] 24) :: (g.2.1 ++ L)) (fun g tw => Own 97 4 g.2.1 g.1 22 g.2.2.flatten ∧ All2 (fun x cs => cs.length = 4 ∧ InsR tw x cs) (defT.ins.take 22) g.2.2) (fun _ _ _ h hl => ⟨h.1, insA_le h.2 hl⟩) ?_ ?_
  ·
   refine JC_region ?_
   refine JO_q (QE_mv rfl) rfl ?_
   refine JO_q (QE_mv rfl) rfl ?_
   refine JO_q (QE_mv rfl) rfl ?_
   refine JO_q (QE_ldA 4 [_, _] rfl rfl rfl rfl rfl) rfl ?_
   refine JO_q (QE_ldA 5 [_, _] rfl rfl rfl rfl rfl) rfl ?_
   refine JO_bs [(_, _), (_, _)] [_, _, _, _] rfl rfl rfl rfl rfl rfl rfl rfl rfl ?_
   intro βn s369 h369 hb29_5
   refine JO_call (first := []) (captured := []) rfl rfl rfl (do_ac D _ _ _ _ _ _ _ _ (tms2 (hb29_5.le (Le.refl (D := D) _)) (uD rfl) (uD rfl)) (by decide)) ?_
   rintro _ _ s370 h370 ⟨rfl, rfl⟩
   refine JO_bs [(_, _)] [_, _, _, _, _, _] rfl rfl rfl rfl rfl rfl rfl rfl rfl ?_
   intro βn s371 h371 hb29_7
   refine JO_call (first := []) (captured := [_]) rfl rfl rfl (AC.mid [_, _, _, _, _, _, _] [_] _ (popped_mid D _ _ _ _ _ _ (acs1 (hb29_7.le (Le.refl (D := D) _)) ⟨(uD rfl), (uD rfl)⟩) _ _ _ _ _ (hPop.le (Le.trans (Le.trans (Le.trans (Le.trans (Le.trans (Le.trans (Le.trans (Le.trans (Le.trans (Le.trans (Le.trans (Le.trans (Le.trans (Le.trans (Le.trans (Le.trans (Le.trans (Le.trans (Le.trans (Le.trans (Le.trans (Le.trans (Le.trans h139 h144) h149) h154) h159) h178) h197) h216) h238) h247) h252) h258) h264) h270) h301) h332) h338) h344) h350) h356) h362) h369) h370) h371)) (by decide))) ?_
   rintro _ _ s372 h372 ⟨_, rfl, rfl, Ap29, np29, cp29, rfl, hPa29⟩
   simp only [List.cons_append, List.nil_append]
   refine JO_call (first := []) (captured := [_]) rfl rfl rfl (AC.mid [_, _, _, _, _, _, _, _] (_ :: Mj) L (add_ac D _ _ _ _ _ _ _ _ _ Mj 21 _ hOj (by decide))) ?_
   rintro _ _ s373 h373 ⟨_, rfl, rfl, v2, M2, rfl, o2⟩
   simp only [List.cons_append, List.nil_append]
   refine JO_nil ?_
   refine thenQ_n (MidF.mk (v2, M2, css ++ [_]) [] (Le.trans (Le.trans (Le.trans (Le.trans h369 h370) h371) h372) h373) (Suf.keeps (by repeat (first | exact Suf.refl | refine Suf.push rfl ?_))) (List.Perm.refl _) ⟨by rw [flat_snoc2]; exact o2, by rw [std_take (j := 21) (l := defT.ins) rfl]; exact All2.snoc (insA_le hAj (Le.trans (Le.trans (Le.trans (Le.trans h369 h370) h371) h372) h373)) ⟨rfl, _, _, _, rfl, (hPa29.le h373), by decide, ⟨by decide, by decide⟩⟩⟩)
  intro g s368 h368 I368
  simp only [List.cons_append, List.nil_append]
  obtain ⟨vj, Mj, css⟩ := g
  obtain ⟨hOj, hAj⟩ := I368
  simp only at hOj hAj
  dsimp only
  refine JC_cutF [_, _, _, _, _, _, _, _] rfl (γ := Value × Hl × List (List Value)) (fun g => (β13, cb [.int .i64 65536, g.1] 24) :: (g.2.1 ++ L)) (fun g tw => Own 97 4 g.2.1 g.1 23 g.2.2.flatten ∧ All2 (fun x cs => cs.length = 4 ∧ InsR tw x cs) (defT.ins.take 23) g.2.2) (fun _ _ _ h hl => ⟨h.1, insA_le h.2 hl⟩) ?_ ?_
  ·
   refine JC_region ?_
   refine JO_q (QE_mv rfl) rfl ?_
   refine JO_q (QE_mv rfl) rfl ?_
   refine JO_q (QE_mv rfl) rfl ?_
   refine JO_q (QE_ldA 5 [_, _] rfl rfl rfl rfl rfl) rfl ?_
   refine JO_q (QE_ldA 4 [_, _] rfl rfl rfl rfl rfl) rfl ?_
   refine JO_bs [(_, _), (_, _)] [_, _, _, _] rfl rfl rfl rfl rfl rfl rfl rfl rfl ?_
   intro βn s375 h375 hb30_5
   refine JO_call (first := []) (captured := []) rfl rfl rfl (do_ac D _ _ _ _ _ _ _ _ (tms2 (hb30_5.le (Le.refl (D := D) _)) (uD rfl) (uD rfl)) (by decide)) ?_
   rintro _ _ s376 h376 ⟨rfl, rfl⟩
   refine JO_bs [(_, _)] [_, _, _, _, _, _] rfl rfl rfl rfl rfl rfl rfl rfl rfl ?_
   intro βn s377 h377 hb30_7
   refine JO_call (first := []) (captured := [_]) rfl rfl rfl (AC.mid [_, _, _, _, _, _, _] [_] _ (popped_mid D _ _ _ _ _ _ (acs1 (hb30_7.le (Le.refl (D := D) _)) ⟨(uD rfl), (uD rfl)⟩) _ _ _ _ _ (hPop.le (Le.trans (Le.trans (Le.trans (Le.trans (Le.trans (Le.trans (Le.trans (Le.trans (Le.trans (Le.trans (Le.trans (Le.trans (Le.trans (Le.trans (Le.trans (Le.trans (Le.trans (Le.trans (Le.trans (Le.trans (Le.trans (Le.trans (Le.trans (Le.trans h139 h144) h149) h154) h159) h178) h197) h216) h238) h247) h252) h258) h264) h270) h301) h332) h338) h344) h350) h356) h362) h368) h375) h376) h377)) (by decide))) ?_
   rintro _ _ s378 h378 ⟨_, rfl, rfl, Ap30, np30, cp30, rfl, hPa30⟩
   simp only [List.cons_append, List.nil_append]
   refine JO_call (first := []) (captured := [_]) rfl rfl rfl (AC.mid [_, _, _, _, _, _, _, _] (_ :: Mj) L (add_ac D _ _ _ _ _ _ _ _ _ Mj 22 _ hOj (by decide))) ?_
   rintro _ _ s379 h379 ⟨_, rfl, rfl, v2, M2, rfl, o2⟩
   simp only [List.cons_append, List.nil_append]
   refine JO_nil ?_
   refine thenQ_n (MidF.mk (v2, M2, css ++ [_]) [] (Le.trans (Le.trans (Le.trans (Le.trans h375 h376) h377) h378) h379) (Suf.keeps (by repeat (first | exact Suf.refl | refine Suf.push rfl ?_))) (List.Perm.refl _) ⟨by rw [flat_snoc2]; exact o2, by rw [std_take (j := 22) (l := defT.ins) rfl]; exact All2.snoc (insA_le hAj (Le.trans (Le.trans (Le.trans (Le.trans h375 h376) h377) h378) h379)) ⟨rfl, _, _, _, rfl, (hPa30.le h379), by decide, ⟨by decide, by decide⟩⟩⟩)
  intro g s374 h374 I374
  simp only [List.cons_append, List.nil_append]
  obtain ⟨vj, Mj, css⟩ := g
  obtain ⟨hOj, hAj⟩ := I374
  simp only at hOj hAj
  dsimp only
  refine JC_cutF [_, _, _, _, _, _, _, _] rfl (γ := Value × Hl × List (List Value)) (fun g => (β13, cb [.int .i64 65536, g.1] 24) :: (g.2.1 ++ L)) (fun g tw => Own 97 4 g.2.1 g.1 24 g.2.2.flatten ∧ All2 (fun x cs => cs.length = 4 ∧ InsR tw x cs) (defT.ins.take 24) g.2.2) (fun _ _ _ h hl => ⟨h.1, insA_le h.2 hl⟩) ?_ ?_
  ·
   refine JC_drawT drawsMixed 8 rfl 8 ?_
   intro s381 h381
   refine JA_q 0 rfl (by kernel_rfl) (by kernel_rfl) (by kernel_rfl) trivial (QE_mv rfl) rfl ?_
   refine JA_q 1 rfl (by kernel_rfl) (by kernel_rfl) (by kernel_rfl) trivial (QE_mv rfl) rfl ?_
   refine JA_q 2 rfl (by kernel_rfl) (by kernel_rfl) (by kernel_rfl) trivial (QE_ldA 5 [_, _] rfl rfl rfl rfl rfl) rfl ?_
   refine JA_1 3 (by kernel_rfl) ?_
   refine JB_call rfl trivial (first := []) (captured := []) rfl rfl rfl (num_ac D _ _ _) ?_
   rintro _ _ s382 h382 ⟨rfl, rfl⟩
   refine ⟨fun _ _ h => h, ?_⟩
   refine JA_1 4 (by kernel_rfl) ?_
   refine JB_bs rfl trivial [(_, _), (_, _)] [_, _, _, _] rfl rfl rfl rfl rfl rfl rfl rfl rfl ?_
   intro βn s383 h383 hb31_4
   refine JA_1 5 (by kernel_rfl) ?_
   refine JB_call rfl trivial (first := []) (captured := []) rfl rfl rfl (do_ac D _ _ _ _ _ _ _ _ (tms2 (hb31_4.le (Le.refl (D := D) _)) (uD rfl) (uD rfl)) (by decide)) ?_
   rintro _ _ s384 h384 ⟨rfl, rfl⟩
   refine ⟨fun _ _ h => h, ?_⟩
   refine JA_1 6 (by kernel_rfl) ?_
   refine JB_bs rfl trivial [(_, _)] [_, _, _, _, _, _] rfl rfl rfl rfl rfl rfl rfl rfl rfl ?_
   intro βn s385 h385 hb31_6
   refine JA_1 7 (by kernel_rfl) ?_
   refine JB_call rfl trivial (first := []) (captured := [_]) rfl rfl rfl (AC.mid [_, _, _, _, _, _, _, _] (_ :: Mj) L (add_ac D _ _ _ _ _ _ _ _ _ Mj 23 _ hOj (by decide))) ?_
   rintro _ _ s386 h386 ⟨_, rfl, rfl, v2, M2, rfl, o2⟩
   refine ⟨(fun x hx _ => sub_mem (sbY (sbY (sbY (sbY (sbY (sbY (sbY (sbY (sb0 _))))))))) hx), ?_⟩
   simp only [List.cons_append, List.nil_append]
   refine JA_done (by kernel_rfl) ?_
   refine thenQ_n (MidF.mk (v2, M2, css ++ [_]) [] (Le.trans (Le.trans (Le.trans (Le.trans (Le.trans h381 h382) h383) h384) h385) h386) (Suf.keeps (by repeat (first | exact Suf.refl | refine Suf.push rfl ?_))) (List.Perm.refl _) ⟨by rw [flat_snoc2]; exact o2, by rw [std_take (j := 23) (l := defT.ins) rfl]; exact All2.snoc (insA_le hAj (Le.trans (Le.trans (Le.trans (Le.trans (Le.trans h381 h382) h383) h384) h385) h386)) ⟨rfl, _, _, _, rfl, (acs1 (hb31_6.le h386) ⟨(uD rfl), (uD rfl)⟩), by decide, ⟨by decide, by decide⟩⟩⟩)
  intro g s380 h380 I380
  simp only [List.cons_append, List.nil_append]
  obtain ⟨vj, Mj, css⟩ := g
  obtain ⟨hOj, hAj⟩ := I380
  simp only at hOj hAj
  dsimp only
  refine JC_cutF [_, _, _, _, _, _, _, _] rfl (γ := Value × Hl × List (List Value)) (fun g => (β13, cb [.int .i64 65536, g.1] 24) :: (g.2.1 ++ L)) (fun g tw => Own 97 4 g.2.1 g.1 25 g.2.2.flatten ∧ All2 (fun x cs => cs.length = 4 ∧ InsR tw x cs) (defT.ins.take 25) g.2.2) (fun _ _ _ h hl => ⟨h.1, insA_le h.2 hl⟩) ?_ ?_
  ·
   refine JC_drawT drawsMixed 13 rfl 8 ?_
   intro s388 h388
   refine JA_q 0 rfl (by kernel_rfl) (by kernel_rfl) (by kernel_rfl) trivial (QE_mv rfl) rfl ?_
   refine JA_q 1 rfl (by kernel_rfl) (by kernel_rfl) (by kernel_rfl) trivial (QE_mv rfl) rfl ?_
   refine JA_q 2 rfl (by kernel_rfl) (by kernel_rfl) (by kernel_rfl) trivial (QE_ldA 5 [_, _] rfl rfl rfl rfl rfl) rfl ?_
   refine JA_q 3 rfl (by kernel_rfl) (by kernel_rfl) (by kernel_rfl) trivial (QE_ldA 0 [_, _] rfl rfl rfl rfl rfl) rfl ?_
   refine JA_q 6 rfl (by kernel_rfl) (by kernel_rfl) (by kernel_rfl) trivial (QE_mv rfl) rfl ?_
   refine JA_q 8 rfl (by kernel_rfl) (by kernel_rfl) (by kernel_rfl) trivial (QE_ldA 4 [_, _] rfl rfl rfl rfl rfl) rfl ?_
   refine JA_1 4 (by kernel_rfl) ?_
   refine JB_bs rfl trivial [(_, _), (_, _)] [_, _, _, _] rfl rfl rfl rfl rfl rfl rfl rfl rfl ?_
   intro βn s389 h389 hb32_4
   refine JA_1 5 (by kernel_rfl) ?_
   refine JB_call rfl trivial (first := []) (captured := []) rfl rfl rfl (do_ac D _ _ _ _ _ _ _ _ (tms2 (hb32_4.le (Le.refl (D := D) _)) (uD rfl) (uD rfl)) (by decide)) ?_
   rintro _ _ s390 h390 ⟨rfl, rfl⟩
   refine ⟨fun _ _ h => h, ?_⟩
   refine JA_1 7 (by kernel_rfl) ?_
   refine JB_call rfl trivial (first := []) (captured := []) rfl rfl rfl (num_ac D _ _ _) ?_
   rintro _ _ s391 h391 ⟨rfl, rfl⟩
   refine ⟨fun _ _ h => h, ?_⟩
   refine JA_1 9 (by kernel_rfl) ?_
   refine JB_bs rfl trivial [(_, _), (_, _)] [_, _, _, _] rfl rfl rfl rfl rfl rfl rfl rfl rfl ?_
   intro βn s392 h392 hb32_9
   refine JA_1 10 (by kernel_rfl) ?_
   refine JB_call rfl trivial (first := []) (captured := []) rfl rfl rfl (do_ac D _ _ _ _ _ _ _ _ (tms2 (hb32_9.le (Le.refl (D := D) _)) (uD rfl) (uD rfl)) (by decide)) ?_
   rintro _ _ s393 h393 ⟨rfl, rfl⟩
   refine ⟨fun _ _ h => h, ?_⟩
   refine JA_1 11 (by kernel_rfl) ?_
   refine JB_bs rfl trivial [(_, _), (_, _)] [_, _, _, _, _, _, _, _, _, _, _, _] rfl rfl rfl rfl rfl rfl rfl rfl rfl ?_
   intro βn s394 h394 hb32_11
   refine JA_1 12 (by kernel_rfl) ?_
   refine JB_call rfl trivial (first := []) (captured := [_]) rfl rfl rfl (AC.mid [_, _, _, _, _, _, _, _] (_ :: Mj) L (add_ac D _ _ _ _ _ _ _ _ _ Mj 24 _ hOj (by decide))) ?_
   rintro _ _ s395 h395 ⟨_, rfl, rfl, v2, M2, rfl, o2⟩
   refine ⟨(fun x hx _ => sub_mem (sbY (sbY (sbY (sbY (sbY (sbY (sbY (sbY (sb0 _))))))))) hx), ?_⟩
   simp only [List.cons_append, List.nil_append]
   refine JA_done (by kernel_rfl) ?_
   refine thenQ_n (MidF.mk (v2, M2, css ++ [_]) [] (Le.trans (Le.trans (Le.trans (Le.trans (Le.trans (Le.trans (Le.trans h388 h389) h390) h391) h392) h393) h394) h395) (Suf.keeps (by repeat (first | exact Suf.refl | refine Suf.push rfl ?_))) (List.Perm.refl _) ⟨by rw [flat_snoc2]; exact o2, by rw [std_take (j := 24) (l := defT.ins) rfl]; exact All2.snoc (insA_le hAj (Le.trans (Le.trans (Le.trans (Le.trans (Le.trans (Le.trans (Le.trans h388 h389) h390) h391) h392) h393) h394) h395)) ⟨rfl, _, _, _, rfl, (acs2 (hb32_11.le h395) ⟨⟨(uD rfl), (uD rfl)⟩, ⟨(uD rfl), (uD rfl)⟩⟩), by decide, ⟨by decide, by decide⟩⟩⟩)
  intro g s387 h387 I387
  simp only [List.cons_append, List.nil_append]
  obtain ⟨vj, Mj, css⟩ := g
  obtain ⟨hOj, hAj⟩ := I387
  simp only at hOj hAj
  dsimp only
  refine JC_cutF [_, _, _, _, _, _, _, _] rfl (γ := Value × Hl × List (List Value)) (fun g => (β13, cb [.int .i64 65536, g.1] 24) :: (g.2.1 ++ L)) (fun g tw => Own 97 4 g.2.1 g.1 26 g.2.2.flatten ∧ All2 (fun x cs => cs.length = 4 ∧ InsR tw x cs) (defT.ins.take 26) g.2.2) (fun _ _ _ h hl => ⟨h.1, insA_le h.2 hl⟩) ?_ ?_
  ·
   refine JC_region ?_
   refine JO_q (QE_mv rfl) rfl ?_
   refine JO_q (QE_mv rfl) rfl ?_
   refine JO_q (QE_ldA 0 [_, _] rfl rfl rfl rfl rfl) rfl ?_
   refine JO_bs [(_, _)] [_, _] rfl rfl rfl rfl rfl rfl rfl rfl rfl ?_
   intro βn s397 h397 hb33_3
   refine JO_call (first := []) (captured := []) rfl rfl rfl (do_ac D _ _ _ _ _ _ _ _ (tms1 (hb33_3.le (Le.refl (D := D) _)) (uD rfl)) (by decide)) ?_
   rintro _ _ s398 h398 ⟨rfl, rfl⟩
   refine JO_bs [(_, _)] [_, _, _, _, _, _] rfl rfl rfl rfl rfl rfl rfl rfl rfl ?_
   intro βn s399 h399 hb33_5
   refine JO_call (first := []) (captured := [_]) rfl rfl rfl (AC.mid [_, _, _, _, _, _, _, _] (_ :: Mj) L (add_ac D _ _ _ _ _ _ _ _ _ Mj 25 _ hOj (by decide))) ?_
   rintro _ _ s400 h400 ⟨_, rfl, rfl, v2, M2, rfl, o2⟩
   simp only [List.cons_append, List.nil_append]
   refine JO_nil ?_
   refine thenQ_n (MidF.mk (v2, M2, css ++ [_]) [] (Le.trans (Le.trans (Le.trans h397 h398) h399) h400) (Suf.keeps (by repeat (first | exact Suf.refl | refine Suf.push rfl ?_))) (List.Perm.refl _) ⟨by rw [flat_snoc2]; exact o2, by rw [std_take (j := 25) (l := defT.ins) rfl]; exact All2.snoc (insA_le hAj (Le.trans (Le.trans (Le.trans h397 h398) h399) h400)) ⟨rfl, _, _, _, rfl, (acs1 (hb33_5.le h400) ⟨(uD rfl), (uD rfl)⟩), by decide, ⟨by decide, by decide⟩⟩⟩)
  intro g s396 h396 I396
  simp only [List.cons_append, List.nil_append]
  obtain ⟨vj, Mj, css⟩ := g
  obtain ⟨hOj, hAj⟩ := I396
  simp only at hOj hAj
  dsimp only
  refine JC_cutF [_, _, _, _, _, _, _, _] rfl (γ := Value × Hl × List (List Value)) (fun g => (β13, cb [.int .i64 65536, g.1] 24) :: (g.2.1 ++ L)) (fun g tw => Own 97 4 g.2.1 g.1 27 g.2.2.flatten ∧ All2 (fun x cs => cs.length = 4 ∧ InsR tw x cs) (defT.ins.take 27) g.2.2) (fun _ _ _ h hl => ⟨h.1, insA_le h.2 hl⟩) ?_ ?_
  ·
   refine JC_region ?_
   refine JO_q (QE_mv rfl) rfl ?_
   refine JO_q (QE_mv rfl) rfl ?_
   refine JO_q (QE_ldA 0 [_, _] rfl rfl rfl rfl rfl) rfl ?_
   refine JO_q (QE_ldA 5 [_, _] rfl rfl rfl rfl rfl) rfl ?_
   refine JO_bs [(_, _), (_, _)] [_, _, _, _] rfl rfl rfl rfl rfl rfl rfl rfl rfl ?_
   intro βn s402 h402 hb34_4
   refine JO_call (first := []) (captured := []) rfl rfl rfl (do_ac D _ _ _ _ _ _ _ _ (tms2 (hb34_4.le (Le.refl (D := D) _)) (uD rfl) (uD rfl)) (by decide)) ?_
   rintro _ _ s403 h403 ⟨rfl, rfl⟩
   refine JO_bs [(_, _)] [_, _, _, _, _, _] rfl rfl rfl rfl rfl rfl rfl rfl rfl ?_
   intro βn s404 h404 hb34_6
   refine JO_call (first := []) (captured := [_]) rfl rfl rfl (AC.mid [_, _, _, _, _, _, _, _] (_ :: Mj) L (add_ac D _ _ _ _ _ _ _ _ _ Mj 26 _ hOj (by decide))) ?_
   rintro _ _ s405 h405 ⟨_, rfl, rfl, v2, M2, rfl, o2⟩
   simp only [List.cons_append, List.nil_append]
   refine JO_nil ?_
   refine thenQ_n (MidF.mk (v2, M2, css ++ [_]) [] (Le.trans (Le.trans (Le.trans h402 h403) h404) h405) (Suf.keeps (by repeat (first | exact Suf.refl | refine Suf.push rfl ?_))) (List.Perm.refl _) ⟨by rw [flat_snoc2]; exact o2, by rw [std_take (j := 26) (l := defT.ins) rfl]; exact All2.snoc (insA_le hAj (Le.trans (Le.trans (Le.trans h402 h403) h404) h405)) ⟨rfl, _, _, _, rfl, (acs1 (hb34_6.le h405) ⟨(uD rfl), (uD rfl)⟩), by decide, ⟨by decide, by decide⟩⟩⟩)
  intro g s401 h401 I401
  simp only [List.cons_append, List.nil_append]
  obtain ⟨vj, Mj, css⟩ := g
  obtain ⟨hOj, hAj⟩ := I401
  simp only at hOj hAj
  dsimp only
  refine JC_cutF [_, _, _, _, _, _, _, _] rfl (γ := Value × Hl × List (List Value)) (fun g => (β13, cb [.int .i64 65536, g.1] 24) :: (g.2.1 ++ L)) (fun g tw => Own 97 4 g.2.1 g.1 28 g.2.2.flatten ∧ All2 (fun x cs => cs.length = 4 ∧ InsR tw x cs) (defT.ins.take 28) g.2.2) (fun _ _ _ h hl => ⟨h.1, insA_le h.2 hl⟩) ?_ ?_
  ·
   refine JC_flow drawsMixed 31 rfl [309, 310, 311, 312, 313, 314, 315, 316, 317, 318, 319, 320, 321, 322, 323, 324, 325, 326, 327, 328, 329, 330, 331, 332, 333, 334, 335, 336, 337, 338, 339] [[], [], [], [], [2, 3], [1, 4], [], [], [], [7, 8], [6, 9], [], [], [], [12, 13], [11, 14], [], [], [], [17, 18], [16, 19], [], [], [], [22, 23], [21, 24], [], [], [27], [26, 28], [5, 10, 15, 20, 25, 29]] (by kernel_rfl) (by kernel_rfl) (by kernel_rfl) (by kernel_rfl) (by kernel_rfl) (by decide) rfl (fun i => (([.eq (.func (.func 75) #[] #[.pointer (some ⟨β13, 0, none⟩)]), .eq (.func (.func 76) #[] #[]), .eq (.agg #[.int .i64 1, .int .u32 3]), .eq (.agg #[.int .i64 0, .int .u32 1]), .row 2 [.int .i64 1, .int .u32 3, .int .i64 0, .int .u32 1], .eq (.agg #[.int .i64 1, .int .i64 3, .int .i64 1, .int .u32 3, .int .i64 0, .int .u32 1]), .eq (.func (.func 76) #[] #[]), .eq (.agg #[.int .i64 1, .int .u32 3]), .eq (.agg #[.int .i64 0, .int .u32 101]), .row 2 [.int .i64 1, .int .u32 3, .int .i64 0, .int .u32 101], .eq (.agg #[.int .i64 12, .int .i64 1, .int .i64 1, .int .u32 3, .int .i64 0, .int .u32 101]), .eq (.func (.func 76) #[] #[]), .eq (.agg #[.int .i64 0, .int .u32 3]), .eq (.agg #[.int .i64 1, .int .u32 1]), .row 2 [.int .i64 0, .int .u32 3, .int .i64 1, .int .u32 1], .eq (.agg #[.int .i64 18, .int .i64 0, .int .i64 0, .int .u32 3, .int .i64 1, .int .u32 1]), .eq (.func (.func 76) #[] #[]), .eq (.agg #[.int .i64 1, .int .u32 2]), .eq (.agg #[.int .i64 1, .int .u32 4]), .row 2 [.int .i64 1, .int .u32 2, .int .i64 1, .int .u32 4], .eq (.agg #[.int .i64 14, .int .i64 0, .int .i64 1, .int .u32 2, .int .i64 1, .int .u32 4]), .eq (.func (.func 76) #[] #[]), .eq (.agg #[.int .i64 1, .int .u32 2]), .eq (.agg #[.int .i64 0, .int .u32 1]), .row 2 [.int .i64 1, .int .u32 2, .int .i64 0, .int .u32 1], .eq (.agg #[.int .i64 1, .int .i64 2, .int .i64 1, .int .u32 2, .int .i64 0, .int .u32 1]), .eq (.func (.func 76) #[] #[]), .eq (.agg #[.int .i64 2, .int .u32 0]), .row 1 [.int .i64 2, .int .u32 0], .eq (.agg #[.int .i64 0, .int .i64 4, .int .i64 2, .int .u32 0, .int .i64 0, .int .u32 0]), .row 6 [.int .i64 1, .int .i64 3, .int .i64 1, .int .u32 3, .int .i64 0, .int .u32 1, .int .i64 12, .int .i64 1, .int .i64 1, .int .u32 3, .int .i64 0, .int .u32 101, .int .i64 18, .int .i64 0, .int .i64 0, .int .u32 3, .int .i64 1, .int .u32 1, .int .i64 14, .int .i64 0, .int .i64 1, .int .u32 2, .int .i64 1, .int .u32 4, .int .i64 1, .int .i64 2, .int .i64 1, .int .u32 2, .int .i64 0, .int .u32 1, .int .i64 0, .int .i64 4, .int .i64 2, .int .u32 0, .int .i64 0, .int .u32 0]] : List Fct).getD i (.eq undef)).holds) (Fct.le _) ⟨⟨⟨⟨⟨⟨⟨⟨⟨⟨⟨⟨⟨⟨⟨⟨⟨⟨⟨⟨⟨⟨⟨⟨⟨⟨⟨⟨⟨⟨⟨trivial, ?_⟩, ?_⟩, ?_⟩, ?_⟩, ?_⟩, ?_⟩, ?_⟩, ?_⟩, ?_⟩, ?_⟩, ?_⟩, ?_⟩, ?_⟩, ?_⟩, ?_⟩, ?_⟩, ?_⟩, ?_⟩, ?_⟩, ?_⟩, ?_⟩, ?_⟩, ?_⟩, ?_⟩, ?_⟩, ?_⟩, ?_⟩, ?_⟩, ?_⟩, ?_⟩, ?_⟩ [0, 30] rfl ?_
   ·
    intro sI407 hI407 
    exact JE_q rfl (QE_mv rfl) rfl
   ·
    intro sI407 hI407 
    exact JE_q rfl (QE_mv rfl) rfl
   ·
    intro sI407 hI407 
    exact JE_q rfl (QE_ldA 2 [_, _] rfl rfl rfl rfl rfl) rfl
   ·
    intro sI407 hI407 
    refine JE_call rfl (first := []) (captured := []) rfl rfl (num_ac D _ _ _) ?_
    rintro _ _ _ _ ⟨rfl, rfl⟩
    exact ⟨rfl, rfl⟩
   ·
    intro sI407 hI407 u2 q2 u3 q3
    obtain rfl := q2
    obtain rfl := q3
    exact JE_bs rfl [(_, _), (_, _)] [_, _, _, _] rfl rfl rfl rfl rfl rfl rfl rfl (fun β _ _ hc => ⟨β, rfl, hc⟩)
   ·
    intro sI407 hI407 u1 q1 u4 q4
    obtain rfl := q1
    obtain ⟨bq4, rfl, cq4⟩ := q4
    refine JE_call rfl (first := []) (captured := []) rfl rfl (do_ac D _ _ _ _ _ _ _ _ (tms2 cq4 (uD rfl) (uD rfl)) (by decide)) ?_
    rintro _ _ _ _ ⟨rfl, rfl⟩
    exact ⟨rfl, rfl⟩
   ·
    intro sI407 hI407 
    exact JE_q rfl (QE_mv rfl) rfl
   ·
    intro sI407 hI407 
    exact JE_q rfl (QE_ldA 2 [_, _] rfl rfl rfl rfl rfl) rfl
   ·
    intro sI407 hI407 
    refine JE_call rfl (first := []) (captured := []) rfl rfl (num_ac D _ _ _) ?_
    rintro _ _ _ _ ⟨rfl, rfl⟩
    exact ⟨rfl, rfl⟩
   ·
    intro sI407 hI407 u7 q7 u8 q8
    obtain rfl := q7
    obtain rfl := q8
    exact JE_bs rfl [(_, _), (_, _)] [_, _, _, _] rfl rfl rfl rfl rfl rfl rfl rfl (fun β _ _ hc => ⟨β, rfl, hc⟩)
   ·
    intro sI407 hI407 u6 q6 u9 q9
    obtain rfl := q6
    obtain ⟨bq9, rfl, cq9⟩ := q9
    refine JE_call rfl (first := []) (captured := []) rfl rfl (do_ac D _ _ _ _ _ _ _ _ (tms2 cq9 (uD rfl) (uD rfl)) (by decide)) ?_
    rintro _ _ _ _ ⟨rfl, rfl⟩
    exact ⟨rfl, rfl⟩
   ·
    intro sI407 hI407 
    exact JE_q rfl (QE_mv rfl) rfl
   ·
    intro sI407 hI407 
    refine JE_call rfl (first := []) (captured := []) rfl rfl (num_ac D _ _ _) ?_
    rintro _ _ _ _ ⟨rfl, rfl⟩
    exact ⟨rfl, rfl⟩
   ·
    intro sI407 hI407 
    exact JE_q rfl (QE_ldA 4 [_, _] rfl rfl rfl rfl rfl) rfl
   ·
    intro sI407 hI407 u12 q12 u13 q13
    obtain rfl := q12
    obtain rfl := q13
    exact JE_bs rfl [(_, _), (_, _)] [_, _, _, _] rfl rfl rfl rfl rfl rfl rfl rfl (fun β _ _ hc => ⟨β, rfl, hc⟩)
   ·
    intro sI407 hI407 u11 q11 u14 q14
    obtain rfl := q11
    obtain ⟨bq14, rfl, cq14⟩ := q14
    refine JE_call rfl (first := []) (captured := []) rfl rfl (do_ac D _ _ _ _ _ _ _ _ (tms2 cq14 (uD rfl) (uD rfl)) (by decide)) ?_
    rintro _ _ _ _ ⟨rfl, rfl⟩
    exact ⟨rfl, rfl⟩
   ·
    intro sI407 hI407 
    exact JE_q rfl (QE_mv rfl) rfl
   ·
    intro sI407 hI407 
    exact JE_q rfl (QE_ldA 3 [_, _] rfl rfl rfl rfl rfl) rfl
   ·
    intro sI407 hI407 
    exact JE_q rfl (QE_ldA 1 [_, _] rfl rfl rfl rfl rfl) rfl
   ·
    intro sI407 hI407 u17 q17 u18 q18
    obtain rfl := q17
    obtain rfl := q18
    exact JE_bs rfl [(_, _), (_, _)] [_, _, _, _] rfl rfl rfl rfl rfl rfl rfl rfl (fun β _ _ hc => ⟨β, rfl, hc⟩)
   ·
    intro sI407 hI407 u16 q16 u19 q19
    obtain rfl := q16
    obtain ⟨bq19, rfl, cq19⟩ := q19
    refine JE_call rfl (first := []) (captured := []) rfl rfl (do_ac D _ _ _ _ _ _ _ _ (tms2 cq19 (uD rfl) (uD rfl)) (by decide)) ?_
    rintro _ _ _ _ ⟨rfl, rfl⟩
    exact ⟨rfl, rfl⟩
   ·
    intro sI407 hI407 
    exact JE_q rfl (QE_mv rfl) rfl
   ·
    intro sI407 hI407 
    exact JE_q rfl (QE_ldA 3 [_, _] rfl rfl rfl rfl rfl) rfl
   ·
    intro sI407 hI407 
    refine JE_call rfl (first := []) (captured := []) rfl rfl (num_ac D _ _ _) ?_
    rintro _ _ _ _ ⟨rfl, rfl⟩
    exact ⟨rfl, rfl⟩
   ·
    intro sI407 hI407 u22 q22 u23 q23
    obtain rfl := q22
    obtain rfl := q23
    exact JE_bs rfl [(_, _), (_, _)] [_, _, _, _] rfl rfl rfl rfl rfl rfl rfl rfl (fun β _ _ hc => ⟨β, rfl, hc⟩)
   ·
    intro sI407 hI407 u21 q21 u24 q24
    obtain rfl := q21
    obtain ⟨bq24, rfl, cq24⟩ := q24
    refine JE_call rfl (first := []) (captured := []) rfl rfl (do_ac D _ _ _ _ _ _ _ _ (tms2 cq24 (uD rfl) (uD rfl)) (by decide)) ?_
    rintro _ _ _ _ ⟨rfl, rfl⟩
    exact ⟨rfl, rfl⟩
   ·
    intro sI407 hI407 
    exact JE_q rfl (QE_mv rfl) rfl
   ·
    intro sI407 hI407 
    exact JE_q rfl (QE_ldA 0 [_, _] rfl rfl rfl rfl rfl) rfl
   ·
    intro sI407 hI407 u27 q27
    obtain rfl := q27
    exact JE_bs rfl [(_, _)] [_, _] rfl rfl rfl rfl rfl rfl rfl rfl (fun β _ _ hc => ⟨β, rfl, hc⟩)
   ·
    intro sI407 hI407 u26 q26 u28 q28
    obtain rfl := q26
    obtain ⟨bq28, rfl, cq28⟩ := q28
    refine JE_call rfl (first := []) (captured := []) rfl rfl (do_ac D _ _ _ _ _ _ _ _ (tms1 cq28 (uD rfl)) (by decide)) ?_
    rintro _ _ _ _ ⟨rfl, rfl⟩
    exact ⟨rfl, rfl⟩
   ·
    intro sI407 hI407 u5 q5 u10 q10 u15 q15 u20 q20 u25 q25 u29 q29
    obtain rfl := q5
    obtain rfl := q10
    obtain rfl := q15
    obtain rfl := q20
    obtain rfl := q25
    obtain rfl := q29
    exact JE_bs rfl [(_, _), (_, _), (_, _), (_, _), (_, _), (_, _)] [_, _, _, _, _, _, _, _, _, _, _, _, _, _, _, _, _, _, _, _, _, _, _, _, _, _, _, _, _, _, _, _, _, _, _, _] rfl rfl rfl rfl rfl rfl rfl rfl (fun β _ _ hc => ⟨β, rfl, hc⟩)
   ·
    intro sI407 hI407 u0 q0 u30 q30
    obtain rfl := q0
    obtain ⟨bq30, rfl, cq30⟩ := q30
    refine JA_1 31 (by kernel_rfl) ?_
    
    refine JB_call rfl trivial (first := []) (captured := [_]) rfl rfl rfl (AC.mid [_, _, _, _, _, _, _, _] (_ :: Mj) L (add_ac D _ _ _ _ _ _ _ _ _ Mj 27 _ hOj (by decide))) ?_
    rintro _ _ s408 h408 ⟨_, rfl, rfl, v2, M2, rfl, o2⟩
    refine ⟨(fun x hx _ => by cases hx), ?_⟩
    simp only [List.cons_append, List.nil_append]
    refine JA_done (by kernel_rfl) ?_
    refine thenQ_n (MidF.mk (v2, M2, css ++ [_]) [] (Le.trans hI407 h408) (Suf.keeps (by repeat (first | exact Suf.refl | refine Suf.push rfl ?_))) (List.Perm.refl _) ⟨by rw [flat_snoc2]; exact o2, by rw [std_take (j := 27) (l := defT.ins) rfl]; exact All2.snoc (insA_le hAj (Le.trans hI407 h408)) ⟨rfl, _, _, _, rfl, (acs6 (cq30.le h408) ⟨⟨(uD rfl), (uD rfl)⟩, ⟨(uD rfl), (uD rfl)⟩, ⟨(uD rfl), (uD rfl)⟩, ⟨(uD rfl), (uD rfl)⟩, ⟨(uD rfl), (uD rfl)⟩, ⟨(uD rfl), (uD rfl)⟩⟩), by decide, ⟨by decide, by decide⟩⟩⟩)
  intro g s406 h406 I406
  simp only [List.cons_append, List.nil_append]
  obtain ⟨vj, Mj, css⟩ := g
  obtain ⟨hOj, hAj⟩ := I406
  simp only at hOj hAj
  dsimp only
  refine JC_cutF [_, _, _, _, _, _, _, _] rfl (γ := Value × Hl × List (List Value)) (fun g => (β13, cb [.int .i64 65536, g.1] 24) :: (g.2.1 ++ L)) (fun g tw => Own 97 4 g.2.1 g.1 29 g.2.2.flatten ∧ All2 (fun x cs => cs.length = 4 ∧ InsR tw x cs) (defT.ins.take 29) g.2.2) (fun _ _ _ h hl => ⟨h.1, insA_le h.2 hl⟩) ?_ ?_
  ·
   refine JC_drawT drawsMixed 17 rfl 8 ?_
   intro s410 h410
   refine JA_q 0 rfl (by kernel_rfl) (by kernel_rfl) (by kernel_rfl) trivial (QE_mv rfl) rfl ?_
   refine JA_q 1 rfl (by kernel_rfl) (by kernel_rfl) (by kernel_rfl) trivial (QE_mv rfl) rfl ?_
   refine JA_q 2 rfl (by kernel_rfl) (by kernel_rfl) (by kernel_rfl) trivial (QE_ldA 3 [_, _] rfl rfl rfl rfl rfl) rfl ?_
   refine JA_q 3 rfl (by kernel_rfl) (by kernel_rfl) (by kernel_rfl) trivial (QE_ldA 0 [_, _] rfl rfl rfl rfl rfl) rfl ?_
   refine JA_q 6 rfl (by kernel_rfl) (by kernel_rfl) (by kernel_rfl) trivial (QE_mv rfl) rfl ?_
   refine JA_q 7 rfl (by kernel_rfl) (by kernel_rfl) (by kernel_rfl) trivial (QE_ldA 3 [_, _] rfl rfl rfl rfl rfl) rfl ?_
   refine JA_q 10 rfl (by kernel_rfl) (by kernel_rfl) (by kernel_rfl) trivial (QE_mv rfl) rfl ?_
   refine JA_q 11 rfl (by kernel_rfl) (by kernel_rfl) (by kernel_rfl) trivial (QE_ldA 2 [_, _] rfl rfl rfl rfl rfl) rfl ?_
   refine JA_2 4 8 (by kernel_rfl) ?_ ?_
   ·
    refine JB_bs rfl trivial [(_, _), (_, _)] [_, _, _, _] rfl rfl rfl rfl rfl rfl rfl rfl rfl ?_
    intro βn s411 h411 hb36_4
    refine JA_2 5 8 (by kernel_rfl) ?_ ?_
    ·
     refine JB_call rfl trivial (first := []) (captured := []) rfl rfl rfl (do_ac D _ _ _ _ _ _ _ _ (tms2 (hb36_4.le (Le.refl (D := D) _)) (uD rfl) (uD rfl)) (by decide)) ?_
     rintro _ _ s412 h412 ⟨rfl, rfl⟩
     refine ⟨fun _ _ h => h, ?_⟩
     refine JA_1 8 (by kernel_rfl) ?_
     refine JB_bs rfl trivial [(_, _)] [_, _] rfl rfl rfl rfl rfl rfl rfl rfl rfl ?_
     intro βn s413 h413 hb36_8
     refine JA_1 9 (by kernel_rfl) ?_
     refine JB_call rfl trivial (first := []) (captured := []) rfl rfl rfl (do_ac D _ _ _ _ _ _ _ _ (tms1 (hb36_8.le (Le.refl (D := D) _)) (uD rfl)) (by decide)) ?_
     rintro _ _ s414 h414 ⟨rfl, rfl⟩
     refine ⟨fun _ _ h => h, ?_⟩
     refine JA_1 12 (by kernel_rfl) ?_
     refine JB_call rfl trivial (first := []) (captured := []) rfl rfl rfl (num_ac D _ _ _) ?_
     rintro _ _ s415 h415 ⟨rfl, rfl⟩
     refine ⟨fun _ _ h => h, ?_⟩
     refine JA_1 13 (by kernel_rfl) ?_
     refine JB_bs rfl trivial [(_, _), (_, _)] [_, _, _, _] rfl rfl rfl rfl rfl rfl rfl rfl rfl ?_
     intro βn s416 h416 hb36_13
     refine JA_1 14 (by kernel_rfl) ?_
     refine JB_call rfl trivial (first := []) (captured := []) rfl rfl rfl (do_ac D _ _ _ _ _ _ _ _ (tms2 (hb36_13.le (Le.refl (D := D) _)) (uD rfl) (uD rfl)) (by decide)) ?_
     rintro _ _ s417 h417 ⟨rfl, rfl⟩
     refine ⟨fun _ _ h => h, ?_⟩
     refine JA_1 15 (by kernel_rfl) ?_
     refine JB_bs rfl trivial [(_, _), (_, _), (_, _)] [_, _, _, _, _, _, _, _, _, _, _, _, _, _, _, _, _, _] rfl rfl rfl rfl rfl rfl rfl rfl rfl ?_
     intro βn s418 h418 hb36_15
     refine JA_1 16 (by kernel_rfl) ?_
     refine JB_call rfl trivial (first := []) (captured := [_]) rfl rfl rfl (AC.mid [_, _, _, _, _, _, _, _] (_ :: Mj) L (add_ac D _ _ _ _ _ _ _ _ _ Mj 28 _ hOj (by decide))) ?_
     rintro _ _ s419 h419 ⟨_, rfl, rfl, v2, M2, rfl, o2⟩
     refine ⟨(fun x hx _ => sub_mem (sbY (sbY (sbY (sbY (sbY (sbY (sbY (sbY (sb0 _))))))))) hx), ?_⟩
     simp only [List.cons_append, List.nil_append]
     refine JA_done (by kernel_rfl) ?_
     refine thenQ_n (MidF.mk (v2, M2, css ++ [_]) [] (Le.trans (Le.trans (Le.trans (Le.trans (Le.trans (Le.trans (Le.trans (Le.trans (Le.trans h410 h411) h412) h413) h414) h415) h416) h417) h418) h419) (Suf.keeps (by repeat (first | exact Suf.refl | refine Suf.push rfl ?_))) (List.Perm.refl _) ⟨by rw [flat_snoc2]; exact o2, by rw [std_take (j := 28) (l := defT.ins) rfl]; exact All2.snoc (insA_le hAj (Le.trans (Le.trans (Le.trans (Le.trans (Le.trans (Le.trans (Le.trans (Le.trans (Le.trans h410 h411) h412) h413) h414) h415) h416) h417) h418) h419)) ⟨rfl, _, _, _, rfl, (acs3 (hb36_15.le h419) ⟨⟨(uD rfl), (uD rfl)⟩, ⟨(uD rfl), (uD rfl)⟩, ⟨(uD rfl), (uD rfl)⟩⟩), by decide, ⟨by decide, by decide⟩⟩⟩)
    ·
     refine JB_bs rfl trivial [(_, _)] [_, _] rfl rfl rfl rfl rfl rfl rfl rfl rfl ?_
     intro βn s420 h420 hb36_8
     refine JA_1 5 (by kernel_rfl) ?_
     refine JB_call rfl trivial (first := []) (captured := []) rfl rfl rfl (do_ac D _ _ _ _ _ _ _ _ (tms2 (hb36_4.le h420) (uD rfl) (uD rfl)) (by decide)) ?_
     rintro _ _ s421 h421 ⟨rfl, rfl⟩
     refine ⟨fun _ _ h => h, ?_⟩
     refine JA_1 9 (by kernel_rfl) ?_
     refine JB_call rfl trivial (first := []) (captured := []) rfl rfl rfl (do_ac D _ _ _ _ _ _ _ _ (tms1 (hb36_8.le h421) (uD rfl)) (by decide)) ?_
     rintro _ _ s422 h422 ⟨rfl, rfl⟩
     refine ⟨fun _ _ h => h, ?_⟩
     refine JA_1 12 (by kernel_rfl) ?_
     refine JB_call rfl trivial (first := []) (captured := []) rfl rfl rfl (num_ac D _ _ _) ?_
     rintro _ _ s423 h423 ⟨rfl, rfl⟩
     refine ⟨fun _ _ h => h, ?_⟩
     refine JA_1 13 (by kernel_rfl) ?_
     refine JB_bs rfl trivial [(_, _), (_, _)] [_, _, _, _] rfl rfl rfl rfl rfl rfl rfl rfl rfl ?_
     intro βn s424 h424 hb36_13
     refine JA_1 14 (by kernel_rfl) ?_
     refine JB_call rfl trivial (first := []) (captured := []) rfl rfl rfl (do_ac D _ _ _ _ _ _ _ _ (tms2 (hb36_13.le (Le.refl (D := D) _)) (uD rfl) (uD rfl)) (by decide)) ?_
     rintro _ _ s425 h425 ⟨rfl, rfl⟩
     refine ⟨fun _ _ h => h, ?_⟩
     refine JA_1 15 (by kernel_rfl) ?_
     refine JB_bs rfl trivial [(_, _), (_, _), (_, _)] [_, _, _, _, _, _, _, _, _, _, _, _, _, _, _, _, _, _] rfl rfl rfl rfl rfl rfl rfl rfl rfl ?_
     intro βn s426 h426 hb36_15
     refine JA_1 16 (by kernel_rfl) ?_
     refine JB_call rfl trivial (first := []) (captured := [_]) rfl rfl rfl (AC.mid [_, _, _, _, _, _, _, _] (_ :: Mj) L (add_ac D _ _ _ _ _ _ _ _ _ Mj 28 _ hOj (by decide))) ?_
     rintro _ _ s427 h427 ⟨_, rfl, rfl, v2, M2, rfl, o2⟩
     refine ⟨(fun x hx _ => sub_mem (sbY (sbY (sbY (sbY (sbY (sbY (sbY (sbY (sb0 _))))))))) hx), ?_⟩
     simp only [List.cons_append, List.nil_append]
     refine JA_done (by kernel_rfl) ?_
     refine thenQ_n (MidF.mk (v2, M2, css ++ [_]) [] (Le.trans (Le.trans (Le.trans (Le.trans (Le.trans (Le.trans (Le.trans (Le.trans (Le.trans h410 h411) h420) h421) h422) h423) h424) h425) h426) h427) (Suf.keeps (by repeat (first | exact Suf.refl | refine Suf.push rfl ?_))) (List.Perm.refl _) ⟨by rw [flat_snoc2]; exact o2, by rw [std_take (j := 28) (l := defT.ins) rfl]; exact All2.snoc (insA_le hAj (Le.trans (Le.trans (Le.trans (Le.trans (Le.trans (Le.trans (Le.trans (Le.trans (Le.trans h410 h411) h420) h421) h422) h423) h424) h425) h426) h427)) ⟨rfl, _, _, _, rfl, (acs3 (hb36_15.le h427) ⟨⟨(uD rfl), (uD rfl)⟩, ⟨(uD rfl), (uD rfl)⟩, ⟨(uD rfl), (uD rfl)⟩⟩), by decide, ⟨by decide, by decide⟩⟩⟩)
   ·
    refine JB_bs rfl trivial [(_, _)] [_, _] rfl rfl rfl rfl rfl rfl rfl rfl rfl ?_
    intro βn s428 h428 hb36_8
    refine JA_1 4 (by kernel_rfl) ?_
    refine JB_bs rfl trivial [(_, _), (_, _)] [_, _, _, _] rfl rfl rfl rfl rfl rfl rfl rfl rfl ?_
    intro βn s429 h429 hb36_4
    refine JA_1 5 (by kernel_rfl) ?_
    refine JB_call rfl trivial (first := []) (captured := []) rfl rfl rfl (do_ac D _ _ _ _ _ _ _ _ (tms2 (hb36_4.le (Le.refl (D := D) _)) (uD rfl) (uD rfl)) (by decide)) ?_
    rintro _ _ s430 h430 ⟨rfl, rfl⟩
    refine ⟨fun _ _ h => h, ?_⟩
    refine JA_1 9 (by kernel_rfl) ?_
    refine JB_call rfl trivial (first := []) (captured := []) rfl rfl rfl (do_ac D _ _ _ _ _ _ _ _ (tms1 (hb36_8.le (Le.trans h429 h430)) (uD rfl)) (by decide)) ?_
    rintro _ _ s431 h431 ⟨rfl, rfl⟩
    refine ⟨fun _ _ h => h, ?_⟩
    refine JA_1 12 (by kernel_rfl) ?_
    refine JB_call rfl trivial (first := []) (captured := []) rfl rfl rfl (num_ac D _ _ _) ?_
    rintro _ _ s432 h432 ⟨rfl, rfl⟩
    refine ⟨fun _ _ h => h, ?_⟩
    refine JA_1 13 (by kernel_rfl) ?_
    refine JB_bs rfl trivial [(_, _), (_, _)] [_, _, _, _] rfl rfl rfl rfl rfl rfl rfl rfl rfl ?_
    intro βn s433 h433 hb36_13
    refine JA_1 14 (by kernel_rfl) ?_
    refine JB_call rfl trivial (first := []) (captured := []) rfl rfl rfl (do_ac D _ _ _ _ _ _ _ _ (tms2 (hb36_13.le (Le.refl (D := D) _)) (uD rfl) (uD rfl)) (by decide)) ?_
    rintro _ _ s434 h434 ⟨rfl, rfl⟩
    refine ⟨fun _ _ h => h, ?_⟩
    refine JA_1 15 (by kernel_rfl) ?_
    refine JB_bs rfl trivial [(_, _), (_, _), (_, _)] [_, _, _, _, _, _, _, _, _, _, _, _, _, _, _, _, _, _] rfl rfl rfl rfl rfl rfl rfl rfl rfl ?_
    intro βn s435 h435 hb36_15
    refine JA_1 16 (by kernel_rfl) ?_
    refine JB_call rfl trivial (first := []) (captured := [_]) rfl rfl rfl (AC.mid [_, _, _, _, _, _, _, _] (_ :: Mj) L (add_ac D _ _ _ _ _ _ _ _ _ Mj 28 _ hOj (by decide))) ?_
    rintro _ _ s436 h436 ⟨_, rfl, rfl, v2, M2, rfl, o2⟩
    refine ⟨(fun x hx _ => sub_mem (sbY (sbY (sbY (sbY (sbY (sbY (sbY (sbY (sb0 _))))))))) hx), ?_⟩
    simp only [List.cons_append, List.nil_append]
    refine JA_done (by kernel_rfl) ?_
    refine thenQ_n (MidF.mk (v2, M2, css ++ [_]) [] (Le.trans (Le.trans (Le.trans (Le.trans (Le.trans (Le.trans (Le.trans (Le.trans (Le.trans h410 h428) h429) h430) h431) h432) h433) h434) h435) h436) (Suf.keeps (by repeat (first | exact Suf.refl | refine Suf.push rfl ?_))) (List.Perm.refl _) ⟨by rw [flat_snoc2]; exact o2, by rw [std_take (j := 28) (l := defT.ins) rfl]; exact All2.snoc (insA_le hAj (Le.trans (Le.trans (Le.trans (Le.trans (Le.trans (Le.trans (Le.trans (Le.trans (Le.trans h410 h428) h429) h430) h431) h432) h433) h434) h435) h436)) ⟨rfl, _, _, _, rfl, (acs3 (hb36_15.le h436) ⟨⟨(uD rfl), (uD rfl)⟩, ⟨(uD rfl), (uD rfl)⟩, ⟨(uD rfl), (uD rfl)⟩⟩), by decide, ⟨by decide, by decide⟩⟩⟩)
  intro g s409 h409 I409
  simp only [List.cons_append, List.nil_append]
  obtain ⟨vj, Mj, css⟩ := g
  obtain ⟨hOj, hAj⟩ := I409
  simp only at hOj hAj
  dsimp only
  refine JC_cutF [_, _, _, _, _, _, _, _] rfl (γ := Value × Hl × List (List Value)) (fun g => (β13, cb [.int .i64 65536, g.1] 24) :: (g.2.1 ++ L)) (fun g tw => Own 97 4 g.2.1 g.1 30 g.2.2.flatten ∧ All2 (fun x cs => cs.length = 4 ∧ InsR tw x cs) (defT.ins.take 30) g.2.2) (fun _ _ _ h hl => ⟨h.1, insA_le h.2 hl⟩) ?_ ?_
  ·
   refine JC_region ?_
   refine JO_q (QE_mv rfl) rfl ?_
   refine JO_q (QE_mv rfl) rfl ?_
   refine JO_call (first := []) (captured := []) rfl rfl rfl (do_ac D _ _ _ _ _ _ _ _ (tms0 _) (by decide)) ?_
   rintro _ _ s438 h438 ⟨rfl, rfl⟩
   refine JO_bs [(_, _)] [_, _, _, _, _, _] rfl rfl rfl rfl rfl rfl rfl rfl rfl ?_
   intro βn s439 h439 hb37_3
   refine JO_call (first := []) (captured := [_]) rfl rfl rfl (AC.mid [_, _, _, _, _, _, _, _] (_ :: Mj) L (add_ac D _ _ _ _ _ _ _ _ _ Mj 29 _ hOj (by decide))) ?_
   rintro _ _ s440 h440 ⟨_, rfl, rfl, v2, M2, rfl, o2⟩
   simp only [List.cons_append, List.nil_append]
   refine JO_nil ?_
   refine thenQ_n (MidF.mk (v2, M2, css ++ [_]) [] (Le.trans (Le.trans h438 h439) h440) (Suf.keeps (by repeat (first | exact Suf.refl | refine Suf.push rfl ?_))) (List.Perm.refl _) ⟨by rw [flat_snoc2]; exact o2, by rw [std_take (j := 29) (l := defT.ins) rfl]; exact All2.snoc (insA_le hAj (Le.trans (Le.trans h438 h439) h440)) ⟨rfl, _, _, _, rfl, (acs1 (hb37_3.le h440) ⟨(uD rfl), (uD rfl)⟩), by decide, ⟨by decide, by decide⟩⟩⟩)
  intro g s437 h437 I437
  simp only [List.cons_append, List.nil_append]
  obtain ⟨vj, Mj, css⟩ := g
  obtain ⟨hOj, hAj⟩ := I437
  simp only at hOj hAj
  dsimp only
  refine JC_cutF [_, _, _, _, _, _, _, _] rfl (γ := Value × Hl × List (List Value)) (fun g => (β13, cb [.int .i64 65536, g.1] 24) :: (g.2.1 ++ L)) (fun g tw => Own 97 4 g.2.1 g.1 31 g.2.2.flatten ∧ All2 (fun x cs => cs.length = 4 ∧ InsR tw x cs) (defT.ins.take 31) g.2.2) (fun _ _ _ h hl => ⟨h.1, insA_le h.2 hl⟩) ?_ ?_
  ·
   refine JC_region ?_
   refine JO_q (QE_mv rfl) rfl ?_
   refine JO_q (QE_mv rfl) rfl ?_
   refine JO_q (QE_ldA 5 [_, _] rfl rfl rfl rfl rfl) rfl ?_
   refine JO_bs [(_, _)] [_, _] rfl rfl rfl rfl rfl rfl rfl rfl rfl ?_
   intro βn s442 h442 hb38_3
   refine JO_call (first := []) (captured := []) rfl rfl rfl (do_ac D _ _ _ _ _ _ _ _ (tms1 (hb38_3.le (Le.refl (D := D) _)) (uD rfl)) (by decide)) ?_
   rintro _ _ s443 h443 ⟨rfl, rfl⟩
   refine JO_bs [(_, _)] [_, _, _, _, _, _] rfl rfl rfl rfl rfl rfl rfl rfl rfl ?_
   intro βn s444 h444 hb38_5
   refine JO_call (first := []) (captured := [_]) rfl rfl rfl (AC.mid [_, _, _, _, _, _, _, _] (_ :: Mj) L (add_ac D _ _ _ _ _ _ _ _ _ Mj 30 _ hOj (by decide))) ?_
   rintro _ _ s445 h445 ⟨_, rfl, rfl, v2, M2, rfl, o2⟩
   simp only [List.cons_append, List.nil_append]
   refine JO_nil ?_
   refine thenQ_n (MidF.mk (v2, M2, css ++ [_]) [] (Le.trans (Le.trans (Le.trans h442 h443) h444) h445) (Suf.keeps (by repeat (first | exact Suf.refl | refine Suf.push rfl ?_))) (List.Perm.refl _) ⟨by rw [flat_snoc2]; exact o2, by rw [std_take (j := 30) (l := defT.ins) rfl]; exact All2.snoc (insA_le hAj (Le.trans (Le.trans (Le.trans h442 h443) h444) h445)) ⟨rfl, _, _, _, rfl, (acs1 (hb38_5.le h445) ⟨(uD rfl), (uD rfl)⟩), by decide, ⟨by decide, by decide⟩⟩⟩)
  intro g s441 h441 I441
  simp only [List.cons_append, List.nil_append]
  obtain ⟨vj, Mj, css⟩ := g
  obtain ⟨hOj, hAj⟩ := I441
  simp only at hOj hAj
  dsimp only
  refine JC_cutF [_, _, _, _, _, _, _, _] rfl (γ := Value × Hl × List (List Value)) (fun g => (β13, cb [.int .i64 65536, g.1] 24) :: (g.2.1 ++ L)) (fun g tw => Own 97 4 g.2.1 g.1 32 g.2.2.flatten ∧ All2 (fun x cs => cs.length = 4 ∧ InsR tw x cs) (defT.ins.take 32) g.2.2) (fun _ _ _ h hl => ⟨h.1, insA_le h.2 hl⟩) ?_ ?_
  ·
   refine JC_region ?_
   refine JO_q (QE_mv rfl) rfl ?_
   refine JO_q (QE_mv rfl) rfl ?_
   refine JO_q (QE_ldA 0 [_, _] rfl rfl rfl rfl rfl) rfl ?_
   refine JO_bs [(_, _)] [_, _] rfl rfl rfl rfl rfl rfl rfl rfl rfl ?_
   intro βn s447 h447 hb39_3
   refine JO_call (first := []) (captured := []) rfl rfl rfl (do_ac D _ _ _ _ _ _ _ _ (tms1 (hb39_3.le (Le.refl (D := D) _)) (uD rfl)) (by decide)) ?_
   rintro _ _ s448 h448 ⟨rfl, rfl⟩
   refine JO_bs [(_, _)] [_, _, _, _, _, _] rfl rfl rfl rfl rfl rfl rfl rfl rfl ?_
   intro βn s449 h449 hb39_5
   refine JO_call (first := []) (captured := [_]) rfl rfl rfl (AC.mid [_, _, _, _, _, _, _, _] (_ :: Mj) L (add_ac D _ _ _ _ _ _ _ _ _ Mj 31 _ hOj (by decide))) ?_
   rintro _ _ s450 h450 ⟨_, rfl, rfl, v2, M2, rfl, o2⟩
   simp only [List.cons_append, List.nil_append]
   refine JO_nil ?_
   refine thenQ_n (MidF.mk (v2, M2, css ++ [_]) [] (Le.trans (Le.trans (Le.trans h447 h448) h449) h450) (Suf.keeps (by repeat (first | exact Suf.refl | refine Suf.push rfl ?_))) (List.Perm.refl _) ⟨by rw [flat_snoc2]; exact o2, by rw [std_take (j := 31) (l := defT.ins) rfl]; exact All2.snoc (insA_le hAj (Le.trans (Le.trans (Le.trans h447 h448) h449) h450)) ⟨rfl, _, _, _, rfl, (acs1 (hb39_5.le h450) ⟨(uD rfl), (uD rfl)⟩), by decide, ⟨by decide, by decide⟩⟩⟩)
  intro g s446 h446 I446
  simp only [List.cons_append, List.nil_append]
  obtain ⟨vj, Mj, css⟩ := g
  obtain ⟨hOj, hAj⟩ := I446
  simp only at hOj hAj
  dsimp only
  obtain ⟨Au, cu, rfl, ku1, ku2⟩ := Own.slice hOj
  refine JC_seq ?_
  refine JC_region ?_
  refine JO_q (QE_ldA 8 [_, _] rfl rfl rfl rfl rfl) rfl ?_
  refine JO_st 6 [_, _] rfl rfl rfl rfl rfl rfl rfl rfl rfl ?_
  refine JO_nil ?_
  refine thenQ_n ?_
  refine JC_ret ?_
  refine retQ_mk [_, _, _, _, _, _, _, _, _] _ (.inr rfl) (.agg (us := [_, _]) 6 rfl rfl rfl rfl rfl (.nil)) rfl (Le.trans (Le.trans (Le.trans (Le.trans (Le.trans (Le.trans (Le.trans (Le.trans (Le.trans (Le.trans (Le.trans (Le.trans (Le.trans (Le.trans (Le.trans (Le.trans (Le.trans (Le.trans (Le.trans (Le.trans (Le.trans (Le.trans (Le.trans (Le.trans (Le.trans (Le.trans (Le.trans (Le.trans (Le.trans (Le.trans (Le.trans (Le.trans (Le.trans (Le.trans (Le.trans (Le.trans (Le.trans (Le.trans (Le.trans (Le.trans (Le.trans (Le.trans (Le.trans (Le.trans (Le.trans h1 h2) h3) h4) h5) h6) h7) h8) h9) h10) h11) h12) h13) h14) h139) h144) h149) h154) h159) h178) h197) h216) h238) h247) h252) h258) h264) h270) h301) h332) h338) h344) h350) h356) h362) h368) h374) h380) h387) h396) h401) h406) h409) h437) h441) h446) (fun sR hS2 => ?_)
  exact ⟨Mj, rfl, fun s2 hs2 hp => ⟨_, _, _, rfl, Own.rows hOj hp (insA_le hAj (Le.trans (Le.refl (D := D) _) (Le.trans hS2 hs2))) rfl⟩⟩
end Go.Proofs.YteomcjpigoaioaaGreatDoor
