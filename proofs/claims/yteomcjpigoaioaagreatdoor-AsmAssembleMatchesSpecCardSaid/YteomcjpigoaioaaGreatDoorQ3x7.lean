/- Part 7 of the proof of asmAssembleMatchesSpec_holds: texts W15, Rl, W23, W24, La, Rm, W25, Rn, W26, Ro, W27, Rp, W28, Rq. -/
import Derived.Test.YteomcjpigoaioaaGreatDoorQ3x6
set_option linter.unusedVariables false
set_option linter.unusedSimpArgs false
set_option linter.unnecessarySimpa false
namespace Go.Proofs.YteomcjpigoaioaaGreatDoor
open Go.FL
attribute [local irreducible] JC JO JA JB thenQ blockQ retQ AC fill CellsAt QE Ev Mid
theorem bT {p : Prop} [Decidable p] (h : p) : Value.bool (decide p) = .bool true := by rw [decide_eq_true h]
theorem bF {p : Prop} [Decidable p] (h : p) : Value.bool (!decide p) = .bool false := by rw [decide_eq_true h]; rfl
theorem bZ {p : Prop} [Decidable p] (h : ¬ p) : Value.bool (decide p) = .bool false := by rw [decide_eq_false h]
theorem AC.isT {P : Program} {D : Nat} {f : FuncId} {args : List Value} {L : Hl} {s : World} {p : Prop} [Decidable p] (h : AC P D f args L s fun v L' _ => v = .bool (decide p) ∧ L = L') (hp : p) : AC P D f args L s fun v L' _ => v = .bool true ∧ L = L' :=
  h.mono fun v L' _ _ ⟨h1, h2⟩ => ⟨by rw [h1, decide_eq_true hp], h2⟩
theorem defaultP_ac (D : Nat) (L : Hl) (s : World) : AC Tryz.prog D 46 [] L s fun v L' s' => L = L' ∧ ∃ A n c, v = .agg #[.int .i64 65536, .slice A n c] ∧ Inss s' A n c defT.ins := AC.pubW (defaultO_ac D L s)
def exT : List UInt8 := [32, 106, 117, 109, 112, 32, 101, 110, 100, 32, 59, 32, 97, 32, 99, 111, 109, 109, 101, 110, 116, 10, 120, 58, 32, 119, 111, 114, 100, 32, 55, 10, 101, 110, 100, 58, 32, 108, 111, 97, 100, 32, 120, 10, 32, 115, 112, 97, 99, 101, 32, 50, 10]
theorem ex_R : asmR defT exT = .inr ([26, 3, 7, 3, 2, 0, 0], [([120], 2), ([101, 110, 100], 3)]) := by decide +kernel
theorem ex_tab : (tabFault defT).1 = 0 := by decide +kernel
theorem ex_W : asmW defT exT = [26, 3, 7, 3, 2, 0, 0] ∧ asmL defT exT = [([120], 2), ([101, 110, 100], 3)] ∧ asmFt defT exT = (0, 0) := asmW_r ex_R
def exL : List UInt8 := [110, 117, 109, 32, 57, 10, 115, 116, 111, 112, 10, 119, 111, 114, 100, 32, 50, 10]
theorem ex_l : lstF defT [2, 9, 1, 2] = exL := by
  obtain ⟨y, hy, ho, hn⟩ : ∃ y, findI defT.ins 2 = some y ∧ y.operand = true ∧ y.name = [110, 117, 109] := ⟨(findI defT.ins 2).get (by decide +kernel), (Option.some_get _).symm, by decide +kernel, by decide +kernel⟩
  obtain ⟨z, hz, zo, zn⟩ : ∃ y, findI defT.ins 1 = some y ∧ y.operand = false ∧ y.name = [115, 116, 111, 112] := ⟨(findI defT.ins 1).get (by decide +kernel), (Option.some_get _).symm, by decide +kernel, by decide +kernel⟩
  rw [lst_opd hy ho, lst_plain hz zo, lst_word (by unfold plainB; rw [hy]; simp [ho]) (by simp), hn, zn, show (9 : Int).toNat = 9 from rfl, show (2 : Int).toNat = 2 from rfl, Lib.decDigits_one (by decide), Lib.decDigits_one (by decide)]
  rfl
theorem ex_S : listS defT [2, 9, 1, 2] = exL ∧ listE defT [2, 9, 1, 2] = (0, 0) := by
  have h3 : ¬ 400000 < (lstF defT [2, 9, 1, 2]).length := by rw [ex_l]; decide
  have := list_ok ex_tab (by decide +kernel) h3
  rw [ex_l] at this
  exact this
theorem ex_K : keyS [97, 49] = 65 ∧ keyE [97, 49] = (0, 0) := by decide +kernel
theorem ex_N : nameS 65 = [97, 49] ∧ nameE 65 = (0, 0) := by
  have h : nmF 65 [] = some [49, 97] := by
    rw [nmF_more (by decide) (by decide), nmF_more (by decide) (by decide), show 65 / 37 / 37 = 0 from rfl, nmF_zero]; rfl
  have := name_ok h (by decide +kernel)
  exact this
theorem ex_P : packS [5, 300] = [5, 172, 2] ∧ packE [5, 300] = (0, 0) := by
  have h1 : grp 5 = [5] := grp_small (by decide)
  have h2 : grp 300 = [172, 2] := by rw [grp_big (by decide), grp_small (by decide)]; rfl
  refine ⟨?_, rfl⟩
  rw [packS, if_neg (by decide), packF]
  show [grp 5, grp 300].flatten = _
  rw [h1, h2]; rfl
theorem ex_U : unpS [5, 172, 2] = [5, 300] ∧ unpE [5, 172, 2] = (0, 0) := by
  have h : upF 0 [] [5, 172, 2] = .inr [5, 300] := by
    rw [upF_more (x := (5, 1, 5, [172, 2])) (by decide) (by decide +kernel) (by decide), upF_more (x := (300, 2, 2, [])) (by decide) (by decide +kernel) (by decide), upF_nil]; rfl
  exact unp_r (unp_ok (by decide) h (by decide))
theorem wds_lit {s : World} {b : Nat} {l : List Int} (h : CellsAt s b 0 (wv l)) (hu : ∀ x ∈ l, U32 x) (hl : l.length ≤ 1000) : Wds s (some ⟨b, 0, none⟩) l.length l.length l :=
  wds_pub (yc := []) (cc := l.length) (by simpa using h) hu (by simp) (by omega)
theorem bts_lit {s : World} {b : Nat} {l : List UInt8} (h : CellsAt s b 0 (bv l)) (hl : l.length ≤ 1000) : Bts s (some ⟨b, 0, none⟩) l.length l.length l :=
  bts_pub (yc := []) (cc := l.length) (by simpa using h) (by simp) (by omega)
theorem labs_lit {s : World} {b : Nat} {l : List (List UInt8 × Int)} (h : CellsAt s b 0 (lbv l)) (hu : ∀ x ∈ l, U32 x.2) (hl : l.length ≤ 1000) : Labs s (some ⟨b, 0, none⟩) l.length l.length l := by
  have hll : (lbv l).length = l.length * 2 := by
    clear h hu hl
    induction l with
    | nil => rfl
    | cons x l ih => simp only [lbv, List.map_cons, List.flatten_cons, List.length_append, List.length_cons, List.length_nil] at ih ⊢; omega
  exact Own.labs (e := 0) (A := [(b, cb (lbv l ++ []) 0)]) (.blk b l.length l.length (lbv l) [] hll (by simp [hll]) (Nat.le_refl _) (by omega)) hu (fun b' zs t hm => by
    simp only [List.append_nil, List.mem_singleton, Prod.mk.injEq] at hm
    obtain ⟨rfl, hcb⟩ := hm
    have : zs = lbv l := by
      unfold cb at hcb
      injection hcb with e1
      simpa using congrArg Array.toList e1
    rw [this]; exact h) rfl
theorem u32L (l : List Int) (h : l.all (fun x => decide (0 ≤ x ∧ x < 4294967296)) = true) : ∀ x ∈ l, U32 x := fun x hx => by have := List.all_eq_true.1 h x hx; simpa [U32] using this
set_option maxHeartbeats 4000000 in
set_option maxRecDepth 100000 in
theorem translated_ac (D : Nat) (L : Hl) (s : World) (hG : GW s) : AC Tryz.prog D 14 [] L s fun v L' _ => v = .bool true ∧ L = L' := by
 refine AC_enter (TT := TT) (fn := Tryz.f14) TT_ok Tryz.func14 (by kernel_rfl) rfl Tryz.ntmps14 rfl (rs := [.tmp 0]) rfl [] rfl ?_
 refine JC_seq ?_
 refine JC_region ?_
 refine JO_q (QE_as rfl) rfl ?_
 refine JO_nil ?_
 refine thenQ_n ?_
 refine JC_seq ?_
 refine JC_region ?_
 refine JO_call (first := []) (captured := []) rfl rfl rfl (defaultP_ac D _ _) ?_
 rintro _ _ s1 h1 ⟨rfl, Ad1, nd1, cd1, rfl, hd1⟩
 refine JO_call (first := []) (captured := []) rfl rfl rfl (assembleP_ac D _ _ (hG.le h1) defT _ _ _ (hd1.le (Le.refl (D := D) _)) exT) ?_
 rintro _ _ s2 h2 ⟨rfl, A1, n1, c1, rfl, hW1⟩
 rw [ex_W.1] at hW1
 refine JO_q (QE_mv rfl) rfl ?_
 refine JO_q (QE_ext rfl rfl) rfl ?_
 refine JO_q (QE_ext rfl rfl) rfl ?_
 refine JO_allocZ rfl [_, _] rfl rfl ?_
 intro β3 s3 h3
 refine JO_q (QE_as rfl) rfl ?_
 refine JO_st 0 [_, _] rfl rfl rfl rfl rfl rfl rfl rfl rfl ?_
 refine JO_nil ?_
 refine thenQ_n ?_
 refine JC_seq ?_
 refine JC_region ?_
 refine JO_call (first := []) (captured := []) rfl rfl rfl (defaultP_ac D _ _) ?_
 rintro _ _ s4 h4 ⟨rfl, Ad2, nd2, cd2, rfl, hd2⟩
 refine JO_call (first := []) (captured := []) rfl rfl rfl (labelsP_ac D _ _ (hG.le (Le.trans (Le.trans (Le.trans h1 h2) h3) h4)) defT _ _ _ (hd2.le (Le.refl (D := D) _)) exT) ?_
 rintro _ _ s5 h5 ⟨rfl, A2, n2, c2, rfl, hL2⟩
 rw [ex_W.2.1] at hL2
 refine JO_q (QE_mv rfl) rfl ?_
 refine JO_q (QE_ext rfl rfl) rfl ?_
 refine JO_q (QE_ext rfl rfl) rfl ?_
 refine JO_allocZ rfl [_, _] rfl rfl ?_
 intro β6 s6 h6
 refine JO_q (QE_as rfl) rfl ?_
 refine JO_st 0 [_, _] rfl rfl rfl rfl rfl rfl rfl rfl rfl ?_
 refine JO_nil ?_
 refine thenQ_n ?_
 refine JC_seq ?_
 refine JC_region ?_
 refine JO_call (first := []) (captured := []) rfl rfl rfl (defaultP_ac D _ _) ?_
 rintro _ _ s7 h7 ⟨rfl, Ad3, nd3, cd3, rfl, hd3⟩
 refine JO_bs [(_, _), (_, _), (_, _), (_, _)] [_, _, _, _] rfl rfl rfl rfl rfl rfl rfl rfl rfl ?_
 intro βi s8 h8 hci
 refine JO_call (first := []) (captured := []) rfl rfl rfl (list_ac D _ _ (hG.le (Le.trans (Le.trans (Le.trans (Le.trans (Le.trans (Le.trans (Le.trans h1 h2) h3) h4) h5) h6) h7) h8)) defT _ _ _ (hd3.le h8) _ _ _ [2, 9, 1, 2] (wds_lit (l := [2, 9, 1, 2]) (hci.le (Le.refl (D := D) _)) (u32L _ rfl) (by decide))) ?_
 rintro _ _ s9 h9 ⟨rfl, rfl⟩
 refine JO_q (QE_mv rfl) rfl ?_
 refine JO_q (QE_ext rfl rfl) rfl ?_
 refine JO_q (QE_ext rfl rfl) rfl ?_
 refine JO_allocZ rfl [_, _] rfl rfl ?_
 intro β10 s10 h10
 refine JO_q (QE_as rfl) rfl ?_
 refine JO_st 0 [_, _] rfl rfl rfl rfl rfl rfl rfl rfl rfl ?_
 refine JO_nil ?_
 refine thenQ_n ?_
 refine JC_seq ?_
 refine JC_region ?_
 refine JO_call (first := []) (captured := []) rfl rfl rfl (key_ac D _ _ [97, 49]) ?_
 rintro _ _ s11 h11 ⟨rfl, rfl⟩
 refine JO_q (QE_mv rfl) rfl ?_
 refine JO_q (QE_ext rfl rfl) rfl ?_
 refine JO_q (QE_ext rfl rfl) rfl ?_
 refine JO_allocZ rfl [_, _] rfl rfl ?_
 intro β12 s12 h12
 refine JO_q (QE_as rfl) rfl ?_
 refine JO_st 0 [_, _] rfl rfl rfl rfl rfl rfl rfl rfl rfl ?_
 refine JO_nil ?_
 refine thenQ_n ?_
 refine JC_seq ?_
 refine JC_region ?_
 refine JO_call (first := []) (captured := []) rfl rfl rfl (name_ac D _ _ 65 (by decide)) ?_
 rintro _ _ s13 h13 ⟨rfl, rfl⟩
 refine JO_q (QE_mv rfl) rfl ?_
 refine JO_q (QE_ext rfl rfl) rfl ?_
 refine JO_q (QE_ext rfl rfl) rfl ?_
 refine JO_allocZ rfl [_, _] rfl rfl ?_
 intro β14 s14 h14
 refine JO_q (QE_as rfl) rfl ?_
 refine JO_st 0 [_, _] rfl rfl rfl rfl rfl rfl rfl rfl rfl ?_
 refine JO_nil ?_
 refine thenQ_n ?_
 refine JC_seq ?_
 refine JC_region ?_
 refine JO_bs [(_, _), (_, _)] [_, _] rfl rfl rfl rfl rfl rfl rfl rfl rfl ?_
 intro βp s15 h15 hcp
 refine JO_call (first := []) (captured := []) rfl rfl rfl (pack_ac D _ _ _ _ _ [5, 300] (wds_lit (l := [5, 300]) (hcp.le (Le.refl (D := D) _)) (u32L _ rfl) (by decide))) ?_
 rintro _ _ s16 h16 ⟨rfl, A3, n3, c3, rfl, hP⟩
 rw [ex_P.1] at hP
 refine JO_q (QE_mv rfl) rfl ?_
 refine JO_q (QE_ext rfl rfl) rfl ?_
 refine JO_q (QE_ext rfl rfl) rfl ?_
 refine JO_allocZ rfl [_, _] rfl rfl ?_
 intro β17 s17 h17
 refine JO_q (QE_as rfl) rfl ?_
 refine JO_st 0 [_, _] rfl rfl rfl rfl rfl rfl rfl rfl rfl ?_
 refine JO_nil ?_
 refine thenQ_n ?_
 refine JC_seq ?_
 refine JC_region ?_
 refine JO_bs [(_, _), (_, _), (_, _)] [_, _, _] rfl rfl rfl rfl rfl rfl rfl rfl rfl ?_
 intro βq s18 h18 hcq
 refine JO_call (first := []) (captured := []) rfl rfl rfl (unpack_ac D _ _ _ _ _ [5, 172, 2] (bts_lit (l := [5, 172, 2]) (hcq.le (Le.refl (D := D) _)) (by decide))) ?_
 rintro _ _ s19 h19 ⟨rfl, A4, n4, c4, rfl, hU⟩
 rw [ex_U.1] at hU
 refine JO_q (QE_mv rfl) rfl ?_
 refine JO_q (QE_ext rfl rfl) rfl ?_
 refine JO_q (QE_ext rfl rfl) rfl ?_
 refine JO_allocZ rfl [_, _] rfl rfl ?_
 intro β20 s20 h20
 refine JO_q (QE_as rfl) rfl ?_
 refine JO_st 0 [_, _] rfl rfl rfl rfl rfl rfl rfl rfl rfl ?_
 refine JO_nil ?_
 refine thenQ_n ?_
 refine JC_seq ?_
 refine JC_seq ?_
 refine JC_region ?_
 refine JO_q (QE_fa0 rfl rfl rfl rfl) rfl ?_
 refine JO_q (QE_ld1 6 rfl rfl rfl rfl rfl) rfl ?_
 refine JO_q (QE_cast (v' := .bool false) (QE_ne rfl rfl) (bF (by rw [ex_W.2.2]))) rfl ?_
 refine JO_q (QE_mv rfl) rfl ?_
 refine JO_gT rfl rfl ?_
 refine JO_q (QE_fa0 rfl rfl rfl rfl) rfl ?_
 refine JO_gT rfl rfl ?_
 refine JO_q (QE_ld1 5 rfl rfl rfl rfl rfl) rfl ?_
 refine JO_gT rfl rfl ?_
 refine JO_q (QE_cast (v' := .bool false) (QE_ne rfl rfl) (bF (by rw [ex_W.2.2]))) rfl ?_
 refine JO_q (QE_pickF rfl rfl) rfl ?_
 refine JO_q (QE_mv rfl) rfl ?_
 refine JO_gT rfl rfl ?_
 refine JO_q (QE_fa0 rfl rfl rfl rfl) rfl ?_
 refine JO_gT rfl rfl ?_
 refine JO_q (QE_ld1 4 rfl rfl rfl rfl rfl) rfl ?_
 refine JO_gT rfl rfl ?_
 refine JO_q (QE_cast (v' := .bool false) (QE_ne rfl rfl) (bF (by rw [ex_S.2]))) rfl ?_
 refine JO_q (QE_pickF rfl rfl) rfl ?_
 refine JO_q (QE_mv rfl) rfl ?_
 refine JO_gT rfl rfl ?_
 refine JO_q (QE_fa0 rfl rfl rfl rfl) rfl ?_
 refine JO_gT rfl rfl ?_
 refine JO_q (QE_ld1 3 rfl rfl rfl rfl rfl) rfl ?_
 refine JO_gT rfl rfl ?_
 refine JO_q (QE_cast (v' := .bool false) (QE_ne rfl rfl) (bF (by rw [ex_K.2]))) rfl ?_
 refine JO_q (QE_pickF rfl rfl) rfl ?_
 refine JO_q (QE_mv rfl) rfl ?_
 refine JO_gT rfl rfl ?_
 refine JO_q (QE_fa0 rfl rfl rfl rfl) rfl ?_
 refine JO_gT rfl rfl ?_
 refine JO_q (QE_ld1 2 rfl rfl rfl rfl rfl) rfl ?_
 refine JO_gT rfl rfl ?_
 refine JO_q (QE_cast (v' := .bool false) (QE_ne rfl rfl) (bF (by rw [ex_N.2]))) rfl ?_
 refine JO_q (QE_pickF rfl rfl) rfl ?_
 refine JO_q (QE_mv rfl) rfl ?_
 refine JO_gT rfl rfl ?_
 refine JO_q (QE_fa0 rfl rfl rfl rfl) rfl ?_
 refine JO_gT rfl rfl ?_
 refine JO_q (QE_ld1 1 rfl rfl rfl rfl rfl) rfl ?_
 refine JO_gT rfl rfl ?_
 refine JO_q (QE_cast (v' := .bool false) (QE_ne rfl rfl) (bF (by rw [ex_P.2]))) rfl ?_
 refine JO_q (QE_pickF rfl rfl) rfl ?_
 refine JO_q (QE_mv rfl) rfl ?_
 refine JO_gT rfl rfl ?_
 refine JO_q (QE_fa0 rfl rfl rfl rfl) rfl ?_
 refine JO_gT rfl rfl ?_
 refine JO_q (QE_ld1 0 rfl rfl rfl rfl rfl) rfl ?_
 refine JO_gT rfl rfl ?_
 refine JO_q (QE_cast (v' := .bool false) (QE_ne rfl rfl) (bF (by rw [ex_U.2]))) rfl ?_
 refine JO_q (QE_pickF rfl rfl) rfl ?_
 refine JO_nil ?_
 refine thenQ_n ?_
 refine JC_ifF rfl ?_
 refine JC_skip ?_
 refine thenQ_n ?_
 refine JC_seq ?_
 refine JC_region ?_
 refine JO_q (QE_mv rfl) rfl ?_
 refine JO_bs [(_, _), (_, _), (_, _), (_, _), (_, _), (_, _), (_, _)] [_, _, _, _, _, _, _] rfl rfl rfl rfl rfl rfl rfl rfl rfl ?_
 intro βe s21 h21 hce
 refine JO_call (first := []) (captured := []) rfl rfl rfl (AC.isT (sameWords_ac D _ _ _ _ _ _ (hW1.le (Le.trans (Le.trans (Le.trans (Le.trans (Le.trans (Le.trans (Le.trans (Le.trans (Le.trans (Le.trans (Le.trans (Le.trans (Le.trans (Le.trans (Le.trans (Le.trans (Le.trans (Le.trans h3 h4) h5) h6) h7) h8) h9) h10) h11) h12) h13) h14) h15) h16) h17) h18) h19) h20) h21)) _ _ _ [26, 3, 7, 3, 2, 0, 0] (wds_lit (l := [26, 3, 7, 3, 2, 0, 0]) (hce.le (Le.refl (D := D) _)) (u32L _ rfl) (by decide))) rfl) ?_
 rintro _ _ s22 h22 ⟨rfl, rfl⟩
 refine JO_q (QE_mv rfl) rfl ?_
 refine JO_gT rfl rfl ?_
 refine JO_q (QE_mv rfl) rfl ?_
 refine JO_gT rfl rfl ?_
 refine JO_q (QE_build [(_, _), (_, _)] [_, _] rfl rfl rfl rfl rfl rfl) rfl ?_
 refine JO_gT rfl rfl ?_
 refine JO_q (QE_build [(_, _), (_, _)] [_, _] rfl rfl rfl rfl rfl rfl) rfl ?_
 refine JO_gT rfl rfl ?_
 refine JO_bs [(_, _), (_, _)] [_, _, _, _] rfl rfl rfl rfl rfl rfl rfl rfl rfl ?_
 intro βf s23 h23 hcf
 refine JO_gT rfl rfl ?_
 refine JO_call (first := []) (captured := []) rfl rfl rfl (AC.isT (sameLabels_ac D _ _ _ _ _ _ (hL2.le (Le.trans (Le.trans (Le.trans (Le.trans (Le.trans (Le.trans (Le.trans (Le.trans (Le.trans (Le.trans (Le.trans (Le.trans (Le.trans (Le.trans (Le.trans (Le.trans (Le.trans h6 h7) h8) h9) h10) h11) h12) h13) h14) h15) h16) h17) h18) h19) h20) h21) h22) h23)) _ _ _ [([120], 2), ([101, 110, 100], 3)] (labs_lit (l := [([120], 2), ([101, 110, 100], 3)]) (hcf.le (Le.refl (D := D) _)) (by simp [U32]) (by decide))) rfl) ?_
 rintro _ _ s24 h24 ⟨rfl, rfl⟩
 refine JO_q (QE_pickT rfl rfl) rfl ?_
 refine JO_q (QE_mv rfl) rfl ?_
 refine JO_gT rfl rfl ?_
 refine JO_q (QE_mv rfl) rfl ?_
 refine JO_gT rfl rfl ?_
 refine JO_q (QE_cast (v' := .bool true) (QE_seq rfl rfl) (bT ex_S.1)) rfl ?_
 refine JO_q (QE_pickT rfl rfl) rfl ?_
 refine JO_q (QE_mv rfl) rfl ?_
 refine JO_gT rfl rfl ?_
 refine JO_q (QE_mv rfl) rfl ?_
 refine JO_gT rfl rfl ?_
 refine JO_q (QE_cast (v' := .bool true) (QE_eq rfl rfl) (bT ex_K.1)) rfl ?_
 refine JO_q (QE_pickT rfl rfl) rfl ?_
 refine JO_q (QE_mv rfl) rfl ?_
 refine JO_gT rfl rfl ?_
 refine JO_q (QE_mv rfl) rfl ?_
 refine JO_gT rfl rfl ?_
 refine JO_q (QE_cast (v' := .bool true) (QE_seq rfl rfl) (bT ex_N.1)) rfl ?_
 refine JO_q (QE_pickT rfl rfl) rfl ?_
 refine JO_q (QE_mv rfl) rfl ?_
 refine JO_gT rfl rfl ?_
 refine JO_q (QE_mv rfl) rfl ?_
 refine JO_gT rfl rfl ?_
 refine JO_bs [(_, _), (_, _), (_, _)] [_, _, _] rfl rfl rfl rfl rfl rfl rfl rfl rfl ?_
 intro βg s25 h25 hcg
 refine JO_gT rfl rfl ?_
 refine JO_call (first := []) (captured := []) rfl rfl rfl (AC.isT (sameBytes_ac D _ _ _ _ _ _ (hP.le (Le.trans (Le.trans (Le.trans (Le.trans (Le.trans (Le.trans (Le.trans (Le.trans h17 h18) h19) h20) h21) h22) h23) h24) h25)) _ _ _ [5, 172, 2] (bts_lit (l := [5, 172, 2]) (hcg.le (Le.refl (D := D) _)) (by decide))) rfl) ?_
 rintro _ _ s26 h26 ⟨rfl, rfl⟩
 refine JO_q (QE_pickT rfl rfl) rfl ?_
 refine JO_q (QE_mv rfl) rfl ?_
 refine JO_gT rfl rfl ?_
 refine JO_q (QE_mv rfl) rfl ?_
 refine JO_gT rfl rfl ?_
 refine JO_bs [(_, _), (_, _)] [_, _] rfl rfl rfl rfl rfl rfl rfl rfl rfl ?_
 intro βh s27 h27 hch
 refine JO_gT rfl rfl ?_
 refine JO_call (first := []) (captured := []) rfl rfl rfl (AC.isT (sameWords_ac D _ _ _ _ _ _ (hU.le (Le.trans (Le.trans (Le.trans (Le.trans (Le.trans (Le.trans (Le.trans h20 h21) h22) h23) h24) h25) h26) h27)) _ _ _ [5, 300] (wds_lit (l := [5, 300]) (hch.le (Le.refl (D := D) _)) (u32L _ rfl) (by decide))) rfl) ?_
 rintro _ _ s28 h28 ⟨rfl, rfl⟩
 refine JO_q (QE_pickT rfl rfl) rfl ?_
 refine JO_q (QE_as rfl) rfl ?_
 refine JO_nil ?_
 refine thenQ_n ?_
 refine JC_ret ?_
 refine retQ_mk [_, _, _, _, _, _, _] L (.inr rfl) (.tmp rfl (.nil)) rfl (Le.trans (Le.trans (Le.trans (Le.trans (Le.trans (Le.trans (Le.trans (Le.trans (Le.trans (Le.trans (Le.trans (Le.trans (Le.trans (Le.trans (Le.trans (Le.trans (Le.trans (Le.trans (Le.trans (Le.trans (Le.trans (Le.trans (Le.trans (Le.trans (Le.trans (Le.trans (Le.trans h1 h2) h3) h4) h5) h6) h7) h8) h9) h10) h11) h12) h13) h14) h15) h16) h17) h18) h19) h20) h21) h22) h23) h24) h25) h26) h27) h28) (fun sR hS2 => ?_)
 exact ⟨rfl, rfl⟩
end Go.Proofs.YteomcjpigoaioaaGreatDoor
namespace Go.Proofs.YteomcjpigoaioaaGreatDoor
open Go Go.FL Go.RowKit
theorem take_next {α : Type} {l : List α} {k : Nat} {x : α} (h : l[k]? = some x) : l.take (k + 1) = l.take k ++ [x] := by
  rw [List.take_add_one, h]; rfl
theorem canon_of {l : List UInt8} (h : numL l ≠ none) : canonB l = true ∧ valD 0 l < 4294967296 := by
  unfold numL at h
  split at h
  · assumption
  · exact absurd rfl h
theorem num_bad {l : List UInt8} (h : l = [] ∨ 10 < l.length ∨ (1 < l.length ∧ l[0]? = some 48)) : numL l = none := by
  cases hn : numL l with
  | none => rfl
  | some u =>
    obtain ⟨e, hu⟩ := numL_some hn
    have hd := dec_len hu
    rw [← e] at hd
    have hc := (canon_of (by rw [hn]; simp)).1
    simp only [canonB, Bool.and_eq_true, decide_eq_true_eq, Bool.or_eq_true] at hc
    rcases h with h | h | ⟨h, h2⟩
    · exact absurd h hc.1.1
    · omega
    · rcases hc.2 with h3 | h3
      · omega
      · rw [List.head?_eq_getElem?] at h3; exact absurd h2 h3
theorem num_dig {l : List UInt8} {c : UInt8} {k : Nat} (hc : l[k]? = some c) (h : digB c = false) : numL l = none := by
  cases hn : numL l with
  | none => rfl
  | some u =>
    have hcn := (canon_of (l := l) (by rw [hn]; simp)).1
    simp only [canonB, Bool.and_eq_true] at hcn
    have := List.all_eq_true.1 hcn.1.2 c (List.mem_of_getElem? hc)
    rw [h] at this; cases this
theorem num_large {l : List UInt8} (h : 4294967295 < valD 0 l) : numL l = none := by
  rw [numL, if_neg (fun hh => by omega)]
theorem num_good {l : List UInt8} (h : ¬ (l = [] ∨ 10 < l.length ∨ (1 < l.length ∧ l[0]? = some 48))) (hd : ∀ i c, i < l.length → l[i]? = some c → digB c = true) (hv : ¬ 4294967295 < valD 0 l) : numL l = some (valD 0 l) := by
  have hcn : canonB l = true := by
    simp only [canonB, Bool.and_eq_true, decide_eq_true_eq, Bool.or_eq_true]
    refine ⟨⟨fun e => h (.inl e), List.all_eq_true.2 fun c hc => ?_⟩, ?_⟩
    · obtain ⟨i, hi⟩ := List.mem_iff_getElem?.1 hc
      exact hd i c (List.getElem?_eq_some_iff.1 hi).1 hi
    · by_cases h1 : 1 < l.length
      · right; intro e; exact h (.inr (.inr ⟨h1, by rw [← List.head?_eq_getElem?]; exact e⟩))
      · left; omega
  rw [numL, if_pos ⟨hcn, by omega⟩]
theorem valD_bound {l : List UInt8} (h : ∀ i c, i < l.length → l[i]? = some c → digB c = true) : valD 0 l < 10 ^ l.length := by
  generalize hn : l.length = n
  induction n generalizing l with
  | zero => rw [List.length_eq_zero_iff.1 hn, valD_nil]; simp
  | succ n ih =>
    rcases List.eq_nil_or_concat l with rfl | ⟨r, c, rfl⟩
    · cases hn
    · rw [List.concat_eq_append] at *
      have hrl : r.length = n := by simpa using hn
      have h1 := ih (l := r) (fun i x hi hx => h i x (by simp; omega) (by rw [List.getElem?_append_left hi]; exact hx)) hrl
      have h2 := h r.length c (by simp) (by simp)
      simp only [digB, Bool.and_eq_true, decide_eq_true_eq] at h2
      rw [valD_snoc, Nat.pow_succ]
      omega
theorem valD_take {l : List UInt8} {k : Nat} (hk : k ≤ l.length) (hk10 : l.length ≤ 10) (h : ∀ i c, i < k → l[i]? = some c → digB c = true) : valD 0 (l.take k) < 10000000000 := by
  have h1 := valD_bound (l := l.take k) (fun i c hi hc => h i c (by simp at hi; omega) (by rw [List.getElem?_take] at hc; split at hc; exact hc; cases hc))
  have h2 : 10 ^ (l.take k).length ≤ 10 ^ 10 := Nat.pow_le_pow_right (by omega) (by simp; omega)
  omega
theorem digB_iff {c : UInt8} : (48 ≤ (c.toNat : Int) ∧ (c.toNat : Int) ≤ 57) ↔ digB c = true := by
  simp only [digB, Bool.and_eq_true, decide_eq_true_eq]; omega
structure RL where
  ok : Bool
  label : List UInt8
  op : List UInt8
  given : Bool
  name : List UInt8
  num : Int
def RL.cs (r : RL) : List Value := [.bool r.ok, St r.label, St r.op, .bool r.given, St r.name, .int .u32 r.num]
def RL.ln (r : RL) : Ln := ⟨r.label, r.op, r.given, r.name, r.num⟩
def RLok (l : List UInt8) (r : RL) : Prop := ((r.ok = true ∧ lineL l = some r.ln) ∨ (r.ok = false ∧ lineL l = none)) ∧ U32 r.num
def szL (r : RL) : Int := if r.op = [] then 0 else if r.op = spaceB then r.num else if r.op ≠ wordB ∧ r.given = true then 2 else 1
def Rls (s : World) (A : Option Addr) (n c : Nat) (l : List RL) : Prop := Sl 6 (fun _ x cs => cs = x.cs ∧ U32 x.num) s A n c l
theorem Rls.le {D : Nat} {s s' : World} {A : Option Addr} {n c : Nat} {l : List RL} (h : Rls s A n c l) (hl : Le D s s') : Rls s' A n c l := Sl.le (fun _ _ h => h) h hl
theorem fld_at {l : List (List UInt8)} {k : Nat} {x : List UInt8} (h : l[k]? = some x) : (l.drop k).filter (fun y => decide (y ≠ [])) = if x = [] then (l.drop (k + 1)).filter (fun y => decide (y ≠ [])) else x :: (l.drop (k + 1)).filter (fun y => decide (y ≠ [])) := by
  obtain ⟨hk, rfl⟩ := List.getElem?_eq_some_iff.1 h
  rw [List.drop_eq_getElem_cons hk, List.filter_cons]
  by_cases hx : l[k] = []
  · simp [hx]
  · simp [hx]
end Go.Proofs.YteomcjpigoaioaaGreatDoor
namespace Go.Proofs.YteomcjpigoaioaaGreatDoor
open Go.FL
attribute [local irreducible] JC JO JA JB thenQ blockQ retQ AC fill CellsAt QE Ev Mid
set_option maxHeartbeats 1000000 in
set_option maxRecDepth 100000 in
theorem numberOf_ac (D : Nat) (L : Hl) (s : World) (l : List UInt8) (hl : l.length ≤ 9223372036854775807) : AC Tryz.prog D 80 [St l] L s fun v L' _ => v = .tuple #[.int .u32 (((numL l).getD 0 : Nat) : Int), .bool (numL l).isSome] ∧ L = L' := by
 refine AC_enter (TT := TT) (fn := Tryz.f80) TT_ok Tryz.func80 (by kernel_rfl) rfl Tryz.ntmps80 rfl (rs := [.tmp 2, .tmp 3]) rfl [(0, _)] rfl ?_
 refine JC_seq ?_
 refine JC_region ?_
 refine JO_q (QE_as rfl) rfl ?_
 refine JO_q (QE_as rfl) rfl ?_
 refine JO_nil ?_
 refine thenQ_n ?_
 refine JC_seq ?_
 refine JC_cutB 23 (l = [] ∨ 10 < l.length ∨ (1 < l.length ∧ l[0]? = some 48)) ?_ ?_
 ·
  refine JC_region ?_
  refine JO_q (QE_mv rfl) rfl ?_
  refine JO_q (QE_lenT rfl rfl rfl) rfl ?_
  refine JO_q (QE_eq rfl rfl) rfl ?_
  refine JO_q (QE_mv rfl) rfl ?_
  refine JO_caseD (t := 9) rfl (fun c2 => ?_) (fun c2 => ?_)
  ·
   refine JO_gF rfl rfl rfl rfl ?_
   refine JO_gF rfl rfl rfl rfl ?_
   refine JO_gF rfl rfl rfl rfl ?_
   refine JO_q (QE_pickT rfl rfl) rfl ?_
   refine JO_q (QE_mv rfl) rfl ?_
   refine JO_gF rfl rfl rfl rfl ?_
   refine JO_gF rfl rfl rfl rfl ?_
   refine JO_gF rfl rfl rfl rfl ?_
   refine JO_gF rfl rfl rfl rfl ?_
   refine JO_gU rfl rfl rfl ?_
   refine JO_gU rfl rfl rfl ?_
   refine JO_gU rfl rfl rfl ?_
   refine JO_gF rfl rfl rfl rfl ?_
   refine JO_q (QE_pickT rfl rfl) rfl ?_
   refine JO_nil ?_
   refine thenQ_n (MidB.mk (Le.refl (D := D) _) (by repeat (first | exact Suf.refl | refine Suf.push rfl ?_)) rfl ((decide_eq_true (by first | exact .inl (List.length_eq_zero_iff.1 (by omega)) | exact .inr (.inl (by omega)) | (rintro (h | h | h) <;> first | omega | (have h9 := congrArg List.length h; simp only [List.length_nil] at h9; omega)))).symm))
  ·
   refine JO_gT rfl rfl ?_
   refine JO_q (QE_mv rfl) rfl ?_
   refine JO_gT rfl rfl ?_
   refine JO_q (QE_lenT rfl rfl rfl) rfl ?_
   refine JO_gT rfl rfl ?_
   refine JO_q (QE_gt rfl rfl) rfl ?_
   refine JO_q (QE_pickF rfl rfl) rfl ?_
   refine JO_q (QE_mv rfl) rfl ?_
   refine JO_caseD (t := 14) rfl (fun c3 => ?_) (fun c3 => ?_)
   ·
    refine JO_gF rfl rfl rfl rfl ?_
    refine JO_gF rfl rfl rfl rfl ?_
    refine JO_gF rfl rfl rfl rfl ?_
    refine JO_gF rfl rfl rfl rfl ?_
    refine JO_gU rfl rfl rfl ?_
    refine JO_gU rfl rfl rfl ?_
    refine JO_gU rfl rfl rfl ?_
    refine JO_gF rfl rfl rfl rfl ?_
    refine JO_q (QE_pickT rfl rfl) rfl ?_
    refine JO_nil ?_
    refine thenQ_n (MidB.mk (Le.refl (D := D) _) (by repeat (first | exact Suf.refl | refine Suf.push rfl ?_)) rfl ((decide_eq_true (by first | exact .inl (List.length_eq_zero_iff.1 (by omega)) | exact .inr (.inl (by omega)) | (rintro (h | h | h) <;> first | omega | (have h9 := congrArg List.length h; simp only [List.length_nil] at h9; omega)))).symm))
   ·
    refine JO_gT rfl rfl ?_
    refine JO_q (QE_mv rfl) rfl ?_
    refine JO_gT rfl rfl ?_
    refine JO_q (QE_lenT rfl rfl rfl) rfl ?_
    refine JO_gT rfl rfl ?_
    refine JO_q (QE_gt rfl rfl) rfl ?_
    refine JO_gT rfl rfl ?_
    refine JO_q (QE_mv rfl) rfl ?_
    refine JO_caseD (t := 18) rfl (fun c4 => ?_) (fun c4 => ?_)
    ·
     refine JO_gT rfl rfl ?_
     refine JO_q (QE_mv rfl) rfl ?_
     refine JO_gT rfl rfl ?_
     obtain ⟨c0, hc0⟩ : ∃ c0, l[0]? = some c0 := ⟨_, List.getElem?_eq_getElem (by omega)⟩
     refine JO_q (QE_ix rfl rfl rfl rfl hc0) rfl ?_
     refine JO_gT rfl rfl ?_
     refine JO_q (QE_eq rfl rfl) rfl ?_
     refine JO_gT rfl rfl ?_
     refine JO_q (QE_pickT rfl rfl) rfl ?_
     refine JO_q (QE_pickF rfl rfl) rfl ?_
     refine JO_nil ?_
     refine thenQ_n (MidB.mk (Le.refl (D := D) _) (by repeat (first | exact Suf.refl | refine Suf.push rfl ?_)) rfl (decide_eq_decide.2 (⟨fun h => .inr (.inr ⟨by omega, by rw [hc0]; exact congrArg some (u8_eq.2 h)⟩), fun h => by rcases h with h | h | h <;> first | omega | (rw [h] at hc0; cases hc0) | (have h2 := h.2; rw [hc0] at h2; injection h2 with h2; rw [h2]; rfl)⟩)))
    ·
     refine JO_gF rfl rfl rfl rfl ?_
     refine JO_gF rfl rfl rfl rfl ?_
     refine JO_gF rfl rfl rfl rfl ?_
     refine JO_gT rfl rfl ?_
     refine JO_q (QE_pickF rfl rfl) rfl ?_
     refine JO_q (QE_pickF rfl rfl) rfl ?_
     refine JO_nil ?_
     refine thenQ_n (MidB.mk (Le.refl (D := D) _) (by repeat (first | exact Suf.refl | refine Suf.push rfl ?_)) rfl ((decide_eq_false (by first | exact .inl (List.length_eq_zero_iff.1 (by omega)) | exact .inr (.inl (by omega)) | (rintro (h | h | h) <;> first | omega | (have h9 := congrArg List.length h; simp only [List.length_nil] at h9; omega)))).symm))
 ·
  intro s1 h1
  refine JC_ifD rfl (fun c5 => ?_) (fun c5 => ?_)
  ·
   have h23 := num_bad c5
   refine JC_seq ?_
   refine JC_region ?_
   refine JO_q (QE_as rfl) rfl ?_
   refine JO_q (QE_as rfl) rfl ?_
   refine JO_nil ?_
   refine thenQ_n ?_
   refine JC_ret ?_
   refine thenQ_r ?_
   refine retQ_mk [] L (.inr rfl) (.tmp rfl (.tmp rfl (.nil))) rfl h1 (fun sR hS2 => ?_)
   first
     | (rw [h23]; exact ⟨rfl, rfl⟩)
     | (rw [h35]; exact ⟨rfl, rfl⟩)
     | (rw [h45]; exact ⟨rfl, rfl⟩)
  ·
   have h23 := c5
   have hl10 : l.length ≤ 10 := by
     rcases Nat.lt_or_ge 10 l.length with h | h
     · exact absurd (.inr (.inl h)) h23
     · exact h
   refine JC_skip ?_
   refine thenQ_n ?_
   refine JC_seq ?_
   refine JC_region ?_
   refine JO_q (QE_as rfl) rfl ?_
   refine JO_nil ?_
   refine thenQ_n ?_
   refine JC_seq ?_
   refine JC_seq ?_
   refine JC_region ?_
   refine JO_q (QE_as rfl) rfl ?_
   refine JO_nil ?_
   refine thenQ_n ?_
   refine JC_block ?_
   refine JC_loop (γ := Nat) (fun k => [(0, _), (2, .int .u32 0), (3, _), (4, .int .i64 ((valD 0 (l.take k) : Nat) : Int)), (5, .int .i64 (k : Int))]) (fun _ => _) (fun k tw => Le D s1 tw ∧ (k ≤ l.length ∧ ∀ i c, i < k → l[i]? = some c → digB c = true)) (fun k => l.length - k) (fun _ _ _ h hl => ⟨h.1.trans hl, h.2⟩) 0 (Keeps.cons rfl (Keeps.cons rfl (Keeps.cons rfl (Keeps.cons (congrArg some (congrArg (Value.int .i64) (by rw [List.take_zero, valD_nil]; rfl))) (Keeps.cons rfl (Keeps.nil _)))))) rfl ⟨Le.refl _, ⟨Nat.zero_le _, fun i c hi => by omega⟩⟩ ?_
   intro k s6 I6
   have hk0 := I6.2.1
   have hI := I6.2.2
   have hvb := valD_take hk0 (by omega) hI
   refine JC_seq ?_
   refine JC_seq ?_
   refine JC_region ?_
   refine JO_q (QE_mv rfl) rfl ?_
   refine JO_q (QE_mv rfl) rfl ?_
   refine JO_q (QE_lenT rfl rfl rfl) rfl ?_
   refine JO_q (QE_lt rfl rfl) rfl ?_
   refine JO_nil ?_
   refine thenQ_n ?_
   refine JC_ifD rfl (fun c7 => ?_) (fun c7 => ?_)
   ·
    have hk : k < l.length := by omega
    obtain ⟨ch, hch⟩ : ∃ ch, l[k]? = some ch := ⟨_, List.getElem?_eq_getElem hk⟩
    have hc256 := ch.toNat_lt
    refine JC_skip ?_
    refine thenQ_n ?_
    refine JC_seq ?_
    refine JC_block ?_
    refine JC_seq ?_
    refine JC_seq ?_
    refine JC_region ?_
    refine JO_q (QE_mv rfl) rfl ?_
    refine JO_q (QE_mv rfl) rfl ?_
    refine JO_q (QE_ix rfl rfl rfl rfl hch) rfl ?_
    refine JO_q (QE_conv' rfl rfl rfl rfl rfl (w64 (by omega) (by omega))) rfl ?_
    refine JO_call (first := []) (captured := []) rfl rfl rfl (in_ac D _ _ _ _ _) ?_
    rintro _ _ s8 h8 ⟨rfl, rfl⟩
    refine JO_q (QE_not rfl) rfl ?_
    refine JO_nil ?_
    refine thenQ_n ?_
    refine JC_ifN rfl (fun c9 => ?_) (fun c9 => ?_)
    ·
     have hnd : digB ch = false := Bool.eq_false_iff.2 fun h => c9 (digB_iff.2 h)
     have h35 := num_dig hch hnd
     refine JC_seq ?_
     refine JC_region ?_
     refine JO_q (QE_as rfl) rfl ?_
     refine JO_q (QE_as rfl) rfl ?_
     refine JO_nil ?_
     refine thenQ_n ?_
     refine JC_ret ?_
     refine thenQ_r ?_
     refine blockQ_r ?_
     refine thenQ_r ?_
     refine thenQ_r ?_
     refine blockQ_r ?_
     refine thenQ_r ?_
     refine retQ_mk [] L (.inr rfl) (.tmp rfl (.tmp rfl (.nil))) rfl (Le.trans (Le.trans h1 I6.1) h8) (fun sR hS2 => ?_)
     first
       | (rw [h23]; exact ⟨rfl, rfl⟩)
       | (rw [h35]; exact ⟨rfl, rfl⟩)
       | (rw [h45]; exact ⟨rfl, rfl⟩)
    ·
     have hdg : digB ch = true := digB_iff.1 c9
     have hd48 := digB_iff.2 hdg
     refine JC_skip ?_
     refine thenQ_n ?_
     refine JC_region ?_
     refine JO_q (QE_mv rfl) rfl ?_
     refine JO_q (QE_mul' rfl rfl (w64 (by omega) (by omega))) rfl ?_
     refine JO_q (QE_mv rfl) rfl ?_
     refine JO_q (QE_mv rfl) rfl ?_
     refine JO_q (QE_ix rfl rfl rfl rfl hch) rfl ?_
     refine JO_q (QE_conv' rfl rfl rfl rfl rfl (w64 (by omega) (by omega))) rfl ?_
     refine JO_q (QE_add' rfl rfl (w64 (by omega) (by omega))) rfl ?_
     refine JO_q (QE_sub' rfl rfl (w64 (by omega) (by omega))) rfl ?_
     refine JO_q (QE_as rfl) rfl ?_
     refine JO_nil ?_
     refine blockQ_n ?_
     refine thenQ_n ?_
     refine JC_region ?_
     refine JO_q (QE_mv rfl) rfl ?_
     refine JO_q (QE_add' rfl rfl (w64 (by omega) (by omega))) rfl ?_
     refine JO_q (QE_as rfl) rfl ?_
     refine JO_nil ?_
     refine thenQ_n ⟨(k + 1), [], (Keeps.cons rfl (Keeps.cons rfl (Keeps.cons rfl (Keeps.cons (congrArg some (congrArg (Value.int .i64) (by rw [take_next hch, valD_snoc]; omega))) (Keeps.cons rfl (Keeps.nil _)))))), rfl, ⟨(Le.trans I6.1 h8), ⟨by omega, below_succ hI hch hdg⟩⟩, (by omega)⟩
   ·
    have hkl : l.take k = l := List.take_of_length_le (by omega)
    rw [hkl] at hvb ⊢
    refine JC_exit ?_
    refine thenQ_x ?_
    refine thenQ_x ?_
    refine blockQ_x ?_
    refine thenQ_n ?_
    refine JC_seq ?_
    refine JC_seq ?_
    refine JC_region ?_
    refine JO_q (QE_mv rfl) rfl ?_
    refine JO_q (QE_gt rfl rfl) rfl ?_
    refine JO_nil ?_
    refine thenQ_n ?_
    refine JC_ifD rfl (fun c10 => ?_) (fun c10 => ?_)
    ·
     have h45 := num_large (l := l) (by omega)
     refine JC_seq ?_
     refine JC_region ?_
     refine JO_q (QE_as rfl) rfl ?_
     refine JO_q (QE_as rfl) rfl ?_
     refine JO_nil ?_
     refine thenQ_n ?_
     refine JC_ret ?_
     refine thenQ_r ?_
     refine retQ_mk [] L (.inr rfl) (.tmp rfl (.tmp rfl (.nil))) rfl (Le.trans h1 I6.1) (fun sR hS2 => ?_)
     first
       | (rw [h23]; exact ⟨rfl, rfl⟩)
       | (rw [h35]; exact ⟨rfl, rfl⟩)
       | (rw [h45]; exact ⟨rfl, rfl⟩)
    ·
     have h45 := num_good h23 (fun i c hi h => hI i c (by omega) h) (by omega)
     refine JC_skip ?_
     refine thenQ_n ?_
     refine JC_seq ?_
     refine JC_region ?_
     refine JO_q (QE_mv rfl) rfl ?_
     refine JO_q (QE_conv' rfl rfl rfl rfl rfl (wrap_small (by omega))) rfl ?_
     refine JO_q (QE_as rfl) rfl ?_
     refine JO_q (QE_as rfl) rfl ?_
     refine JO_nil ?_
     refine thenQ_n ?_
     refine JC_ret ?_
     refine retQ_mk [] L (.inr rfl) (.tmp rfl (.tmp rfl (.nil))) rfl (Le.trans h1 I6.1) (fun sR hS2 => ?_)
     first
       | (rw [h23]; exact ⟨rfl, rfl⟩)
       | (rw [h35]; exact ⟨rfl, rfl⟩)
       | (rw [h45]; exact ⟨rfl, rfl⟩)
set_option maxHeartbeats 1000000 in
set_option maxRecDepth 100000 in
theorem posOf_ac (D : Nat) (L : Hl) (s : World) (t : Tab) (A : Option Addr) (n c : Nat) (hA : Inss s A n c t.ins) (nm : List UInt8) : AC Tryz.prog D 47 [.agg #[.int .i64 t.cells, .slice A n c], St nm] L s fun v L' _ => v = .int .i64 (idxOf (fun y => decide (y.name = nm)) t.ins 0) ∧ L = L' := by
 have hn := hA.1
 have hc1 := hA.2.1
 have hc2 := hA.2.2.1
 refine AC_enter (TT := TT) (fn := Tryz.f47) TT_ok Tryz.func47 (by kernel_rfl) rfl Tryz.ntmps47 rfl (rs := [.tmp 4]) rfl [(0, _), (1, _)] rfl ?_
 refine JC_seq ?_
 refine JC_region ?_
 refine JO_boxA rfl rfl ?_
 intro β1 s1 h1
 refine JO_q (QE_as rfl) rfl ?_
 refine JO_nil ?_
 refine thenQ_n ?_
 refine JC_seq ?_
 refine JC_seq ?_
 refine JC_region ?_
 refine JO_q (QE_as rfl) rfl ?_
 refine JO_nil ?_
 refine thenQ_n ?_
 refine JC_block ?_
 refine JC_loop (γ := Nat) (fun k => [(1, _), (2, _), (4, .int .i64 0), (5, .int .i64 (k : Int))]) (fun _ => _) (fun k tw => Le D s1 tw ∧ (k ≤ n ∧ ∀ i x, i < k → t.ins[i]? = some x → decide (x.name = nm) = false)) (fun k => n - k) (fun _ _ _ h hl => ⟨h.1.trans hl, h.2⟩) 0 (Keeps.cons rfl (Keeps.cons rfl (Keeps.cons rfl (Keeps.cons rfl (Keeps.nil _))))) rfl ⟨Le.refl _, ⟨Nat.zero_le _, fun i c hi => by omega⟩⟩ ?_
 intro k s2 I2
 have hk0 := I2.2.1
 have hI := I2.2.2
 refine JC_seq ?_
 refine JC_seq ?_
 refine JC_region ?_
 refine JO_q (QE_mv rfl) rfl ?_
 refine JO_q (QE_faB rfl rfl rfl rfl) rfl ?_
 refine JO_q (QE_ld1 0 rfl rfl rfl rfl rfl) rfl ?_
 refine JO_q (QE_lenS rfl rfl rfl) rfl ?_
 refine JO_q (QE_lt rfl rfl) rfl ?_
 refine JO_nil ?_
 refine thenQ_n ?_
 refine JC_ifD rfl (fun c3 => ?_) (fun c3 => ?_)
 ·
  have hk : k < n := by omega
  obtain ⟨b, off, x, A', n', c', rfl, hx, hcx, hax, hnl, hcd⟩ := Inss.at_ (hA.le (Le.trans h1 I2.1)) hk
  refine JC_skip ?_
  refine thenQ_n ?_
  refine JC_seq ?_
  refine JC_block ?_
  refine JC_seq ?_
  refine JC_region ?_
  refine JO_q (QE_faB rfl rfl rfl rfl) rfl ?_
  refine JO_q (QE_ld1 0 rfl rfl rfl rfl rfl) rfl ?_
  refine JO_q (QE_mv rfl) rfl ?_
  refine JO_q (QE_iaN rfl rfl rfl rfl rfl rfl hk) rfl ?_
  refine JO_q (QE_fa0 rfl rfl rfl rfl) rfl ?_
  refine JO_q (QE_ldsR0 rfl rfl rfl (hcx.le (Le.refl (D := D) _)) rfl) rfl ?_
  refine JO_q (QE_mv rfl) rfl ?_
  refine JO_q (QE_seq rfl rfl) rfl ?_
  refine JO_nil ?_
  refine thenQ_n ?_
  refine JC_ifD rfl (fun c4 => ?_) (fun c4 => ?_)
  ·
   have hz := c4
   refine JC_seq ?_
   refine JC_region ?_
   refine JO_q (QE_mv rfl) rfl ?_
   refine JO_q (QE_as rfl) rfl ?_
   refine JO_nil ?_
   refine thenQ_n ?_
   refine JC_ret ?_
   refine blockQ_r ?_
   refine thenQ_r ?_
   refine thenQ_r ?_
   refine blockQ_r ?_
   refine thenQ_r ?_
   refine retQ_mk [_] L (.inr rfl) (.tmp rfl (.nil)) rfl (Le.trans h1 I2.1) (fun sR hS2 => ?_)
   first
     | (exact ⟨by rw [idxOf_hit hI hx (decide_eq_true hz)]; simp [resV], rfl⟩)
     | (exact ⟨by rw [idxOf_none (fun i b hi h => hI i b (by omega) h)]; rfl, rfl⟩)
  ·
   have hz := c4
   refine JC_skip ?_
   refine blockQ_n ?_
   refine thenQ_n ?_
   refine JC_region ?_
   refine JO_q (QE_mv rfl) rfl ?_
   refine JO_q (QE_add' rfl rfl (w64 (by omega) (by omega))) rfl ?_
   refine JO_q (QE_as rfl) rfl ?_
   refine JO_nil ?_
   refine thenQ_n ⟨(k + 1), [], (Keeps.cons rfl (Keeps.cons rfl (Keeps.cons rfl (Keeps.cons rfl (Keeps.nil _))))), rfl, ⟨I2.1, ⟨by omega, below_succ hI hx (decide_eq_false hz)⟩⟩, (by omega)⟩
 ·
  refine JC_exit ?_
  refine thenQ_x ?_
  refine thenQ_x ?_
  refine blockQ_x ?_
  refine thenQ_n ?_
  refine JC_seq ?_
  refine JC_region ?_
  refine JO_q (QE_as rfl) rfl ?_
  refine JO_nil ?_
  refine thenQ_n ?_
  refine JC_ret ?_
  refine retQ_mk [_] L (.inr rfl) (.tmp rfl (.nil)) rfl (Le.trans h1 I2.1) (fun sR hS2 => ?_)
  first
    | (exact ⟨by rw [idxOf_hit hI hx (decide_eq_true hz)]; simp [resV], rfl⟩)
    | (exact ⟨by rw [idxOf_none (fun i b hi h => hI i b (by omega) h)]; rfl, rfl⟩)
set_option maxHeartbeats 1000000 in
set_option maxRecDepth 100000 in
theorem labelAt_ac (D : Nat) (L : Hl) (s : World) (A : Option Addr) (n c : Nat) (l : List (List UInt8 × Int)) (hA : Labs s A n c l) (nm : List UInt8) : AC Tryz.prog D 45 [.slice A n c, St nm] L s fun v L' _ => v = .int .i64 (idxOf (fun y => decide (y.1 = nm)) l 0) ∧ L = L' := by
 have hn := hA.1
 have hc1 := hA.2.1
 have hc2 := hA.2.2.1
 refine AC_enter (TT := TT) (fn := Tryz.f45) TT_ok Tryz.func45 (by kernel_rfl) rfl Tryz.ntmps45 rfl (rs := [.tmp 4]) rfl [(0, _), (1, _)] rfl ?_
 refine JC_seq ?_
 refine JC_region ?_
 refine JO_q (QE_as rfl) rfl ?_
 refine JO_nil ?_
 refine thenQ_n ?_
 refine JC_seq ?_
 refine JC_seq ?_
 refine JC_region ?_
 refine JO_q (QE_as rfl) rfl ?_
 refine JO_nil ?_
 refine thenQ_n ?_
 refine JC_block ?_
 refine JC_loop (γ := Nat) (fun k => [(0, _), (1, _), (4, .int .i64 0), (5, .int .i64 (k : Int))]) (fun _ => _) (fun k tw => Le D s tw ∧ (k ≤ n ∧ ∀ i x, i < k → l[i]? = some x → decide (x.1 = nm) = false)) (fun k => n - k) (fun _ _ _ h hl => ⟨h.1.trans hl, h.2⟩) 0 (Keeps.cons rfl (Keeps.cons rfl (Keeps.cons rfl (Keeps.cons rfl (Keeps.nil _))))) rfl ⟨Le.refl _, ⟨Nat.zero_le _, fun i c hi => by omega⟩⟩ ?_
 intro k s1 I1
 have hk0 := I1.2.1
 have hI := I1.2.2
 refine JC_seq ?_
 refine JC_seq ?_
 refine JC_region ?_
 refine JO_q (QE_mv rfl) rfl ?_
 refine JO_q (QE_mv rfl) rfl ?_
 refine JO_q (QE_lenS rfl rfl rfl) rfl ?_
 refine JO_q (QE_lt rfl rfl) rfl ?_
 refine JO_nil ?_
 refine thenQ_n ?_
 refine JC_ifD rfl (fun c2 => ?_) (fun c2 => ?_)
 ·
  have hk : k < n := by omega
  obtain ⟨b, off, x, rfl, hx, hcx, _⟩ := Labs.at_ (hA.le I1.1) hk
  refine JC_skip ?_
  refine thenQ_n ?_
  refine JC_seq ?_
  refine JC_block ?_
  refine JC_seq ?_
  refine JC_region ?_
  refine JO_q (QE_mv rfl) rfl ?_
  refine JO_q (QE_mv rfl) rfl ?_
  refine JO_q (QE_iaN rfl rfl rfl rfl rfl rfl hk) rfl ?_
  refine JO_q (QE_fa0 rfl rfl rfl rfl) rfl ?_
  refine JO_q (QE_ldsR0 rfl rfl rfl (hcx.le (Le.refl (D := D) _)) rfl) rfl ?_
  refine JO_q (QE_mv rfl) rfl ?_
  refine JO_q (QE_seq rfl rfl) rfl ?_
  refine JO_nil ?_
  refine thenQ_n ?_
  refine JC_ifD rfl (fun c3 => ?_) (fun c3 => ?_)
  ·
   have hz := c3
   refine JC_seq ?_
   refine JC_region ?_
   refine JO_q (QE_mv rfl) rfl ?_
   refine JO_q (QE_as rfl) rfl ?_
   refine JO_nil ?_
   refine thenQ_n ?_
   refine JC_ret ?_
   refine blockQ_r ?_
   refine thenQ_r ?_
   refine thenQ_r ?_
   refine blockQ_r ?_
   refine thenQ_r ?_
   refine retQ_mk [] L (.inr rfl) (.tmp rfl (.nil)) rfl I1.1 (fun sR hS2 => ?_)
   first
     | (exact ⟨by rw [idxOf_hit hI hx (decide_eq_true hz)]; simp [resV], rfl⟩)
     | (exact ⟨by rw [idxOf_none (fun i b hi h => hI i b (by omega) h)]; rfl, rfl⟩)
  ·
   have hz := c3
   refine JC_skip ?_
   refine blockQ_n ?_
   refine thenQ_n ?_
   refine JC_region ?_
   refine JO_q (QE_mv rfl) rfl ?_
   refine JO_q (QE_add' rfl rfl (w64 (by omega) (by omega))) rfl ?_
   refine JO_q (QE_as rfl) rfl ?_
   refine JO_nil ?_
   refine thenQ_n ⟨(k + 1), [], (Keeps.cons rfl (Keeps.cons rfl (Keeps.cons rfl (Keeps.cons rfl (Keeps.nil _))))), rfl, ⟨I1.1, ⟨by omega, below_succ hI hx (decide_eq_false hz)⟩⟩, (by omega)⟩
 ·
  refine JC_exit ?_
  refine thenQ_x ?_
  refine thenQ_x ?_
  refine blockQ_x ?_
  refine thenQ_n ?_
  refine JC_seq ?_
  refine JC_region ?_
  refine JO_q (QE_as rfl) rfl ?_
  refine JO_nil ?_
  refine thenQ_n ?_
  refine JC_ret ?_
  refine retQ_mk [] L (.inr rfl) (.tmp rfl (.nil)) rfl I1.1 (fun sR hS2 => ?_)
  first
    | (exact ⟨by rw [idxOf_hit hI hx (decide_eq_true hz)]; simp [resV], rfl⟩)
    | (exact ⟨by rw [idxOf_none (fun i b hi h => hI i b (by omega) h)]; rfl, rfl⟩)
theorem any_and {p : Prop} [Decidable p] {b : Bool} (h : p) : b = decide (p ∧ b = true) := by simp [h]
set_option maxHeartbeats 1000000 in
set_option maxRecDepth 100000 in
theorem sizeOf_ac (D : Nat) (L : Hl) (s : World) (t : Tab) (A : Option Addr) (n c : Nat) (hA : Inss s A n c t.ins) (r : RL) (hr : U32 r.num) : AC Tryz.prog D 44 [.agg #[.int .i64 t.cells, .slice A n c], .agg #[.bool r.ok, St r.label, St r.op, .bool r.given, St r.name, .int .u32 r.num]] L s fun v L' _ => v = .int .i64 (szL r) ∧ L = L' := by
 have hr1 := hr.1
 have hr2 := hr.2
 refine AC_enter (TT := TT) (fn := Tryz.f44) TT_ok Tryz.func44 (by kernel_rfl) rfl Tryz.ntmps44 rfl (rs := [.tmp 4]) rfl [(0, _), (1, _)] rfl ?_
 refine JC_seq ?_
 refine JC_region ?_
 refine JO_boxA rfl rfl ?_
 intro β1 s1 h1
 refine JO_boxA rfl rfl ?_
 intro β2 s2 h2
 refine JO_q (QE_as rfl) rfl ?_
 refine JO_nil ?_
 refine thenQ_n ?_
 refine JC_seq ?_
 refine JC_seq ?_
 refine JC_region ?_
 refine JO_q (QE_faB rfl rfl rfl rfl) rfl ?_
 refine JO_q (QE_ld1 0 rfl rfl rfl rfl rfl) rfl ?_
 refine JO_q (QE_seq rfl rfl) rfl ?_
 refine JO_nil ?_
 refine thenQ_n ?_
 refine JC_ifD rfl (fun c3 => ?_) (fun c3 => ?_)
 ·
  have h7 : r.op = [] := c3
  refine JC_seq ?_
  refine JC_region ?_
  refine JO_q (QE_as rfl) rfl ?_
  refine JO_nil ?_
  refine thenQ_n ?_
  refine JC_ret ?_
  refine thenQ_r ?_
  refine retQ_mk [_, _] L (.inr rfl) (.tmp rfl (.nil)) rfl (Le.trans h1 h2) (fun sR hS2 => ?_)
  first
    | (exact ⟨by rw [szL, if_pos h7]; rfl, rfl⟩)
    | (exact ⟨by rw [szL, if_neg h7, if_pos h10]; rfl, rfl⟩)
    | (exact ⟨by rw [szL, if_neg h7, if_neg h10, if_pos h20]; rfl, rfl⟩)
    | (exact ⟨by rw [szL, if_neg h7, if_neg h10, if_neg h20]; rfl, rfl⟩)
 ·
  have h7 : ¬ r.op = [] := c3
  refine JC_skip ?_
  refine thenQ_n ?_
  refine JC_seq ?_
  refine JC_seq ?_
  refine JC_region ?_
  refine JO_q (QE_faB rfl rfl rfl rfl) rfl ?_
  refine JO_q (QE_ld1 0 rfl rfl rfl rfl rfl) rfl ?_
  refine JO_q (QE_seq rfl rfl) rfl ?_
  refine JO_nil ?_
  refine thenQ_n ?_
  refine JC_ifD rfl (fun c4 => ?_) (fun c4 => ?_)
  ·
   have h10 : r.op = spaceB := c4
   refine JC_seq ?_
   refine JC_region ?_
   refine JO_q (QE_faB rfl rfl rfl rfl) rfl ?_
   refine JO_q (QE_ld1 0 rfl rfl rfl rfl rfl) rfl ?_
   refine JO_q (QE_conv' rfl rfl rfl rfl rfl (w64 (by omega) (by omega))) rfl ?_
   refine JO_q (QE_as rfl) rfl ?_
   refine JO_nil ?_
   refine thenQ_n ?_
   refine JC_ret ?_
   refine thenQ_r ?_
   refine retQ_mk [_, _] L (.inr rfl) (.tmp rfl (.nil)) rfl (Le.trans h1 h2) (fun sR hS2 => ?_)
   first
     | (exact ⟨by rw [szL, if_pos h7]; rfl, rfl⟩)
     | (exact ⟨by rw [szL, if_neg h7, if_pos h10]; rfl, rfl⟩)
     | (exact ⟨by rw [szL, if_neg h7, if_neg h10, if_pos h20]; rfl, rfl⟩)
     | (exact ⟨by rw [szL, if_neg h7, if_neg h10, if_neg h20]; rfl, rfl⟩)
  ·
   have h10 : ¬ r.op = spaceB := c4
   refine JC_skip ?_
   refine thenQ_n ?_
   refine JC_seq ?_
   refine JC_cutB 20 (r.op ≠ wordB ∧ r.given = true) ?_ ?_
   ·
    refine JC_region ?_
    refine JO_q (QE_faB rfl rfl rfl rfl) rfl ?_
    refine JO_q (QE_ld1 0 rfl rfl rfl rfl rfl) rfl ?_
    refine JO_q (QE_sne rfl rfl) rfl ?_
    refine JO_q (QE_mv rfl) rfl ?_
    refine JO_caseN (t := 17) rfl (fun c6 => ?_) (fun c6 => ?_)
    ·
     refine JO_gT rfl rfl ?_
     refine JO_q (QE_faB rfl rfl rfl rfl) rfl ?_
     refine JO_gT rfl rfl ?_
     refine JO_q (QE_ld1 0 rfl rfl rfl rfl rfl) rfl ?_
     refine JO_q (QE_pickT rfl rfl) rfl ?_
     refine JO_nil ?_
     refine thenQ_n (MidB.mk (Le.refl (D := D) _) (by repeat (first | exact Suf.refl | refine Suf.push rfl ?_)) rfl ((any_and (p := r.op ≠ wordB) (by assumption))))
    ·
     refine JO_gF rfl rfl rfl rfl ?_
     refine JO_gF rfl rfl rfl rfl ?_
     refine JO_q (QE_pickF rfl rfl) rfl ?_
     refine JO_nil ?_
     refine thenQ_n (MidB.mk (Le.refl (D := D) _) (by repeat (first | exact Suf.refl | refine Suf.push rfl ?_)) rfl ((decide_eq_false (fun h => absurd (by assumption) h.1)).symm))
   ·
    intro s5 h5
    refine JC_ifD rfl (fun c7 => ?_) (fun c7 => ?_)
    ·
     have h20 := c7
     refine JC_seq ?_
     refine JC_region ?_
     refine JO_q (QE_as rfl) rfl ?_
     refine JO_nil ?_
     refine thenQ_n ?_
     refine JC_ret ?_
     refine thenQ_r ?_
     refine retQ_mk [_, _] L (.inr rfl) (.tmp rfl (.nil)) rfl (Le.trans (Le.trans h1 h2) h5) (fun sR hS2 => ?_)
     first
       | (exact ⟨by rw [szL, if_pos h7]; rfl, rfl⟩)
       | (exact ⟨by rw [szL, if_neg h7, if_pos h10]; rfl, rfl⟩)
       | (exact ⟨by rw [szL, if_neg h7, if_neg h10, if_pos h20]; rfl, rfl⟩)
       | (exact ⟨by rw [szL, if_neg h7, if_neg h10, if_neg h20]; rfl, rfl⟩)
    ·
     have h20 := c7
     refine JC_skip ?_
     refine thenQ_n ?_
     refine JC_seq ?_
     refine JC_region ?_
     refine JO_q (QE_as rfl) rfl ?_
     refine JO_nil ?_
     refine thenQ_n ?_
     refine JC_ret ?_
     refine retQ_mk [_, _] L (.inr rfl) (.tmp rfl (.nil)) rfl (Le.trans (Le.trans h1 h2) h5) (fun sR hS2 => ?_)
     first
       | (exact ⟨by rw [szL, if_pos h7]; rfl, rfl⟩)
       | (exact ⟨by rw [szL, if_neg h7, if_pos h10]; rfl, rfl⟩)
       | (exact ⟨by rw [szL, if_neg h7, if_neg h10, if_pos h20]; rfl, rfl⟩)
       | (exact ⟨by rw [szL, if_neg h7, if_neg h10, if_neg h20]; rfl, rfl⟩)
end Go.Proofs.YteomcjpigoaioaaGreatDoor
namespace Go.Proofs.YteomcjpigoaioaaGreatDoor
open Go.FL
attribute [local irreducible] JC JO JA JB thenQ blockQ retQ AC fill CellsAt QE Ev Mid
set_option maxHeartbeats 1000000 in
set_option maxRecDepth 100000 in
theorem blanksO_ac (D : Nat) (L : Hl) (s : World) (l : List UInt8) (hl : l.length ≤ 1000000) : AC Tryz.prog D 79 [St l] L s fun v L' s' => ∃ M', L' = M' ++ L ∧ ∀ s2, Le D s' s2 → Pub M' s2 → ∃ A n c', v = .slice A n c' ∧ Strs s2 A n c' (fldB l) := by
 refine AC_enter (TT := TT) (fn := Tryz.f79) TT_ok Tryz.func79 (by kernel_rfl) rfl Tryz.ntmps79 rfl (rs := [.tmp 2]) rfl [(0, _)] rfl ?_
 refine JC_seq ?_
 refine JC_region ?_
 refine JO_q (QE_as rfl) rfl ?_
 refine JO_nil ?_
 refine thenQ_n ?_
 refine JC_seq ?_
 refine JC_region ?_
 refine JO_q (QE_as rfl) rfl ?_
 refine JO_nil ?_
 refine thenQ_n ?_
 refine JC_seq ?_
 refine JC_region ?_
 refine JO_q (QE_mv rfl) rfl ?_
 refine JO_call (first := []) (captured := []) rfl rfl rfl (split_ac D _ _ l 32 (by omega)) ?_
 rintro _ _ s1 h1 ⟨rfl, As, ns, cs, rfl, hSs⟩
 have hns := hSs.1
 have hnl := splitF_len 32 [] l
 have hns2 : ns = (splitF 32 [] l).length := hns
 refine JO_q (QE_as rfl) rfl ?_
 refine JO_nil ?_
 refine thenQ_n ?_
 refine JC_seq ?_
 refine JC_seq ?_
 refine JC_region ?_
 refine JO_q (QE_as rfl) rfl ?_
 refine JO_nil ?_
 refine thenQ_n ?_
 refine JC_block ?_
 refine JC_loop (γ := Nat × Value × Hl × List (List UInt8)) (fun g => [(2, .slice none 0 0), (3, g.2.1), (4, _), (5, .int .i64 (g.1 : Int))]) (fun g => g.2.2.1 ++ L) (fun g tw => Le D s1 tw ∧ (g.1 ≤ ns ∧ Own 9 1 g.2.2.1 g.2.1 g.2.2.2.length (sb g.2.2.2) ∧ g.2.2.2.length ≤ g.1 ∧ fldB l = g.2.2.2 ++ ((splitB 32 l).drop g.1).filter (fun y => decide (y ≠ [])))) (fun g => ns - g.1) (fun _ _ _ h hl => ⟨h.1.trans hl, h.2⟩) (0, .slice none 0 0, [], []) (Keeps.cons rfl (Keeps.cons rfl (Keeps.cons rfl (Keeps.cons rfl (Keeps.nil _))))) rfl ⟨Le.refl _, ⟨Nat.zero_le _, Own.nil, Nat.le_refl _, rfl⟩⟩ ?_
 intro g s2 I2
 obtain ⟨k, vo, Mo, out⟩ := g
 obtain ⟨hk0, hO, hol, hS⟩ := I2.2
 simp only at hk0 hO hol hS
 dsimp only
 refine JC_seq ?_
 refine JC_seq ?_
 refine JC_region ?_
 refine JO_q (QE_mv rfl) rfl ?_
 refine JO_q (QE_mv rfl) rfl ?_
 refine JO_q (QE_lenS rfl rfl rfl) rfl ?_
 refine JO_q (QE_lt rfl rfl) rfl ?_
 refine JO_nil ?_
 refine thenQ_n ?_
 refine JC_ifD rfl (fun c3 => ?_) (fun c3 => ?_)
 ·
  have hk : k < ns := by omega
  obtain ⟨b, off, x, rfl, hx, hcx, hxl⟩ := Strs.at_ (hSs.le I2.1) hk
  refine JC_skip ?_
  refine thenQ_n ?_
  refine JC_seq ?_
  refine JC_block ?_
  refine JC_seq ?_
  refine JC_region ?_
  refine JO_q (QE_mv rfl) rfl ?_
  refine JO_q (QE_mv rfl) rfl ?_
  refine JO_q (QE_ia1 rfl rfl rfl rfl rfl rfl hk) rfl ?_
  refine JO_q (QE_ldsR0 rfl rfl rfl (hcx.le (Le.refl (D := D) _)) rfl) rfl ?_
  refine JO_q (QE_sne rfl rfl) rfl ?_
  refine JO_nil ?_
  refine thenQ_n ?_
  refine JC_ifN rfl (fun c4 => ?_) (fun c4 => ?_)
  ·
   have hne := c4
   refine JC_region ?_
   refine JO_q (QE_mv rfl) rfl ?_
   refine JO_q (QE_mv rfl) rfl ?_
   refine JO_q (QE_mv rfl) rfl ?_
   refine JO_q (QE_ia1 rfl rfl rfl rfl rfl rfl hk) rfl ?_
   refine JO_q (QE_ldsR0 rfl rfl rfl (hcx.le (Le.refl (D := D) _)) rfl) rfl ?_
   refine JO_bs [(_, _)] [_] rfl rfl rfl rfl rfl rfl rfl rfl rfl ?_
   intro βn s5 h5 hcb
   refine JO_app (sz := 1) [] Mo L rfl rfl rfl rfl rfl rfl rfl hO (Row.of_cells (hcb.le (Le.refl (D := D) _)) rfl rfl) ⟨by simp [ti9]; omega, by omega⟩ rfl ?_
   intro v2 A2x s6 h6 o2
   obtain ⟨Av2, cv2, rfl, _, _⟩ := Own.slice o2
   simp only [List.nil_append]
   refine JO_q (QE_as rfl) rfl ?_
   refine JO_nil ?_
   refine blockQ_n ?_
   refine thenQ_n ?_
   refine JC_region ?_
   refine JO_q (QE_mv rfl) rfl ?_
   refine JO_q (QE_add' rfl rfl (w64 (by omega) (by omega))) rfl ?_
   refine JO_q (QE_as rfl) rfl ?_
   refine JO_nil ?_
   refine thenQ_n ⟨(k + 1, .slice Av2 (out.length + 1) cv2, A2x, out ++ [x]), [], (Keeps.cons rfl (Keeps.cons rfl (Keeps.cons rfl (Keeps.cons rfl (Keeps.nil _))))), rfl, ⟨(Le.trans (Le.trans I2.1 h5) h6), by first | exact ⟨by simp only; omega, by simp only [List.length_append, List.length_cons, List.length_nil, sb_snoc]; exact o2, by simp; omega, by simp only; rw [hS, fld_at hx, if_neg hne, List.append_assoc]; rfl⟩ | exact ⟨by simp only; omega, hO, by simp only; omega, by simp only; rw [hS, fld_at hx, if_pos hne]⟩⟩, (by simp only; omega)⟩
  ·
   have hne := c4
   refine JC_skip ?_
   refine blockQ_n ?_
   refine thenQ_n ?_
   refine JC_region ?_
   refine JO_q (QE_mv rfl) rfl ?_
   refine JO_q (QE_add' rfl rfl (w64 (by omega) (by omega))) rfl ?_
   refine JO_q (QE_as rfl) rfl ?_
   refine JO_nil ?_
   refine thenQ_n ⟨(k + 1, vo, Mo, out), [], (Keeps.cons rfl (Keeps.cons rfl (Keeps.cons rfl (Keeps.cons rfl (Keeps.nil _))))), rfl, ⟨I2.1, by first | exact ⟨by simp only; omega, by simp only [List.length_append, List.length_cons, List.length_nil, sb_snoc]; exact o2, by simp; omega, by simp only; rw [hS, fld_at hx, if_neg hne, List.append_assoc]; rfl⟩ | exact ⟨by simp only; omega, hO, by simp only; omega, by simp only; rw [hS, fld_at hx, if_pos hne]⟩⟩, (by simp only; omega)⟩
 ·
  rw [List.drop_eq_nil_of_le (by omega), List.filter_nil, List.append_nil] at hS
  obtain ⟨Ao, co, rfl, _, _⟩ := Own.slice hO
  refine JC_exit ?_
  refine thenQ_x ?_
  refine thenQ_x ?_
  refine blockQ_x ?_
  refine thenQ_n ?_
  refine JC_seq ?_
  refine JC_region ?_
  refine JO_q (QE_mv rfl) rfl ?_
  refine JO_q (QE_as rfl) rfl ?_
  refine JO_nil ?_
  refine thenQ_n ?_
  refine JC_ret ?_
  refine retQ_mk [] _ (.inr rfl) (.tmp rfl (.nil)) rfl (Le.trans h1 I2.1) (fun sR hS2 => ?_)
  refine ⟨Mo, rfl, fun s2 hs2 hp => ⟨Ao, out.length, co, rfl, ?_⟩⟩
  rw [hS]
  exact Own.strs hO (fun x hx => by rw [← hS] at hx; have := (fld_mem hx).2; omega) hp rfl
theorem blanks_ac (D : Nat) (L : Hl) (s : World) (l : List UInt8) (hl : l.length ≤ 1000000) : AC Tryz.prog D 79 [St l] L s fun v L' s' => L = L' ∧ ∃ A n c', v = .slice A n c' ∧ Strs s' A n c' (fldB l) := AC.pubW (blanksO_ac D L s l hl)
end Go.Proofs.YteomcjpigoaioaaGreatDoor
namespace Go.Proofs.YteomcjpigoaioaaGreatDoor
open Go Go.FL Go.RowKit
theorem fnd_not {c : UInt8} {l : List UInt8} (h : c ∉ l) : fnd c l = none := by
  induction l with
  | nil => rfl
  | cons x l ih =>
    simp only [List.mem_cons, not_or] at h
    have hx : ¬ x = c := fun e => h.1 e.symm
    simp [fnd, hx, ih h.2]
theorem cut_not {c : UInt8} {l : List UInt8} (h : c ∉ l) : cutB c l = (l, [], false) := by unfold cutB; rw [fnd_not h]
def okL (c : UInt8) : Bool := letB c || digB c
theorem okL_fin : ∀ k : Fin 256, okL (UInt8.ofNat k.val) = true → UInt8.ofNat k.val ≠ 10 ∧ UInt8.ofNat k.val ≠ 32 ∧ UInt8.ofNat k.val ≠ 43 ∧ UInt8.ofNat k.val ≠ 58 ∧ UInt8.ofNat k.val ≠ 59 := by decide +kernel
theorem okL_ne {c : UInt8} (h : okL c = true) : c ≠ 10 ∧ c ≠ 32 ∧ c ≠ 43 ∧ c ≠ 58 ∧ c ≠ 59 := by
  have h1 := okL_fin ⟨c.toNat, c.toNat_lt⟩
  simp only [UInt8.ofNat_toNat] at h1
  exact h1 h
theorem decL (u : Nat) : ∀ c ∈ Lib.decDigits u, okL c = true := fun c hc => by
  have := List.all_eq_true.1 (dec_dig u) c hc
  simp [okL, this]
theorem dec_label (u : Nat) : labelB (Lib.decDigits u) = false := by
  cases hd : Lib.decDigits u with
  | nil => rfl
  | cons x l =>
    have h1 := List.all_eq_true.1 (dec_dig u) x (by rw [hd]; exact List.mem_cons_self ..)
    refine name_not (c := x) rfl (.inl ?_)
    simp only [digB, Bool.and_eq_true, decide_eq_true_eq] at h1
    omega
theorem opd_dec {u : Nat} (h : u < 4294967296) : opdL (Lib.decDigits u) = some ([], (u : Int)) := by
  have hc : cutB 43 (Lib.decDigits u) = (Lib.decDigits u, [], false) := cut_not fun hm => (okL_ne (decL u _ hm)).2.2.1 rfl
  unfold opdL
  rw [hc, if_neg (by rw [dec_label]; decide), numL_dec h]
  rfl
end Go.Proofs.YteomcjpigoaioaaGreatDoor
namespace Go.Proofs.YteomcjpigoaioaaGreatDoor
open Go Go.FL Go.RowKit
theorem cut_find (c : UInt8) (l : List UInt8) : (findB l (c.toNat : Int) < 0 ∧ cutB c l = (l, [], false)) ∨ ∃ i : Nat, findB l (c.toNat : Int) = (i : Int) ∧ i + 1 ≤ l.length ∧ cutB c l = (l.take i, l.drop (i + 1), true) := by
  have h := findB_fnd l c 0
  have h' : findB l (c.toNat : Int) = match fnd c l with | none => -1 | some i => ((0 + i : Nat) : Int) := h
  cases hf : fnd c l with
  | none => rw [hf] at h'; exact .inl ⟨by rw [h']; decide, by simp [cutB, hf]⟩
  | some i => rw [hf] at h'; exact .inr ⟨i, by rw [h']; simp, fnd_lt hf, by simp [cutB, hf]⟩
theorem cut59 (l : List UInt8) : (findB l 59 < 0 ∧ cutB 59 l = (l, [], false)) ∨ ∃ i : Nat, findB l 59 = (i : Int) ∧ i + 1 ≤ l.length ∧ cutB 59 l = (l.take i, l.drop (i + 1), true) := cut_find 59 l
theorem cut43 (l : List UInt8) : (findB l 43 < 0 ∧ cutB 43 l = (l, [], false)) ∨ ∃ i : Nat, findB l 43 = (i : Int) ∧ i + 1 ≤ l.length ∧ cutB 43 l = (l.take i, l.drop (i + 1), true) := cut_find 43 l
theorem opd_num {w : List UInt8} {u : Nat} (h : numL w = some u) : opdL w = some ([], (u : Int)) := by
  obtain ⟨e, hu⟩ := numL_some h
  rw [e]; exact opd_dec hu
theorem opd_name {w : List UInt8} (hn : numL w = none) (hc : cutB 43 w = (w, [], false)) : opdL w = if labelB w = true then some (w, 0) else none := by
  unfold opdL
  rw [hc, hn]
  split <;> simp
theorem opd_plus {w a b : List UInt8} (hn : numL w = none) (hc : cutB 43 w = (a, b, true)) : opdL w = if labelB a = true then (numL b).map (fun (n : Nat) => (a, (n : Int))) else none := by
  unfold opdL
  rw [hc, hn]
  split <;> simp
theorem u32_getD (l : List UInt8) : U32 (((numL l).getD 0 : Nat) : Int) := by
  cases h : numL l with
  | none => exact ⟨by simp, by simp⟩
  | some u => have := (numL_some h).2; exact ⟨by simp, by simp; omega⟩
theorem rl_bad {l : List UInt8} {r : RL} (h : lineL l = none) (hr : r.ok = false) (hu : U32 r.num) : RLok l r := ⟨.inr ⟨hr, h⟩, hu⟩
theorem rl_good {l : List UInt8} {r : RL} (h : lineL l = some r.ln) (hr : r.ok = true) (hu : U32 r.num) : RLok l r := ⟨.inl ⟨hr, h⟩, hu⟩
theorem rl_two {l lab o w : List UInt8} {R2 : List (List UInt8)} {x : List UInt8 × Int} {q : Prop} [Decidable q] (hB : lineL l = bodyW lab (o :: w :: R2)) (ho : labelB o = true) (hx : opdL w = some x) (hu : U32 x.2) (hq : q ↔ R2.length = 0) : RLok l ⟨decide q, lab, o, true, x.1, x.2⟩ := by
  cases R2 with
  | nil => exact rl_good (by rw [hB, bodyW_two ho, hx]; rfl) (decide_eq_true (hq.2 rfl)) hu
  | cons y R => exact rl_bad (by rw [hB]; rfl) (decide_eq_false fun h => by have := hq.1 h; simp at this) hu
theorem rl_no2 {l lab o w : List UInt8} {R2 : List (List UInt8)} (hB : lineL l = bodyW lab (o :: w :: R2)) (ho : labelB o = true) (hx : opdL w = none) : lineL l = none := by
  cases R2 with
  | nil => rw [hB, bodyW_two ho, hx]; rfl
  | cons y R => rw [hB]; rfl
theorem u32z : U32 0 := ⟨by decide, by decide⟩
end Go.Proofs.YteomcjpigoaioaaGreatDoor
namespace Go.Proofs.YteomcjpigoaioaaGreatDoor
open Go.FL
attribute [local irreducible] JC JO JA JB thenQ blockQ retQ AC fill CellsAt QE Ev Mid
set_option maxHeartbeats 4000000 in
set_option maxRecDepth 100000 in
theorem lineOf_ac (D : Nat) (L : Hl) (s : World) (l : List UInt8) (hl : l.length ≤ 400000) : AC Tryz.prog D 48 [St l] L s fun v L' _ => L = L' ∧ ∃ r : RL, v = .agg r.cs.toArray ∧ RLok l r := by
 have hl1 := (cut_len 59 l).1
 refine AC_enter (TT := TT) (fn := Tryz.f48) TT_ok Tryz.func48 (by kernel_rfl) rfl Tryz.ntmps48 rfl (rs := [.cell 2 90]) rfl [(0, _)] rfl ?_
 refine JC_seq ?_
 refine JC_region ?_
 refine JO_allocZ rfl [_, _, _, _, _, _] rfl rfl ?_
 intro β1 s1 h1
 refine JO_nil ?_
 refine thenQ_n ?_
 refine JC_seq ?_
 refine JC_region ?_
 refine JO_allocZ rfl [_, _, _, _, _, _] rfl rfl ?_
 intro β2 s2 h2
 refine JO_nil ?_
 refine thenQ_n ?_
 refine JC_seq ?_
 refine JC_region ?_
 refine JO_q (QE_mv rfl) rfl ?_
 refine JO_call (first := []) (captured := []) rfl rfl rfl (find7_ac D _ _ l _ (by omega)) ?_
 rintro _ _ s3 h3 ⟨rfl, rfl⟩
 refine JO_q (QE_as rfl) rfl ?_
 refine JO_nil ?_
 refine thenQ_n ?_
 refine JC_cut (γ := Unit) (fun g => [(2, .pointer (some ⟨β1, 0, none⟩)), (3, .pointer (some ⟨β2, 0, none⟩)), (0, St (cutB 59 l).1)]) (fun g => (β2, cb [.bool false, St [], St [], .bool false, St [], .int .u32 0] 90) :: (β1, cb [.bool false, St [], St [], .bool false, St [], .int .u32 0] 90) :: L) (fun g tw => Le D s3 tw ∧ (True)) (fun _ _ _ h hl => ⟨h.1.trans hl, h.2⟩) ?_ ?_
 ·
  refine JC_seq ?_
  refine JC_region ?_
  refine JO_q (QE_mv rfl) rfl ?_
  refine JO_q (QE_ge rfl rfl) rfl ?_
  refine JO_nil ?_
  refine thenQ_n ?_
  refine JC_ifD rfl (fun c5 => ?_) (fun c5 => ?_)
  ·
   obtain ⟨hneg, _⟩ | ⟨i, hi, hil, hcut⟩ := cut59 l
   · exact absurd c5 (by omega)
   rw [hi]
   refine JC_region ?_
   refine JO_q (QE_mv rfl) rfl ?_
   refine JO_q (QE_mv rfl) rfl ?_
   refine JO_q (QE_cast (QE_stH rfl rfl rfl rfl (by omega)) (show St (l.take i) = St (cutB 59 l).1 by rw [hcut])) rfl ?_
   refine JO_q (QE_as rfl) rfl ?_
   refine JO_nil ?_
   refine thenQ_n (Mid.mk () [] (Keeps.cons rfl (Keeps.cons rfl (Keeps.cons (congrArg some (congrArg St (by rw [hcut]))) (Keeps.nil _)))) (List.Perm.refl _) ⟨(Le.refl (D := D) _), trivial⟩)
  ·
   obtain ⟨hneg, hcut⟩ | ⟨i, hi, _, _⟩ := cut59 l
   rotate_left
   · exact absurd c5 (by omega)
   refine JC_skip ?_
   refine thenQ_n (Mid.mk () [] (Keeps.cons rfl (Keeps.cons rfl (Keeps.cons (congrArg some (congrArg St (by rw [hcut]))) (Keeps.nil _)))) (List.Perm.refl _) ⟨(Le.refl (D := D) _), trivial⟩)
 ·
  intro g s4 I4
  refine JC_seq ?_
  refine JC_region ?_
  refine JO_q (QE_mv rfl) rfl ?_
  refine JO_call (first := []) (captured := []) rfl rfl rfl (blanks_ac D _ _ (cutB 59 l).1 (by omega)) ?_
  rintro _ _ s6 h6 ⟨rfl, Aw, n, cw, rfl, hSw⟩
  have hn := hSw.1
  have hcn := hSw.2.1
  have hmem : ∀ x ∈ fldB (cutB 59 l).1, x ≠ [] ∧ x.length ≤ 400000 := fun x hx => by have := fld_mem hx; exact ⟨this.1, by omega⟩
  generalize hWW : fldB (cutB 59 l).1 = W at hSw hmem hn
  refine JO_q (QE_as rfl) rfl ?_
  refine JO_nil ?_
  refine thenQ_n ?_
  refine JC_seq ?_
  refine JC_region ?_
  refine JO_q (QE_as rfl) rfl ?_
  refine JO_nil ?_
  refine thenQ_n ?_
  refine JC_seq ?_
  refine JC_seq ?_
  rcases W with _ | ⟨w0, R0⟩
  ·
   have hB : lineL l = bodyW [] [] := lineL_of hWW rfl
   refine JC_draw drawsMixed 18 rfl _ (fun _ h => h) ?_
   intro s7 h7
   refine JA_q 0 rfl (by kernel_rfl) (by kernel_rfl) (by kernel_rfl) trivial (QE_mv rfl) rfl ?_
   refine JA_q 1 rfl (by kernel_rfl) (by kernel_rfl) (by kernel_rfl) trivial (QE_mv rfl) rfl ?_
   refine JA_q 2 rfl (by kernel_rfl) (by kernel_rfl) (by kernel_rfl) trivial (QE_lenS rfl rfl rfl) rfl ?_
   refine JA_q 3 rfl (by kernel_rfl) (by kernel_rfl) (by kernel_rfl) trivial (QE_cast (v' := .bool false) (QE_lt rfl rfl) (bZ (by have h9 := hn; simp only [List.length_nil, List.length_cons] at h9; omega))) rfl ?_
   refine JA_q 4 rfl (by kernel_rfl) (by kernel_rfl) (by kernel_rfl) trivial (QE_mv rfl) rfl ?_
   refine JA_no 5 rfl (by kernel_rfl) (by kernel_rfl) (by kernel_rfl) rfl rfl rfl rfl ?_
   refine JA_no 6 rfl (by kernel_rfl) (by kernel_rfl) (by kernel_rfl) rfl rfl rfl rfl ?_
   refine JA_no 7 rfl (by kernel_rfl) (by kernel_rfl) (by kernel_rfl) rfl rfl rfl rfl ?_
   refine JA_no 8 rfl (by kernel_rfl) (by kernel_rfl) (by kernel_rfl) rfl rfl rfl rfl ?_
   refine JA_no 9 rfl (by kernel_rfl) (by kernel_rfl) (by kernel_rfl) rfl rfl rfl rfl ?_
   refine JA_no 10 rfl (by kernel_rfl) (by kernel_rfl) (by kernel_rfl) rfl rfl rfl rfl ?_
   refine JA_no 11 rfl (by kernel_rfl) (by kernel_rfl) (by kernel_rfl) rfl rfl rfl rfl ?_
   refine JA_no 12 rfl (by kernel_rfl) (by kernel_rfl) (by kernel_rfl) rfl rfl rfl rfl ?_
   refine JA_no 13 rfl (by kernel_rfl) (by kernel_rfl) (by kernel_rfl) rfl rfl rfl rfl ?_
   refine JA_no 14 rfl (by kernel_rfl) (by kernel_rfl) (by kernel_rfl) rfl rfl rfl rfl ?_
   refine JA_no 15 rfl (by kernel_rfl) (by kernel_rfl) (by kernel_rfl) rfl rfl rfl rfl ?_
   refine JA_no 16 rfl (by kernel_rfl) (by kernel_rfl) (by kernel_rfl) rfl rfl rfl rfl ?_
   refine JA_q 17 rfl (by kernel_rfl) (by kernel_rfl) (by kernel_rfl) trivial (QE_pickF rfl rfl) rfl ?_
   refine JA_done (by kernel_rfl) ?_
   refine thenQ_n ?_
   refine JC_ifF rfl ?_
   refine JC_skip ?_
   refine thenQ_n ?_
   refine JC_seq ?_
   refine JC_seq ?_
   refine JC_region ?_
   refine JO_q (QE_mv rfl) rfl ?_
   refine JO_q (QE_mv rfl) rfl ?_
   refine JO_q (QE_lenS rfl rfl rfl) rfl ?_
   refine JO_q (QE_cast (v' := .bool false) (QE_lt rfl rfl) (bZ (by have h9 := hn; simp only [List.length_nil, List.length_cons] at h9; omega))) rfl ?_
   refine JO_nil ?_
   refine thenQ_n ?_
   refine JC_ifF rfl ?_
   refine JC_skip ?_
   refine thenQ_n ?_
   refine JC_seq ?_
   refine JC_seq ?_
   refine JC_region ?_
   refine JO_q (QE_mv rfl) rfl ?_
   refine JO_q (QE_mv rfl) rfl ?_
   refine JO_q (QE_lenS rfl rfl rfl) rfl ?_
   refine JO_q (QE_cast (v' := .bool false) (QE_lt rfl rfl) (bZ (by have h9 := hn; simp only [List.length_nil, List.length_cons] at h9; omega))) rfl ?_
   refine JO_nil ?_
   refine thenQ_n ?_
   refine JC_ifF rfl ?_
   refine JC_skip ?_
   refine thenQ_n ?_
   refine JC_seq ?_
   refine JC_region ?_
   refine JO_q (QE_mv rfl) rfl ?_
   refine JO_q (QE_mv rfl) rfl ?_
   refine JO_q (QE_lenS rfl rfl rfl) rfl ?_
   refine JO_q (QE_eq rfl rfl) rfl ?_
   refine JO_q (QE_fa0 rfl rfl rfl rfl) rfl ?_
   refine JO_st 0 [_, _, _, _, _, _] rfl rfl rfl rfl rfl rfl rfl rfl rfl ?_
   refine JO_nil ?_
   refine thenQ_n ?_
   refine JC_seq ?_
   refine JC_region ?_
   refine JO_q (QE_ldA 0 [_, _, _, _, _, _] rfl rfl rfl rfl rfl) rfl ?_
   refine JO_st 1 [_, _, _, _, _, _] rfl rfl rfl rfl rfl rfl rfl rfl rfl ?_
   refine JO_nil ?_
   refine thenQ_n ?_
   refine JC_ret ?_
   refine retQ_mk [_, _] L (.inr rfl) (.agg (us := [_, _, _, _, _, _]) 1 rfl rfl rfl rfl rfl (.nil)) rfl (Le.trans (Le.trans (Le.trans (Le.trans (Le.trans h1 h2) h3) I4.1) h6) h7) (fun sR hS2 => ?_)
   refine ⟨rfl, ?_⟩
   exact ⟨⟨_, _, [], false, [], 0⟩, rfl, rl_good (by rw [hB]; rfl) (decide_eq_true (by have h9 := hn; simp only [List.length_nil, List.length_cons] at h9; omega)) u32z⟩
  ·
   obtain ⟨b0, off0, x0, hE0, hx0, hc0, hl0⟩ := Strs.at_ (hSw.le (Le.refl (D := D) _)) (show 0 < n by have h9 := hn; simp only [List.length_cons] at h9; omega)
   obtain rfl := hE0
   obtain rfl : w0 = x0 := by simpa using hx0
   have hne0 := (hmem w0 (List.mem_cons_self ..)).1
   have hwl0 := (hmem w0 (List.mem_cons_self ..)).2
   have hn0 : n = R0.length + 1 := hn
   have hw0p : 0 < w0.length := List.length_pos_iff.2 hne0
   obtain ⟨cl, hcl⟩ : ∃ cl, w0[w0.length - 1]? = some cl := ⟨_, List.getElem?_eq_getElem (by omega)⟩
   refine JC_draw drawsMixed 18 rfl _ (fun _ h => h) ?_
   intro s8 h8
   refine JA_q 0 rfl (by kernel_rfl) (by kernel_rfl) (by kernel_rfl) trivial (QE_mv rfl) rfl ?_
   refine JA_q 1 rfl (by kernel_rfl) (by kernel_rfl) (by kernel_rfl) trivial (QE_mv rfl) rfl ?_
   refine JA_q 2 rfl (by kernel_rfl) (by kernel_rfl) (by kernel_rfl) trivial (QE_lenS rfl rfl rfl) rfl ?_
   refine JA_q 3 rfl (by kernel_rfl) (by kernel_rfl) (by kernel_rfl) trivial (QE_cast (v' := .bool true) (QE_lt rfl rfl) (bT (by have h9 := hn; simp only [List.length_nil, List.length_cons] at h9; omega))) rfl ?_
   refine JA_q 4 rfl (by kernel_rfl) (by kernel_rfl) (by kernel_rfl) trivial (QE_mv rfl) rfl ?_
   refine JA_q 5 rfl (by kernel_rfl) (by kernel_rfl) (by kernel_rfl) ⟨_, rfl, rfl⟩ (QE_mv rfl) rfl ?_
   refine JA_q 6 rfl (by kernel_rfl) (by kernel_rfl) (by kernel_rfl) ⟨_, rfl, rfl⟩ (QE_mv rfl) rfl ?_
   refine JA_q 7 rfl (by kernel_rfl) (by kernel_rfl) (by kernel_rfl) ⟨_, rfl, rfl⟩ (QE_ia1 rfl rfl rfl rfl rfl rfl (show 0 < n by omega)) rfl ?_
   refine JA_q 8 rfl (by kernel_rfl) (by kernel_rfl) (by kernel_rfl) ⟨_, rfl, rfl⟩ (QE_ldsR0 rfl rfl rfl (hc0.le h8) rfl) rfl ?_
   refine JA_q 9 rfl (by kernel_rfl) (by kernel_rfl) (by kernel_rfl) ⟨_, rfl, rfl⟩ (QE_mv rfl) rfl ?_
   refine JA_q 10 rfl (by kernel_rfl) (by kernel_rfl) (by kernel_rfl) ⟨_, rfl, rfl⟩ (QE_mv rfl) rfl ?_
   refine JA_q 11 rfl (by kernel_rfl) (by kernel_rfl) (by kernel_rfl) ⟨_, rfl, rfl⟩ (QE_ia1 rfl rfl rfl rfl rfl rfl (show 0 < n by omega)) rfl ?_
   refine JA_q 12 rfl (by kernel_rfl) (by kernel_rfl) (by kernel_rfl) ⟨_, rfl, rfl⟩ (QE_ldsR0 rfl rfl rfl (hc0.le h8) rfl) rfl ?_
   refine JA_q 13 rfl (by kernel_rfl) (by kernel_rfl) (by kernel_rfl) ⟨_, rfl, rfl⟩ (QE_lenT rfl rfl rfl) rfl ?_
   refine JA_q 14 rfl (by kernel_rfl) (by kernel_rfl) (by kernel_rfl) ⟨_, rfl, rfl⟩ (QE_sub' (c := ((w0.length - 1 : Nat) : Int)) rfl rfl (by rw [w64 (by omega) (by omega)]; omega)) rfl ?_
   refine JA_q 15 rfl (by kernel_rfl) (by kernel_rfl) (by kernel_rfl) ⟨_, rfl, rfl⟩ (QE_ix rfl rfl rfl rfl hcl) rfl ?_
   refine JA_q 16 rfl (by kernel_rfl) (by kernel_rfl) (by kernel_rfl) ⟨_, rfl, rfl⟩ (QE_eq rfl rfl) rfl ?_
   refine JA_q 17 rfl (by kernel_rfl) (by kernel_rfl) (by kernel_rfl) trivial (QE_pickT rfl rfl) rfl ?_
   refine JA_done (by kernel_rfl) ?_
   refine thenQ_n ?_
   refine JC_ifD rfl (fun c9 => ?_) (fun c9 => ?_)
   ·
    have he : endsB 58 w0 = true := by rw [endsB, List.getLast?_eq_getElem?, hcl]; exact decide_eq_true (congrArg some (u8_eq.2 c9))
    refine JC_seq ?_
    refine JC_drawE drawsMixed 13 rfl [0] (by intro x hx; exact eraseAll_mem hx) ?_
    intro s10 h10
    refine JA_q 0 rfl (by kernel_rfl) (by kernel_rfl) (by kernel_rfl) trivial (QE_mv rfl) rfl ?_
    refine JA_q 1 rfl (by kernel_rfl) (by kernel_rfl) (by kernel_rfl) trivial (QE_mv rfl) rfl ?_
    refine JA_q 2 rfl (by kernel_rfl) (by kernel_rfl) (by kernel_rfl) trivial (QE_ia1 rfl rfl rfl rfl rfl rfl (show 0 < n by omega)) rfl ?_
    refine JA_q 3 rfl (by kernel_rfl) (by kernel_rfl) (by kernel_rfl) trivial (QE_ldsR0 rfl rfl rfl (hc0.le (Le.trans h8 h10)) rfl) rfl ?_
    refine JA_q 4 rfl (by kernel_rfl) (by kernel_rfl) (by kernel_rfl) trivial (QE_mv rfl) rfl ?_
    refine JA_q 5 rfl (by kernel_rfl) (by kernel_rfl) (by kernel_rfl) trivial (QE_mv rfl) rfl ?_
    refine JA_q 6 rfl (by kernel_rfl) (by kernel_rfl) (by kernel_rfl) trivial (QE_ia1 rfl rfl rfl rfl rfl rfl (show 0 < n by omega)) rfl ?_
    refine JA_q 7 rfl (by kernel_rfl) (by kernel_rfl) (by kernel_rfl) trivial (QE_ldsR0 rfl rfl rfl (hc0.le (Le.trans h8 h10)) rfl) rfl ?_
    refine JA_q 8 rfl (by kernel_rfl) (by kernel_rfl) (by kernel_rfl) trivial (QE_lenT rfl rfl rfl) rfl ?_
    refine JA_q 9 rfl (by kernel_rfl) (by kernel_rfl) (by kernel_rfl) trivial (QE_sub' (c := ((w0.length - 1 : Nat) : Int)) rfl rfl (by rw [w64 (by omega) (by omega)]; omega)) rfl ?_
    refine JA_q 10 rfl (by kernel_rfl) (by kernel_rfl) (by kernel_rfl) trivial (QE_cast (QE_stH rfl rfl rfl rfl (by omega)) (congrArg St (List.dropLast_eq_take).symm)) rfl ?_
    refine JA_q 11 rfl (by kernel_rfl) (by kernel_rfl) (by kernel_rfl) trivial (QE_faB rfl rfl rfl rfl) rfl ?_
    refine JA_1 12 (by kernel_rfl) ?_
    refine JB_st rfl trivial 0 [_, _, _, _, _, _] rfl rfl rfl rfl rfl rfl rfl rfl rfl (fun _ hx => sub_mem (sbY (sbE _)) hx) ?_
    refine JA_done (by kernel_rfl) ?_
    refine thenQ_n ?_
    refine JC_seq ?_
    refine JC_seq ?_
    refine JC_region ?_
    refine JO_q (QE_faB rfl rfl rfl rfl) rfl ?_
    refine JO_q (QE_ld1 0 rfl rfl rfl rfl rfl) rfl ?_
    refine JO_call (first := []) (captured := []) rfl rfl rfl (isLabel_ac D _ _ _ (by rw [List.length_dropLast]; omega)) ?_
    rintro _ _ s11 h11 ⟨rfl, rfl⟩
    refine JO_q (QE_not rfl) rfl ?_
    refine JO_nil ?_
    refine thenQ_n ?_
    refine JC_ifM rfl (fun c12 => ?_) (fun c12 => ?_)
    ·
     have hbad : lineL l = none := lineL_no hWW (by rw [labW, if_pos he, if_neg (by rw [show labelB w0.dropLast = false by simpa using c12]; decide)])
     refine JC_seq ?_
     refine JC_region ?_
     refine JO_q (QE_ldA 0 [_, _, _, _, _, _] rfl rfl rfl rfl rfl) rfl ?_
     refine JO_st 1 [_, _, _, _, _, _] rfl rfl rfl rfl rfl rfl rfl rfl rfl ?_
     refine JO_nil ?_
     refine thenQ_n ?_
     refine JC_ret ?_
     refine thenQ_r ?_
     refine thenQ_r ?_
     refine retQ_mk [_, _] L (.inr rfl) (.agg (us := [_, _, _, _, _, _]) 1 rfl rfl rfl rfl rfl (.nil)) rfl (Le.trans (Le.trans (Le.trans (Le.trans (Le.trans (Le.trans (Le.trans h1 h2) h3) I4.1) h6) h8) h10) h11) (fun sR hS2 => ?_)
     refine ⟨rfl, ?_⟩
     exact ⟨⟨false, _, _, _, _, _⟩, rfl, rl_bad hbad rfl (by first | exact u32z | exact u32_getD _ | exact hux2)⟩
    ·
     have hlb : labelB w0.dropLast = true := by simpa using c12
     have hB : lineL l = bodyW w0.dropLast R0 := lineL_of hWW (by rw [labW, if_pos he, if_pos hlb])
     refine JC_skip ?_
     refine thenQ_n ?_
     refine JC_region ?_
     refine JO_q (QE_mv rfl) rfl ?_
     refine JO_q (QE_add' (c := ((1 : Nat) : Int)) rfl rfl (by rfl)) rfl ?_
     refine JO_q (QE_as rfl) rfl ?_
     refine JO_nil ?_
     refine thenQ_n ?_
     refine JC_seq ?_
     refine JC_seq ?_
     rcases R0 with _ | ⟨o, R1⟩
     ·
      refine JC_region ?_
      refine JO_q (QE_mv rfl) rfl ?_
      refine JO_q (QE_mv rfl) rfl ?_
      refine JO_q (QE_lenS rfl rfl rfl) rfl ?_
      refine JO_q (QE_cast (v' := .bool false) (QE_lt rfl rfl) (bZ (by have h9 := hn; simp only [List.length_nil, List.length_cons] at h9; omega))) rfl ?_
      refine JO_nil ?_
      refine thenQ_n ?_
      refine JC_ifF rfl ?_
      refine JC_skip ?_
      refine thenQ_n ?_
      refine JC_seq ?_
      refine JC_seq ?_
      refine JC_region ?_
      refine JO_q (QE_mv rfl) rfl ?_
      refine JO_q (QE_mv rfl) rfl ?_
      refine JO_q (QE_lenS rfl rfl rfl) rfl ?_
      refine JO_q (QE_cast (v' := .bool false) (QE_lt rfl rfl) (bZ (by have h9 := hn; simp only [List.length_nil, List.length_cons] at h9; omega))) rfl ?_
      refine JO_nil ?_
      refine thenQ_n ?_
      refine JC_ifF rfl ?_
      refine JC_skip ?_
      refine thenQ_n ?_
      refine JC_seq ?_
      refine JC_region ?_
      refine JO_q (QE_mv rfl) rfl ?_
      refine JO_q (QE_mv rfl) rfl ?_
      refine JO_q (QE_lenS rfl rfl rfl) rfl ?_
      refine JO_q (QE_eq rfl rfl) rfl ?_
      refine JO_q (QE_fa0 rfl rfl rfl rfl) rfl ?_
      refine JO_st 0 [_, _, _, _, _, _] rfl rfl rfl rfl rfl rfl rfl rfl rfl ?_
      refine JO_nil ?_
      refine thenQ_n ?_
      refine JC_seq ?_
      refine JC_region ?_
      refine JO_q (QE_ldA 0 [_, _, _, _, _, _] rfl rfl rfl rfl rfl) rfl ?_
      refine JO_st 1 [_, _, _, _, _, _] rfl rfl rfl rfl rfl rfl rfl rfl rfl ?_
      refine JO_nil ?_
      refine thenQ_n ?_
      refine JC_ret ?_
      refine retQ_mk [_, _] L (.inr rfl) (.agg (us := [_, _, _, _, _, _]) 1 rfl rfl rfl rfl rfl (.nil)) rfl (Le.trans (Le.trans (Le.trans (Le.trans (Le.trans (Le.trans (Le.trans h1 h2) h3) I4.1) h6) h8) h10) h11) (fun sR hS2 => ?_)
      refine ⟨rfl, ?_⟩
      exact ⟨⟨_, _, [], false, [], 0⟩, rfl, rl_good (by rw [hB]; rfl) (decide_eq_true (by have h9 := hn; simp only [List.length_nil, List.length_cons] at h9; omega)) u32z⟩
     ·
      obtain ⟨bo, offo, xo, hEo, hxo, hco, hlo⟩ := Strs.at_ (hSw.le (Le.trans (Le.trans h8 h10) h11)) (show 1 < n by have h9 := hn; simp only [List.length_cons] at h9; omega)
      cases hEo
      obtain rfl : o = xo := by simpa using hxo
      have hn1 : n = R1.length + 2 := by rw [hn]; rfl
      have hlo_ := (hmem o (by simp)).2
      refine JC_region ?_
      refine JO_q (QE_mv rfl) rfl ?_
      refine JO_q (QE_mv rfl) rfl ?_
      refine JO_q (QE_lenS rfl rfl rfl) rfl ?_
      refine JO_q (QE_cast (v' := .bool true) (QE_lt rfl rfl) (bT (by have h9 := hn; simp only [List.length_nil, List.length_cons] at h9; omega))) rfl ?_
      refine JO_nil ?_
      refine thenQ_n ?_
      refine JC_ifT rfl ?_
      refine JC_seq ?_
      refine JC_region ?_
      refine JO_q (QE_mv rfl) rfl ?_
      refine JO_q (QE_mv rfl) rfl ?_
      refine JO_q (QE_ia1 rfl rfl rfl rfl rfl rfl (show 1 < n by omega)) rfl ?_
      refine JO_q (QE_ldsR0 rfl rfl rfl (hco.le (Le.refl (D := D) _)) rfl) rfl ?_
      refine JO_q (QE_faB rfl rfl rfl rfl) rfl ?_
      refine JO_st 0 [_, _, _, _, _, _] rfl rfl rfl rfl rfl rfl rfl rfl rfl ?_
      refine JO_nil ?_
      refine thenQ_n ?_
      refine JC_seq ?_
      refine JC_seq ?_
      refine JC_region ?_
      refine JO_q (QE_faB rfl rfl rfl rfl) rfl ?_
      refine JO_q (QE_ld1 0 rfl rfl rfl rfl rfl) rfl ?_
      refine JO_call (first := []) (captured := []) rfl rfl rfl (isLabel_ac D _ _ _ (by omega)) ?_
      rintro _ _ s13 h13 ⟨rfl, rfl⟩
      refine JO_q (QE_not rfl) rfl ?_
      refine JO_nil ?_
      refine thenQ_n ?_
      refine JC_ifM rfl (fun c14 => ?_) (fun c14 => ?_)
      ·
       have hbad : lineL l = none := by rw [hB]; exact bodyW_bad (by simpa using c14)
       refine JC_seq ?_
       refine JC_region ?_
       refine JO_q (QE_ldA 0 [_, _, _, _, _, _] rfl rfl rfl rfl rfl) rfl ?_
       refine JO_st 1 [_, _, _, _, _, _] rfl rfl rfl rfl rfl rfl rfl rfl rfl ?_
       refine JO_nil ?_
       refine thenQ_n ?_
       refine JC_ret ?_
       refine thenQ_r ?_
       refine thenQ_r ?_
       refine retQ_mk [_, _] L (.inr rfl) (.agg (us := [_, _, _, _, _, _]) 1 rfl rfl rfl rfl rfl (.nil)) rfl (Le.trans (Le.trans (Le.trans (Le.trans (Le.trans (Le.trans (Le.trans (Le.trans h1 h2) h3) I4.1) h6) h8) h10) h11) h13) (fun sR hS2 => ?_)
       refine ⟨rfl, ?_⟩
       exact ⟨⟨false, _, _, _, _, _⟩, rfl, rl_bad hbad rfl (by first | exact u32z | exact u32_getD _ | exact hux2)⟩
      ·
       have hlo : labelB o = true := by simpa using c14
       refine JC_skip ?_
       refine thenQ_n ?_
       refine JC_region ?_
       refine JO_q (QE_mv rfl) rfl ?_
       refine JO_q (QE_add' (c := ((2 : Nat) : Int)) rfl rfl (by rfl)) rfl ?_
       refine JO_q (QE_as rfl) rfl ?_
       refine JO_nil ?_
       refine thenQ_n ?_
       refine JC_seq ?_
       refine JC_seq ?_
       rcases R1 with _ | ⟨w, R2⟩
       ·
        refine JC_region ?_
        refine JO_q (QE_mv rfl) rfl ?_
        refine JO_q (QE_mv rfl) rfl ?_
        refine JO_q (QE_lenS rfl rfl rfl) rfl ?_
        refine JO_q (QE_cast (v' := .bool false) (QE_lt rfl rfl) (bZ (by have h9 := hn; simp only [List.length_nil, List.length_cons] at h9; omega))) rfl ?_
        refine JO_nil ?_
        refine thenQ_n ?_
        refine JC_ifF rfl ?_
        refine JC_skip ?_
        refine thenQ_n ?_
        refine JC_seq ?_
        refine JC_region ?_
        refine JO_q (QE_mv rfl) rfl ?_
        refine JO_q (QE_mv rfl) rfl ?_
        refine JO_q (QE_lenS rfl rfl rfl) rfl ?_
        refine JO_q (QE_eq rfl rfl) rfl ?_
        refine JO_q (QE_fa0 rfl rfl rfl rfl) rfl ?_
        refine JO_st 0 [_, _, _, _, _, _] rfl rfl rfl rfl rfl rfl rfl rfl rfl ?_
        refine JO_nil ?_
        refine thenQ_n ?_
        refine JC_seq ?_
        refine JC_region ?_
        refine JO_q (QE_ldA 0 [_, _, _, _, _, _] rfl rfl rfl rfl rfl) rfl ?_
        refine JO_st 1 [_, _, _, _, _, _] rfl rfl rfl rfl rfl rfl rfl rfl rfl ?_
        refine JO_nil ?_
        refine thenQ_n ?_
        refine JC_ret ?_
        refine retQ_mk [_, _] L (.inr rfl) (.agg (us := [_, _, _, _, _, _]) 1 rfl rfl rfl rfl rfl (.nil)) rfl (Le.trans (Le.trans (Le.trans (Le.trans (Le.trans (Le.trans (Le.trans (Le.trans h1 h2) h3) I4.1) h6) h8) h10) h11) h13) (fun sR hS2 => ?_)
        refine ⟨rfl, ?_⟩
        exact ⟨⟨_, _, o, false, [], 0⟩, rfl, rl_good (by rw [hB, bodyW_one hlo]; rfl) (decide_eq_true (by have h9 := hn; simp only [List.length_nil, List.length_cons] at h9; omega)) u32z⟩
       ·
        obtain ⟨bw, offw, xw, hEw, hxw, hcw, hlw⟩ := Strs.at_ (hSw.le (Le.trans (Le.trans (Le.trans h8 h10) h11) h13)) (show 2 < n by have h9 := hn; simp only [List.length_cons] at h9; omega)
        cases hEw
        obtain rfl : w = xw := by simpa using hxw
        have hwl := (hmem w (by simp)).2
        have hn2 : n = R2.length + 3 := by rw [hn]; rfl
        refine JC_region ?_
        refine JO_q (QE_mv rfl) rfl ?_
        refine JO_q (QE_mv rfl) rfl ?_
        refine JO_q (QE_lenS rfl rfl rfl) rfl ?_
        refine JO_q (QE_cast (v' := .bool true) (QE_lt rfl rfl) (bT (by have h9 := hn; simp only [List.length_nil, List.length_cons] at h9; omega))) rfl ?_
        refine JO_nil ?_
        refine thenQ_n ?_
        refine JC_ifT rfl ?_
        refine JC_seq ?_
        refine JC_region ?_
        refine JO_q (QE_faB rfl rfl rfl rfl) rfl ?_
        refine JO_st 0 [_, _, _, _, _, _] rfl rfl rfl rfl rfl rfl rfl rfl rfl ?_
        refine JO_nil ?_
        refine thenQ_n ?_
        refine JC_seq ?_
        refine JC_region ?_
        refine JO_q (QE_mv rfl) rfl ?_
        refine JO_q (QE_mv rfl) rfl ?_
        refine JO_q (QE_ia1 rfl rfl rfl rfl rfl rfl (show 2 < n by omega)) rfl ?_
        refine JO_q (QE_ldsR0 rfl rfl rfl (hcw.le (Le.refl (D := D) _)) rfl) rfl ?_
        refine JO_q (QE_as rfl) rfl ?_
        refine JO_nil ?_
        refine thenQ_n ?_
        refine JC_seq ?_
        refine JC_region ?_
        refine JO_q (QE_mv rfl) rfl ?_
        refine JO_q (QE_add' (c := ((3 : Nat) : Int)) rfl rfl (by rfl)) rfl ?_
        refine JO_q (QE_as rfl) rfl ?_
        refine JO_nil ?_
        refine thenQ_n ?_
        refine JC_seq ?_
        refine JC_region ?_
        refine JO_q (QE_mv rfl) rfl ?_
        refine JO_call (first := []) (captured := []) rfl rfl rfl (numberOf_ac D _ _ w (by omega)) ?_
        rintro _ _ s15 h15 ⟨rfl, rfl⟩
        refine JO_q (QE_mv rfl) rfl ?_
        refine JO_q (QE_ext rfl rfl) rfl ?_
        refine JO_q (QE_ext rfl rfl) rfl ?_
        refine JO_q (QE_as rfl) rfl ?_
        refine JO_q (QE_as rfl) rfl ?_
        refine JO_nil ?_
        refine thenQ_n ?_
        refine JC_seq ?_
        refine JC_region ?_
        refine JO_q (QE_mv rfl) rfl ?_
        refine JO_q (QE_faB rfl rfl rfl rfl) rfl ?_
        refine JO_st 0 [_, _, _, _, _, _] rfl rfl rfl rfl rfl rfl rfl rfl rfl ?_
        refine JO_nil ?_
        refine thenQ_n ?_
        refine JC_seq ?_
        refine JC_region ?_
        refine JO_q (QE_mv rfl) rfl ?_
        refine JO_q (QE_not rfl) rfl ?_
        refine JO_nil ?_
        refine thenQ_n ?_
        refine JC_ifM rfl (fun c16 => ?_) (fun c16 => ?_)
        ·
         have hnn : numL w = none := by simpa using c16
         rw [hnn]
         refine JC_seq ?_
         refine JC_region ?_
         refine JO_q (QE_mv rfl) rfl ?_
         refine JO_call (first := []) (captured := []) rfl rfl rfl (find7_ac D _ _ w _ (by omega)) ?_
         rintro _ _ s17 h17 ⟨rfl, rfl⟩
         refine JO_q (QE_as rfl) rfl ?_
         refine JO_nil ?_
         refine thenQ_n ?_
         refine JC_seq ?_
         refine JC_region ?_
         refine JO_q (QE_mv rfl) rfl ?_
         refine JO_q (QE_faB rfl rfl rfl rfl) rfl ?_
         refine JO_st 0 [_, _, _, _, _, _] rfl rfl rfl rfl rfl rfl rfl rfl rfl ?_
         refine JO_nil ?_
         refine thenQ_n ?_
         refine JC_seq ?_
         refine JC_seq ?_
         refine JC_region ?_
         refine JO_q (QE_mv rfl) rfl ?_
         refine JO_q (QE_ge rfl rfl) rfl ?_
         refine JO_nil ?_
         refine thenQ_n ?_
         refine JC_ifD rfl (fun c18 => ?_) (fun c18 => ?_)
         ·
          obtain ⟨hneg, _⟩ | ⟨i2, hi2, hil2, hcut2⟩ := cut43 w
          · exact absurd c18 (by omega)
          rw [hi2]
          refine JC_seq ?_
          refine JC_region ?_
          refine JO_q (QE_mv rfl) rfl ?_
          refine JO_q (QE_mv rfl) rfl ?_
          refine JO_q (QE_stH rfl rfl rfl rfl (by omega)) rfl ?_
          refine JO_q (QE_faB rfl rfl rfl rfl) rfl ?_
          refine JO_st 0 [_, _, _, _, _, _] rfl rfl rfl rfl rfl rfl rfl rfl rfl ?_
          refine JO_nil ?_
          refine thenQ_n ?_
          refine JC_seq ?_
          refine JC_region ?_
          refine JO_q (QE_mv rfl) rfl ?_
          refine JO_q (QE_mv rfl) rfl ?_
          refine JO_q (QE_add' (c := ((i2 + 1 : Nat) : Int)) rfl rfl (by rw [w64 (by omega) (by omega)]; simp)) rfl ?_
          refine JO_q (QE_stL rfl rfl rfl rfl (by omega)) rfl ?_
          refine JO_call (first := []) (captured := []) rfl rfl rfl (numberOf_ac D _ _ _ (by simp; omega)) ?_
          rintro _ _ s19 h19 ⟨rfl, rfl⟩
          refine JO_q (QE_mv rfl) rfl ?_
          refine JO_q (QE_ext rfl rfl) rfl ?_
          refine JO_q (QE_ext rfl rfl) rfl ?_
          refine JO_q (QE_faB rfl rfl rfl rfl) rfl ?_
          refine JO_st 0 [_, _, _, _, _, _] rfl rfl rfl rfl rfl rfl rfl rfl rfl ?_
          refine JO_q (QE_as rfl) rfl ?_
          refine JO_nil ?_
          refine thenQ_n ?_
          refine JC_seq ?_
          refine JC_region ?_
          refine JO_q (QE_mv rfl) rfl ?_
          refine JO_q (QE_not rfl) rfl ?_
          refine JO_nil ?_
          refine thenQ_n ?_
          refine JC_ifM rfl (fun c20 => ?_) (fun c20 => ?_)
          ·
           have hbad : lineL l = none := rl_no2 hB hlo (by rw [opd_plus hnn hcut2, show numL (w.drop (i2 + 1)) = none by simpa using c20]; split <;> rfl)
           refine JC_seq ?_
           refine JC_region ?_
           refine JO_q (QE_ldA 0 [_, _, _, _, _, _] rfl rfl rfl rfl rfl) rfl ?_
           refine JO_st 1 [_, _, _, _, _, _] rfl rfl rfl rfl rfl rfl rfl rfl rfl ?_
           refine JO_nil ?_
           refine thenQ_n ?_
           refine JC_ret ?_
           refine thenQ_r ?_
           refine thenQ_r ?_
           refine retQ_mk [_, _] L (.inr rfl) (.agg (us := [_, _, _, _, _, _]) 1 rfl rfl rfl rfl rfl (.nil)) rfl (Le.trans (Le.trans (Le.trans (Le.trans (Le.trans (Le.trans (Le.trans (Le.trans (Le.trans (Le.trans (Le.trans h1 h2) h3) I4.1) h6) h8) h10) h11) h13) h15) h17) h19) (fun sR hS2 => ?_)
           refine ⟨rfl, ?_⟩
           exact ⟨⟨false, _, _, _, _, _⟩, rfl, rl_bad hbad rfl (by first | exact u32z | exact u32_getD _ | exact hux2)⟩
          ·
           obtain ⟨u2, hnu2⟩ := Option.isSome_iff_exists.1 (show (numL (w.drop (i2 + 1))).isSome = true by simpa using c20)
           have hux2 := u32_getD (w.drop (i2 + 1))
           rw [hnu2] at hux2 ⊢
           refine JC_skip ?_
           refine thenQ_n ?_
           refine JC_seq ?_
           refine JC_region ?_
           refine JO_q (QE_faB rfl rfl rfl rfl) rfl ?_
           refine JO_q (QE_ld1 0 rfl rfl rfl rfl rfl) rfl ?_
           refine JO_call (first := []) (captured := []) rfl rfl rfl (isLabel_ac D _ _ _ (by first | omega | (simp; omega))) ?_
           rintro _ _ s21 h21 ⟨rfl, rfl⟩
           refine JO_q (QE_not rfl) rfl ?_
           refine JO_nil ?_
           refine thenQ_n ?_
           refine JC_ifM rfl (fun c22 => ?_) (fun c22 => ?_)
           ·
            have hbad : lineL l = none := rl_no2 hB hlo (by rw [opd_plus hnn hcut2, if_neg (by rw [show labelB (w.take i2) = false by simpa using c22]; decide)])
            refine JC_seq ?_
            refine JC_region ?_
            refine JO_q (QE_ldA 0 [_, _, _, _, _, _] rfl rfl rfl rfl rfl) rfl ?_
            refine JO_st 1 [_, _, _, _, _, _] rfl rfl rfl rfl rfl rfl rfl rfl rfl ?_
            refine JO_nil ?_
            refine thenQ_n ?_
            refine JC_ret ?_
            refine thenQ_r ?_
            refine retQ_mk [_, _] L (.inr rfl) (.agg (us := [_, _, _, _, _, _]) 1 rfl rfl rfl rfl rfl (.nil)) rfl (Le.trans (Le.trans (Le.trans (Le.trans (Le.trans (Le.trans (Le.trans (Le.trans (Le.trans (Le.trans (Le.trans (Le.trans h1 h2) h3) I4.1) h6) h8) h10) h11) h13) h15) h17) h19) h21) (fun sR hS2 => ?_)
            refine ⟨rfl, ?_⟩
            exact ⟨⟨false, _, _, _, _, _⟩, rfl, rl_bad hbad rfl (by first | exact u32z | exact u32_getD _ | exact hux2)⟩
           ·
            have hop : opdL w = some (w.take i2, (u2 : Int)) := by rw [opd_plus hnn hcut2, if_pos (show labelB (w.take i2) = true by simpa using c22), hnu2]; rfl
            have hux : U32 (w.take i2, (u2 : Int)).2 := hux2
            refine JC_skip ?_
            refine thenQ_n ?_
            refine JC_seq ?_
            refine JC_region ?_
            refine JO_q (QE_mv rfl) rfl ?_
            refine JO_q (QE_mv rfl) rfl ?_
            refine JO_q (QE_lenS rfl rfl rfl) rfl ?_
            refine JO_q (QE_eq rfl rfl) rfl ?_
            refine JO_q (QE_fa0 rfl rfl rfl rfl) rfl ?_
            refine JO_st 0 [_, _, _, _, _, _] rfl rfl rfl rfl rfl rfl rfl rfl rfl ?_
            refine JO_nil ?_
            refine thenQ_n ?_
            refine JC_seq ?_
            refine JC_region ?_
            refine JO_q (QE_ldA 0 [_, _, _, _, _, _] rfl rfl rfl rfl rfl) rfl ?_
            refine JO_st 1 [_, _, _, _, _, _] rfl rfl rfl rfl rfl rfl rfl rfl rfl ?_
            refine JO_nil ?_
            refine thenQ_n ?_
            refine JC_ret ?_
            refine retQ_mk [_, _] L (.inr rfl) (.agg (us := [_, _, _, _, _, _]) 1 rfl rfl rfl rfl rfl (.nil)) rfl (Le.trans (Le.trans (Le.trans (Le.trans (Le.trans (Le.trans (Le.trans (Le.trans (Le.trans (Le.trans (Le.trans (Le.trans h1 h2) h3) I4.1) h6) h8) h10) h11) h13) h15) h17) h19) h21) (fun sR hS2 => ?_)
            refine ⟨rfl, ?_⟩
            exact ⟨⟨_, _, o, true, _, _⟩, rfl, rl_two hB hlo hop hux (by have h9 := hn; simp only [List.length_nil, List.length_cons] at h9; omega)⟩
         ·
          obtain ⟨hneg, hcut2⟩ | ⟨i2, hi2, _, _⟩ := cut43 w
          rotate_left
          · exact absurd c18 (by omega)
          refine JC_skip ?_
          refine thenQ_n ?_
          refine JC_seq ?_
          refine JC_region ?_
          refine JO_q (QE_faB rfl rfl rfl rfl) rfl ?_
          refine JO_q (QE_ld1 0 rfl rfl rfl rfl rfl) rfl ?_
          refine JO_call (first := []) (captured := []) rfl rfl rfl (isLabel_ac D _ _ _ (by first | omega | (simp; omega))) ?_
          rintro _ _ s23 h23 ⟨rfl, rfl⟩
          refine JO_q (QE_not rfl) rfl ?_
          refine JO_nil ?_
          refine thenQ_n ?_
          refine JC_ifM rfl (fun c24 => ?_) (fun c24 => ?_)
          ·
           have hbad : lineL l = none := rl_no2 hB hlo (by rw [opd_name hnn hcut2, if_neg (by rw [show labelB w = false by simpa using c24]; decide)])
           refine JC_seq ?_
           refine JC_region ?_
           refine JO_q (QE_ldA 0 [_, _, _, _, _, _] rfl rfl rfl rfl rfl) rfl ?_
           refine JO_st 1 [_, _, _, _, _, _] rfl rfl rfl rfl rfl rfl rfl rfl rfl ?_
           refine JO_nil ?_
           refine thenQ_n ?_
           refine JC_ret ?_
           refine thenQ_r ?_
           refine retQ_mk [_, _] L (.inr rfl) (.agg (us := [_, _, _, _, _, _]) 1 rfl rfl rfl rfl rfl (.nil)) rfl (Le.trans (Le.trans (Le.trans (Le.trans (Le.trans (Le.trans (Le.trans (Le.trans (Le.trans (Le.trans (Le.trans h1 h2) h3) I4.1) h6) h8) h10) h11) h13) h15) h17) h23) (fun sR hS2 => ?_)
           refine ⟨rfl, ?_⟩
           exact ⟨⟨false, _, _, _, _, _⟩, rfl, rl_bad hbad rfl (by first | exact u32z | exact u32_getD _ | exact hux2)⟩
          ·
           have hop : opdL w = some (w, 0) := by rw [opd_name hnn hcut2, if_pos (show labelB w = true by simpa using c24)]
           have hux : U32 (w, (0 : Int)).2 := u32z
           refine JC_skip ?_
           refine thenQ_n ?_
           refine JC_seq ?_
           refine JC_region ?_
           refine JO_q (QE_mv rfl) rfl ?_
           refine JO_q (QE_mv rfl) rfl ?_
           refine JO_q (QE_lenS rfl rfl rfl) rfl ?_
           refine JO_q (QE_eq rfl rfl) rfl ?_
           refine JO_q (QE_fa0 rfl rfl rfl rfl) rfl ?_
           refine JO_st 0 [_, _, _, _, _, _] rfl rfl rfl rfl rfl rfl rfl rfl rfl ?_
           refine JO_nil ?_
           refine thenQ_n ?_
           refine JC_seq ?_
           refine JC_region ?_
           refine JO_q (QE_ldA 0 [_, _, _, _, _, _] rfl rfl rfl rfl rfl) rfl ?_
           refine JO_st 1 [_, _, _, _, _, _] rfl rfl rfl rfl rfl rfl rfl rfl rfl ?_
           refine JO_nil ?_
           refine thenQ_n ?_
           refine JC_ret ?_
           refine retQ_mk [_, _] L (.inr rfl) (.agg (us := [_, _, _, _, _, _]) 1 rfl rfl rfl rfl rfl (.nil)) rfl (Le.trans (Le.trans (Le.trans (Le.trans (Le.trans (Le.trans (Le.trans (Le.trans (Le.trans (Le.trans (Le.trans h1 h2) h3) I4.1) h6) h8) h10) h11) h13) h15) h17) h23) (fun sR hS2 => ?_)
           refine ⟨rfl, ?_⟩
           exact ⟨⟨_, _, o, true, _, _⟩, rfl, rl_two hB hlo hop hux (by have h9 := hn; simp only [List.length_nil, List.length_cons] at h9; omega)⟩
        ·
         obtain ⟨u, hnu⟩ := Option.isSome_iff_exists.1 (show (numL w).isSome = true by simpa using c16)
         have hop := opd_num hnu
         have hux : U32 (([] : List UInt8), (u : Int)).2 := by have := u32_getD w; rw [hnu] at this; exact this
         rw [hnu]
         refine JC_skip ?_
         refine thenQ_n ?_
         refine JC_seq ?_
         refine JC_region ?_
         refine JO_q (QE_mv rfl) rfl ?_
         refine JO_q (QE_mv rfl) rfl ?_
         refine JO_q (QE_lenS rfl rfl rfl) rfl ?_
         refine JO_q (QE_eq rfl rfl) rfl ?_
         refine JO_q (QE_fa0 rfl rfl rfl rfl) rfl ?_
         refine JO_st 0 [_, _, _, _, _, _] rfl rfl rfl rfl rfl rfl rfl rfl rfl ?_
         refine JO_nil ?_
         refine thenQ_n ?_
         refine JC_seq ?_
         refine JC_region ?_
         refine JO_q (QE_ldA 0 [_, _, _, _, _, _] rfl rfl rfl rfl rfl) rfl ?_
         refine JO_st 1 [_, _, _, _, _, _] rfl rfl rfl rfl rfl rfl rfl rfl rfl ?_
         refine JO_nil ?_
         refine thenQ_n ?_
         refine JC_ret ?_
         refine retQ_mk [_, _] L (.inr rfl) (.agg (us := [_, _, _, _, _, _]) 1 rfl rfl rfl rfl rfl (.nil)) rfl (Le.trans (Le.trans (Le.trans (Le.trans (Le.trans (Le.trans (Le.trans (Le.trans (Le.trans h1 h2) h3) I4.1) h6) h8) h10) h11) h13) h15) (fun sR hS2 => ?_)
         refine ⟨rfl, ?_⟩
         exact ⟨⟨_, _, o, true, _, _⟩, rfl, rl_two hB hlo hop hux (by have h9 := hn; simp only [List.length_nil, List.length_cons] at h9; omega)⟩
   ·
    have he : endsB 58 w0 = false := by
      rw [endsB, List.getLast?_eq_getElem?, hcl, decide_eq_false_iff_not]
      intro e
      injection e with e
      exact c9 (by rw [e]; rfl)
    have hB : lineL l = bodyW [] (w0 :: R0) := lineL_of hWW (by rw [labW, if_neg (by rw [he]; decide)])
    obtain ⟨o, R1, e1, e2⟩ : ∃ a b, a = w0 ∧ b = R0 := ⟨_, _, rfl, rfl⟩
    subst e1
    subst e2
    have hco := hc0.le h8
    have hlo_ := hwl0
    refine JC_skip ?_
    refine thenQ_n ?_
    refine JC_seq ?_
    refine JC_seq ?_
    refine JC_region ?_
    refine JO_q (QE_mv rfl) rfl ?_
    refine JO_q (QE_mv rfl) rfl ?_
    refine JO_q (QE_lenS rfl rfl rfl) rfl ?_
    refine JO_q (QE_cast (v' := .bool true) (QE_lt rfl rfl) (bT (by have h9 := hn; simp only [List.length_nil, List.length_cons] at h9; omega))) rfl ?_
    refine JO_nil ?_
    refine thenQ_n ?_
    refine JC_ifT rfl ?_
    refine JC_seq ?_
    refine JC_region ?_
    refine JO_q (QE_mv rfl) rfl ?_
    refine JO_q (QE_mv rfl) rfl ?_
    refine JO_q (QE_ia1 rfl rfl rfl rfl rfl rfl (show 0 < n by omega)) rfl ?_
    refine JO_q (QE_ldsR0 rfl rfl rfl (hco.le (Le.refl (D := D) _)) rfl) rfl ?_
    refine JO_q (QE_faB rfl rfl rfl rfl) rfl ?_
    refine JO_st 0 [_, _, _, _, _, _] rfl rfl rfl rfl rfl rfl rfl rfl rfl ?_
    refine JO_nil ?_
    refine thenQ_n ?_
    refine JC_seq ?_
    refine JC_seq ?_
    refine JC_region ?_
    refine JO_q (QE_faB rfl rfl rfl rfl) rfl ?_
    refine JO_q (QE_ld1 0 rfl rfl rfl rfl rfl) rfl ?_
    refine JO_call (first := []) (captured := []) rfl rfl rfl (isLabel_ac D _ _ _ (by omega)) ?_
    rintro _ _ s25 h25 ⟨rfl, rfl⟩
    refine JO_q (QE_not rfl) rfl ?_
    refine JO_nil ?_
    refine thenQ_n ?_
    refine JC_ifM rfl (fun c26 => ?_) (fun c26 => ?_)
    ·
     have hbad : lineL l = none := by rw [hB]; exact bodyW_bad (by simpa using c26)
     refine JC_seq ?_
     refine JC_region ?_
     refine JO_q (QE_ldA 0 [_, _, _, _, _, _] rfl rfl rfl rfl rfl) rfl ?_
     refine JO_st 1 [_, _, _, _, _, _] rfl rfl rfl rfl rfl rfl rfl rfl rfl ?_
     refine JO_nil ?_
     refine thenQ_n ?_
     refine JC_ret ?_
     refine thenQ_r ?_
     refine thenQ_r ?_
     refine retQ_mk [_, _] L (.inr rfl) (.agg (us := [_, _, _, _, _, _]) 1 rfl rfl rfl rfl rfl (.nil)) rfl (Le.trans (Le.trans (Le.trans (Le.trans (Le.trans (Le.trans h1 h2) h3) I4.1) h6) h8) h25) (fun sR hS2 => ?_)
     refine ⟨rfl, ?_⟩
     exact ⟨⟨false, _, _, _, _, _⟩, rfl, rl_bad hbad rfl (by first | exact u32z | exact u32_getD _ | exact hux2)⟩
    ·
     have hlo : labelB o = true := by simpa using c26
     refine JC_skip ?_
     refine thenQ_n ?_
     refine JC_region ?_
     refine JO_q (QE_mv rfl) rfl ?_
     refine JO_q (QE_add' (c := ((1 : Nat) : Int)) rfl rfl (by rfl)) rfl ?_
     refine JO_q (QE_as rfl) rfl ?_
     refine JO_nil ?_
     refine thenQ_n ?_
     refine JC_seq ?_
     refine JC_seq ?_
     rcases R1 with _ | ⟨w, R2⟩
     ·
      refine JC_region ?_
      refine JO_q (QE_mv rfl) rfl ?_
      refine JO_q (QE_mv rfl) rfl ?_
      refine JO_q (QE_lenS rfl rfl rfl) rfl ?_
      refine JO_q (QE_cast (v' := .bool false) (QE_lt rfl rfl) (bZ (by have h9 := hn; simp only [List.length_nil, List.length_cons] at h9; omega))) rfl ?_
      refine JO_nil ?_
      refine thenQ_n ?_
      refine JC_ifF rfl ?_
      refine JC_skip ?_
      refine thenQ_n ?_
      refine JC_seq ?_
      refine JC_region ?_
      refine JO_q (QE_mv rfl) rfl ?_
      refine JO_q (QE_mv rfl) rfl ?_
      refine JO_q (QE_lenS rfl rfl rfl) rfl ?_
      refine JO_q (QE_eq rfl rfl) rfl ?_
      refine JO_q (QE_fa0 rfl rfl rfl rfl) rfl ?_
      refine JO_st 0 [_, _, _, _, _, _] rfl rfl rfl rfl rfl rfl rfl rfl rfl ?_
      refine JO_nil ?_
      refine thenQ_n ?_
      refine JC_seq ?_
      refine JC_region ?_
      refine JO_q (QE_ldA 0 [_, _, _, _, _, _] rfl rfl rfl rfl rfl) rfl ?_
      refine JO_st 1 [_, _, _, _, _, _] rfl rfl rfl rfl rfl rfl rfl rfl rfl ?_
      refine JO_nil ?_
      refine thenQ_n ?_
      refine JC_ret ?_
      refine retQ_mk [_, _] L (.inr rfl) (.agg (us := [_, _, _, _, _, _]) 1 rfl rfl rfl rfl rfl (.nil)) rfl (Le.trans (Le.trans (Le.trans (Le.trans (Le.trans (Le.trans h1 h2) h3) I4.1) h6) h8) h25) (fun sR hS2 => ?_)
      refine ⟨rfl, ?_⟩
      exact ⟨⟨_, _, o, false, [], 0⟩, rfl, rl_good (by rw [hB, bodyW_one hlo]; rfl) (decide_eq_true (by have h9 := hn; simp only [List.length_nil, List.length_cons] at h9; omega)) u32z⟩
     ·
      obtain ⟨bw, offw, xw, hEw, hxw, hcw, hlw⟩ := Strs.at_ (hSw.le (Le.trans h8 h25)) (show 1 < n by have h9 := hn; simp only [List.length_cons] at h9; omega)
      cases hEw
      obtain rfl : w = xw := by simpa using hxw
      have hwl := (hmem w (by simp)).2
      have hn2 : n = R2.length + 2 := by rw [hn]; rfl
      refine JC_region ?_
      refine JO_q (QE_mv rfl) rfl ?_
      refine JO_q (QE_mv rfl) rfl ?_
      refine JO_q (QE_lenS rfl rfl rfl) rfl ?_
      refine JO_q (QE_cast (v' := .bool true) (QE_lt rfl rfl) (bT (by have h9 := hn; simp only [List.length_nil, List.length_cons] at h9; omega))) rfl ?_
      refine JO_nil ?_
      refine thenQ_n ?_
      refine JC_ifT rfl ?_
      refine JC_seq ?_
      refine JC_region ?_
      refine JO_q (QE_faB rfl rfl rfl rfl) rfl ?_
      refine JO_st 0 [_, _, _, _, _, _] rfl rfl rfl rfl rfl rfl rfl rfl rfl ?_
      refine JO_nil ?_
      refine thenQ_n ?_
      refine JC_seq ?_
      refine JC_region ?_
      refine JO_q (QE_mv rfl) rfl ?_
      refine JO_q (QE_mv rfl) rfl ?_
      refine JO_q (QE_ia1 rfl rfl rfl rfl rfl rfl (show 1 < n by omega)) rfl ?_
      refine JO_q (QE_ldsR0 rfl rfl rfl (hcw.le (Le.refl (D := D) _)) rfl) rfl ?_
      refine JO_q (QE_as rfl) rfl ?_
      refine JO_nil ?_
      refine thenQ_n ?_
      refine JC_seq ?_
      refine JC_region ?_
      refine JO_q (QE_mv rfl) rfl ?_
      refine JO_q (QE_add' (c := ((2 : Nat) : Int)) rfl rfl (by rfl)) rfl ?_
      refine JO_q (QE_as rfl) rfl ?_
      refine JO_nil ?_
      refine thenQ_n ?_
      refine JC_seq ?_
      refine JC_region ?_
      refine JO_q (QE_mv rfl) rfl ?_
      refine JO_call (first := []) (captured := []) rfl rfl rfl (numberOf_ac D _ _ w (by omega)) ?_
      rintro _ _ s27 h27 ⟨rfl, rfl⟩
      refine JO_q (QE_mv rfl) rfl ?_
      refine JO_q (QE_ext rfl rfl) rfl ?_
      refine JO_q (QE_ext rfl rfl) rfl ?_
      refine JO_q (QE_as rfl) rfl ?_
      refine JO_q (QE_as rfl) rfl ?_
      refine JO_nil ?_
      refine thenQ_n ?_
      refine JC_seq ?_
      refine JC_region ?_
      refine JO_q (QE_mv rfl) rfl ?_
      refine JO_q (QE_faB rfl rfl rfl rfl) rfl ?_
      refine JO_st 0 [_, _, _, _, _, _] rfl rfl rfl rfl rfl rfl rfl rfl rfl ?_
      refine JO_nil ?_
      refine thenQ_n ?_
      refine JC_seq ?_
      refine JC_region ?_
      refine JO_q (QE_mv rfl) rfl ?_
      refine JO_q (QE_not rfl) rfl ?_
      refine JO_nil ?_
      refine thenQ_n ?_
      refine JC_ifM rfl (fun c28 => ?_) (fun c28 => ?_)
      ·
       have hnn : numL w = none := by simpa using c28
       rw [hnn]
       refine JC_seq ?_
       refine JC_region ?_
       refine JO_q (QE_mv rfl) rfl ?_
       refine JO_call (first := []) (captured := []) rfl rfl rfl (find7_ac D _ _ w _ (by omega)) ?_
       rintro _ _ s29 h29 ⟨rfl, rfl⟩
       refine JO_q (QE_as rfl) rfl ?_
       refine JO_nil ?_
       refine thenQ_n ?_
       refine JC_seq ?_
       refine JC_region ?_
       refine JO_q (QE_mv rfl) rfl ?_
       refine JO_q (QE_faB rfl rfl rfl rfl) rfl ?_
       refine JO_st 0 [_, _, _, _, _, _] rfl rfl rfl rfl rfl rfl rfl rfl rfl ?_
       refine JO_nil ?_
       refine thenQ_n ?_
       refine JC_seq ?_
       refine JC_seq ?_
       refine JC_region ?_
       refine JO_q (QE_mv rfl) rfl ?_
       refine JO_q (QE_ge rfl rfl) rfl ?_
       refine JO_nil ?_
       refine thenQ_n ?_
       refine JC_ifD rfl (fun c30 => ?_) (fun c30 => ?_)
       ·
        obtain ⟨hneg, _⟩ | ⟨i2, hi2, hil2, hcut2⟩ := cut43 w
        · exact absurd c30 (by omega)
        rw [hi2]
        refine JC_seq ?_
        refine JC_region ?_
        refine JO_q (QE_mv rfl) rfl ?_
        refine JO_q (QE_mv rfl) rfl ?_
        refine JO_q (QE_stH rfl rfl rfl rfl (by omega)) rfl ?_
        refine JO_q (QE_faB rfl rfl rfl rfl) rfl ?_
        refine JO_st 0 [_, _, _, _, _, _] rfl rfl rfl rfl rfl rfl rfl rfl rfl ?_
        refine JO_nil ?_
        refine thenQ_n ?_
        refine JC_seq ?_
        refine JC_region ?_
        refine JO_q (QE_mv rfl) rfl ?_
        refine JO_q (QE_mv rfl) rfl ?_
        refine JO_q (QE_add' (c := ((i2 + 1 : Nat) : Int)) rfl rfl (by rw [w64 (by omega) (by omega)]; simp)) rfl ?_
        refine JO_q (QE_stL rfl rfl rfl rfl (by omega)) rfl ?_
        refine JO_call (first := []) (captured := []) rfl rfl rfl (numberOf_ac D _ _ _ (by simp; omega)) ?_
        rintro _ _ s31 h31 ⟨rfl, rfl⟩
        refine JO_q (QE_mv rfl) rfl ?_
        refine JO_q (QE_ext rfl rfl) rfl ?_
        refine JO_q (QE_ext rfl rfl) rfl ?_
        refine JO_q (QE_faB rfl rfl rfl rfl) rfl ?_
        refine JO_st 0 [_, _, _, _, _, _] rfl rfl rfl rfl rfl rfl rfl rfl rfl ?_
        refine JO_q (QE_as rfl) rfl ?_
        refine JO_nil ?_
        refine thenQ_n ?_
        refine JC_seq ?_
        refine JC_region ?_
        refine JO_q (QE_mv rfl) rfl ?_
        refine JO_q (QE_not rfl) rfl ?_
        refine JO_nil ?_
        refine thenQ_n ?_
        refine JC_ifM rfl (fun c32 => ?_) (fun c32 => ?_)
        ·
         have hbad : lineL l = none := rl_no2 hB hlo (by rw [opd_plus hnn hcut2, show numL (w.drop (i2 + 1)) = none by simpa using c32]; split <;> rfl)
         refine JC_seq ?_
         refine JC_region ?_
         refine JO_q (QE_ldA 0 [_, _, _, _, _, _] rfl rfl rfl rfl rfl) rfl ?_
         refine JO_st 1 [_, _, _, _, _, _] rfl rfl rfl rfl rfl rfl rfl rfl rfl ?_
         refine JO_nil ?_
         refine thenQ_n ?_
         refine JC_ret ?_
         refine thenQ_r ?_
         refine thenQ_r ?_
         refine retQ_mk [_, _] L (.inr rfl) (.agg (us := [_, _, _, _, _, _]) 1 rfl rfl rfl rfl rfl (.nil)) rfl (Le.trans (Le.trans (Le.trans (Le.trans (Le.trans (Le.trans (Le.trans (Le.trans (Le.trans h1 h2) h3) I4.1) h6) h8) h25) h27) h29) h31) (fun sR hS2 => ?_)
         refine ⟨rfl, ?_⟩
         exact ⟨⟨false, _, _, _, _, _⟩, rfl, rl_bad hbad rfl (by first | exact u32z | exact u32_getD _ | exact hux2)⟩
        ·
         obtain ⟨u2, hnu2⟩ := Option.isSome_iff_exists.1 (show (numL (w.drop (i2 + 1))).isSome = true by simpa using c32)
         have hux2 := u32_getD (w.drop (i2 + 1))
         rw [hnu2] at hux2 ⊢
         refine JC_skip ?_
         refine thenQ_n ?_
         refine JC_seq ?_
         refine JC_region ?_
         refine JO_q (QE_faB rfl rfl rfl rfl) rfl ?_
         refine JO_q (QE_ld1 0 rfl rfl rfl rfl rfl) rfl ?_
         refine JO_call (first := []) (captured := []) rfl rfl rfl (isLabel_ac D _ _ _ (by first | omega | (simp; omega))) ?_
         rintro _ _ s33 h33 ⟨rfl, rfl⟩
         refine JO_q (QE_not rfl) rfl ?_
         refine JO_nil ?_
         refine thenQ_n ?_
         refine JC_ifM rfl (fun c34 => ?_) (fun c34 => ?_)
         ·
          have hbad : lineL l = none := rl_no2 hB hlo (by rw [opd_plus hnn hcut2, if_neg (by rw [show labelB (w.take i2) = false by simpa using c34]; decide)])
          refine JC_seq ?_
          refine JC_region ?_
          refine JO_q (QE_ldA 0 [_, _, _, _, _, _] rfl rfl rfl rfl rfl) rfl ?_
          refine JO_st 1 [_, _, _, _, _, _] rfl rfl rfl rfl rfl rfl rfl rfl rfl ?_
          refine JO_nil ?_
          refine thenQ_n ?_
          refine JC_ret ?_
          refine thenQ_r ?_
          refine retQ_mk [_, _] L (.inr rfl) (.agg (us := [_, _, _, _, _, _]) 1 rfl rfl rfl rfl rfl (.nil)) rfl (Le.trans (Le.trans (Le.trans (Le.trans (Le.trans (Le.trans (Le.trans (Le.trans (Le.trans (Le.trans h1 h2) h3) I4.1) h6) h8) h25) h27) h29) h31) h33) (fun sR hS2 => ?_)
          refine ⟨rfl, ?_⟩
          exact ⟨⟨false, _, _, _, _, _⟩, rfl, rl_bad hbad rfl (by first | exact u32z | exact u32_getD _ | exact hux2)⟩
         ·
          have hop : opdL w = some (w.take i2, (u2 : Int)) := by rw [opd_plus hnn hcut2, if_pos (show labelB (w.take i2) = true by simpa using c34), hnu2]; rfl
          have hux : U32 (w.take i2, (u2 : Int)).2 := hux2
          refine JC_skip ?_
          refine thenQ_n ?_
          refine JC_seq ?_
          refine JC_region ?_
          refine JO_q (QE_mv rfl) rfl ?_
          refine JO_q (QE_mv rfl) rfl ?_
          refine JO_q (QE_lenS rfl rfl rfl) rfl ?_
          refine JO_q (QE_eq rfl rfl) rfl ?_
          refine JO_q (QE_fa0 rfl rfl rfl rfl) rfl ?_
          refine JO_st 0 [_, _, _, _, _, _] rfl rfl rfl rfl rfl rfl rfl rfl rfl ?_
          refine JO_nil ?_
          refine thenQ_n ?_
          refine JC_seq ?_
          refine JC_region ?_
          refine JO_q (QE_ldA 0 [_, _, _, _, _, _] rfl rfl rfl rfl rfl) rfl ?_
          refine JO_st 1 [_, _, _, _, _, _] rfl rfl rfl rfl rfl rfl rfl rfl rfl ?_
          refine JO_nil ?_
          refine thenQ_n ?_
          refine JC_ret ?_
          refine retQ_mk [_, _] L (.inr rfl) (.agg (us := [_, _, _, _, _, _]) 1 rfl rfl rfl rfl rfl (.nil)) rfl (Le.trans (Le.trans (Le.trans (Le.trans (Le.trans (Le.trans (Le.trans (Le.trans (Le.trans (Le.trans h1 h2) h3) I4.1) h6) h8) h25) h27) h29) h31) h33) (fun sR hS2 => ?_)
          refine ⟨rfl, ?_⟩
          exact ⟨⟨_, _, o, true, _, _⟩, rfl, rl_two hB hlo hop hux (by have h9 := hn; simp only [List.length_nil, List.length_cons] at h9; omega)⟩
       ·
        obtain ⟨hneg, hcut2⟩ | ⟨i2, hi2, _, _⟩ := cut43 w
        rotate_left
        · exact absurd c30 (by omega)
        refine JC_skip ?_
        refine thenQ_n ?_
        refine JC_seq ?_
        refine JC_region ?_
        refine JO_q (QE_faB rfl rfl rfl rfl) rfl ?_
        refine JO_q (QE_ld1 0 rfl rfl rfl rfl rfl) rfl ?_
        refine JO_call (first := []) (captured := []) rfl rfl rfl (isLabel_ac D _ _ _ (by first | omega | (simp; omega))) ?_
        rintro _ _ s35 h35 ⟨rfl, rfl⟩
        refine JO_q (QE_not rfl) rfl ?_
        refine JO_nil ?_
        refine thenQ_n ?_
        refine JC_ifM rfl (fun c36 => ?_) (fun c36 => ?_)
        ·
         have hbad : lineL l = none := rl_no2 hB hlo (by rw [opd_name hnn hcut2, if_neg (by rw [show labelB w = false by simpa using c36]; decide)])
         refine JC_seq ?_
         refine JC_region ?_
         refine JO_q (QE_ldA 0 [_, _, _, _, _, _] rfl rfl rfl rfl rfl) rfl ?_
         refine JO_st 1 [_, _, _, _, _, _] rfl rfl rfl rfl rfl rfl rfl rfl rfl ?_
         refine JO_nil ?_
         refine thenQ_n ?_
         refine JC_ret ?_
         refine thenQ_r ?_
         refine retQ_mk [_, _] L (.inr rfl) (.agg (us := [_, _, _, _, _, _]) 1 rfl rfl rfl rfl rfl (.nil)) rfl (Le.trans (Le.trans (Le.trans (Le.trans (Le.trans (Le.trans (Le.trans (Le.trans (Le.trans h1 h2) h3) I4.1) h6) h8) h25) h27) h29) h35) (fun sR hS2 => ?_)
         refine ⟨rfl, ?_⟩
         exact ⟨⟨false, _, _, _, _, _⟩, rfl, rl_bad hbad rfl (by first | exact u32z | exact u32_getD _ | exact hux2)⟩
        ·
         have hop : opdL w = some (w, 0) := by rw [opd_name hnn hcut2, if_pos (show labelB w = true by simpa using c36)]
         have hux : U32 (w, (0 : Int)).2 := u32z
         refine JC_skip ?_
         refine thenQ_n ?_
         refine JC_seq ?_
         refine JC_region ?_
         refine JO_q (QE_mv rfl) rfl ?_
         refine JO_q (QE_mv rfl) rfl ?_
         refine JO_q (QE_lenS rfl rfl rfl) rfl ?_
         refine JO_q (QE_eq rfl rfl) rfl ?_
         refine JO_q (QE_fa0 rfl rfl rfl rfl) rfl ?_
         refine JO_st 0 [_, _, _, _, _, _] rfl rfl rfl rfl rfl rfl rfl rfl rfl ?_
         refine JO_nil ?_
         refine thenQ_n ?_
         refine JC_seq ?_
         refine JC_region ?_
         refine JO_q (QE_ldA 0 [_, _, _, _, _, _] rfl rfl rfl rfl rfl) rfl ?_
         refine JO_st 1 [_, _, _, _, _, _] rfl rfl rfl rfl rfl rfl rfl rfl rfl ?_
         refine JO_nil ?_
         refine thenQ_n ?_
         refine JC_ret ?_
         refine retQ_mk [_, _] L (.inr rfl) (.agg (us := [_, _, _, _, _, _]) 1 rfl rfl rfl rfl rfl (.nil)) rfl (Le.trans (Le.trans (Le.trans (Le.trans (Le.trans (Le.trans (Le.trans (Le.trans (Le.trans h1 h2) h3) I4.1) h6) h8) h25) h27) h29) h35) (fun sR hS2 => ?_)
         refine ⟨rfl, ?_⟩
         exact ⟨⟨_, _, o, true, _, _⟩, rfl, rl_two hB hlo hop hux (by have h9 := hn; simp only [List.length_nil, List.length_cons] at h9; omega)⟩
      ·
       obtain ⟨u, hnu⟩ := Option.isSome_iff_exists.1 (show (numL w).isSome = true by simpa using c28)
       have hop := opd_num hnu
       have hux : U32 (([] : List UInt8), (u : Int)).2 := by have := u32_getD w; rw [hnu] at this; exact this
       rw [hnu]
       refine JC_skip ?_
       refine thenQ_n ?_
       refine JC_seq ?_
       refine JC_region ?_
       refine JO_q (QE_mv rfl) rfl ?_
       refine JO_q (QE_mv rfl) rfl ?_
       refine JO_q (QE_lenS rfl rfl rfl) rfl ?_
       refine JO_q (QE_eq rfl rfl) rfl ?_
       refine JO_q (QE_fa0 rfl rfl rfl rfl) rfl ?_
       refine JO_st 0 [_, _, _, _, _, _] rfl rfl rfl rfl rfl rfl rfl rfl rfl ?_
       refine JO_nil ?_
       refine thenQ_n ?_
       refine JC_seq ?_
       refine JC_region ?_
       refine JO_q (QE_ldA 0 [_, _, _, _, _, _] rfl rfl rfl rfl rfl) rfl ?_
       refine JO_st 1 [_, _, _, _, _, _] rfl rfl rfl rfl rfl rfl rfl rfl rfl ?_
       refine JO_nil ?_
       refine thenQ_n ?_
       refine JC_ret ?_
       refine retQ_mk [_, _] L (.inr rfl) (.agg (us := [_, _, _, _, _, _]) 1 rfl rfl rfl rfl rfl (.nil)) rfl (Le.trans (Le.trans (Le.trans (Le.trans (Le.trans (Le.trans (Le.trans h1 h2) h3) I4.1) h6) h8) h25) h27) (fun sR hS2 => ?_)
       refine ⟨rfl, ?_⟩
       exact ⟨⟨_, _, o, true, _, _⟩, rfl, rl_two hB hlo hop hux (by have h9 := hn; simp only [List.length_nil, List.length_cons] at h9; omega)⟩
end Go.Proofs.YteomcjpigoaioaaGreatDoor
namespace Go.Proofs.YteomcjpigoaioaaGreatDoor
open Go Go.FL Go.RowKit
def rlc (l : List RL) : List Value := (l.map RL.cs).flatten
theorem rlc_snoc (l : List RL) (r : RL) : rlc (l ++ [r]) = rlc l ++ r.cs := by simp [rlc]
theorem Own.rls {e : Nat} {A : Hl} {Ad : Option Addr} {n c : Nat} {l : List RL} {s : World} (h : Own e 6 A (.slice Ad n c) n (rlc l)) (hu : ∀ x ∈ l, U32 x.num) (hp : Pub A s) (hn : n = l.length) : Rls s Ad n c l :=
  Own.rows (R := fun _ (x : RL) cs => cs = x.cs ∧ U32 x.num) h hp (all2_map RL.cs l fun x hx => ⟨rfl, rfl, hu x hx⟩) hn
theorem Rls.at_ {s : World} {A : Option Addr} {n c k : Nat} {l : List RL} (h : Rls s A n c l) (hk : k < n) : ∃ b off x, A = some ⟨b, off, none⟩ ∧ l[k]? = some x ∧ CellsAt s b (off + k * 6) [.bool x.ok, St x.label, St x.op, .bool x.given, St x.name, .int .u32 x.num] ∧ U32 x.num := by
  have hx : k < l.length := by rw [← h.1]; exact hk
  obtain ⟨b, off, cs, h1, h2, h3, h4, h5⟩ := h.2.2.2 k l[k] (List.getElem?_eq_getElem hx)
  exact ⟨b, off, l[k], h1, List.getElem?_eq_getElem hx, by rw [show [.bool l[k].ok, St l[k].label, St l[k].op, .bool l[k].given, St l[k].name, .int .u32 l[k].num] = cs from h4.symm]; exact h2, h5⟩
def RLs (ls : List (List UInt8)) (rs : List RL) : Prop := rs.length = ls.length ∧ ∀ (i : Nat) l r, ls[i]? = some l → rs[i]? = some r → RLok l r
def RLk (ls : List (List UInt8)) (rs : List RL) : Prop := rs.length ≤ ls.length ∧ ∀ (i : Nat) l r, ls[i]? = some l → rs[i]? = some r → RLok l r
theorem RLk.nil (ls : List (List UInt8)) : RLk ls [] := ⟨Nat.zero_le _, fun i l r _ h => by cases h⟩
theorem RLk.snoc {ls : List (List UInt8)} {rs : List RL} {l : List UInt8} {r : RL} (h : RLk ls rs) (hl : ls[rs.length]? = some l) (hr : RLok l r) : RLk ls (rs ++ [r]) := by
  refine ⟨by simp; have := (List.getElem?_eq_some_iff.1 hl).1; omega, fun i x y hx hy => ?_⟩
  by_cases hi : i < rs.length
  · rw [List.getElem?_append_left hi] at hy; exact h.2 i x y hx hy
  · have hi2 : i = rs.length := by
      have := (List.getElem?_eq_some_iff.1 hy).1
      simp at this; omega
    subst hi2
    rw [hl] at hx
    injection hx with hx
    subst hx
    rw [List.getElem?_append_right (Nat.le_refl _)] at hy
    simp at hy
    subst hy
    exact hr
theorem RLk.u32 {ls : List (List UInt8)} {rs : List RL} (h : RLk ls rs) : ∀ r ∈ rs, U32 r.num := fun r hr => by
  obtain ⟨i, hi⟩ := List.mem_iff_getElem?.1 hr
  have hlt := (List.getElem?_eq_some_iff.1 hi).1
  have hl : i < ls.length := by have := h.1; omega
  exact (h.2 i ls[i] r (List.getElem?_eq_getElem hl) hi).2
def labF : Int → List RL → List (List UInt8 × Int)
  | _, [] => []
  | sz, r :: rs => if r.label = [] then labF (sz + szL r) rs else (r.label, w32 sz) :: labF (sz + szL r) rs
theorem labF_at {rs : List RL} {k : Nat} {r : RL} (h : rs[k]? = some r) (sz : Int) : labF sz (rs.drop k) = if r.label = [] then labF (sz + szL r) (rs.drop (k + 1)) else (r.label, w32 sz) :: labF (sz + szL r) (rs.drop (k + 1)) := by
  obtain ⟨hk, rfl⟩ := List.getElem?_eq_some_iff.1 h
  rw [List.drop_eq_getElem_cons hk, labF]
theorem szL_bound {r : RL} (h : U32 r.num) : 0 ≤ szL r ∧ szL r ≤ 4294967296 := by
  have h1 := h.1
  have h2 := h.2
  unfold szL
  repeat' split
  all_goals omega
end Go.Proofs.YteomcjpigoaioaaGreatDoor
namespace Go.Proofs.YteomcjpigoaioaaGreatDoor
open Go.FL
attribute [local irreducible] JC JO JA JB thenQ blockQ retQ AC fill CellsAt QE Ev Mid
set_option maxHeartbeats 1000000 in
set_option maxRecDepth 100000 in
theorem linesO_ac (D : Nat) (L : Hl) (s : World) (tx : List UInt8) (htx : tx.length ≤ 400000) : AC Tryz.prog D 19 [St tx] L s fun v L' s' => ∃ M', L' = M' ++ L ∧ ∀ s2, Le D s' s2 → Pub M' s2 → ∃ A n c rs, v = .slice A n c ∧ Rls s2 A n c rs ∧ RLs (splitB 10 tx) rs := by
 refine AC_enter (TT := TT) (fn := Tryz.f19) TT_ok Tryz.func19 (by kernel_rfl) rfl Tryz.ntmps19 rfl (rs := [.tmp 2]) rfl [(0, _)] rfl ?_
 refine JC_seq ?_
 refine JC_region ?_
 refine JO_q (QE_as rfl) rfl ?_
 refine JO_nil ?_
 refine thenQ_n ?_
 refine JC_seq ?_
 refine JC_region ?_
 refine JO_q (QE_mv rfl) rfl ?_
 refine JO_call (first := []) (captured := []) rfl rfl rfl (split_ac D _ _ tx 10 (by omega)) ?_
 rintro _ _ s1 h1 ⟨rfl, As, ns, cs, rfl, hSs⟩
 have hns := hSs.1
 have hnl := splitF_len 10 [] tx
 have hns2 : ns = (splitF 10 [] tx).length := hns
 refine JO_q (QE_as rfl) rfl ?_
 refine JO_nil ?_
 refine thenQ_n ?_
 refine JC_seq ?_
 refine JC_region ?_
 refine JO_q (QE_as rfl) rfl ?_
 refine JO_nil ?_
 refine thenQ_n ?_
 refine JC_seq ?_
 refine JC_seq ?_
 refine JC_region ?_
 refine JO_q (QE_as rfl) rfl ?_
 refine JO_nil ?_
 refine thenQ_n ?_
 refine JC_block ?_
 refine JC_loop (γ := Nat × Value × Hl × List RL) (fun g => [(2, .slice none 0 0), (3, _), (4, g.2.1), (5, .int .i64 (g.1 : Int))]) (fun g => g.2.2.1 ++ L) (fun g tw => Le D s1 tw ∧ (g.1 ≤ ns ∧ Own 90 6 g.2.2.1 g.2.1 g.2.2.2.length (rlc g.2.2.2) ∧ g.2.2.2.length = g.1 ∧ RLk (splitB 10 tx) g.2.2.2)) (fun g => ns - g.1) (fun _ _ _ h hl => ⟨h.1.trans hl, h.2⟩) (0, .slice none 0 0, [], []) (Keeps.cons rfl (Keeps.cons rfl (Keeps.cons rfl (Keeps.cons rfl (Keeps.nil _))))) rfl ⟨Le.refl _, ⟨Nat.zero_le _, Own.nil, rfl, RLk.nil _⟩⟩ ?_
 intro g s2 I2
 obtain ⟨k, vo, Mo, out⟩ := g
 obtain ⟨hk0, hO, hol, hS⟩ := I2.2
 simp only at hk0 hO hol hS
 dsimp only
 refine JC_seq ?_
 refine JC_seq ?_
 refine JC_region ?_
 refine JO_q (QE_mv rfl) rfl ?_
 refine JO_q (QE_mv rfl) rfl ?_
 refine JO_q (QE_lenS rfl rfl rfl) rfl ?_
 refine JO_q (QE_lt rfl rfl) rfl ?_
 refine JO_nil ?_
 refine thenQ_n ?_
 refine JC_ifD rfl (fun c3 => ?_) (fun c3 => ?_)
 ·
  have hk : k < ns := by omega
  obtain ⟨b, off, x, rfl, hx, hcx, hxl⟩ := Strs.at_ (hSs.le I2.1) hk
  have hxs := splitF_short 10 [] tx x (List.mem_of_getElem? hx)
  simp only [List.length_nil] at hxs
  refine JC_skip ?_
  refine thenQ_n ?_
  refine JC_seq ?_
  refine JC_block ?_
  refine JC_region ?_
  refine JO_q (QE_mv rfl) rfl ?_
  refine JO_q (QE_mv rfl) rfl ?_
  refine JO_q (QE_mv rfl) rfl ?_
  refine JO_q (QE_ia1 rfl rfl rfl rfl rfl rfl hk) rfl ?_
  refine JO_q (QE_ldsR0 rfl rfl rfl (hcx.le (Le.refl (D := D) _)) rfl) rfl ?_
  refine JO_call (first := []) (captured := []) rfl rfl rfl (lineOf_ac D _ _ x (by omega)) ?_
  rintro _ _ s4 h4 ⟨rfl, r, rfl, hr⟩
  refine JO_bs [(_, _)] [_, _, _, _, _, _] rfl rfl rfl rfl rfl rfl rfl rfl rfl ?_
  intro βn s5 h5 hcb
  refine JO_app (sz := 6) [] Mo L rfl rfl rfl rfl rfl rfl rfl hO (Row.of_cells (hcb.le (Le.refl (D := D) _)) rfl rfl) ⟨by simp [ti90]; omega, by omega⟩ rfl ?_
  intro v2 A2x s6 h6 o2
  obtain ⟨Av2, cv2, rfl, _, _⟩ := Own.slice o2
  simp only [List.nil_append]
  refine JO_q (QE_as rfl) rfl ?_
  refine JO_nil ?_
  refine blockQ_n ?_
  refine thenQ_n ?_
  refine JC_region ?_
  refine JO_q (QE_mv rfl) rfl ?_
  refine JO_q (QE_add' rfl rfl (w64 (by omega) (by omega))) rfl ?_
  refine JO_q (QE_as rfl) rfl ?_
  refine JO_nil ?_
  refine thenQ_n ⟨(k + 1, .slice Av2 (out.length + 1) cv2, A2x, out ++ [r]), [], (Keeps.cons rfl (Keeps.cons rfl (Keeps.cons rfl (Keeps.cons rfl (Keeps.nil _))))), rfl, ⟨(Le.trans (Le.trans (Le.trans I2.1 h4) h5) h6), ⟨by simp only; omega, by simp only [List.length_append, List.length_cons, List.length_nil, rlc_snoc]; exact o2, by simp only [List.length_append, List.length_cons, List.length_nil]; omega, hS.snoc (by rw [hol]; exact hx) hr⟩⟩, (by simp only; omega)⟩
 ·
  obtain ⟨Ao, co, rfl, _, _⟩ := Own.slice hO
  refine JC_exit ?_
  refine thenQ_x ?_
  refine thenQ_x ?_
  refine blockQ_x ?_
  refine thenQ_n ?_
  refine JC_seq ?_
  refine JC_region ?_
  refine JO_q (QE_mv rfl) rfl ?_
  refine JO_q (QE_as rfl) rfl ?_
  refine JO_nil ?_
  refine thenQ_n ?_
  refine JC_ret ?_
  refine retQ_mk [] _ (.inr rfl) (.tmp rfl (.nil)) rfl (Le.trans h1 I2.1) (fun sR hS2 => ?_)
  exact ⟨Mo, rfl, fun s2 hs2 hp => ⟨Ao, out.length, co, out, rfl, Own.rls hO hS.u32 hp rfl, by omega, hS.2⟩⟩
theorem lines_ac (D : Nat) (L : Hl) (s : World) (tx : List UInt8) (htx : tx.length ≤ 400000) : AC Tryz.prog D 19 [St tx] L s fun v L' s' => L = L' ∧ ∃ A n c rs, v = .slice A n c ∧ Rls s' A n c rs ∧ RLs (splitB 10 tx) rs := AC.pubW (linesO_ac D L s tx htx)
set_option maxHeartbeats 1000000 in
set_option maxRecDepth 100000 in
theorem labelsOfO_ac (D : Nat) (L : Hl) (s : World) (t : Tab) (A : Option Addr) (n c : Nat) (hA : Inss s A n c t.ins) (A1 : Option Addr) (n1 c1 : Nat) (rs : List RL) (hR : Rls s A1 n1 c1 rs) (hlen : rs.length ≤ 400001) : AC Tryz.prog D 18 [.agg #[.int .i64 t.cells, .slice A n c], .slice A1 n1 c1] L s fun v L' s' => ∃ M', L' = M' ++ L ∧ ∀ s2, Le D s' s2 → Pub M' s2 → ∃ A2 n2 c2, v = .slice A2 n2 c2 ∧ Labs s2 A2 n2 c2 (labF 0 rs) := by
 have hn1 := hR.1
 refine AC_enter (TT := TT) (fn := Tryz.f18) TT_ok Tryz.func18 (by kernel_rfl) rfl Tryz.ntmps18 rfl (rs := [.tmp 4]) rfl [(0, _), (1, _)] rfl ?_
 refine JC_seq ?_
 refine JC_region ?_
 refine JO_boxA rfl rfl ?_
 intro β1 s1 h1
 refine JO_q (QE_as rfl) rfl ?_
 refine JO_nil ?_
 refine thenQ_n ?_
 refine JC_seq ?_
 refine JC_region ?_
 refine JO_q (QE_as rfl) rfl ?_
 refine JO_nil ?_
 refine thenQ_n ?_
 refine JC_seq ?_
 refine JC_region ?_
 refine JO_q (QE_as rfl) rfl ?_
 refine JO_nil ?_
 refine thenQ_n ?_
 refine JC_seq ?_
 refine JC_seq ?_
 refine JC_region ?_
 refine JO_q (QE_as rfl) rfl ?_
 refine JO_nil ?_
 refine thenQ_n ?_
 refine JC_block ?_
 refine JC_loop (γ := Nat × Int × Value × Hl × List (List UInt8 × Int)) (fun g => [(1, _), (2, _), (4, .slice none 0 0), (5, g.2.2.1), (6, .int .i64 g.2.1), (7, .int .i64 (g.1 : Int))]) (fun g => (β1, cb [.int .i64 t.cells, .slice A n c] 24) :: (g.2.2.2.1 ++ L)) (fun g tw => Le D s1 tw ∧ (g.1 ≤ n1 ∧ (0 ≤ g.2.1 ∧ g.2.1 ≤ (g.1 : Int) * 4294967296) ∧ Own 94 2 g.2.2.2.1 g.2.2.1 g.2.2.2.2.length (lbv g.2.2.2.2) ∧ (g.2.2.2.2.length ≤ g.1 ∧ ∀ x ∈ g.2.2.2.2, U32 x.2) ∧ labF 0 rs = g.2.2.2.2 ++ labF g.2.1 (rs.drop g.1))) (fun g => n1 - g.1) (fun _ _ _ h hl => ⟨h.1.trans hl, h.2⟩) (0, 0, .slice none 0 0, [], []) (Keeps.cons rfl (Keeps.cons rfl (Keeps.cons rfl (Keeps.cons rfl (Keeps.cons rfl (Keeps.cons rfl (Keeps.nil _))))))) rfl ⟨Le.refl _, ⟨Nat.zero_le _, ⟨by simp, by simp⟩, Own.nil, ⟨Nat.le_refl _, fun _ h => by cases h⟩, rfl⟩⟩ ?_
 intro g s2 I2
 obtain ⟨k, sz, vo, Mo, out⟩ := g
 obtain ⟨hk0, hsz0, hO, hol, hS⟩ := I2.2
 simp only at hk0 hsz0 hO hol hS
 obtain ⟨hz1, hz2⟩ := hsz0
 obtain ⟨hol, huo⟩ := hol
 dsimp only
 refine JC_seq ?_
 refine JC_seq ?_
 refine JC_region ?_
 refine JO_q (QE_mv rfl) rfl ?_
 refine JO_q (QE_mv rfl) rfl ?_
 refine JO_q (QE_lenS rfl rfl rfl) rfl ?_
 refine JO_q (QE_lt rfl rfl) rfl ?_
 refine JO_nil ?_
 refine thenQ_n ?_
 refine JC_ifD rfl (fun c3 => ?_) (fun c3 => ?_)
 ·
  have hk : k < n1 := by omega
  obtain ⟨b, off, r, rfl, hx, hcx, hux⟩ := Rls.at_ (hR.le (Le.trans h1 I2.1)) hk
  have hsz := szL_bound hux
  refine JC_skip ?_
  refine thenQ_n ?_
  refine JC_seq ?_
  refine JC_block ?_
  refine JC_seq ?_
  refine JC_seq ?_
  refine JC_region ?_
  refine JO_q (QE_mv rfl) rfl ?_
  refine JO_q (QE_mv rfl) rfl ?_
  refine JO_q (QE_iaN rfl rfl rfl rfl rfl rfl hk) rfl ?_
  refine JO_q (QE_fa rfl rfl rfl rfl) rfl ?_
  refine JO_q (QE_ldsR 1 rfl rfl rfl (hcx.le (Le.refl (D := D) _)) rfl) rfl ?_
  refine JO_q (QE_sne rfl rfl) rfl ?_
  refine JO_nil ?_
  refine thenQ_n ?_
  refine JC_ifN rfl (fun c4 => ?_) (fun c4 => ?_)
  ·
   have hne := c4
   refine JC_region ?_
   refine JO_q (QE_mv rfl) rfl ?_
   refine JO_q (QE_mv rfl) rfl ?_
   refine JO_q (QE_mv rfl) rfl ?_
   refine JO_q (QE_iaN rfl rfl rfl rfl rfl rfl hk) rfl ?_
   refine JO_q (QE_fa rfl rfl rfl rfl) rfl ?_
   refine JO_q (QE_ldsR 1 rfl rfl rfl (hcx.le (Le.refl (D := D) _)) rfl) rfl ?_
   refine JO_q (QE_mv rfl) rfl ?_
   refine JO_q (QE_cast (QE_conv rfl rfl rfl rfl rfl) (congrArg (Value.int .u32) (wrapW sz))) rfl ?_
   refine JO_q (QE_build [(_, _), (_, _)] [_, _] rfl rfl rfl rfl rfl rfl) rfl ?_
   refine JO_bs [(_, _)] [_, _] rfl rfl rfl rfl rfl rfl rfl rfl rfl ?_
   intro βn s5 h5 hcb
   refine JO_app (sz := 2) [_] Mo L rfl rfl rfl rfl rfl rfl rfl hO (Row.of_cells (hcb.le (Le.refl (D := D) _)) rfl rfl) ⟨by simp [ti94]; omega, by omega⟩ rfl ?_
   intro v2 A2x s6 h6 o2
   obtain ⟨Av2, cv2, rfl, _, _⟩ := Own.slice o2
   simp only [List.cons_append, List.nil_append]
   refine JO_q (QE_as rfl) rfl ?_
   refine JO_nil ?_
   refine thenQ_n ?_
   refine JC_draw drawsMixed 9 rfl _ (fun _ h => h) ?_
   intro s7 h7
   refine JA_q 0 rfl (by kernel_rfl) (by kernel_rfl) (by kernel_rfl) trivial (QE_mv rfl) rfl ?_
   refine JA_q 1 rfl (by kernel_rfl) (by kernel_rfl) (by kernel_rfl) trivial (QE_ldA 0 [_, _] rfl rfl rfl rfl rfl) rfl ?_
   refine JA_q 2 rfl (by kernel_rfl) (by kernel_rfl) (by kernel_rfl) trivial (QE_mv rfl) rfl ?_
   refine JA_q 3 rfl (by kernel_rfl) (by kernel_rfl) (by kernel_rfl) trivial (QE_mv rfl) rfl ?_
   refine JA_q 4 rfl (by kernel_rfl) (by kernel_rfl) (by kernel_rfl) trivial (QE_iaN rfl rfl rfl rfl rfl rfl hk) rfl ?_
   refine JA_q 5 rfl (by kernel_rfl) (by kernel_rfl) (by kernel_rfl) trivial (QE_ldsA rfl rfl rfl (hcx.le (Le.trans (Le.trans h5 h6) h7)) rfl) rfl ?_
   refine JA_1 6 (by kernel_rfl) ?_
   refine JB_call rfl trivial (first := []) (captured := []) rfl rfl rfl (sizeOf_ac D _ _ t _ _ _ (hA.le (Le.trans (Le.trans (Le.trans (Le.trans h1 I2.1) h5) h6) h7)) r hux) ?_
   rintro _ _ s8 h8 ⟨rfl, rfl⟩
   refine ⟨fun _ _ h => h, ?_⟩
   refine JA_q 7 rfl (by kernel_rfl) (by kernel_rfl) (by kernel_rfl) trivial (QE_add' rfl rfl (w64 (by omega) (by omega))) rfl ?_
   refine JA_q 8 rfl (by kernel_rfl) (by kernel_rfl) (by kernel_rfl) trivial (QE_as rfl) rfl ?_
   refine JA_done (by kernel_rfl) ?_
   refine blockQ_n ?_
   refine thenQ_n ?_
   refine JC_region ?_
   refine JO_q (QE_mv rfl) rfl ?_
   refine JO_q (QE_add' rfl rfl (w64 (by omega) (by omega))) rfl ?_
   refine JO_q (QE_as rfl) rfl ?_
   refine JO_nil ?_
   refine thenQ_n ⟨(k + 1, sz + szL r, .slice Av2 (out.length + 1) cv2, A2x, out ++ [(r.label, w32 sz)]), [], (Keeps.cons rfl (Keeps.cons rfl (Keeps.cons rfl (Keeps.cons rfl (Keeps.cons rfl (Keeps.cons rfl (Keeps.nil _))))))), rfl, ⟨(Le.trans (Le.trans (Le.trans (Le.trans I2.1 h5) h6) h7) h8), by first | exact ⟨by simp only; omega, ⟨by simp only; omega, by simp only; omega⟩, by simp only [List.length_append, List.length_cons, List.length_nil, lbv_snoc]; exact o2, ⟨by simp only [List.length_append, List.length_cons, List.length_nil]; omega, fun x hx9 => (List.mem_append.1 hx9).elim (huo x) (fun h9 => by rw [List.mem_singleton.1 h9]; exact w32_u sz)⟩, by simp only; rw [hS, labF_at hx, if_neg hne, List.append_assoc]; rfl⟩ | exact ⟨by simp only; omega, ⟨by simp only; omega, by simp only; omega⟩, hO, ⟨by simp only; omega, huo⟩, by simp only; rw [hS, labF_at hx, if_pos hne]⟩⟩, (by simp only; omega)⟩
  ·
   have hne := c4
   refine JC_skip ?_
   refine thenQ_n ?_
   refine JC_draw drawsMixed 9 rfl _ (fun _ h => h) ?_
   intro s9 h9
   refine JA_q 0 rfl (by kernel_rfl) (by kernel_rfl) (by kernel_rfl) trivial (QE_mv rfl) rfl ?_
   refine JA_q 1 rfl (by kernel_rfl) (by kernel_rfl) (by kernel_rfl) trivial (QE_ldA 0 [_, _] rfl rfl rfl rfl rfl) rfl ?_
   refine JA_q 2 rfl (by kernel_rfl) (by kernel_rfl) (by kernel_rfl) trivial (QE_mv rfl) rfl ?_
   refine JA_q 3 rfl (by kernel_rfl) (by kernel_rfl) (by kernel_rfl) trivial (QE_mv rfl) rfl ?_
   refine JA_q 4 rfl (by kernel_rfl) (by kernel_rfl) (by kernel_rfl) trivial (QE_iaN rfl rfl rfl rfl rfl rfl hk) rfl ?_
   refine JA_q 5 rfl (by kernel_rfl) (by kernel_rfl) (by kernel_rfl) trivial (QE_ldsA rfl rfl rfl (hcx.le h9) rfl) rfl ?_
   refine JA_1 6 (by kernel_rfl) ?_
   refine JB_call rfl trivial (first := []) (captured := []) rfl rfl rfl (sizeOf_ac D _ _ t _ _ _ (hA.le (Le.trans (Le.trans h1 I2.1) h9)) r hux) ?_
   rintro _ _ s10 h10 ⟨rfl, rfl⟩
   refine ⟨fun _ _ h => h, ?_⟩
   refine JA_q 7 rfl (by kernel_rfl) (by kernel_rfl) (by kernel_rfl) trivial (QE_add' rfl rfl (w64 (by omega) (by omega))) rfl ?_
   refine JA_q 8 rfl (by kernel_rfl) (by kernel_rfl) (by kernel_rfl) trivial (QE_as rfl) rfl ?_
   refine JA_done (by kernel_rfl) ?_
   refine blockQ_n ?_
   refine thenQ_n ?_
   refine JC_region ?_
   refine JO_q (QE_mv rfl) rfl ?_
   refine JO_q (QE_add' rfl rfl (w64 (by omega) (by omega))) rfl ?_
   refine JO_q (QE_as rfl) rfl ?_
   refine JO_nil ?_
   refine thenQ_n ⟨(k + 1, sz + szL r, vo, Mo, out), [], (Keeps.cons rfl (Keeps.cons rfl (Keeps.cons rfl (Keeps.cons rfl (Keeps.cons rfl (Keeps.cons rfl (Keeps.nil _))))))), rfl, ⟨(Le.trans (Le.trans I2.1 h9) h10), by first | exact ⟨by simp only; omega, ⟨by simp only; omega, by simp only; omega⟩, by simp only [List.length_append, List.length_cons, List.length_nil, lbv_snoc]; exact o2, ⟨by simp only [List.length_append, List.length_cons, List.length_nil]; omega, fun x hx9 => (List.mem_append.1 hx9).elim (huo x) (fun h9 => by rw [List.mem_singleton.1 h9]; exact w32_u sz)⟩, by simp only; rw [hS, labF_at hx, if_neg hne, List.append_assoc]; rfl⟩ | exact ⟨by simp only; omega, ⟨by simp only; omega, by simp only; omega⟩, hO, ⟨by simp only; omega, huo⟩, by simp only; rw [hS, labF_at hx, if_pos hne]⟩⟩, (by simp only; omega)⟩
 ·
  rw [List.drop_eq_nil_of_le (by omega), labF, List.append_nil] at hS
  obtain ⟨Ao, co, rfl, _, _⟩ := Own.slice hO
  refine JC_exit ?_
  refine thenQ_x ?_
  refine thenQ_x ?_
  refine blockQ_x ?_
  refine thenQ_n ?_
  refine JC_seq ?_
  refine JC_region ?_
  refine JO_q (QE_mv rfl) rfl ?_
  refine JO_q (QE_as rfl) rfl ?_
  refine JO_nil ?_
  refine thenQ_n ?_
  refine JC_ret ?_
  refine retQ_mk [_] _ (.inr rfl) (.tmp rfl (.nil)) rfl (Le.trans h1 I2.1) (fun sR hS2 => ?_)
  refine ⟨Mo, rfl, fun s2 hs2 hp => ⟨Ao, out.length, co, rfl, ?_⟩⟩
  rw [hS]
  exact Own.labs hO huo hp rfl
theorem labelsOf_ac (D : Nat) (L : Hl) (s : World) (t : Tab) (A : Option Addr) (n c : Nat) (hA : Inss s A n c t.ins) (A1 : Option Addr) (n1 c1 : Nat) (rs : List RL) (hR : Rls s A1 n1 c1 rs) (hlen : rs.length ≤ 400001) : AC Tryz.prog D 18 [.agg #[.int .i64 t.cells, .slice A n c], .slice A1 n1 c1] L s fun v L' s' => L = L' ∧ ∃ A2 n2 c2, v = .slice A2 n2 c2 ∧ Labs s' A2 n2 c2 (labF 0 rs) := AC.pubW (labelsOfO_ac D L s t A n c hA A1 n1 c1 rs hR hlen)
end Go.Proofs.YteomcjpigoaioaaGreatDoor
namespace Go.Proofs.YteomcjpigoaioaaGreatDoor
open Go Go.FL Go.RowKit
def lcR (t : Tab) (prev : List RL) (sz : Int) (r : RL) : Int :=
  if r.ok = false then 1 else if r.label ≠ [] ∧ prev.any (fun x => decide (x.label = r.label)) = true then 8
  else if r.op = [] then 0
  else if (findN t.ins r.op).isSome = false ∧ isOwn r.op = false then 12
  else if r.given ≠ (isOwn r.op || opOf t r.op) then 9
  else if r.op = spaceB ∧ r.name ≠ [] then 6
  else if t.cells < sz + szL r then 14 else 0
theorem idx_neg {α : Type} {p : α → Bool} {l : List α} {j : Nat} (h : idxOf p l j < 0) : l.find? p = none := by
  induction l generalizing j with
  | nil => rfl
  | cons x l ih =>
    simp only [idxOf] at h
    split at h
    · omega
    · rename_i hx
      simp only [List.find?]
      rw [show p x = false by simpa using hx]
      exact ih h
theorem idx_pos {α : Type} {p : α → Bool} {l : List α} {j : Nat} (h : ¬ idxOf p l j < 0) : ∃ k x, idxOf p l j = ((j + k : Nat) : Int) ∧ l[k]? = some x ∧ l.find? p = some x := by
  induction l generalizing j with
  | nil => exact absurd (by simp [idxOf]) h
  | cons x l ih =>
    simp only [idxOf] at h ⊢
    by_cases hx : p x = true
    · rw [if_pos hx]
      exact ⟨0, x, rfl, rfl, by simp [List.find?, hx]⟩
    · rw [if_neg hx] at h ⊢
      obtain ⟨k, y, h1, h2, h3⟩ := ih h
      refine ⟨k + 1, y, by rw [h1]; congr 1; omega, by simpa using h2, ?_⟩
      simp only [List.find?]
      rw [show p x = false by simpa using hx]
      exact h3
theorem pos_find {t : Tab} {nm : List UInt8} (h : ¬ idxOf (fun y => decide (y.name = nm)) t.ins 0 < 0) : ∃ k x, idxOf (fun y => decide (y.name = nm)) t.ins 0 = ((k : Nat) : Int) ∧ t.ins[k]? = some x ∧ findN t.ins nm = some x := by
  obtain ⟨k, x, h1, h2, h3⟩ := idx_pos h
  exact ⟨k, x, by rw [h1, Nat.zero_add], h2, h3⟩
theorem any_prev {rs : List RL} {i k : Nat} {y : RL} {lab : List UInt8} (hk : k < i) (hy : rs[k]? = some y) (h : y.label = lab) : (rs.take i).any (fun x => decide (x.label = lab)) = true :=
  List.any_eq_true.2 ⟨y, List.mem_of_getElem? (i := k) (by rw [List.getElem?_take, if_pos hk]; exact hy), decide_eq_true h⟩
theorem no_prev {rs : List RL} {i : Nat} {lab : List UInt8} (h : ∀ (j : Nat) x, j < i → rs[j]? = some x → decide (lab ≠ [] ∧ x.label = lab) = false) : ¬ (lab ≠ [] ∧ (rs.take i).any (fun x => decide (x.label = lab)) = true) := by
  rintro ⟨h1, h2⟩
  obtain ⟨y, hy, hl⟩ := List.any_eq_true.1 h2
  obtain ⟨j, hj⟩ := List.mem_iff_getElem?.1 hy
  rw [List.getElem?_take] at hj
  split at hj
  · rename_i hji
    exact of_decide_eq_false (h j y hji hj) ⟨h1, of_decide_eq_true hl⟩
  · cases hj
end Go.Proofs.YteomcjpigoaioaaGreatDoor
namespace Go.Proofs.YteomcjpigoaioaaGreatDoor
open Go.FL
attribute [local irreducible] JC JO JA JB thenQ blockQ retQ AC fill CellsAt QE Ev Mid
set_option maxHeartbeats 2000000 in
set_option maxRecDepth 100000 in
theorem lineCode_ac (D : Nat) (L : Hl) (s : World) (t : Tab) (A : Option Addr) (n c : Nat) (hA : Inss s A n c t.ins) (A1 : Option Addr) (n1 c1 : Nat) (rs : List RL) (hR : Rls s A1 n1 c1 rs) (hlen : rs.length ≤ 400001) (i : Nat) (r : RL) (hi : rs[i]? = some r) (sz : Int) (hsz0 : 0 ≤ sz) (hsz1 : sz ≤ 10000000000000000) : AC Tryz.prog D 43 [.agg #[.int .i64 t.cells, .slice A n c], .slice A1 n1 c1, .int .i64 (i : Int), .int .i64 sz] L s fun v L' _ => v = .int .i64 (lcR t (rs.take i) sz r) ∧ L = L' := by
 have hn := hA.1
 have hn1 := hR.1
 have hin : i < n1 := by have := (List.getElem?_eq_some_iff.1 hi).1; omega
 obtain ⟨b, off, r', rfl, hx, hcx, hux⟩ := Rls.at_ hR hin
 obtain rfl : r = r' := by rw [hi] at hx; injection hx
 have hszb := szL_bound hux
 refine AC_enter (TT := TT) (fn := Tryz.f43) TT_ok Tryz.func43 (by kernel_rfl) rfl Tryz.ntmps43 rfl (rs := [.tmp 8]) rfl [(0, _), (1, _), (2, _), (3, _)] rfl ?_
 refine JC_seq ?_
 refine JC_region ?_
 refine JO_boxA rfl rfl ?_
 intro β1 s1 h1
 refine JO_q (QE_as rfl) rfl ?_
 refine JO_nil ?_
 refine thenQ_n ?_
 refine JC_seq ?_
 refine JC_region ?_
 refine JO_q (QE_mv rfl) rfl ?_
 refine JO_q (QE_mv rfl) rfl ?_
 refine JO_q (QE_iaN rfl rfl rfl rfl rfl rfl hin) rfl ?_
 refine JO_q (QE_ldsA rfl rfl rfl (hcx.le h1) rfl) rfl ?_
 refine JO_allocZ rfl [_, _, _, _, _, _] rfl rfl ?_
 intro β2 s2 h2
 refine JO_st 0 [_, _, _, _, _, _] rfl rfl rfl rfl rfl rfl rfl rfl rfl ?_
 refine JO_nil ?_
 refine thenQ_n ?_
 refine JC_seq ?_
 refine JC_seq ?_
 refine JC_region ?_
 refine JO_q (QE_fa0 rfl rfl rfl rfl) rfl ?_
 refine JO_q (QE_ld1 0 rfl rfl rfl rfl rfl) rfl ?_
 refine JO_q (QE_not rfl) rfl ?_
 refine JO_nil ?_
 refine thenQ_n ?_
 refine JC_ifM rfl (fun c3 => ?_) (fun c3 => ?_)
 ·
  have hok : r.ok = false := by simpa using c3
  refine JC_seq ?_
  refine JC_region ?_
  refine JO_q (QE_as rfl) rfl ?_
  refine JO_nil ?_
  refine thenQ_n ?_
  refine JC_ret ?_
  refine thenQ_r ?_
  refine retQ_mk [_, _] L (.inr rfl) (.tmp rfl (.nil)) rfl (Le.trans h1 h2) (fun sR hS2 => ?_)
  refine ⟨?_, rfl⟩
  first
    | (rw [lcR, if_pos hok]; rfl)
    | (rw [lcR, if_neg hok1, if_pos eh8]; rfl)
    | (rw [lcR, if_neg hok1, if_neg eh8, if_pos eh40]; rfl)
    | (rw [lcR, if_neg hok1, if_neg eh8, if_neg eh40, if_pos eh12]; rfl)
    | (rw [lcR, if_neg hok1, if_neg eh8, if_neg eh40, if_neg eh12, if_pos eh9]; rfl)
    | (rw [lcR, if_neg hok1, if_neg eh8, if_neg eh40, if_neg eh12, if_neg eh9, if_pos eh6]; rfl)
    | (rw [lcR, if_neg hok1, if_neg eh8, if_neg eh40, if_neg eh12, if_neg eh9, if_neg eh6, if_pos eh14]; rfl)
    | (rw [lcR, if_neg hok1, if_neg eh8, if_neg eh40, if_neg eh12, if_neg eh9, if_neg eh6, if_neg eh14]; rfl)
 ·
  have hok1 : ¬ r.ok = false := by simpa using c3
  refine JC_skip ?_
  refine thenQ_n ?_
  refine JC_seq ?_
  refine JC_seq ?_
  refine JC_region ?_
  refine JO_q (QE_as rfl) rfl ?_
  refine JO_nil ?_
  refine thenQ_n ?_
  refine JC_block ?_
  refine JC_loop (γ := Nat) (fun k => [(1, _), (2, _), (3, _), (4, _), (8, .int .i64 0), (9, _), (10, .int .i64 (k : Int))]) (fun _ => _) (fun k tw => Le D s2 tw ∧ (k ≤ i ∧ ∀ (j : Nat) x, j < k → rs[j]? = some x → decide (r.label ≠ [] ∧ x.label = r.label) = false)) (fun k => i - k) (fun _ _ _ h hl => ⟨h.1.trans hl, h.2⟩) 0 (Keeps.cons rfl (Keeps.cons rfl (Keeps.cons rfl (Keeps.cons rfl (Keeps.cons rfl (Keeps.cons rfl (Keeps.cons rfl (Keeps.nil _)))))))) rfl ⟨Le.refl _, ⟨Nat.zero_le _, fun j x hj => by omega⟩⟩ ?_
  intro k s4 I4
  have hk0 := I4.2.1
  have hI := I4.2.2
  refine JC_seq ?_
  refine JC_seq ?_
  refine JC_region ?_
  refine JO_q (QE_mv rfl) rfl ?_
  refine JO_q (QE_mv rfl) rfl ?_
  refine JO_q (QE_lt rfl rfl) rfl ?_
  refine JO_nil ?_
  refine thenQ_n ?_
  refine JC_ifD rfl (fun c5 => ?_) (fun c5 => ?_)
  ·
   have hk : k < i := by omega
   obtain ⟨b9, off9, y, hE9, hy, hcy, _⟩ := Rls.at_ (hR.le (Le.trans (Le.trans h1 h2) I4.1)) (show k < n1 by omega)
   cases hE9
   refine JC_skip ?_
   refine thenQ_n ?_
   refine JC_seq ?_
   refine JC_block ?_
   refine JC_cutB 37 (r.label ≠ [] ∧ y.label = r.label) ?_ ?_
   ·
    refine JC_draw drawsMixed 13 rfl _ (fun _ h => h) ?_
    intro s7 h7
    refine JA_q 0 rfl (by kernel_rfl) (by kernel_rfl) (by kernel_rfl) trivial (QE_faB rfl rfl rfl rfl) rfl ?_
    refine JA_q 1 rfl (by kernel_rfl) (by kernel_rfl) (by kernel_rfl) trivial (QE_ld1 0 rfl rfl rfl rfl rfl) rfl ?_
    refine JA_q 2 rfl (by kernel_rfl) (by kernel_rfl) (by kernel_rfl) trivial (QE_sne rfl rfl) rfl ?_
    refine JA_q 3 rfl (by kernel_rfl) (by kernel_rfl) (by kernel_rfl) trivial (QE_mv rfl) rfl ?_
    refine JA_caseN (t := 28) rfl (fun c8 => ?_) (fun c8 => ?_)
    ·
     refine JA_q 4 rfl (by kernel_rfl) (by kernel_rfl) (by kernel_rfl) ⟨_, rfl, rfl⟩ (QE_mv rfl) rfl ?_
     refine JA_q 5 rfl (by kernel_rfl) (by kernel_rfl) (by kernel_rfl) ⟨_, rfl, rfl⟩ (QE_mv rfl) rfl ?_
     refine JA_q 6 rfl (by kernel_rfl) (by kernel_rfl) (by kernel_rfl) ⟨_, rfl, rfl⟩ (QE_iaN rfl rfl rfl rfl rfl rfl (show k < n1 by omega)) rfl ?_
     refine JA_q 7 rfl (by kernel_rfl) (by kernel_rfl) (by kernel_rfl) ⟨_, rfl, rfl⟩ (QE_fa rfl rfl rfl rfl) rfl ?_
     refine JA_q 8 rfl (by kernel_rfl) (by kernel_rfl) (by kernel_rfl) ⟨_, rfl, rfl⟩ (QE_ldsR 1 rfl rfl rfl (hcy.le h7) rfl) rfl ?_
     refine JA_q 9 rfl (by kernel_rfl) (by kernel_rfl) (by kernel_rfl) ⟨_, rfl, rfl⟩ (QE_faB rfl rfl rfl rfl) rfl ?_
     refine JA_q 10 rfl (by kernel_rfl) (by kernel_rfl) (by kernel_rfl) ⟨_, rfl, rfl⟩ (QE_ld1 0 rfl rfl rfl rfl rfl) rfl ?_
     refine JA_q 11 rfl (by kernel_rfl) (by kernel_rfl) (by kernel_rfl) ⟨_, rfl, rfl⟩ (QE_seq rfl rfl) rfl ?_
     refine JA_q 12 rfl (by kernel_rfl) (by kernel_rfl) (by kernel_rfl) trivial (QE_pickT rfl rfl) rfl ?_
     refine JA_done (by kernel_rfl) ?_
     refine thenQ_n (MidB.mk h7 (by repeat (first | exact Suf.refl | refine Suf.push rfl ?_)) rfl (decide_eq_decide.2 (⟨fun h => ⟨by assumption, h⟩, fun h => h.2⟩)))
    ·
     refine JA_no 4 rfl (by kernel_rfl) (by kernel_rfl) (by kernel_rfl) rfl rfl rfl rfl ?_
     refine JA_no 5 rfl (by kernel_rfl) (by kernel_rfl) (by kernel_rfl) rfl rfl rfl rfl ?_
     refine JA_no 6 rfl (by kernel_rfl) (by kernel_rfl) (by kernel_rfl) rfl rfl rfl rfl ?_
     refine JA_no 7 rfl (by kernel_rfl) (by kernel_rfl) (by kernel_rfl) rfl rfl rfl rfl ?_
     refine JA_no 8 rfl (by kernel_rfl) (by kernel_rfl) (by kernel_rfl) rfl rfl rfl rfl ?_
     refine JA_no 9 rfl (by kernel_rfl) (by kernel_rfl) (by kernel_rfl) rfl rfl rfl rfl ?_
     refine JA_no 10 rfl (by kernel_rfl) (by kernel_rfl) (by kernel_rfl) rfl rfl rfl rfl ?_
     refine JA_no 11 rfl (by kernel_rfl) (by kernel_rfl) (by kernel_rfl) rfl rfl rfl rfl ?_
     refine JA_q 12 rfl (by kernel_rfl) (by kernel_rfl) (by kernel_rfl) trivial (QE_pickF rfl rfl) rfl ?_
     refine JA_done (by kernel_rfl) ?_
     refine thenQ_n (MidB.mk h7 (by repeat (first | exact Suf.refl | refine Suf.push rfl ?_)) rfl ((decide_eq_false (fun h => h.1 (by assumption))).symm))
   ·
    intro s6 h6
    refine JC_ifD rfl (fun c9 => ?_) (fun c9 => ?_)
    ·
     have eh37 := c9
     have eh8 : r.label ≠ [] ∧ (rs.take i).any (fun x => decide (x.label = r.label)) = true := ⟨eh37.1, any_prev hk hy eh37.2⟩
     refine JC_seq ?_
     refine JC_region ?_
     refine JO_q (QE_as rfl) rfl ?_
     refine JO_nil ?_
     refine thenQ_n ?_
     refine JC_ret ?_
     refine blockQ_r ?_
     refine thenQ_r ?_
     refine thenQ_r ?_
     refine blockQ_r ?_
     refine thenQ_r ?_
     refine retQ_mk [_, _] L (.inr rfl) (.tmp rfl (.nil)) rfl (Le.trans (Le.trans (Le.trans h1 h2) I4.1) h6) (fun sR hS2 => ?_)
     refine ⟨?_, rfl⟩
     first
       | (rw [lcR, if_pos hok]; rfl)
       | (rw [lcR, if_neg hok1, if_pos eh8]; rfl)
       | (rw [lcR, if_neg hok1, if_neg eh8, if_pos eh40]; rfl)
       | (rw [lcR, if_neg hok1, if_neg eh8, if_neg eh40, if_pos eh12]; rfl)
       | (rw [lcR, if_neg hok1, if_neg eh8, if_neg eh40, if_neg eh12, if_pos eh9]; rfl)
       | (rw [lcR, if_neg hok1, if_neg eh8, if_neg eh40, if_neg eh12, if_neg eh9, if_pos eh6]; rfl)
       | (rw [lcR, if_neg hok1, if_neg eh8, if_neg eh40, if_neg eh12, if_neg eh9, if_neg eh6, if_pos eh14]; rfl)
       | (rw [lcR, if_neg hok1, if_neg eh8, if_neg eh40, if_neg eh12, if_neg eh9, if_neg eh6, if_neg eh14]; rfl)
    ·
     have eh37 := decide_eq_false c9
     refine JC_skip ?_
     refine blockQ_n ?_
     refine thenQ_n ?_
     refine JC_region ?_
     refine JO_q (QE_mv rfl) rfl ?_
     refine JO_q (QE_add' rfl rfl (w64 (by omega) (by omega))) rfl ?_
     refine JO_q (QE_as rfl) rfl ?_
     refine JO_nil ?_
     refine thenQ_n ⟨(k + 1), [], (Keeps.cons rfl (Keeps.cons rfl (Keeps.cons rfl (Keeps.cons rfl (Keeps.cons rfl (Keeps.cons rfl (Keeps.cons rfl (Keeps.nil _)))))))), rfl, ⟨(Le.trans I4.1 h6), ⟨by omega, below_succ hI hy eh37⟩⟩, (by omega)⟩
  ·
   have eh8 := no_prev (rs := rs) (i := i) (fun j x hj h => hI j x (by omega) h)
   refine JC_exit ?_
   refine thenQ_x ?_
   refine thenQ_x ?_
   refine blockQ_x ?_
   refine thenQ_n ?_
   refine JC_seq ?_
   refine JC_seq ?_
   refine JC_region ?_
   refine JO_q (QE_faB rfl rfl rfl rfl) rfl ?_
   refine JO_q (QE_ld1 0 rfl rfl rfl rfl rfl) rfl ?_
   refine JO_q (QE_seq rfl rfl) rfl ?_
   refine JO_nil ?_
   refine thenQ_n ?_
   refine JC_ifD rfl (fun c10 => ?_) (fun c10 => ?_)
   ·
    have eh40 : r.op = [] := c10
    refine JC_seq ?_
    refine JC_region ?_
    refine JO_q (QE_as rfl) rfl ?_
    refine JO_nil ?_
    refine thenQ_n ?_
    refine JC_ret ?_
    refine thenQ_r ?_
    refine retQ_mk [_, _] L (.inr rfl) (.tmp rfl (.nil)) rfl (Le.trans (Le.trans h1 h2) I4.1) (fun sR hS2 => ?_)
    refine ⟨?_, rfl⟩
    first
      | (rw [lcR, if_pos hok]; rfl)
      | (rw [lcR, if_neg hok1, if_pos eh8]; rfl)
      | (rw [lcR, if_neg hok1, if_neg eh8, if_pos eh40]; rfl)
      | (rw [lcR, if_neg hok1, if_neg eh8, if_neg eh40, if_pos eh12]; rfl)
      | (rw [lcR, if_neg hok1, if_neg eh8, if_neg eh40, if_neg eh12, if_pos eh9]; rfl)
      | (rw [lcR, if_neg hok1, if_neg eh8, if_neg eh40, if_neg eh12, if_neg eh9, if_pos eh6]; rfl)
      | (rw [lcR, if_neg hok1, if_neg eh8, if_neg eh40, if_neg eh12, if_neg eh9, if_neg eh6, if_pos eh14]; rfl)
      | (rw [lcR, if_neg hok1, if_neg eh8, if_neg eh40, if_neg eh12, if_neg eh9, if_neg eh6, if_neg eh14]; rfl)
   ·
    have eh40 : ¬ r.op = [] := c10
    refine JC_skip ?_
    refine thenQ_n ?_
    refine JC_seq ?_
    refine JC_region ?_
    refine JO_q (QE_ldA 1 [_, _] rfl rfl rfl rfl rfl) rfl ?_
    refine JO_q (QE_faB rfl rfl rfl rfl) rfl ?_
    refine JO_q (QE_ld1 0 rfl rfl rfl rfl rfl) rfl ?_
    refine JO_call (first := []) (captured := []) rfl rfl rfl (posOf_ac D _ _ t _ _ _ (hA.le (Le.trans (Le.trans h1 h2) I4.1)) r.op) ?_
    rintro _ _ s11 h11 ⟨rfl, rfl⟩
    refine JO_q (QE_as rfl) rfl ?_
    refine JO_nil ?_
    refine thenQ_n ?_
    refine JC_seq ?_
    refine JC_region ?_
    refine JO_q (QE_as rfl) rfl ?_
    refine JO_nil ?_
    refine thenQ_n ?_
    refine JC_seq ?_
    refine JC_cutB 52 (¬ (r.op = wordB ∨ r.op = spaceB)) ?_ ?_
    ·
     refine JC_region ?_
     refine JO_q (QE_faB rfl rfl rfl rfl) rfl ?_
     refine JO_q (QE_ld1 0 rfl rfl rfl rfl rfl) rfl ?_
     refine JO_q (QE_sne rfl rfl) rfl ?_
     refine JO_q (QE_mv rfl) rfl ?_
     refine JO_caseN (t := 48) rfl (fun c13 => ?_) (fun c13 => ?_)
     ·
      refine JO_gT rfl rfl ?_
      refine JO_q (QE_faB rfl rfl rfl rfl) rfl ?_
      refine JO_gT rfl rfl ?_
      refine JO_q (QE_ld1 0 rfl rfl rfl rfl rfl) rfl ?_
      refine JO_gT rfl rfl ?_
      refine JO_q (QE_sne rfl rfl) rfl ?_
      refine JO_q (QE_pickT rfl rfl) rfl ?_
      refine JO_nil ?_
      refine thenQ_n (MidB.mk (Le.refl (D := D) _) (by repeat (first | exact Suf.refl | refine Suf.push rfl ?_)) rfl (ndec_eq (⟨fun h h2 => h (.inr h2), fun h h2 => h2.elim (by assumption) h⟩)))
     ·
      refine JO_gF rfl rfl rfl rfl ?_
      refine JO_gF rfl rfl rfl rfl ?_
      refine JO_gF rfl rfl rfl rfl ?_
      refine JO_q (QE_pickF rfl rfl) rfl ?_
      refine JO_nil ?_
      refine thenQ_n (MidB.mk (Le.refl (D := D) _) (by repeat (first | exact Suf.refl | refine Suf.push rfl ?_)) rfl ((decide_eq_false (fun h => h (.inl (by assumption)))).symm))
    ·
     intro s12 h12
     refine JC_ifD rfl (fun c14 => ?_) (fun c14 => ?_)
     ·
      have hown : isOwn r.op = false := decide_eq_false c14
      refine JC_seq ?_
      refine JC_seq ?_
      refine JC_region ?_
      refine JO_q (QE_mv rfl) rfl ?_
      refine JO_q (QE_lt rfl rfl) rfl ?_
      refine JO_nil ?_
      refine thenQ_n ?_
      refine JC_ifD rfl (fun c15 => ?_) (fun c15 => ?_)
      ·
       have eh12 : (findN t.ins r.op).isSome = false ∧ isOwn r.op = false := ⟨by rw [show findN t.ins r.op = none from idx_neg c15]; rfl, hown⟩
       refine JC_seq ?_
       refine JC_region ?_
       refine JO_q (QE_as rfl) rfl ?_
       refine JO_nil ?_
       refine thenQ_n ?_
       refine JC_ret ?_
       refine thenQ_r ?_
       refine thenQ_r ?_
       refine retQ_mk [_, _] L (.inr rfl) (.tmp rfl (.nil)) rfl (Le.trans (Le.trans (Le.trans (Le.trans h1 h2) I4.1) h11) h12) (fun sR hS2 => ?_)
       refine ⟨?_, rfl⟩
       first
         | (rw [lcR, if_pos hok]; rfl)
         | (rw [lcR, if_neg hok1, if_pos eh8]; rfl)
         | (rw [lcR, if_neg hok1, if_neg eh8, if_pos eh40]; rfl)
         | (rw [lcR, if_neg hok1, if_neg eh8, if_neg eh40, if_pos eh12]; rfl)
         | (rw [lcR, if_neg hok1, if_neg eh8, if_neg eh40, if_neg eh12, if_pos eh9]; rfl)
         | (rw [lcR, if_neg hok1, if_neg eh8, if_neg eh40, if_neg eh12, if_neg eh9, if_pos eh6]; rfl)
         | (rw [lcR, if_neg hok1, if_neg eh8, if_neg eh40, if_neg eh12, if_neg eh9, if_neg eh6, if_pos eh14]; rfl)
         | (rw [lcR, if_neg hok1, if_neg eh8, if_neg eh40, if_neg eh12, if_neg eh9, if_neg eh6, if_neg eh14]; rfl)
      ·
       obtain ⟨kk, z, hkk, hz, hfz⟩ := pos_find c15
       rw [hkk]
       have hkn : kk < n := by have := (List.getElem?_eq_some_iff.1 hz).1; omega
       obtain ⟨b8, off8, z', A', n', c', hE8, hz', hcz, _, _, _⟩ := Inss.at_ (hA.le (Le.trans (Le.trans (Le.trans (Le.trans h1 h2) I4.1) h11) h12)) hkn
       subst hE8
       obtain rfl : z = z' := by rw [hz] at hz'; injection hz'
       have eh12 : ¬ ((findN t.ins r.op).isSome = false ∧ isOwn r.op = false) := fun h => by rw [hfz] at h; cases h.1
       have hwant : (isOwn r.op || opOf t r.op) = z.operand := by rw [hown, opOf, hfz]; rfl
       refine JC_skip ?_
       refine thenQ_n ?_
       refine JC_region ?_
       refine JO_q (QE_faB rfl rfl rfl rfl) rfl ?_
       refine JO_q (QE_ld1 1 rfl rfl rfl rfl rfl) rfl ?_
       refine JO_q (QE_mv rfl) rfl ?_
       refine JO_q (QE_iaN rfl rfl rfl rfl rfl rfl hkn) rfl ?_
       refine JO_q (QE_fa rfl rfl rfl rfl) rfl ?_
       refine JO_q (QE_ldsR 2 rfl rfl rfl (hcz.le (Le.refl (D := D) _)) rfl) rfl ?_
       refine JO_q (QE_as rfl) rfl ?_
       refine JO_nil ?_
       refine thenQ_n ?_
       refine JC_seq ?_
       refine JC_seq ?_
       refine JC_region ?_
       refine JO_q (QE_faB rfl rfl rfl rfl) rfl ?_
       refine JO_q (QE_ld1 0 rfl rfl rfl rfl rfl) rfl ?_
       refine JO_q (QE_mv rfl) rfl ?_
       refine JO_q (QE_bne rfl rfl rfl rfl) rfl ?_
       refine JO_nil ?_
       refine thenQ_n ?_
       refine JC_ifN rfl (fun c16 => ?_) (fun c16 => ?_)
       ·
        have eh9 : r.given ≠ (isOwn r.op || opOf t r.op) := by rw [hwant]; exact c16
        refine JC_seq ?_
        refine JC_region ?_
        refine JO_q (QE_as rfl) rfl ?_
        refine JO_nil ?_
        refine thenQ_n ?_
        refine JC_ret ?_
        refine thenQ_r ?_
        refine retQ_mk [_, _] L (.inr rfl) (.tmp rfl (.nil)) rfl (Le.trans (Le.trans (Le.trans (Le.trans h1 h2) I4.1) h11) h12) (fun sR hS2 => ?_)
        refine ⟨?_, rfl⟩
        first
          | (rw [lcR, if_pos hok]; rfl)
          | (rw [lcR, if_neg hok1, if_pos eh8]; rfl)
          | (rw [lcR, if_neg hok1, if_neg eh8, if_pos eh40]; rfl)
          | (rw [lcR, if_neg hok1, if_neg eh8, if_neg eh40, if_pos eh12]; rfl)
          | (rw [lcR, if_neg hok1, if_neg eh8, if_neg eh40, if_neg eh12, if_pos eh9]; rfl)
          | (rw [lcR, if_neg hok1, if_neg eh8, if_neg eh40, if_neg eh12, if_neg eh9, if_pos eh6]; rfl)
          | (rw [lcR, if_neg hok1, if_neg eh8, if_neg eh40, if_neg eh12, if_neg eh9, if_neg eh6, if_pos eh14]; rfl)
          | (rw [lcR, if_neg hok1, if_neg eh8, if_neg eh40, if_neg eh12, if_neg eh9, if_neg eh6, if_neg eh14]; rfl)
       ·
        have eh9 : ¬ (r.given ≠ (isOwn r.op || opOf t r.op)) := by rw [hwant]; exact fun h => h c16
        refine JC_skip ?_
        refine thenQ_n ?_
        refine JC_seq ?_
        refine JC_cutB 72 (r.op = spaceB ∧ r.name ≠ []) ?_ ?_
        ·
         refine JC_region ?_
         refine JO_q (QE_faB rfl rfl rfl rfl) rfl ?_
         refine JO_q (QE_ld1 0 rfl rfl rfl rfl rfl) rfl ?_
         refine JO_q (QE_seq rfl rfl) rfl ?_
         refine JO_q (QE_mv rfl) rfl ?_
         refine JO_caseD (t := 68) rfl (fun c18 => ?_) (fun c18 => ?_)
         ·
          refine JO_gT rfl rfl ?_
          refine JO_q (QE_faB rfl rfl rfl rfl) rfl ?_
          refine JO_gT rfl rfl ?_
          refine JO_q (QE_ld1 0 rfl rfl rfl rfl rfl) rfl ?_
          refine JO_gT rfl rfl ?_
          refine JO_q (QE_sne rfl rfl) rfl ?_
          refine JO_q (QE_pickT rfl rfl) rfl ?_
          refine JO_nil ?_
          refine thenQ_n (MidB.mk (Le.refl (D := D) _) (by repeat (first | exact Suf.refl | refine Suf.push rfl ?_)) rfl (ndec_eq (⟨fun h => h.2, fun h => ⟨by assumption, h⟩⟩)))
         ·
          refine JO_gF rfl rfl rfl rfl ?_
          refine JO_gF rfl rfl rfl rfl ?_
          refine JO_gF rfl rfl rfl rfl ?_
          refine JO_q (QE_pickF rfl rfl) rfl ?_
          refine JO_nil ?_
          refine thenQ_n (MidB.mk (Le.refl (D := D) _) (by repeat (first | exact Suf.refl | refine Suf.push rfl ?_)) rfl ((decide_eq_false (fun h => absurd h.1 (by assumption))).symm))
        ·
         intro s17 h17
         refine JC_ifD rfl (fun c19 => ?_) (fun c19 => ?_)
         ·
          have eh6 := c19
          refine JC_seq ?_
          refine JC_region ?_
          refine JO_q (QE_as rfl) rfl ?_
          refine JO_nil ?_
          refine thenQ_n ?_
          refine JC_ret ?_
          refine thenQ_r ?_
          refine retQ_mk [_, _] L (.inr rfl) (.tmp rfl (.nil)) rfl (Le.trans (Le.trans (Le.trans (Le.trans (Le.trans h1 h2) I4.1) h11) h12) h17) (fun sR hS2 => ?_)
          refine ⟨?_, rfl⟩
          first
            | (rw [lcR, if_pos hok]; rfl)
            | (rw [lcR, if_neg hok1, if_pos eh8]; rfl)
            | (rw [lcR, if_neg hok1, if_neg eh8, if_pos eh40]; rfl)
            | (rw [lcR, if_neg hok1, if_neg eh8, if_neg eh40, if_pos eh12]; rfl)
            | (rw [lcR, if_neg hok1, if_neg eh8, if_neg eh40, if_neg eh12, if_pos eh9]; rfl)
            | (rw [lcR, if_neg hok1, if_neg eh8, if_neg eh40, if_neg eh12, if_neg eh9, if_pos eh6]; rfl)
            | (rw [lcR, if_neg hok1, if_neg eh8, if_neg eh40, if_neg eh12, if_neg eh9, if_neg eh6, if_pos eh14]; rfl)
            | (rw [lcR, if_neg hok1, if_neg eh8, if_neg eh40, if_neg eh12, if_neg eh9, if_neg eh6, if_neg eh14]; rfl)
         ·
          have eh6 := c19
          refine JC_skip ?_
          refine thenQ_n ?_
          refine JC_seq ?_
          refine JC_seq ?_
          refine JC_draw drawsMixed 8 rfl _ (fun _ h => h) ?_
          intro s20 h20
          refine JA_q 0 rfl (by kernel_rfl) (by kernel_rfl) (by kernel_rfl) trivial (QE_mv rfl) rfl ?_
          refine JA_q 1 rfl (by kernel_rfl) (by kernel_rfl) (by kernel_rfl) trivial (QE_ldA 1 [_, _] rfl rfl rfl rfl rfl) rfl ?_
          refine JA_q 2 rfl (by kernel_rfl) (by kernel_rfl) (by kernel_rfl) trivial (QE_ldA 0 [_, _, _, _, _, _] rfl rfl rfl rfl rfl) rfl ?_
          refine JA_q 5 rfl (by kernel_rfl) (by kernel_rfl) (by kernel_rfl) trivial (QE_fa0 rfl rfl rfl rfl) rfl ?_
          refine JA_q 6 rfl (by kernel_rfl) (by kernel_rfl) (by kernel_rfl) trivial (QE_ld1 1 rfl rfl rfl rfl rfl) rfl ?_
          refine JA_1 3 (by kernel_rfl) ?_
          refine JB_call rfl trivial (first := []) (captured := []) rfl rfl rfl (sizeOf_ac D _ _ t _ _ _ (hA.le (Le.trans (Le.trans (Le.trans (Le.trans (Le.trans (Le.trans h1 h2) I4.1) h11) h12) h17) h20)) r hux) ?_
          rintro _ _ s21 h21 ⟨rfl, rfl⟩
          refine ⟨fun _ _ h => h, ?_⟩
          refine JA_q 4 rfl (by kernel_rfl) (by kernel_rfl) (by kernel_rfl) trivial (QE_add' rfl rfl (w64 (by omega) (by omega))) rfl ?_
          refine JA_q 7 rfl (by kernel_rfl) (by kernel_rfl) (by kernel_rfl) trivial (QE_gt rfl rfl) rfl ?_
          refine JA_done (by kernel_rfl) ?_
          refine thenQ_n ?_
          refine JC_ifD rfl (fun c22 => ?_) (fun c22 => ?_)
          ·
           have eh14 : t.cells < sz + szL r := by omega
           refine JC_seq ?_
           refine JC_region ?_
           refine JO_q (QE_as rfl) rfl ?_
           refine JO_nil ?_
           refine thenQ_n ?_
           refine JC_ret ?_
           refine thenQ_r ?_
           refine retQ_mk [_, _] L (.inr rfl) (.tmp rfl (.nil)) rfl (Le.trans (Le.trans (Le.trans (Le.trans (Le.trans (Le.trans (Le.trans h1 h2) I4.1) h11) h12) h17) h20) h21) (fun sR hS2 => ?_)
           refine ⟨?_, rfl⟩
           first
             | (rw [lcR, if_pos hok]; rfl)
             | (rw [lcR, if_neg hok1, if_pos eh8]; rfl)
             | (rw [lcR, if_neg hok1, if_neg eh8, if_pos eh40]; rfl)
             | (rw [lcR, if_neg hok1, if_neg eh8, if_neg eh40, if_pos eh12]; rfl)
             | (rw [lcR, if_neg hok1, if_neg eh8, if_neg eh40, if_neg eh12, if_pos eh9]; rfl)
             | (rw [lcR, if_neg hok1, if_neg eh8, if_neg eh40, if_neg eh12, if_neg eh9, if_pos eh6]; rfl)
             | (rw [lcR, if_neg hok1, if_neg eh8, if_neg eh40, if_neg eh12, if_neg eh9, if_neg eh6, if_pos eh14]; rfl)
             | (rw [lcR, if_neg hok1, if_neg eh8, if_neg eh40, if_neg eh12, if_neg eh9, if_neg eh6, if_neg eh14]; rfl)
          ·
           have eh14 : ¬ t.cells < sz + szL r := by omega
           refine JC_skip ?_
           refine thenQ_n ?_
           refine JC_seq ?_
           refine JC_region ?_
           refine JO_q (QE_as rfl) rfl ?_
           refine JO_nil ?_
           refine thenQ_n ?_
           refine JC_ret ?_
           refine retQ_mk [_, _] L (.inr rfl) (.tmp rfl (.nil)) rfl (Le.trans (Le.trans (Le.trans (Le.trans (Le.trans (Le.trans (Le.trans h1 h2) I4.1) h11) h12) h17) h20) h21) (fun sR hS2 => ?_)
           refine ⟨?_, rfl⟩
           first
             | (rw [lcR, if_pos hok]; rfl)
             | (rw [lcR, if_neg hok1, if_pos eh8]; rfl)
             | (rw [lcR, if_neg hok1, if_neg eh8, if_pos eh40]; rfl)
             | (rw [lcR, if_neg hok1, if_neg eh8, if_neg eh40, if_pos eh12]; rfl)
             | (rw [lcR, if_neg hok1, if_neg eh8, if_neg eh40, if_neg eh12, if_pos eh9]; rfl)
             | (rw [lcR, if_neg hok1, if_neg eh8, if_neg eh40, if_neg eh12, if_neg eh9, if_pos eh6]; rfl)
             | (rw [lcR, if_neg hok1, if_neg eh8, if_neg eh40, if_neg eh12, if_neg eh9, if_neg eh6, if_pos eh14]; rfl)
             | (rw [lcR, if_neg hok1, if_neg eh8, if_neg eh40, if_neg eh12, if_neg eh9, if_neg eh6, if_neg eh14]; rfl)
     ·
      have hown : isOwn r.op = true := decide_eq_true (Classical.not_not.1 c14)
      have eh12 : ¬ ((findN t.ins r.op).isSome = false ∧ isOwn r.op = false) := fun h => by rw [hown] at h; cases h.2
      have hwant : (isOwn r.op || opOf t r.op) = true := by rw [hown]; rfl
      refine JC_skip ?_
      refine thenQ_n ?_
      refine JC_seq ?_
      refine JC_seq ?_
      refine JC_region ?_
      refine JO_q (QE_faB rfl rfl rfl rfl) rfl ?_
      refine JO_q (QE_ld1 0 rfl rfl rfl rfl rfl) rfl ?_
      refine JO_q (QE_mv rfl) rfl ?_
      refine JO_q (QE_bne rfl rfl rfl rfl) rfl ?_
      refine JO_nil ?_
      refine thenQ_n ?_
      refine JC_ifN rfl (fun c23 => ?_) (fun c23 => ?_)
      ·
       have eh9 : r.given ≠ (isOwn r.op || opOf t r.op) := by rw [hwant]; exact c23
       refine JC_seq ?_
       refine JC_region ?_
       refine JO_q (QE_as rfl) rfl ?_
       refine JO_nil ?_
       refine thenQ_n ?_
       refine JC_ret ?_
       refine thenQ_r ?_
       refine retQ_mk [_, _] L (.inr rfl) (.tmp rfl (.nil)) rfl (Le.trans (Le.trans (Le.trans (Le.trans h1 h2) I4.1) h11) h12) (fun sR hS2 => ?_)
       refine ⟨?_, rfl⟩
       first
         | (rw [lcR, if_pos hok]; rfl)
         | (rw [lcR, if_neg hok1, if_pos eh8]; rfl)
         | (rw [lcR, if_neg hok1, if_neg eh8, if_pos eh40]; rfl)
         | (rw [lcR, if_neg hok1, if_neg eh8, if_neg eh40, if_pos eh12]; rfl)
         | (rw [lcR, if_neg hok1, if_neg eh8, if_neg eh40, if_neg eh12, if_pos eh9]; rfl)
         | (rw [lcR, if_neg hok1, if_neg eh8, if_neg eh40, if_neg eh12, if_neg eh9, if_pos eh6]; rfl)
         | (rw [lcR, if_neg hok1, if_neg eh8, if_neg eh40, if_neg eh12, if_neg eh9, if_neg eh6, if_pos eh14]; rfl)
         | (rw [lcR, if_neg hok1, if_neg eh8, if_neg eh40, if_neg eh12, if_neg eh9, if_neg eh6, if_neg eh14]; rfl)
      ·
       have eh9 : ¬ (r.given ≠ (isOwn r.op || opOf t r.op)) := by rw [hwant]; exact fun h => h c23
       refine JC_skip ?_
       refine thenQ_n ?_
       refine JC_seq ?_
       refine JC_cutB 72 (r.op = spaceB ∧ r.name ≠ []) ?_ ?_
       ·
        refine JC_region ?_
        refine JO_q (QE_faB rfl rfl rfl rfl) rfl ?_
        refine JO_q (QE_ld1 0 rfl rfl rfl rfl rfl) rfl ?_
        refine JO_q (QE_seq rfl rfl) rfl ?_
        refine JO_q (QE_mv rfl) rfl ?_
        refine JO_caseD (t := 68) rfl (fun c25 => ?_) (fun c25 => ?_)
        ·
         refine JO_gT rfl rfl ?_
         refine JO_q (QE_faB rfl rfl rfl rfl) rfl ?_
         refine JO_gT rfl rfl ?_
         refine JO_q (QE_ld1 0 rfl rfl rfl rfl rfl) rfl ?_
         refine JO_gT rfl rfl ?_
         refine JO_q (QE_sne rfl rfl) rfl ?_
         refine JO_q (QE_pickT rfl rfl) rfl ?_
         refine JO_nil ?_
         refine thenQ_n (MidB.mk (Le.refl (D := D) _) (by repeat (first | exact Suf.refl | refine Suf.push rfl ?_)) rfl (ndec_eq (⟨fun h => h.2, fun h => ⟨by assumption, h⟩⟩)))
        ·
         refine JO_gF rfl rfl rfl rfl ?_
         refine JO_gF rfl rfl rfl rfl ?_
         refine JO_gF rfl rfl rfl rfl ?_
         refine JO_q (QE_pickF rfl rfl) rfl ?_
         refine JO_nil ?_
         refine thenQ_n (MidB.mk (Le.refl (D := D) _) (by repeat (first | exact Suf.refl | refine Suf.push rfl ?_)) rfl ((decide_eq_false (fun h => absurd h.1 (by assumption))).symm))
       ·
        intro s24 h24
        refine JC_ifD rfl (fun c26 => ?_) (fun c26 => ?_)
        ·
         have eh6 := c26
         refine JC_seq ?_
         refine JC_region ?_
         refine JO_q (QE_as rfl) rfl ?_
         refine JO_nil ?_
         refine thenQ_n ?_
         refine JC_ret ?_
         refine thenQ_r ?_
         refine retQ_mk [_, _] L (.inr rfl) (.tmp rfl (.nil)) rfl (Le.trans (Le.trans (Le.trans (Le.trans (Le.trans h1 h2) I4.1) h11) h12) h24) (fun sR hS2 => ?_)
         refine ⟨?_, rfl⟩
         first
           | (rw [lcR, if_pos hok]; rfl)
           | (rw [lcR, if_neg hok1, if_pos eh8]; rfl)
           | (rw [lcR, if_neg hok1, if_neg eh8, if_pos eh40]; rfl)
           | (rw [lcR, if_neg hok1, if_neg eh8, if_neg eh40, if_pos eh12]; rfl)
           | (rw [lcR, if_neg hok1, if_neg eh8, if_neg eh40, if_neg eh12, if_pos eh9]; rfl)
           | (rw [lcR, if_neg hok1, if_neg eh8, if_neg eh40, if_neg eh12, if_neg eh9, if_pos eh6]; rfl)
           | (rw [lcR, if_neg hok1, if_neg eh8, if_neg eh40, if_neg eh12, if_neg eh9, if_neg eh6, if_pos eh14]; rfl)
           | (rw [lcR, if_neg hok1, if_neg eh8, if_neg eh40, if_neg eh12, if_neg eh9, if_neg eh6, if_neg eh14]; rfl)
        ·
         have eh6 := c26
         refine JC_skip ?_
         refine thenQ_n ?_
         refine JC_seq ?_
         refine JC_seq ?_
         refine JC_draw drawsMixed 8 rfl _ (fun _ h => h) ?_
         intro s27 h27
         refine JA_q 0 rfl (by kernel_rfl) (by kernel_rfl) (by kernel_rfl) trivial (QE_mv rfl) rfl ?_
         refine JA_q 1 rfl (by kernel_rfl) (by kernel_rfl) (by kernel_rfl) trivial (QE_ldA 1 [_, _] rfl rfl rfl rfl rfl) rfl ?_
         refine JA_q 2 rfl (by kernel_rfl) (by kernel_rfl) (by kernel_rfl) trivial (QE_ldA 0 [_, _, _, _, _, _] rfl rfl rfl rfl rfl) rfl ?_
         refine JA_q 5 rfl (by kernel_rfl) (by kernel_rfl) (by kernel_rfl) trivial (QE_fa0 rfl rfl rfl rfl) rfl ?_
         refine JA_q 6 rfl (by kernel_rfl) (by kernel_rfl) (by kernel_rfl) trivial (QE_ld1 1 rfl rfl rfl rfl rfl) rfl ?_
         refine JA_1 3 (by kernel_rfl) ?_
         refine JB_call rfl trivial (first := []) (captured := []) rfl rfl rfl (sizeOf_ac D _ _ t _ _ _ (hA.le (Le.trans (Le.trans (Le.trans (Le.trans (Le.trans (Le.trans h1 h2) I4.1) h11) h12) h24) h27)) r hux) ?_
         rintro _ _ s28 h28 ⟨rfl, rfl⟩
         refine ⟨fun _ _ h => h, ?_⟩
         refine JA_q 4 rfl (by kernel_rfl) (by kernel_rfl) (by kernel_rfl) trivial (QE_add' rfl rfl (w64 (by omega) (by omega))) rfl ?_
         refine JA_q 7 rfl (by kernel_rfl) (by kernel_rfl) (by kernel_rfl) trivial (QE_gt rfl rfl) rfl ?_
         refine JA_done (by kernel_rfl) ?_
         refine thenQ_n ?_
         refine JC_ifD rfl (fun c29 => ?_) (fun c29 => ?_)
         ·
          have eh14 : t.cells < sz + szL r := by omega
          refine JC_seq ?_
          refine JC_region ?_
          refine JO_q (QE_as rfl) rfl ?_
          refine JO_nil ?_
          refine thenQ_n ?_
          refine JC_ret ?_
          refine thenQ_r ?_
          refine retQ_mk [_, _] L (.inr rfl) (.tmp rfl (.nil)) rfl (Le.trans (Le.trans (Le.trans (Le.trans (Le.trans (Le.trans (Le.trans h1 h2) I4.1) h11) h12) h24) h27) h28) (fun sR hS2 => ?_)
          refine ⟨?_, rfl⟩
          first
            | (rw [lcR, if_pos hok]; rfl)
            | (rw [lcR, if_neg hok1, if_pos eh8]; rfl)
            | (rw [lcR, if_neg hok1, if_neg eh8, if_pos eh40]; rfl)
            | (rw [lcR, if_neg hok1, if_neg eh8, if_neg eh40, if_pos eh12]; rfl)
            | (rw [lcR, if_neg hok1, if_neg eh8, if_neg eh40, if_neg eh12, if_pos eh9]; rfl)
            | (rw [lcR, if_neg hok1, if_neg eh8, if_neg eh40, if_neg eh12, if_neg eh9, if_pos eh6]; rfl)
            | (rw [lcR, if_neg hok1, if_neg eh8, if_neg eh40, if_neg eh12, if_neg eh9, if_neg eh6, if_pos eh14]; rfl)
            | (rw [lcR, if_neg hok1, if_neg eh8, if_neg eh40, if_neg eh12, if_neg eh9, if_neg eh6, if_neg eh14]; rfl)
         ·
          have eh14 : ¬ t.cells < sz + szL r := by omega
          refine JC_skip ?_
          refine thenQ_n ?_
          refine JC_seq ?_
          refine JC_region ?_
          refine JO_q (QE_as rfl) rfl ?_
          refine JO_nil ?_
          refine thenQ_n ?_
          refine JC_ret ?_
          refine retQ_mk [_, _] L (.inr rfl) (.tmp rfl (.nil)) rfl (Le.trans (Le.trans (Le.trans (Le.trans (Le.trans (Le.trans (Le.trans h1 h2) I4.1) h11) h12) h24) h27) h28) (fun sR hS2 => ?_)
          refine ⟨?_, rfl⟩
          first
            | (rw [lcR, if_pos hok]; rfl)
            | (rw [lcR, if_neg hok1, if_pos eh8]; rfl)
            | (rw [lcR, if_neg hok1, if_neg eh8, if_pos eh40]; rfl)
            | (rw [lcR, if_neg hok1, if_neg eh8, if_neg eh40, if_pos eh12]; rfl)
            | (rw [lcR, if_neg hok1, if_neg eh8, if_neg eh40, if_neg eh12, if_pos eh9]; rfl)
            | (rw [lcR, if_neg hok1, if_neg eh8, if_neg eh40, if_neg eh12, if_neg eh9, if_pos eh6]; rfl)
            | (rw [lcR, if_neg hok1, if_neg eh8, if_neg eh40, if_neg eh12, if_neg eh9, if_neg eh6, if_pos eh14]; rfl)
            | (rw [lcR, if_neg hok1, if_neg eh8, if_neg eh40, if_neg eh12, if_neg eh9, if_neg eh6, if_neg eh14]; rfl)
end Go.Proofs.YteomcjpigoaioaaGreatDoor
namespace Go.Proofs.YteomcjpigoaioaaGreatDoor
open Go Go.FL Go.RowKit
def lcF (t : Tab) : List RL → Int → Nat → List RL → Option (Int × Int)
  | _, _, _, [] => none
  | prev, sz, i, r :: rest => if lcR t prev sz r ≠ 0 then some (lcR t prev sz r, (i : Int)) else lcF t (prev ++ [r]) (sz + szL r) (i + 1) rest
def urF (labs : List (List UInt8 × Int)) : Nat → List RL → Option (Int × Int)
  | _, [] => none
  | i, r :: rest => if r.name ≠ [] ∧ idxOf (fun y => decide (y.1 = r.name)) labs 0 < 0 then some (27, (i : Int)) else urF labs (i + 1) rest
def fltR (t : Tab) (rs : List RL) : Int × Int := match lcF t [] 0 0 rs with
  | some x => x
  | none => match urF (labF 0 rs) 0 rs with
    | some x => x
    | none => (0, 0)
def AF (t : Tab) (tx : List UInt8) (f : Int × Int) : Prop :=
  if (tabFault t).1 ≠ 0 then f = tabFault t else if 400000 < tx.length then f = (3, -2) else ∃ rs, RLs (splitB 10 tx) rs ∧ f = fltR t rs
theorem lcF_bad {t : Tab} {rs : List RL} {k : Nat} {r : RL} {sz : Int} (h : rs[k]? = some r) (hc : lcR t (rs.take k) sz r ≠ 0) : lcF t (rs.take k) sz k (rs.drop k) = some (lcR t (rs.take k) sz r, (k : Int)) := by
  obtain ⟨hk, rfl⟩ := List.getElem?_eq_some_iff.1 h
  rw [List.drop_eq_getElem_cons hk, lcF, if_pos hc]
theorem lcF_next {t : Tab} {rs : List RL} {k : Nat} {r : RL} {sz : Int} (h : rs[k]? = some r) (hc : ¬ lcR t (rs.take k) sz r ≠ 0) : lcF t (rs.take k) sz k (rs.drop k) = lcF t (rs.take (k + 1)) (sz + szL r) (k + 1) (rs.drop (k + 1)) := by
  rw [take_next h]
  obtain ⟨hk, rfl⟩ := List.getElem?_eq_some_iff.1 h
  rw [List.drop_eq_getElem_cons hk, lcF, if_neg hc]
theorem urF_bad {labs : List (List UInt8 × Int)} {rs : List RL} {k : Nat} {r : RL} (h : rs[k]? = some r) (hc : r.name ≠ [] ∧ idxOf (fun y => decide (y.1 = r.name)) labs 0 < 0) : urF labs k (rs.drop k) = some (27, (k : Int)) := by
  obtain ⟨hk, rfl⟩ := List.getElem?_eq_some_iff.1 h
  rw [List.drop_eq_getElem_cons hk, urF, if_pos hc]
theorem urF_next {labs : List (List UInt8 × Int)} {rs : List RL} {k : Nat} {r : RL} (h : rs[k]? = some r) (hc : ¬ (r.name ≠ [] ∧ idxOf (fun y => decide (y.1 = r.name)) labs 0 < 0)) : urF labs k (rs.drop k) = urF labs (k + 1) (rs.drop (k + 1)) := by
  obtain ⟨hk, rfl⟩ := List.getElem?_eq_some_iff.1 h
  rw [List.drop_eq_getElem_cons hk, urF, if_neg hc]
theorem flt_l {t : Tab} {rs : List RL} {f : Int × Int} (h : lcF t [] 0 0 rs = some f) : fltR t rs = f := by unfold fltR; rw [h]
theorem flt_u {t : Tab} {rs : List RL} {f : Int × Int} (h : lcF t [] 0 0 rs = none) (h2 : urF (labF 0 rs) 0 rs = some f) : fltR t rs = f := by unfold fltR; rw [h]; simp only; rw [h2]
theorem flt_0 {t : Tab} {rs : List RL} (h : lcF t [] 0 0 rs = none) (h2 : urF (labF 0 rs) 0 rs = none) : fltR t rs = (0, 0) := by unfold fltR; rw [h]; simp only; rw [h2]
theorem AF_bad {t : Tab} {tx : List UInt8} (h : (tabFault t).1 ≠ 0) : AF t tx (tabFault t) := by rw [AF, if_pos h]
theorem AF_long {t : Tab} {tx : List UInt8} (h : ¬ (tabFault t).1 ≠ 0) (h2 : 400000 < tx.length) : AF t tx (3, -2) := by rw [AF, if_neg h, if_pos h2]
theorem AF_rs {t : Tab} {tx : List UInt8} {rs : List RL} {f : Int × Int} (h : ¬ (tabFault t).1 ≠ 0) (h2 : ¬ 400000 < tx.length) (hr : RLs (splitB 10 tx) rs) (hf : fltR t rs = f) : AF t tx f := by rw [AF, if_neg h, if_neg h2]; exact ⟨rs, hr, hf.symm⟩
end Go.Proofs.YteomcjpigoaioaaGreatDoor
namespace Go.Proofs.YteomcjpigoaioaaGreatDoor
open Go.FL
attribute [local irreducible] JC JO JA JB thenQ blockQ retQ AC fill CellsAt QE Ev Mid
set_option maxHeartbeats 2000000 in
set_option maxRecDepth 100000 in
theorem asmFault_ac (D : Nat) (L : Hl) (s : World) (t : Tab) (A : Option Addr) (n c : Nat) (hA : Inss s A n c t.ins) (tx : List UInt8) (htx : tx.length ≤ 9223372036854775807) : AC Tryz.prog D 13 [.agg #[.int .i64 t.cells, .slice A n c], St tx] L s fun v L' _ => L = L' ∧ ∃ f : Int × Int, v = .agg #[.int .i64 f.1, .int .i64 f.2] ∧ AF t tx f := by
 refine AC_enter (TT := TT) (fn := Tryz.f13) TT_ok Tryz.func13 (by kernel_rfl) rfl Tryz.ntmps13 rfl (rs := [.cell 4 27]) rfl [(0, _), (1, _)] rfl ?_
 refine JC_seq ?_
 refine JC_region ?_
 refine JO_boxA rfl rfl ?_
 intro β1 s1 h1
 refine JO_allocZ rfl [_, _] rfl rfl ?_
 intro β2 s2 h2
 refine JO_nil ?_
 refine thenQ_n ?_
 refine JC_seq ?_
 refine JC_region ?_
 refine JO_q (QE_ldA 1 [_, _] rfl rfl rfl rfl rfl) rfl ?_
 refine JO_call (first := []) (captured := []) rfl rfl rfl (tableFault_ac D _ _ _ _ _ _ (hA.le (Le.trans h1 h2))) ?_
 rintro _ _ s3 h3 ⟨rfl, rfl⟩
 refine JO_allocZ rfl [_, _] rfl rfl ?_
 intro β4 s4 h4
 refine JO_st 0 [_, _] rfl rfl rfl rfl rfl rfl rfl rfl rfl ?_
 refine JO_nil ?_
 refine thenQ_n ?_
 refine JC_seq ?_
 refine JC_seq ?_
 refine JC_region ?_
 refine JO_q (QE_fa0 rfl rfl rfl rfl) rfl ?_
 refine JO_q (QE_ld1 0 rfl rfl rfl rfl rfl) rfl ?_
 refine JO_q (QE_ne rfl rfl) rfl ?_
 refine JO_nil ?_
 refine thenQ_n ?_
 refine JC_ifN rfl (fun c5 => ?_) (fun c5 => ?_)
 ·
  have hbad := c5
  refine JC_seq ?_
  refine JC_region ?_
  refine JO_q (QE_ldA 0 [_, _] rfl rfl rfl rfl rfl) rfl ?_
  refine JO_st 1 [_, _] rfl rfl rfl rfl rfl rfl rfl rfl rfl ?_
  refine JO_nil ?_
  refine thenQ_n ?_
  refine JC_ret ?_
  refine thenQ_r ?_
  refine retQ_mk [_, _, _] L (.inr rfl) (.agg (us := [_, _]) 1 rfl rfl rfl rfl rfl (.nil)) rfl (Le.trans (Le.trans (Le.trans h1 h2) h3) h4) (fun sR hS2 => ?_)
  refine ⟨rfl, ?_⟩
  first
    | exact ⟨tabFault t, rfl, AF_bad hbad⟩
    | exact ⟨(3, -2), rfl, AF_long ht0 hlong⟩
    | exact ⟨(27, (k : Int)), rfl, AF_rs ht0 hshort hRL (flt_u hS hU2)⟩
    | exact ⟨(0, 0), rfl, AF_rs ht0 hshort hRL (flt_0 hS hU2)⟩
    | exact ⟨(_, (k : Int)), rfl, AF_rs ht0 hshort hRL (flt_l hS)⟩
 ·
  have ht0 : ¬ (tabFault t).1 ≠ 0 := fun h => h c5
  refine JC_skip ?_
  refine thenQ_n ?_
  refine JC_seq ?_
  refine JC_seq ?_
  refine JC_region ?_
  refine JO_q (QE_mv rfl) rfl ?_
  refine JO_q (QE_lenT rfl rfl rfl) rfl ?_
  refine JO_q (QE_gt rfl rfl) rfl ?_
  refine JO_nil ?_
  refine thenQ_n ?_
  refine JC_ifD rfl (fun c6 => ?_) (fun c6 => ?_)
  ·
   have hlong : 400000 < tx.length := by omega
   refine JC_seq ?_
   refine JC_region ?_
   refine JO_call (first := []) (captured := []) rfl rfl rfl (at_ac D _ _ _ _) ?_
   rintro _ _ s7 h7 ⟨rfl, rfl⟩
   refine JO_st 1 [_, _] rfl rfl rfl rfl rfl rfl rfl rfl rfl ?_
   refine JO_nil ?_
   refine thenQ_n ?_
   refine JC_ret ?_
   refine thenQ_r ?_
   refine retQ_mk [_, _, _] L (.inr rfl) (.agg (us := [_, _]) 1 rfl rfl rfl rfl rfl (.nil)) rfl (Le.trans (Le.trans (Le.trans (Le.trans h1 h2) h3) h4) h7) (fun sR hS2 => ?_)
   refine ⟨rfl, ?_⟩
   first
     | exact ⟨tabFault t, rfl, AF_bad hbad⟩
     | exact ⟨(3, -2), rfl, AF_long ht0 hlong⟩
     | exact ⟨(27, (k : Int)), rfl, AF_rs ht0 hshort hRL (flt_u hS hU2)⟩
     | exact ⟨(0, 0), rfl, AF_rs ht0 hshort hRL (flt_0 hS hU2)⟩
     | exact ⟨(_, (k : Int)), rfl, AF_rs ht0 hshort hRL (flt_l hS)⟩
  ·
   have hshort : ¬ 400000 < tx.length := by omega
   refine JC_skip ?_
   refine thenQ_n ?_
   refine JC_seq ?_
   refine JC_region ?_
   refine JO_q (QE_mv rfl) rfl ?_
   refine JO_call (first := []) (captured := []) rfl rfl rfl (lines_ac D _ _ tx (by omega)) ?_
   rintro _ _ s8 h8 ⟨rfl, A1, n1, c1, rs, rfl, hR, hRL⟩
   have hn1 := hR.1
   have hnl := splitF_len 10 [] tx
   have hrl2 : rs.length = (splitF 10 [] tx).length := hRL.1
   refine JO_q (QE_as rfl) rfl ?_
   refine JO_nil ?_
   refine thenQ_n ?_
   refine JC_seq ?_
   refine JC_region ?_
   refine JO_q (QE_as rfl) rfl ?_
   refine JO_nil ?_
   refine thenQ_n ?_
   refine JC_seq ?_
   refine JC_seq ?_
   refine JC_region ?_
   refine JO_q (QE_as rfl) rfl ?_
   refine JO_nil ?_
   refine thenQ_n ?_
   refine JC_block ?_
   refine JC_loop (γ := Nat × Int) (fun g => [(2, _), (4, _), (6, _), (7, .int .i64 g.2), (8, .int .i64 (g.1 : Int))]) (fun _ => _) (fun g tw => Le D s8 tw ∧ (g.1 ≤ n1 ∧ (0 ≤ g.2 ∧ g.2 ≤ (g.1 : Int) * 4294967296) ∧ lcF t [] 0 0 rs = lcF t (rs.take g.1) g.2 g.1 (rs.drop g.1))) (fun g => n1 - g.1) (fun _ _ _ h hl => ⟨h.1.trans hl, h.2⟩) (0, 0) (Keeps.cons rfl (Keeps.cons rfl (Keeps.cons rfl (Keeps.cons rfl (Keeps.cons rfl (Keeps.nil _)))))) rfl ⟨Le.refl _, ⟨Nat.zero_le _, ⟨by simp, by simp⟩, rfl⟩⟩ ?_
   intro g s9 I9
   obtain ⟨k, sz⟩ := g
   obtain ⟨hk0, hsz0, hS⟩ := I9.2
   simp only at hk0 hsz0 hS
   obtain ⟨hz1, hz2⟩ := hsz0
   dsimp only
   refine JC_seq ?_
   refine JC_seq ?_
   refine JC_region ?_
   refine JO_q (QE_mv rfl) rfl ?_
   refine JO_q (QE_mv rfl) rfl ?_
   refine JO_q (QE_lenS rfl rfl rfl) rfl ?_
   refine JO_q (QE_lt rfl rfl) rfl ?_
   refine JO_nil ?_
   refine thenQ_n ?_
   refine JC_ifD rfl (fun c10 => ?_) (fun c10 => ?_)
   ·
    have hk : k < n1 := by omega
    obtain ⟨b, off, r, rfl, hx, hcx, hux⟩ := Rls.at_ (hR.le I9.1) hk
    have hsz := szL_bound hux
    refine JC_skip ?_
    refine thenQ_n ?_
    refine JC_seq ?_
    refine JC_block ?_
    refine JC_seq ?_
    refine JC_region ?_
    refine JO_q (QE_ldA 2 [_, _] rfl rfl rfl rfl rfl) rfl ?_
    refine JO_q (QE_mv rfl) rfl ?_
    refine JO_q (QE_mv rfl) rfl ?_
    refine JO_q (QE_mv rfl) rfl ?_
    refine JO_call (first := []) (captured := []) rfl rfl rfl (lineCode_ac D _ _ t _ _ _ (hA.le (Le.trans (Le.trans (Le.trans (Le.trans (Le.trans h1 h2) h3) h4) h8) I9.1)) _ _ _ rs (hR.le I9.1) (by omega) k r hx sz hz1 (by omega)) ?_
    rintro _ _ s11 h11 ⟨rfl, rfl⟩
    refine JO_q (QE_as rfl) rfl ?_
    refine JO_nil ?_
    refine thenQ_n ?_
    refine JC_seq ?_
    refine JC_seq ?_
    refine JC_region ?_
    refine JO_q (QE_mv rfl) rfl ?_
    refine JO_q (QE_ne rfl rfl) rfl ?_
    refine JO_nil ?_
    refine thenQ_n ?_
    refine JC_ifN rfl (fun c12 => ?_) (fun c12 => ?_)
    ·
     have hlc := c12
     rw [lcF_bad hx hlc] at hS
     refine JC_seq ?_
     refine JC_region ?_
     refine JO_q (QE_mv rfl) rfl ?_
     refine JO_q (QE_mv rfl) rfl ?_
     refine JO_call (first := []) (captured := []) rfl rfl rfl (at_ac D _ _ _ _) ?_
     rintro _ _ s13 h13 ⟨rfl, rfl⟩
     refine JO_st 1 [_, _] rfl rfl rfl rfl rfl rfl rfl rfl rfl ?_
     refine JO_nil ?_
     refine thenQ_n ?_
     refine JC_ret ?_
     refine thenQ_r ?_
     refine blockQ_r ?_
     refine thenQ_r ?_
     refine thenQ_r ?_
     refine blockQ_r ?_
     refine thenQ_r ?_
     refine retQ_mk [_, _, _] L (.inr rfl) (.agg (us := [_, _]) 1 rfl rfl rfl rfl rfl (.nil)) rfl (Le.trans (Le.trans (Le.trans (Le.trans (Le.trans (Le.trans (Le.trans h1 h2) h3) h4) h8) I9.1) h11) h13) (fun sR hS2 => ?_)
     refine ⟨rfl, ?_⟩
     first
       | exact ⟨tabFault t, rfl, AF_bad hbad⟩
       | exact ⟨(3, -2), rfl, AF_long ht0 hlong⟩
       | exact ⟨(27, (k : Int)), rfl, AF_rs ht0 hshort hRL (flt_u hS hU2)⟩
       | exact ⟨(0, 0), rfl, AF_rs ht0 hshort hRL (flt_0 hS hU2)⟩
       | exact ⟨(_, (k : Int)), rfl, AF_rs ht0 hshort hRL (flt_l hS)⟩
    ·
     have hlc : ¬ lcR t (rs.take k) sz r ≠ 0 := fun h => h c12
     refine JC_skip ?_
     refine thenQ_n ?_
     refine JC_draw drawsMixed 9 rfl _ (fun _ h => h) ?_
     intro s14 h14
     refine JA_q 0 rfl (by kernel_rfl) (by kernel_rfl) (by kernel_rfl) trivial (QE_mv rfl) rfl ?_
     refine JA_q 1 rfl (by kernel_rfl) (by kernel_rfl) (by kernel_rfl) trivial (QE_ldA 2 [_, _] rfl rfl rfl rfl rfl) rfl ?_
     refine JA_q 2 rfl (by kernel_rfl) (by kernel_rfl) (by kernel_rfl) trivial (QE_mv rfl) rfl ?_
     refine JA_q 3 rfl (by kernel_rfl) (by kernel_rfl) (by kernel_rfl) trivial (QE_mv rfl) rfl ?_
     refine JA_q 4 rfl (by kernel_rfl) (by kernel_rfl) (by kernel_rfl) trivial (QE_iaN rfl rfl rfl rfl rfl rfl hk) rfl ?_
     refine JA_q 5 rfl (by kernel_rfl) (by kernel_rfl) (by kernel_rfl) trivial (QE_ldsA rfl rfl rfl (hcx.le (Le.trans h11 h14)) rfl) rfl ?_
     refine JA_1 6 (by kernel_rfl) ?_
     refine JB_call rfl trivial (first := []) (captured := []) rfl rfl rfl (sizeOf_ac D _ _ t _ _ _ (hA.le (Le.trans (Le.trans (Le.trans (Le.trans (Le.trans (Le.trans (Le.trans h1 h2) h3) h4) h8) I9.1) h11) h14)) r hux) ?_
     rintro _ _ s15 h15 ⟨rfl, rfl⟩
     refine ⟨fun _ _ h => h, ?_⟩
     refine JA_q 7 rfl (by kernel_rfl) (by kernel_rfl) (by kernel_rfl) trivial (QE_add' rfl rfl (w64 (by omega) (by omega))) rfl ?_
     refine JA_q 8 rfl (by kernel_rfl) (by kernel_rfl) (by kernel_rfl) trivial (QE_as rfl) rfl ?_
     refine JA_done (by kernel_rfl) ?_
     refine blockQ_n ?_
     refine thenQ_n ?_
     refine JC_region ?_
     refine JO_q (QE_mv rfl) rfl ?_
     refine JO_q (QE_add' rfl rfl (w64 (by omega) (by omega))) rfl ?_
     refine JO_q (QE_as rfl) rfl ?_
     refine JO_nil ?_
     refine thenQ_n ⟨(k + 1, sz + szL r), [], (Keeps.cons rfl (Keeps.cons rfl (Keeps.cons rfl (Keeps.cons rfl (Keeps.cons rfl (Keeps.nil _)))))), rfl, ⟨(Le.trans (Le.trans (Le.trans I9.1 h11) h14) h15), ⟨by simp only; omega, ⟨by simp only; omega, by simp only; omega⟩, by simp only; rw [hS, lcF_next hx hlc]⟩⟩, (by simp only; omega)⟩
   ·
    rw [List.drop_eq_nil_of_le (by omega), lcF] at hS
    refine JC_exit ?_
    refine thenQ_x ?_
    refine thenQ_x ?_
    refine blockQ_x ?_
    refine thenQ_n ?_
    refine JC_seq ?_
    refine JC_region ?_
    refine JO_q (QE_ldA 2 [_, _] rfl rfl rfl rfl rfl) rfl ?_
    refine JO_q (QE_mv rfl) rfl ?_
    refine JO_call (first := []) (captured := []) rfl rfl rfl (labelsOf_ac D _ _ t _ _ _ (hA.le (Le.trans (Le.trans (Le.trans (Le.trans (Le.trans h1 h2) h3) h4) h8) I9.1)) _ _ _ rs (hR.le I9.1) (by omega)) ?_
    rintro _ _ s16 h16 ⟨rfl, A2, n2, c2, rfl, hLb⟩
    refine JO_q (QE_as rfl) rfl ?_
    refine JO_nil ?_
    refine thenQ_n ?_
    refine JC_seq ?_
    refine JC_seq ?_
    refine JC_region ?_
    refine JO_q (QE_as rfl) rfl ?_
    refine JO_nil ?_
    refine thenQ_n ?_
    refine JC_block ?_
    refine JC_loop (γ := Nat) (fun k => [(4, _), (6, _), (10, _), (11, .int .i64 (k : Int))]) (fun _ => _) (fun k tw => Le D s16 tw ∧ (k ≤ n1 ∧ urF (labF 0 rs) 0 rs = urF (labF 0 rs) k (rs.drop k))) (fun k => n1 - k) (fun _ _ _ h hl => ⟨h.1.trans hl, h.2⟩) 0 (Keeps.cons rfl (Keeps.cons rfl (Keeps.cons rfl (Keeps.cons rfl (Keeps.nil _))))) rfl ⟨Le.refl _, ⟨Nat.zero_le _, rfl⟩⟩ ?_
    intro k s17 I17
    have hk0 := I17.2.1
    have hU2 := I17.2.2
    refine JC_seq ?_
    refine JC_seq ?_
    refine JC_region ?_
    refine JO_q (QE_mv rfl) rfl ?_
    refine JO_q (QE_mv rfl) rfl ?_
    refine JO_q (QE_lenS rfl rfl rfl) rfl ?_
    refine JO_q (QE_lt rfl rfl) rfl ?_
    refine JO_nil ?_
    refine thenQ_n ?_
    refine JC_ifD rfl (fun c18 => ?_) (fun c18 => ?_)
    ·
     have hk : k < n1 := by omega
     obtain ⟨b, off, r, rfl, hx, hcx, hux⟩ := Rls.at_ (hR.le (Le.trans (Le.trans I9.1 h16) I17.1)) hk
     have hsz := szL_bound hux
     refine JC_skip ?_
     refine thenQ_n ?_
     refine JC_seq ?_
     refine JC_block ?_
     refine JC_cutB 72 (r.name ≠ [] ∧ idxOf (fun y => decide (y.1 = r.name)) (labF 0 rs) 0 < 0) ?_ ?_
     ·
      refine JC_region ?_
      refine JO_q (QE_mv rfl) rfl ?_
      refine JO_q (QE_mv rfl) rfl ?_
      refine JO_q (QE_iaN rfl rfl rfl rfl rfl rfl hk) rfl ?_
      refine JO_q (QE_fa rfl rfl rfl rfl) rfl ?_
      refine JO_q (QE_ldsR 4 rfl rfl rfl (hcx.le (Le.refl (D := D) _)) rfl) rfl ?_
      refine JO_q (QE_sne rfl rfl) rfl ?_
      refine JO_q (QE_mv rfl) rfl ?_
      refine JO_caseN (t := 63) rfl (fun c20 => ?_) (fun c20 => ?_)
      ·
       refine JO_gT rfl rfl ?_
       refine JO_q (QE_mv rfl) rfl ?_
       refine JO_gT rfl rfl ?_
       refine JO_q (QE_mv rfl) rfl ?_
       refine JO_gT rfl rfl ?_
       refine JO_q (QE_mv rfl) rfl ?_
       refine JO_gT rfl rfl ?_
       refine JO_q (QE_iaN rfl rfl rfl rfl rfl rfl hk) rfl ?_
       refine JO_gT rfl rfl ?_
       refine JO_q (QE_fa rfl rfl rfl rfl) rfl ?_
       refine JO_gT rfl rfl ?_
       refine JO_q (QE_ldsR 4 rfl rfl rfl (hcx.le (Le.refl (D := D) _)) rfl) rfl ?_
       refine JO_gT rfl rfl ?_
       refine JO_call (first := []) (captured := []) rfl rfl rfl (labelAt_ac D _ _ _ _ _ _ (hLb.le I17.1) r.name) ?_
       rintro _ _ s21 h21 ⟨rfl, rfl⟩
       refine JO_gT rfl rfl ?_
       refine JO_q (QE_lt rfl rfl) rfl ?_
       refine JO_q (QE_pickT rfl rfl) rfl ?_
       refine JO_nil ?_
       refine thenQ_n (MidB.mk h21 (by repeat (first | exact Suf.refl | refine Suf.push rfl ?_)) rfl (decide_eq_decide.2 (⟨fun h => ⟨by assumption, h⟩, fun h => h.2⟩)))
      ·
       refine JO_gF rfl rfl rfl rfl ?_
       refine JO_gF rfl rfl rfl rfl ?_
       refine JO_gF rfl rfl rfl rfl ?_
       refine JO_gF rfl rfl rfl rfl ?_
       refine JO_gF rfl rfl rfl rfl ?_
       refine JO_gF rfl rfl rfl rfl ?_
       refine JO_gF rfl rfl rfl rfl ?_
       refine JO_gF rfl rfl rfl rfl ?_
       refine JO_q (QE_pickF rfl rfl) rfl ?_
       refine JO_nil ?_
       refine thenQ_n (MidB.mk (Le.refl (D := D) _) (by repeat (first | exact Suf.refl | refine Suf.push rfl ?_)) rfl ((decide_eq_false (fun h => h.1 (by assumption))).symm))
     ·
      intro s19 h19
      refine JC_ifD rfl (fun c22 => ?_) (fun c22 => ?_)
      ·
       have hur := c22
       rw [urF_bad hx hur] at hU2
       refine JC_seq ?_
       refine JC_region ?_
       refine JO_q (QE_mv rfl) rfl ?_
       refine JO_call (first := []) (captured := []) rfl rfl rfl (at_ac D _ _ _ _) ?_
       rintro _ _ s23 h23 ⟨rfl, rfl⟩
       refine JO_st 1 [_, _] rfl rfl rfl rfl rfl rfl rfl rfl rfl ?_
       refine JO_nil ?_
       refine thenQ_n ?_
       refine JC_ret ?_
       refine blockQ_r ?_
       refine thenQ_r ?_
       refine thenQ_r ?_
       refine blockQ_r ?_
       refine thenQ_r ?_
       refine retQ_mk [_, _, _] L (.inr rfl) (.agg (us := [_, _]) 1 rfl rfl rfl rfl rfl (.nil)) rfl (Le.trans (Le.trans (Le.trans (Le.trans (Le.trans (Le.trans (Le.trans (Le.trans (Le.trans h1 h2) h3) h4) h8) I9.1) h16) I17.1) h19) h23) (fun sR hS2 => ?_)
       refine ⟨rfl, ?_⟩
       first
         | exact ⟨tabFault t, rfl, AF_bad hbad⟩
         | exact ⟨(3, -2), rfl, AF_long ht0 hlong⟩
         | exact ⟨(27, (k : Int)), rfl, AF_rs ht0 hshort hRL (flt_u hS hU2)⟩
         | exact ⟨(0, 0), rfl, AF_rs ht0 hshort hRL (flt_0 hS hU2)⟩
         | exact ⟨(_, (k : Int)), rfl, AF_rs ht0 hshort hRL (flt_l hS)⟩
      ·
       have hur := c22
       refine JC_skip ?_
       refine blockQ_n ?_
       refine thenQ_n ?_
       refine JC_region ?_
       refine JO_q (QE_mv rfl) rfl ?_
       refine JO_q (QE_add' rfl rfl (w64 (by omega) (by omega))) rfl ?_
       refine JO_q (QE_as rfl) rfl ?_
       refine JO_nil ?_
       refine thenQ_n ⟨(k + 1), [], (Keeps.cons rfl (Keeps.cons rfl (Keeps.cons rfl (Keeps.cons rfl (Keeps.nil _))))), rfl, ⟨(Le.trans I17.1 h19), ⟨by omega, by rw [hU2, urF_next hx hur]⟩⟩, (by omega)⟩
    ·
     rw [List.drop_eq_nil_of_le (by omega), urF] at hU2
     refine JC_exit ?_
     refine thenQ_x ?_
     refine thenQ_x ?_
     refine blockQ_x ?_
     refine thenQ_n ?_
     refine JC_seq ?_
     refine JC_region ?_
     refine JO_q (QE_build [] [_, _] rfl rfl rfl rfl rfl rfl) rfl ?_
     refine JO_st 1 [_, _] rfl rfl rfl rfl rfl rfl rfl rfl rfl ?_
     refine JO_nil ?_
     refine thenQ_n ?_
     refine JC_ret ?_
     refine retQ_mk [_, _, _] L (.inr rfl) (.agg (us := [_, _]) 1 rfl rfl rfl rfl rfl (.nil)) rfl (Le.trans (Le.trans (Le.trans (Le.trans (Le.trans (Le.trans (Le.trans h1 h2) h3) h4) h8) I9.1) h16) I17.1) (fun sR hS2 => ?_)
     refine ⟨rfl, ?_⟩
     first
       | exact ⟨tabFault t, rfl, AF_bad hbad⟩
       | exact ⟨(3, -2), rfl, AF_long ht0 hlong⟩
       | exact ⟨(27, (k : Int)), rfl, AF_rs ht0 hshort hRL (flt_u hS hU2)⟩
       | exact ⟨(0, 0), rfl, AF_rs ht0 hshort hRL (flt_0 hS hU2)⟩
       | exact ⟨(_, (k : Int)), rfl, AF_rs ht0 hshort hRL (flt_l hS)⟩
end Go.Proofs.YteomcjpigoaioaaGreatDoor
namespace Go.Proofs.YteomcjpigoaioaaGreatDoor
open Go Go.FL Go.RowKit
def oprW (labs : List (List UInt8 × Int)) (r : RL) : Int := if r.name = [] then r.num else w32 (r.num + (labAt labs r.name).getD 0)
def lnW (t : Tab) (labs : List (List UInt8 × Int)) (r : RL) : List Int :=
  if r.op = spaceB then List.replicate r.num.toNat 0
  else (if r.op ≠ [] ∧ r.op ≠ wordB then [codeOf t r.op] else []) ++ (if r.given = true then [oprW labs r] else [])
def wdF (t : Tab) (labs : List (List UInt8 × Int)) (rs : List RL) : List Int := (rs.map (lnW t labs)).flatten
theorem wdF_at {t : Tab} {labs : List (List UInt8 × Int)} {rs : List RL} {k : Nat} {r : RL} (h : rs[k]? = some r) : wdF t labs (rs.drop k) = lnW t labs r ++ wdF t labs (rs.drop (k + 1)) := by
  obtain ⟨hk, rfl⟩ := List.getElem?_eq_some_iff.1 h
  rw [List.drop_eq_getElem_cons hk, wdF, List.map_cons, List.flatten_cons]; rfl
theorem labAt_find (l : List (List UInt8 × Int)) (k : List UInt8) : labAt l k = (l.find? (fun y => decide (y.1 = k))).map (·.2) := by
  induction l with
  | nil => rfl
  | cons x l ih =>
    simp only [labAt, List.find?]
    by_cases h : x.1 = k
    · simp [h]
    · simp [h, ih]
theorem lab_pos {labs : List (List UInt8 × Int)} {nm : List UInt8} (h : ¬ idxOf (fun y => decide (y.1 = nm)) labs 0 < 0) : ∃ k y, idxOf (fun y => decide (y.1 = nm)) labs 0 = ((k : Nat) : Int) ∧ labs[k]? = some y ∧ labAt labs nm = some y.2 := by
  obtain ⟨k, x, h1, h2, h3⟩ := idx_pos h
  exact ⟨k, x, by rw [h1, Nat.zero_add], h2, by rw [labAt_find, h3]; rfl⟩
theorem lc_line {t : Tab} {rs : List RL} {k : Nat} {r : RL} {sz : Int} (h : rs[k]? = some r) (hn : lcF t (rs.take k) sz k (rs.drop k) = none) : lcR t (rs.take k) sz r = 0 ∧ lcF t (rs.take (k + 1)) (sz + szL r) (k + 1) (rs.drop (k + 1)) = none := by
  by_cases hc : lcR t (rs.take k) sz r ≠ 0
  · rw [lcF_bad h hc] at hn; cases hn
  · rw [lcF_next h hc] at hn; exact ⟨Classical.not_not.1 hc, hn⟩
theorem ur_line {labs : List (List UInt8 × Int)} {rs : List RL} {k : Nat} {r : RL} (h : rs[k]? = some r) (hn : urF labs k (rs.drop k) = none) : (r.name ≠ [] → ¬ idxOf (fun y => decide (y.1 = r.name)) labs 0 < 0) ∧ urF labs (k + 1) (rs.drop (k + 1)) = none := by
  by_cases hc : r.name ≠ [] ∧ idxOf (fun y => decide (y.1 = r.name)) labs 0 < 0
  · rw [urF_bad h hc] at hn; cases hn
  · rw [urF_next h hc] at hn; exact ⟨fun h1 h2 => hc ⟨h1, h2⟩, hn⟩
theorem lc_zero {t : Tab} {prev : List RL} {sz : Int} {r : RL} (h : lcR t prev sz r = 0) : r.op = [] ∨ (¬ t.cells < sz + szL r ∧ ¬ ((findN t.ins r.op).isSome = false ∧ isOwn r.op = false)) := by
  unfold lcR at h
  split at h
  · cases h
  split at h
  · cases h
  split at h
  · left; assumption
  split at h
  · cases h
  rename_i h12
  split at h
  · cases h
  split at h
  · cases h
  split at h
  · cases h
  right
  exact ⟨by assumption, h12⟩
theorem sz_next {t : Tab} {prev : List RL} {sz : Int} {r : RL} (h : lcR t prev sz r = 0) (hc : t.cells ≤ 65536) (hz : sz ≤ 65536) : sz + szL r ≤ 65536 := by
  rcases lc_zero h with h1 | ⟨h1, _⟩
  · have : szL r = 0 := by rw [szL, if_pos h1]
    omega
  · omega
theorem ins_line {t : Tab} {prev : List RL} {sz : Int} {r : RL} (h : lcR t prev sz r = 0) (h1 : r.op ≠ []) (h2 : r.op ≠ wordB) (h3 : ¬ r.op = spaceB) : ¬ idxOf (fun y => decide (y.name = r.op)) t.ins 0 < 0 := by
  rcases lc_zero h with h4 | ⟨_, h4⟩
  · exact absurd h4 h1
  · intro hn
    refine h4 ⟨by rw [show findN t.ins r.op = none from idx_neg hn]; rfl, decide_eq_false ?_⟩
    rintro (e | e)
    · exact h2 e
    · exact h3 e
theorem u32_rep {w : List Int} (h : ∀ x ∈ w, U32 x) (m : Nat) : ∀ x ∈ w ++ List.replicate m 0, U32 x := fun x hx => by
  rcases List.mem_append.1 hx with h1 | h1
  · exact h x h1
  · rw [(List.mem_replicate.1 h1).2]; exact u32z
end Go.Proofs.YteomcjpigoaioaaGreatDoor
