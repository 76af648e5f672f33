/- Part 7 of the proof of asmPackIsInverse_holds: texts W15, Pk, W16, Rf, Rg, Rc, M14. -/
import Derived.Test.YteomcjpigoaioaaGreatDoorQ14x6
import Derived.ProofKit
import Derived.OpenShut
import Derived.SizedLaws
import Derived.Deep.Slices
import Derived.Test.YteomcjpigoaioaaGreatDoorRows
import Derived.Lay
import Derived.Lib.LaidTab
import Derived.Stop.LaidErr
import Derived.SevenTiedAt
import Derived.Test.YteomcjpigoaioaaGreatDoorCards
import Derived.Test.YteomcjpigoaioaaGreatDoorTie
set_option linter.unusedVariables false
set_option linter.unusedSimpArgs false
set_option linter.unnecessarySimpa false
namespace Go.Proofs.YteomcjpigoaioaaGreatDoor
open Go.FL
attribute [local irreducible] JC JO JA JB thenQ blockQ retQ AC fill CellsAt QE Ev Mid
theorem bT {p : Prop} [Decidable p] (h : p) : Value.bool (decide p) = .bool true := by rw [decide_eq_true h]
theorem bF {p : Prop} [Decidable p] (h : p) : Value.bool (!decide p) = .bool false := by rw [decide_eq_true h]; rfl
theorem AC.isT {P : Program} {D : Nat} {f : FuncId} {args : List Value} {L : Hl} {s : World} {p : Prop} [Decidable p] (h : AC P D f args L s fun v L' _ => v = .bool (decide p) ∧ L = L') (hp : p) : AC P D f args L s fun v L' _ => v = .bool true ∧ L = L' :=
  h.mono fun v L' _ _ ⟨h1, h2⟩ => ⟨by rw [h1, decide_eq_true hp], h2⟩
theorem defaultP_ac (D : Nat) (L : Hl) (s : World) : AC Tryz.prog D 46 [] L s fun v L' s' => L = L' ∧ ∃ A n c, v = .agg #[.int .i64 65536, .slice A n c] ∧ Inss s' A n c defT.ins := AC.pubW (defaultO_ac D L s)
def exT : List UInt8 := [32, 106, 117, 109, 112, 32, 101, 110, 100, 32, 59, 32, 97, 32, 99, 111, 109, 109, 101, 110, 116, 10, 120, 58, 32, 119, 111, 114, 100, 32, 55, 10, 101, 110, 100, 58, 32, 108, 111, 97, 100, 32, 120, 10, 32, 115, 112, 97, 99, 101, 32, 50, 10]
theorem ex_R : asmR defT exT = .inr ([26, 3, 7, 3, 2, 0, 0], [([120], 2), ([101, 110, 100], 3)]) := by decide +kernel
theorem ex_tab : (tabFault defT).1 = 0 := by decide +kernel
theorem ex_W : asmW defT exT = [26, 3, 7, 3, 2, 0, 0] ∧ asmL defT exT = [([120], 2), ([101, 110, 100], 3)] ∧ asmFt defT exT = (0, 0) := asmW_r ex_R
def exL : List UInt8 := [110, 117, 109, 32, 57, 10, 115, 116, 111, 112, 10, 119, 111, 114, 100, 32, 50, 10]
theorem ex_l : lstF defT [2, 9, 1, 2] = exL := by
  obtain ⟨y, hy, ho, hn⟩ : ∃ y, findI defT.ins 2 = some y ∧ y.operand = true ∧ y.name = [110, 117, 109] := ⟨(findI defT.ins 2).get (by decide +kernel), (Option.some_get _).symm, by decide +kernel, by decide +kernel⟩
  obtain ⟨z, hz, zo, zn⟩ : ∃ y, findI defT.ins 1 = some y ∧ y.operand = false ∧ y.name = [115, 116, 111, 112] := ⟨(findI defT.ins 1).get (by decide +kernel), (Option.some_get _).symm, by decide +kernel, by decide +kernel⟩
  rw [lst_opd hy ho, lst_plain hz zo, lst_word (by unfold plainB; rw [hy]; simp [ho]) (by simp), hn, zn, show (9 : Int).toNat = 9 from rfl, show (2 : Int).toNat = 2 from rfl, Lib.decDigits_one (by decide), Lib.decDigits_one (by decide)]
  rfl
theorem ex_S : listS defT [2, 9, 1, 2] = exL ∧ listE defT [2, 9, 1, 2] = (0, 0) := by
  have h3 : ¬ 400000 < (lstF defT [2, 9, 1, 2]).length := by rw [ex_l]; decide
  have := list_ok ex_tab (by decide +kernel) h3
  rw [ex_l] at this
  exact this
theorem ex_K : keyS [97, 49] = 65 ∧ keyE [97, 49] = (0, 0) := by decide +kernel
theorem ex_N : nameS 65 = [97, 49] ∧ nameE 65 = (0, 0) := by
  have h : nmF 65 [] = some [49, 97] := by
    rw [nmF_more (by decide) (by decide), nmF_more (by decide) (by decide), show 65 / 37 / 37 = 0 from rfl, nmF_zero]; rfl
  have := name_ok h (by decide +kernel)
  exact this
theorem ex_P : packS [5, 300] = [5, 172, 2] ∧ packE [5, 300] = (0, 0) := by
  have h1 : grp 5 = [5] := grp_small (by decide)
  have h2 : grp 300 = [172, 2] := by rw [grp_big (by decide), grp_small (by decide)]; rfl
  refine ⟨?_, rfl⟩
  rw [packS, if_neg (by decide), packF]
  show [grp 5, grp 300].flatten = _
  rw [h1, h2]; rfl
theorem ex_U : unpS [5, 172, 2] = [5, 300] ∧ unpE [5, 172, 2] = (0, 0) := by
  have h : upF 0 [] [5, 172, 2] = .inr [5, 300] := by
    rw [upF_more (x := (5, 1, 5, [172, 2])) (by decide) (by decide +kernel) (by decide), upF_more (x := (300, 2, 2, [])) (by decide) (by decide +kernel) (by decide), upF_nil]; rfl
  exact unp_r (unp_ok (by decide) h (by decide))
theorem wds_lit {s : World} {b : Nat} {l : List Int} (h : CellsAt s b 0 (wv l)) (hu : ∀ x ∈ l, U32 x) (hl : l.length ≤ 1000) : Wds s (some ⟨b, 0, none⟩) l.length l.length l :=
  wds_pub (yc := []) (cc := l.length) (by simpa using h) hu (by simp) (by omega)
theorem bts_lit {s : World} {b : Nat} {l : List UInt8} (h : CellsAt s b 0 (bv l)) (hl : l.length ≤ 1000) : Bts s (some ⟨b, 0, none⟩) l.length l.length l :=
  bts_pub (yc := []) (cc := l.length) (by simpa using h) (by simp) (by omega)
theorem labs_lit {s : World} {b : Nat} {l : List (List UInt8 × Int)} (h : CellsAt s b 0 (lbv l)) (hu : ∀ x ∈ l, U32 x.2) (hl : l.length ≤ 1000) : Labs s (some ⟨b, 0, none⟩) l.length l.length l := by
  have hll : (lbv l).length = l.length * 2 := by
    clear h hu hl
    induction l with
    | nil => rfl
    | cons x l ih => simp only [lbv, List.map_cons, List.flatten_cons, List.length_append, List.length_cons, List.length_nil] at ih ⊢; omega
  exact Own.labs (e := 0) (A := [(b, cb (lbv l ++ []) 0)]) (.blk b l.length l.length (lbv l) [] hll (by simp [hll]) (Nat.le_refl _) (by omega)) hu (fun b' zs t hm => by
    simp only [List.append_nil, List.mem_singleton, Prod.mk.injEq] at hm
    obtain ⟨rfl, hcb⟩ := hm
    have : zs = lbv l := by
      unfold cb at hcb
      injection hcb with e1
      simpa using congrArg Array.toList e1
    rw [this]; exact h) rfl
theorem u32L (l : List Int) (h : l.all (fun x => decide (0 ≤ x ∧ x < 4294967296)) = true) : ∀ x ∈ l, U32 x := fun x hx => by have := List.all_eq_true.1 h x hx; simpa [U32] using this
set_option maxHeartbeats 4000000 in
set_option maxRecDepth 100000 in
theorem translated_ac (D : Nat) (L : Hl) (s : World) (hG : GW s) : AC Tryz.prog D 14 [] L s fun v L' _ => v = .bool true ∧ L = L' := by
 refine AC_enter (TT := TT) (fn := Tryz.f14) TT_ok Tryz.func14 (by kernel_rfl) rfl Tryz.ntmps14 rfl (rs := [.tmp 0]) rfl [] rfl ?_
 refine JC_seq ?_
 refine JC_region ?_
 refine JO_q (QE_as rfl) rfl ?_
 refine JO_nil ?_
 refine thenQ_n ?_
 refine JC_seq ?_
 refine JC_region ?_
 refine JO_call (first := []) (captured := []) rfl rfl rfl (defaultP_ac D _ _) ?_
 rintro _ _ s1 h1 ⟨rfl, Ad1, nd1, cd1, rfl, hd1⟩
 refine JO_call (first := []) (captured := []) rfl rfl rfl (assembleP_ac D _ _ (hG.le h1) defT _ _ _ (hd1.le (Le.refl (D := D) _)) exT) ?_
 rintro _ _ s2 h2 ⟨rfl, A1, n1, c1, rfl, hW1⟩
 rw [ex_W.1] at hW1
 refine JO_q (QE_mv rfl) rfl ?_
 refine JO_q (QE_ext rfl rfl) rfl ?_
 refine JO_q (QE_ext rfl rfl) rfl ?_
 refine JO_allocZ rfl [_, _] rfl rfl ?_
 intro β3 s3 h3
 refine JO_q (QE_as rfl) rfl ?_
 refine JO_st 0 [_, _] rfl rfl rfl rfl rfl rfl rfl rfl rfl ?_
 refine JO_nil ?_
 refine thenQ_n ?_
 refine JC_seq ?_
 refine JC_region ?_
 refine JO_call (first := []) (captured := []) rfl rfl rfl (defaultP_ac D _ _) ?_
 rintro _ _ s4 h4 ⟨rfl, Ad2, nd2, cd2, rfl, hd2⟩
 refine JO_call (first := []) (captured := []) rfl rfl rfl (labelsP_ac D _ _ (hG.le (Le.trans (Le.trans (Le.trans h1 h2) h3) h4)) defT _ _ _ (hd2.le (Le.refl (D := D) _)) exT) ?_
 rintro _ _ s5 h5 ⟨rfl, A2, n2, c2, rfl, hL2⟩
 rw [ex_W.2.1] at hL2
 refine JO_q (QE_mv rfl) rfl ?_
 refine JO_q (QE_ext rfl rfl) rfl ?_
 refine JO_q (QE_ext rfl rfl) rfl ?_
 refine JO_allocZ rfl [_, _] rfl rfl ?_
 intro β6 s6 h6
 refine JO_q (QE_as rfl) rfl ?_
 refine JO_st 0 [_, _] rfl rfl rfl rfl rfl rfl rfl rfl rfl ?_
 refine JO_nil ?_
 refine thenQ_n ?_
 refine JC_seq ?_
 refine JC_region ?_
 refine JO_call (first := []) (captured := []) rfl rfl rfl (defaultP_ac D _ _) ?_
 rintro _ _ s7 h7 ⟨rfl, Ad3, nd3, cd3, rfl, hd3⟩
 refine JO_bs [(_, _), (_, _), (_, _), (_, _)] [_, _, _, _] rfl rfl rfl rfl rfl rfl rfl rfl rfl ?_
 intro βi s8 h8 hci
 refine JO_call (first := []) (captured := []) rfl rfl rfl (list_ac D _ _ (hG.le (Le.trans (Le.trans (Le.trans (Le.trans (Le.trans (Le.trans (Le.trans h1 h2) h3) h4) h5) h6) h7) h8)) defT _ _ _ (hd3.le h8) _ _ _ [2, 9, 1, 2] (wds_lit (l := [2, 9, 1, 2]) (hci.le (Le.refl (D := D) _)) (u32L _ rfl) (by decide))) ?_
 rintro _ _ s9 h9 ⟨rfl, rfl⟩
 refine JO_q (QE_mv rfl) rfl ?_
 refine JO_q (QE_ext rfl rfl) rfl ?_
 refine JO_q (QE_ext rfl rfl) rfl ?_
 refine JO_allocZ rfl [_, _] rfl rfl ?_
 intro β10 s10 h10
 refine JO_q (QE_as rfl) rfl ?_
 refine JO_st 0 [_, _] rfl rfl rfl rfl rfl rfl rfl rfl rfl ?_
 refine JO_nil ?_
 refine thenQ_n ?_
 refine JC_seq ?_
 refine JC_region ?_
 refine JO_call (first := []) (captured := []) rfl rfl rfl (key_ac D _ _ [97, 49]) ?_
 rintro _ _ s11 h11 ⟨rfl, rfl⟩
 refine JO_q (QE_mv rfl) rfl ?_
 refine JO_q (QE_ext rfl rfl) rfl ?_
 refine JO_q (QE_ext rfl rfl) rfl ?_
 refine JO_allocZ rfl [_, _] rfl rfl ?_
 intro β12 s12 h12
 refine JO_q (QE_as rfl) rfl ?_
 refine JO_st 0 [_, _] rfl rfl rfl rfl rfl rfl rfl rfl rfl ?_
 refine JO_nil ?_
 refine thenQ_n ?_
 refine JC_seq ?_
 refine JC_region ?_
 refine JO_call (first := []) (captured := []) rfl rfl rfl (name_ac D _ _ 65 (by decide)) ?_
 rintro _ _ s13 h13 ⟨rfl, rfl⟩
 refine JO_q (QE_mv rfl) rfl ?_
 refine JO_q (QE_ext rfl rfl) rfl ?_
 refine JO_q (QE_ext rfl rfl) rfl ?_
 refine JO_allocZ rfl [_, _] rfl rfl ?_
 intro β14 s14 h14
 refine JO_q (QE_as rfl) rfl ?_
 refine JO_st 0 [_, _] rfl rfl rfl rfl rfl rfl rfl rfl rfl ?_
 refine JO_nil ?_
 refine thenQ_n ?_
 refine JC_seq ?_
 refine JC_region ?_
 refine JO_bs [(_, _), (_, _)] [_, _] rfl rfl rfl rfl rfl rfl rfl rfl rfl ?_
 intro βp s15 h15 hcp
 refine JO_call (first := []) (captured := []) rfl rfl rfl (pack_ac D _ _ _ _ _ [5, 300] (wds_lit (l := [5, 300]) (hcp.le (Le.refl (D := D) _)) (u32L _ rfl) (by decide))) ?_
 rintro _ _ s16 h16 ⟨rfl, A3, n3, c3, rfl, hP⟩
 rw [ex_P.1] at hP
 refine JO_q (QE_mv rfl) rfl ?_
 refine JO_q (QE_ext rfl rfl) rfl ?_
 refine JO_q (QE_ext rfl rfl) rfl ?_
 refine JO_allocZ rfl [_, _] rfl rfl ?_
 intro β17 s17 h17
 refine JO_q (QE_as rfl) rfl ?_
 refine JO_st 0 [_, _] rfl rfl rfl rfl rfl rfl rfl rfl rfl ?_
 refine JO_nil ?_
 refine thenQ_n ?_
 refine JC_seq ?_
 refine JC_region ?_
 refine JO_bs [(_, _), (_, _), (_, _)] [_, _, _] rfl rfl rfl rfl rfl rfl rfl rfl rfl ?_
 intro βq s18 h18 hcq
 refine JO_call (first := []) (captured := []) rfl rfl rfl (unpack_ac D _ _ _ _ _ [5, 172, 2] (bts_lit (l := [5, 172, 2]) (hcq.le (Le.refl (D := D) _)) (by decide))) ?_
 rintro _ _ s19 h19 ⟨rfl, A4, n4, c4, rfl, hU⟩
 rw [ex_U.1] at hU
 refine JO_q (QE_mv rfl) rfl ?_
 refine JO_q (QE_ext rfl rfl) rfl ?_
 refine JO_q (QE_ext rfl rfl) rfl ?_
 refine JO_allocZ rfl [_, _] rfl rfl ?_
 intro β20 s20 h20
 refine JO_q (QE_as rfl) rfl ?_
 refine JO_st 0 [_, _] rfl rfl rfl rfl rfl rfl rfl rfl rfl ?_
 refine JO_nil ?_
 refine thenQ_n ?_
 refine JC_seq ?_
 refine JC_seq ?_
 refine JC_region ?_
 refine JO_q (QE_fa0 rfl rfl rfl rfl) rfl ?_
 refine JO_q (QE_ld1 6 rfl rfl rfl rfl rfl) rfl ?_
 refine JO_q (QE_cast (v' := .bool false) (QE_ne rfl rfl) (bF (by rw [ex_W.2.2]))) rfl ?_
 refine JO_q (QE_mv rfl) rfl ?_
 refine JO_gT rfl rfl ?_
 refine JO_q (QE_fa0 rfl rfl rfl rfl) rfl ?_
 refine JO_gT rfl rfl ?_
 refine JO_q (QE_ld1 5 rfl rfl rfl rfl rfl) rfl ?_
 refine JO_gT rfl rfl ?_
 refine JO_q (QE_cast (v' := .bool false) (QE_ne rfl rfl) (bF (by rw [ex_W.2.2]))) rfl ?_
 refine JO_q (QE_pickF rfl rfl) rfl ?_
 refine JO_q (QE_mv rfl) rfl ?_
 refine JO_gT rfl rfl ?_
 refine JO_q (QE_fa0 rfl rfl rfl rfl) rfl ?_
 refine JO_gT rfl rfl ?_
 refine JO_q (QE_ld1 4 rfl rfl rfl rfl rfl) rfl ?_
 refine JO_gT rfl rfl ?_
 refine JO_q (QE_cast (v' := .bool false) (QE_ne rfl rfl) (bF (by rw [ex_S.2]))) rfl ?_
 refine JO_q (QE_pickF rfl rfl) rfl ?_
 refine JO_q (QE_mv rfl) rfl ?_
 refine JO_gT rfl rfl ?_
 refine JO_q (QE_fa0 rfl rfl rfl rfl) rfl ?_
 refine JO_gT rfl rfl ?_
 refine JO_q (QE_ld1 3 rfl rfl rfl rfl rfl) rfl ?_
 refine JO_gT rfl rfl ?_
 refine JO_q (QE_cast (v' := .bool false) (QE_ne rfl rfl) (bF (by rw [ex_K.2]))) rfl ?_
 refine JO_q (QE_pickF rfl rfl) rfl ?_
 refine JO_q (QE_mv rfl) rfl ?_
 refine JO_gT rfl rfl ?_
 refine JO_q (QE_fa0 rfl rfl rfl rfl) rfl ?_
 refine JO_gT rfl rfl ?_
 refine JO_q (QE_ld1 2 rfl rfl rfl rfl rfl) rfl ?_
 refine JO_gT rfl rfl ?_
 refine JO_q (QE_cast (v' := .bool false) (QE_ne rfl rfl) (bF (by rw [ex_N.2]))) rfl ?_
 refine JO_q (QE_pickF rfl rfl) rfl ?_
 refine JO_q (QE_mv rfl) rfl ?_
 refine JO_gT rfl rfl ?_
 refine JO_q (QE_fa0 rfl rfl rfl rfl) rfl ?_
 refine JO_gT rfl rfl ?_
 refine JO_q (QE_ld1 1 rfl rfl rfl rfl rfl) rfl ?_
 refine JO_gT rfl rfl ?_
 refine JO_q (QE_cast (v' := .bool false) (QE_ne rfl rfl) (bF (by rw [ex_P.2]))) rfl ?_
 refine JO_q (QE_pickF rfl rfl) rfl ?_
 refine JO_q (QE_mv rfl) rfl ?_
 refine JO_gT rfl rfl ?_
 refine JO_q (QE_fa0 rfl rfl rfl rfl) rfl ?_
 refine JO_gT rfl rfl ?_
 refine JO_q (QE_ld1 0 rfl rfl rfl rfl rfl) rfl ?_
 refine JO_gT rfl rfl ?_
 refine JO_q (QE_cast (v' := .bool false) (QE_ne rfl rfl) (bF (by rw [ex_U.2]))) rfl ?_
 refine JO_q (QE_pickF rfl rfl) rfl ?_
 refine JO_nil ?_
 refine thenQ_n ?_
 refine JC_ifF rfl ?_
 refine JC_skip ?_
 refine thenQ_n ?_
 refine JC_seq ?_
 refine JC_region ?_
 refine JO_q (QE_mv rfl) rfl ?_
 refine JO_bs [(_, _), (_, _), (_, _), (_, _), (_, _), (_, _), (_, _)] [_, _, _, _, _, _, _] rfl rfl rfl rfl rfl rfl rfl rfl rfl ?_
 intro βe s21 h21 hce
 refine JO_call (first := []) (captured := []) rfl rfl rfl (AC.isT (sameWords_ac D _ _ _ _ _ _ (hW1.le (Le.trans (Le.trans (Le.trans (Le.trans (Le.trans (Le.trans (Le.trans (Le.trans (Le.trans (Le.trans (Le.trans (Le.trans (Le.trans (Le.trans (Le.trans (Le.trans (Le.trans (Le.trans h3 h4) h5) h6) h7) h8) h9) h10) h11) h12) h13) h14) h15) h16) h17) h18) h19) h20) h21)) _ _ _ [26, 3, 7, 3, 2, 0, 0] (wds_lit (l := [26, 3, 7, 3, 2, 0, 0]) (hce.le (Le.refl (D := D) _)) (u32L _ rfl) (by decide))) rfl) ?_
 rintro _ _ s22 h22 ⟨rfl, rfl⟩
 refine JO_q (QE_mv rfl) rfl ?_
 refine JO_gT rfl rfl ?_
 refine JO_q (QE_mv rfl) rfl ?_
 refine JO_gT rfl rfl ?_
 refine JO_q (QE_build [(_, _), (_, _)] [_, _] rfl rfl rfl rfl rfl rfl) rfl ?_
 refine JO_gT rfl rfl ?_
 refine JO_q (QE_build [(_, _), (_, _)] [_, _] rfl rfl rfl rfl rfl rfl) rfl ?_
 refine JO_gT rfl rfl ?_
 refine JO_bs [(_, _), (_, _)] [_, _, _, _] rfl rfl rfl rfl rfl rfl rfl rfl rfl ?_
 intro βf s23 h23 hcf
 refine JO_gT rfl rfl ?_
 refine JO_call (first := []) (captured := []) rfl rfl rfl (AC.isT (sameLabels_ac D _ _ _ _ _ _ (hL2.le (Le.trans (Le.trans (Le.trans (Le.trans (Le.trans (Le.trans (Le.trans (Le.trans (Le.trans (Le.trans (Le.trans (Le.trans (Le.trans (Le.trans (Le.trans (Le.trans (Le.trans h6 h7) h8) h9) h10) h11) h12) h13) h14) h15) h16) h17) h18) h19) h20) h21) h22) h23)) _ _ _ [([120], 2), ([101, 110, 100], 3)] (labs_lit (l := [([120], 2), ([101, 110, 100], 3)]) (hcf.le (Le.refl (D := D) _)) (by simp [U32]) (by decide))) rfl) ?_
 rintro _ _ s24 h24 ⟨rfl, rfl⟩
 refine JO_q (QE_pickT rfl rfl) rfl ?_
 refine JO_q (QE_mv rfl) rfl ?_
 refine JO_gT rfl rfl ?_
 refine JO_q (QE_mv rfl) rfl ?_
 refine JO_gT rfl rfl ?_
 refine JO_q (QE_cast (v' := .bool true) (QE_seq rfl rfl) (bT ex_S.1)) rfl ?_
 refine JO_q (QE_pickT rfl rfl) rfl ?_
 refine JO_q (QE_mv rfl) rfl ?_
 refine JO_gT rfl rfl ?_
 refine JO_q (QE_mv rfl) rfl ?_
 refine JO_gT rfl rfl ?_
 refine JO_q (QE_cast (v' := .bool true) (QE_eq rfl rfl) (bT ex_K.1)) rfl ?_
 refine JO_q (QE_pickT rfl rfl) rfl ?_
 refine JO_q (QE_mv rfl) rfl ?_
 refine JO_gT rfl rfl ?_
 refine JO_q (QE_mv rfl) rfl ?_
 refine JO_gT rfl rfl ?_
 refine JO_q (QE_cast (v' := .bool true) (QE_seq rfl rfl) (bT ex_N.1)) rfl ?_
 refine JO_q (QE_pickT rfl rfl) rfl ?_
 refine JO_q (QE_mv rfl) rfl ?_
 refine JO_gT rfl rfl ?_
 refine JO_q (QE_mv rfl) rfl ?_
 refine JO_gT rfl rfl ?_
 refine JO_bs [(_, _), (_, _), (_, _)] [_, _, _] rfl rfl rfl rfl rfl rfl rfl rfl rfl ?_
 intro βg s25 h25 hcg
 refine JO_gT rfl rfl ?_
 refine JO_call (first := []) (captured := []) rfl rfl rfl (AC.isT (sameBytes_ac D _ _ _ _ _ _ (hP.le (Le.trans (Le.trans (Le.trans (Le.trans (Le.trans (Le.trans (Le.trans (Le.trans h17 h18) h19) h20) h21) h22) h23) h24) h25)) _ _ _ [5, 172, 2] (bts_lit (l := [5, 172, 2]) (hcg.le (Le.refl (D := D) _)) (by decide))) rfl) ?_
 rintro _ _ s26 h26 ⟨rfl, rfl⟩
 refine JO_q (QE_pickT rfl rfl) rfl ?_
 refine JO_q (QE_mv rfl) rfl ?_
 refine JO_gT rfl rfl ?_
 refine JO_q (QE_mv rfl) rfl ?_
 refine JO_gT rfl rfl ?_
 refine JO_bs [(_, _), (_, _)] [_, _] rfl rfl rfl rfl rfl rfl rfl rfl rfl ?_
 intro βh s27 h27 hch
 refine JO_gT rfl rfl ?_
 refine JO_call (first := []) (captured := []) rfl rfl rfl (AC.isT (sameWords_ac D _ _ _ _ _ _ (hU.le (Le.trans (Le.trans (Le.trans (Le.trans (Le.trans (Le.trans (Le.trans h20 h21) h22) h23) h24) h25) h26) h27)) _ _ _ [5, 300] (wds_lit (l := [5, 300]) (hch.le (Le.refl (D := D) _)) (u32L _ rfl) (by decide))) rfl) ?_
 rintro _ _ s28 h28 ⟨rfl, rfl⟩
 refine JO_q (QE_pickT rfl rfl) rfl ?_
 refine JO_q (QE_as rfl) rfl ?_
 refine JO_nil ?_
 refine thenQ_n ?_
 refine JC_ret ?_
 refine retQ_mk [_, _, _, _, _, _, _] L (.inr rfl) (.tmp rfl (.nil)) rfl (Le.trans (Le.trans (Le.trans (Le.trans (Le.trans (Le.trans (Le.trans (Le.trans (Le.trans (Le.trans (Le.trans (Le.trans (Le.trans (Le.trans (Le.trans (Le.trans (Le.trans (Le.trans (Le.trans (Le.trans (Le.trans (Le.trans (Le.trans (Le.trans (Le.trans (Le.trans (Le.trans h1 h2) h3) h4) h5) h6) h7) h8) h9) h10) h11) h12) h13) h14) h15) h16) h17) h18) h19) h20) h21) h22) h23) h24) h25) h26) h27) h28) (fun sR hS2 => ?_)
 exact ⟨rfl, rfl⟩
end Go.Proofs.YteomcjpigoaioaaGreatDoor
namespace Go.Proofs.YteomcjpigoaioaaGreatDoor
open Go Go.FL Go.RowKit
def lastN (w : Nat) : Nat := if w < 128 then w else lastN (w / 128)
termination_by w
decreasing_by omega
theorem lastN_pos {w : Nat} (h : 1 ≤ w) : 1 ≤ lastN w := by
  induction w using Nat.strongRecOn with
  | _ w ih =>
    rw [lastN]
    split
    · exact h
    · exact ih (w / 128) (by omega) (by omega)
theorem lastN_lt (w : Nat) : lastN w < 128 := by
  induction w using Nat.strongRecOn with
  | _ w ih =>
    rw [lastN]
    split
    · assumption
    · exact ih (w / 128) (by omega)
theorem u8n {k : Nat} (h : k < 256) : (UInt8.ofNat k).toNat = k := by simp; omega
theorem upG_grp (w : Nat) : ∀ (sz n : Nat) (r : List UInt8), sz + (grp w).length ≤ 5 → upG sz n (grp w ++ r) = .inr (n + w * 128 ^ sz, sz + (grp w).length, UInt8.ofNat (lastN w), r) := by
  induction w using Nat.strongRecOn with
  | _ w ih =>
    intro sz n r h
    by_cases h1 : w < 128
    · rw [grp_small h1, lastN, if_pos h1, List.cons_append, List.nil_append, upG, u8n (by omega), if_pos h1, Nat.mod_eq_of_lt h1]; rfl
    · rw [grp_big h1] at h ⊢
      simp only [List.length_cons] at h
      have hp := grp_pos (w / 128)
      rw [List.cons_append, upG, u8n (by omega), if_neg (by omega), if_neg (by omega), ih (w / 128) (by omega) _ _ _ (by omega), show lastN w = lastN (w / 128) by rw [lastN, if_neg h1]]
      have e : n + (w % 128 + 128) % 128 * 128 ^ sz + w / 128 * 128 ^ (sz + 1) = n + w * 128 ^ sz := by
        rw [Nat.pow_succ, Nat.mul_comm (128 ^ sz) 128, ← Nat.mul_assoc, Nat.add_assoc, ← Nat.add_mul]
        congr 2
        omega
      rw [e, List.length_cons, show sz + 1 + (grp (w / 128)).length = sz + ((grp (w / 128)).length + 1) by omega]
theorem grp_one {w : Nat} (h : 1 < (grp w).length) : 128 ≤ w := by
  by_cases h1 : w < 128
  · rw [grp_small h1] at h; simp at h
  · omega
theorem upF_pack (l : List Int) (hu : ∀ x ∈ l, U32 x) (k : Nat) (acc : List Int) : upF k acc (packF l) = .inr (acc ++ l) := by
  induction l generalizing k acc with
  | nil => simp only [packF, List.map_nil, List.flatten_nil, List.append_nil]; exact upF_nil ..
  | cons x l ih =>
    obtain ⟨X, rfl⟩ := Int.eq_ofNat_of_zero_le (hu x (List.mem_cons_self ..)).1
    have hX : X < 4294967296 := by have := (hu _ (List.mem_cons_self ..)).2; omega
    have hp : packF ((X : Int) :: l) = grp X ++ packF l := by simp [packF]
    have hg := upG_grp X 0 0 (packF l) (by have := grp_len hX; omega)
    simp only [Nat.zero_add, Nat.pow_zero, Nat.mul_one] at hg
    have hne : grp X ++ packF l ≠ [] := by
      have := grp_pos X
      intro e
      have h2 := congrArg List.length e
      rw [List.length_append, List.length_nil] at h2; omega
    rw [hp, upF_more hne hg, ih fun y hy => hu y (List.mem_cons_of_mem _ hy)]
    · simp
    · intro h
      rcases h with h | ⟨h1, h2⟩
      · simp only at h; omega
      · have h3 := grp_one h1
        have h4 := lastN_pos (w := X) (by omega)
        have h5 := congrArg UInt8.toNat h2
        rw [u8n (by have := lastN_lt X; omega)] at h5
        have : (0 : UInt8).toNat = 0 := rfl
        omega
theorem pack_len {l : List Int} (hu : ∀ x ∈ l, U32 x) : (packF l).length ≤ 5 * l.length := by
  induction l with
  | nil => simp [packF]
  | cons x l ih =>
    have hX : x.toNat < 4294967296 := by have := (hu _ (List.mem_cons_self ..)).2; have := (hu _ (List.mem_cons_self ..)).1; omega
    have := ih fun y hy => hu y (List.mem_cons_of_mem _ hy)
    have := grp_len hX
    have hp : packF (x :: l) = grp x.toNat ++ packF l := by simp [packF]
    rw [hp, List.length_append, List.length_cons]; omega
theorem unpack_pack {l : List Int} (hu : ∀ x ∈ l, U32 x) (h : (packE l).1 = 0) : unpF (packS l) = .inr l := by
  have hl : ¬ 65536 < l.length := by
    intro h1; rw [packE, if_pos h1] at h; cases h
  rw [packS, if_neg hl]
  have h1 := upF_pack l hu 0 []
  have h2 := pack_len hu
  exact unp_ok (by omega) h1 hl
theorem upG_inv {b : List UInt8} : ∀ {sz n : Nat} {x : Nat × Nat × UInt8 × List UInt8}, upG sz n b = .inr x → ∃ m, x.1 = n + m * 128 ^ sz ∧ sz < x.2.1 ∧ (m = 0 → x.2.2.1 = 0) ∧ ((x.2.2.1 ≠ 0 ∨ x.2.1 = sz + 1) → b = grp m ++ x.2.2.2) := by
  induction b with
  | nil => intro sz n x h; simp [upG] at h
  | cons c r ih =>
    intro sz n x h
    have hc := c.toNat_lt
    simp only [upG] at h
    split at h
    · rename_i h1
      injection h with h; subst h
      refine ⟨c.toNat, by simp [Nat.mod_eq_of_lt h1], by simp, fun h0 => UInt8.toNat_inj.1 (by simpa using h0), fun _ => ?_⟩
      rw [grp_small h1]
      simp
    · rename_i h1
      split at h
      · cases h
      · obtain ⟨m, e1, e2, e3, e4⟩ := ih h
        refine ⟨c.toNat % 128 + 128 * m, ?_, by omega, fun h0 => e3 (by omega), fun hor => ?_⟩
        · rw [e1, Nat.pow_succ, Nat.add_mul, Nat.add_assoc]
          congr 2
          rw [Nat.mul_comm (128 ^ sz) 128, ← Nat.mul_assoc, Nat.mul_comm m 128]
        · have hne : x.2.2.1 ≠ 0 := hor.resolve_right (by omega)
          have hr := e4 (.inl hne)
          have hm : m ≠ 0 := fun h0 => hne (e3 h0)
          rw [grp_big (by omega), show (c.toNat % 128 + 128 * m) % 128 + 128 = c.toNat by omega, show (c.toNat % 128 + 128 * m) / 128 = m by omega, List.cons_append, ← hr]
          simp
theorem upF_inv (k : Nat) : ∀ (b : List UInt8) (at_ : Nat) (acc l : List Int), b.length ≤ k → upF at_ acc b = .inr l → ∃ l', l = acc ++ l' ∧ b = packF l' ∧ ∀ x ∈ l', U32 x := by
  induction k with
  | zero =>
    intro b at_ acc l hb h
    obtain rfl : b = [] := List.eq_nil_of_length_eq_zero (by omega)
    rw [upF_nil] at h; injection h with h
    exact ⟨[], by simpa using h.symm, rfl, (fun _ h => by cases h)⟩
  | succ k ih =>
    intro b at_ acc l hb h
    by_cases h0 : b = []
    · subst h0
      rw [upF_nil] at h; injection h with h
      exact ⟨[], by simpa using h.symm, rfl, (fun _ h => by cases h)⟩
    · cases hg : upG 0 0 b with
      | inl e => rw [upF_err h0 hg] at h; cases h
      | inr x =>
        by_cases hb2 : 4294967295 < x.1 ∨ (1 < x.2.1 ∧ x.2.2.1 = 0)
        · rw [upF_form h0 hg hb2] at h; cases h
        · rw [upF_more h0 hg hb2] at h
          have hs := upG_short hg
          obtain ⟨l', e1, e2, e3⟩ := ih _ _ _ _ (by omega) h
          obtain ⟨m, f1, f2, f3, f4⟩ := upG_inv hg
          have hx : x.1 = m := by simpa using f1
          have hpre : b = grp m ++ x.2.2.2 := f4 (by
            by_cases hc : x.2.2.1 = 0
            · right
              by_cases h1 : 1 < x.2.1
              · exact absurd (.inr ⟨h1, hc⟩) hb2
              · omega
            · exact .inl hc)
          refine ⟨(x.1 : Int) :: l', by rw [e1]; simp, ?_, fun y hy => ?_⟩
          · rw [hpre, e2, hx]; simp [packF]
          · rcases List.mem_cons.1 hy with rfl | hy
            · exact ⟨by omega, by omega⟩
            · exact e3 y hy
theorem pack_unpack {b : List UInt8} (h : (unpE b).1 = 0) (hne : ∀ f, unpF b = .inl f → f.1 ≠ 0) : packS (unpS b) = b ∧ packE (unpS b) = (0, 0) := by
  cases hu : unpF b with
  | inl f => rw [(unp_l hu).2] at h; exact absurd h (hne f hu)
  | inr l =>
    rw [(unp_r hu).1]
    unfold unpF at hu
    split at hu
    · cases hu
    · split at hu
      · cases hu
      · rename_i l' hl'
        split at hu
        · cases hu
        · rename_i h3
          injection hu with hu; subst hu
          obtain ⟨l2, e1, e2, _⟩ := upF_inv b.length b 0 [] l' (Nat.le_refl _) hl'
          simp only [List.nil_append] at e1
          subst e1
          rw [packS, if_neg h3, packE, if_neg h3, ← e2]
          exact ⟨rfl, rfl⟩
theorem upG_code {b : List UInt8} : ∀ {sz n : Nat} {e : Int}, upG sz n b = .inl e → e = 15 ∨ e = 6 := by
  induction b with
  | nil => intro sz n e h; simp only [upG] at h; injection h with h; exact .inl h.symm
  | cons c r ih =>
    intro sz n e h
    simp only [upG] at h
    split at h
    · cases h
    · split at h
      · injection h with h; exact .inr h.symm
      · exact ih h
theorem upF_code (k : Nat) : ∀ (b : List UInt8) (at_ : Nat) (acc : List Int) (f : Int × Int), b.length ≤ k → upF at_ acc b = .inl f → f.1 ≠ 0 := by
  induction k with
  | zero =>
    intro b at_ acc f hb h
    obtain rfl : b = [] := List.eq_nil_of_length_eq_zero (by omega)
    rw [upF_nil] at h; cases h
  | succ k ih =>
    intro b at_ acc f hb h
    by_cases h0 : b = []
    · subst h0; rw [upF_nil] at h; cases h
    · cases hg : upG 0 0 b with
      | inl e =>
        rw [upF_err h0 hg] at h; injection h with h; subst h
        rcases upG_code hg with rfl | rfl <;> simp
      | inr x =>
        by_cases hb2 : 4294967295 < x.1 ∨ (1 < x.2.1 ∧ x.2.2.1 = 0)
        · rw [upF_form h0 hg hb2] at h; injection h with h; subst h; simp
        · rw [upF_more h0 hg hb2] at h
          have hs := upG_short hg
          exact ih _ _ _ _ (by omega) h
theorem unp_code {b : List UInt8} {f : Int × Int} (h : unpF b = .inl f) : f.1 ≠ 0 := by
  unfold unpF at h
  split at h
  · injection h with h; subst h; decide
  · split at h
    · rename_i f' hf'
      injection h with h; subst h
      exact upF_code b.length b 0 [] _ (Nat.le_refl _) hf'
    · split at h
      · injection h with h; subst h; decide
      · cases h
theorem unp_bad {b : List UInt8} (h : ¬ (unpE b).1 = 0) : unpS b = [] := by
  cases hu : unpF b with
  | inl f => exact (unp_l hu).1
  | inr l => rw [(unp_r hu).2] at h; exact absurd rfl h
end Go.Proofs.YteomcjpigoaioaaGreatDoor
namespace Go.Proofs.YteomcjpigoaioaaGreatDoor
open Go.FL
attribute [local irreducible] JC JO JA JB thenQ blockQ retQ AC fill CellsAt QE Ev Mid
set_option maxHeartbeats 2000000 in
set_option maxRecDepth 100000 in
theorem lawInverse_ac (D : Nat) (L : Hl) (s : World) (hG : GW s) (A : Option Addr) (n c : Nat) (l : List Int) (hW : Wds s A n c l) (A1 : Option Addr) (n1 c1 : Nat) (b : List UInt8) (hB : Bts s A1 n1 c1 b) : AC Tryz.prog D 9 [.slice A n c, .slice A1 n1 c1] L s fun v L' _ => v = .bool true ∧ L = L' := by
 have hu := hW.u32
 refine AC_enter (TT := TT) (fn := Tryz.f9) TT_ok Tryz.func9 (by kernel_rfl) rfl Tryz.ntmps9 rfl (rs := [.tmp 4]) rfl [(0, _), (1, _)] rfl ?_
 refine JC_seq ?_
 refine JC_region ?_
 refine JO_q (QE_as rfl) rfl ?_
 refine JO_nil ?_
 refine thenQ_n ?_
 refine JC_seq ?_
 refine JC_seq ?_
 refine JC_region ?_
 refine JO_call (first := []) (captured := []) rfl rfl rfl (translated_ac D _ _ (hG.le (Le.refl (D := D) _))) ?_
 rintro _ _ s1 h1 ⟨rfl, rfl⟩
 refine JO_q (QE_notT rfl) rfl ?_
 refine JO_nil ?_
 refine thenQ_n ?_
 refine JC_ifF rfl ?_
 refine JC_skip ?_
 refine thenQ_n ?_
 refine JC_seq ?_
 refine JC_region ?_
 refine JO_q (QE_mv rfl) rfl ?_
 refine JO_call (first := []) (captured := []) rfl rfl rfl (pack_ac D _ _ _ _ _ _ (hW.le h1)) ?_
 rintro _ _ s2 h2 ⟨rfl, Ap, np, cp, rfl, hP⟩
 refine JO_q (QE_mv rfl) rfl ?_
 refine JO_q (QE_ext rfl rfl) rfl ?_
 refine JO_q (QE_ext rfl rfl) rfl ?_
 refine JO_allocZ rfl [_, _] rfl rfl ?_
 intro β3 s3 h3
 refine JO_q (QE_as rfl) rfl ?_
 refine JO_st 0 [_, _] rfl rfl rfl rfl rfl rfl rfl rfl rfl ?_
 refine JO_nil ?_
 refine thenQ_n ?_
 refine JC_seq ?_
 refine JC_seq ?_
 refine JC_region ?_
 refine JO_q (QE_fa0 rfl rfl rfl rfl) rfl ?_
 refine JO_q (QE_ld1 0 rfl rfl rfl rfl rfl) rfl ?_
 refine JO_q (QE_eq rfl rfl) rfl ?_
 refine JO_nil ?_
 refine thenQ_n ?_
 refine JC_ifD rfl (fun c4 => ?_) (fun c4 => ?_)
 ·
  have hup := unpack_pack hu c4
  refine JC_seq ?_
  refine JC_region ?_
  refine JO_q (QE_mv rfl) rfl ?_
  refine JO_call (first := []) (captured := []) rfl rfl rfl (unpack_ac D _ _ _ _ _ _ (hP.le h3)) ?_
  rintro _ _ s5 h5 ⟨rfl, Au, nu, cu, rfl, hU⟩
  refine JO_q (QE_mv rfl) rfl ?_
  refine JO_q (QE_ext rfl rfl) rfl ?_
  refine JO_q (QE_ext rfl rfl) rfl ?_
  refine JO_allocZ rfl [_, _] rfl rfl ?_
  intro β6 s6 h6
  refine JO_q (QE_as rfl) rfl ?_
  refine JO_st 0 [_, _] rfl rfl rfl rfl rfl rfl rfl rfl rfl ?_
  refine JO_nil ?_
  refine thenQ_n ?_
  refine JC_seq ?_
  refine JC_region ?_
  refine JO_q (QE_fa0 rfl rfl rfl rfl) rfl ?_
  refine JO_q (QE_ld1 0 rfl rfl rfl rfl rfl) rfl ?_
  refine JO_q (QE_cast (v' := .bool false) (QE_ne rfl rfl) (bF (by rw [(unp_r hup).2]))) rfl ?_
  refine JO_q (QE_mv rfl) rfl ?_
  refine JO_gT rfl rfl ?_
  refine JO_q (QE_mv rfl) rfl ?_
  refine JO_gT rfl rfl ?_
  refine JO_q (QE_mv rfl) rfl ?_
  refine JO_gT rfl rfl ?_
  refine JO_call (first := []) (captured := []) rfl rfl rfl (AC.isT (sameWords_ac D _ _ _ _ _ _ (hU.le h6) _ _ _ l (hW.le (Le.trans (Le.trans (Le.trans (Le.trans h1 h2) h3) h5) h6))) (unp_r hup).1) ?_
  rintro _ _ s7 h7 ⟨rfl, rfl⟩
  refine JO_gT rfl rfl ?_
  refine JO_q (QE_notT rfl) rfl ?_
  refine JO_q (QE_pickF rfl rfl) rfl ?_
  refine JO_nil ?_
  refine thenQ_n ?_
  refine JC_ifF rfl ?_
  refine JC_skip ?_
  refine thenQ_n ?_
  refine JC_seq ?_
  refine JC_region ?_
  refine JO_q (QE_mv rfl) rfl ?_
  refine JO_call (first := []) (captured := []) rfl rfl rfl (unpack_ac D _ _ _ _ _ _ (hB.le (Le.trans (Le.trans (Le.trans (Le.trans (Le.trans h1 h2) h3) h5) h6) h7))) ?_
  rintro _ _ s8 h8 ⟨rfl, Am, nm, cm, rfl, hM⟩
  refine JO_q (QE_mv rfl) rfl ?_
  refine JO_q (QE_ext rfl rfl) rfl ?_
  refine JO_q (QE_ext rfl rfl) rfl ?_
  refine JO_allocZ rfl [_, _] rfl rfl ?_
  intro β9 s9 h9
  refine JO_q (QE_as rfl) rfl ?_
  refine JO_st 0 [_, _] rfl rfl rfl rfl rfl rfl rfl rfl rfl ?_
  refine JO_nil ?_
  refine thenQ_n ?_
  refine JC_seq ?_
  refine JC_seq ?_
  refine JC_region ?_
  refine JO_q (QE_fa0 rfl rfl rfl rfl) rfl ?_
  refine JO_q (QE_ld1 0 rfl rfl rfl rfl rfl) rfl ?_
  refine JO_q (QE_ne rfl rfl) rfl ?_
  refine JO_nil ?_
  refine thenQ_n ?_
  refine JC_ifN rfl (fun c10 => ?_) (fun c10 => ?_)
  ·
   have h44 := c10
   refine JC_seq ?_
   refine JC_region ?_
   refine JO_q (QE_mv rfl) rfl ?_
   refine JO_q (QE_lenS rfl rfl rfl) rfl ?_
   refine JO_q (QE_cast (v' := .bool true) (QE_eq rfl rfl) (bT (by have h := hM.1; rw [unp_bad h44] at h; simp at h; omega))) rfl ?_
   refine JO_q (QE_as rfl) rfl ?_
   refine JO_nil ?_
   refine thenQ_n ?_
   refine JC_ret ?_
   refine thenQ_r ?_
   refine retQ_mk [_, _, _] L (.inr rfl) (.tmp rfl (.nil)) rfl (Le.trans (Le.trans (Le.trans (Le.trans (Le.trans (Le.trans (Le.trans h1 h2) h3) h5) h6) h7) h8) h9) (fun sR hS2 => ?_)
   exact ⟨rfl, rfl⟩
  ·
   have hpk := pack_unpack c10 (fun f h => unp_code h)
   refine JC_skip ?_
   refine thenQ_n ?_
   refine JC_seq ?_
   refine JC_region ?_
   refine JO_q (QE_mv rfl) rfl ?_
   refine JO_call (first := []) (captured := []) rfl rfl rfl (pack_ac D _ _ _ _ _ _ (hM.le h9)) ?_
   rintro _ _ s11 h11 ⟨rfl, Ad, nd, cd, rfl, hD⟩
   refine JO_q (QE_mv rfl) rfl ?_
   refine JO_q (QE_ext rfl rfl) rfl ?_
   refine JO_q (QE_ext rfl rfl) rfl ?_
   refine JO_allocZ rfl [_, _] rfl rfl ?_
   intro β12 s12 h12
   refine JO_q (QE_as rfl) rfl ?_
   refine JO_st 0 [_, _] rfl rfl rfl rfl rfl rfl rfl rfl rfl ?_
   refine JO_nil ?_
   refine thenQ_n ?_
   refine JC_seq ?_
   refine JC_region ?_
   refine JO_q (QE_fa0 rfl rfl rfl rfl) rfl ?_
   refine JO_q (QE_ld1 0 rfl rfl rfl rfl rfl) rfl ?_
   refine JO_q (QE_cast (v' := .bool true) (QE_eq rfl rfl) (bT (by rw [hpk.2]))) rfl ?_
   refine JO_q (QE_mv rfl) rfl ?_
   refine JO_gT rfl rfl ?_
   refine JO_q (QE_mv rfl) rfl ?_
   refine JO_gT rfl rfl ?_
   refine JO_q (QE_mv rfl) rfl ?_
   refine JO_gT rfl rfl ?_
   refine JO_call (first := []) (captured := []) rfl rfl rfl (AC.isT (sameBytes_ac D _ _ _ _ _ _ (hD.le h12) _ _ _ b (hB.le (Le.trans (Le.trans (Le.trans (Le.trans (Le.trans (Le.trans (Le.trans (Le.trans (Le.trans h1 h2) h3) h5) h6) h7) h8) h9) h11) h12))) hpk.1) ?_
   rintro _ _ s13 h13 ⟨rfl, rfl⟩
   refine JO_q (QE_pickT rfl rfl) rfl ?_
   refine JO_q (QE_as rfl) rfl ?_
   refine JO_nil ?_
   refine thenQ_n ?_
   refine JC_ret ?_
   refine retQ_mk [_, _, _, _] L (.inr rfl) (.tmp rfl (.nil)) rfl (Le.trans (Le.trans (Le.trans (Le.trans (Le.trans (Le.trans (Le.trans (Le.trans (Le.trans (Le.trans h1 h2) h3) h5) h6) h7) h8) h9) h11) h12) h13) (fun sR hS2 => ?_)
   exact ⟨rfl, rfl⟩
 ·
  refine JC_skip ?_
  refine thenQ_n ?_
  refine JC_seq ?_
  refine JC_region ?_
  refine JO_q (QE_mv rfl) rfl ?_
  refine JO_call (first := []) (captured := []) rfl rfl rfl (unpack_ac D _ _ _ _ _ _ (hB.le (Le.trans (Le.trans h1 h2) h3))) ?_
  rintro _ _ s14 h14 ⟨rfl, Am, nm, cm, rfl, hM⟩
  refine JO_q (QE_mv rfl) rfl ?_
  refine JO_q (QE_ext rfl rfl) rfl ?_
  refine JO_q (QE_ext rfl rfl) rfl ?_
  refine JO_allocZ rfl [_, _] rfl rfl ?_
  intro β15 s15 h15
  refine JO_q (QE_as rfl) rfl ?_
  refine JO_st 0 [_, _] rfl rfl rfl rfl rfl rfl rfl rfl rfl ?_
  refine JO_nil ?_
  refine thenQ_n ?_
  refine JC_seq ?_
  refine JC_seq ?_
  refine JC_region ?_
  refine JO_q (QE_fa0 rfl rfl rfl rfl) rfl ?_
  refine JO_q (QE_ld1 0 rfl rfl rfl rfl rfl) rfl ?_
  refine JO_q (QE_ne rfl rfl) rfl ?_
  refine JO_nil ?_
  refine thenQ_n ?_
  refine JC_ifN rfl (fun c16 => ?_) (fun c16 => ?_)
  ·
   have h44 := c16
   refine JC_seq ?_
   refine JC_region ?_
   refine JO_q (QE_mv rfl) rfl ?_
   refine JO_q (QE_lenS rfl rfl rfl) rfl ?_
   refine JO_q (QE_cast (v' := .bool true) (QE_eq rfl rfl) (bT (by have h := hM.1; rw [unp_bad h44] at h; simp at h; omega))) rfl ?_
   refine JO_q (QE_as rfl) rfl ?_
   refine JO_nil ?_
   refine thenQ_n ?_
   refine JC_ret ?_
   refine thenQ_r ?_
   refine retQ_mk [_, _] L (.inr rfl) (.tmp rfl (.nil)) rfl (Le.trans (Le.trans (Le.trans (Le.trans h1 h2) h3) h14) h15) (fun sR hS2 => ?_)
   exact ⟨rfl, rfl⟩
  ·
   have hpk := pack_unpack c16 (fun f h => unp_code h)
   refine JC_skip ?_
   refine thenQ_n ?_
   refine JC_seq ?_
   refine JC_region ?_
   refine JO_q (QE_mv rfl) rfl ?_
   refine JO_call (first := []) (captured := []) rfl rfl rfl (pack_ac D _ _ _ _ _ _ (hM.le h15)) ?_
   rintro _ _ s17 h17 ⟨rfl, Ad, nd, cd, rfl, hD⟩
   refine JO_q (QE_mv rfl) rfl ?_
   refine JO_q (QE_ext rfl rfl) rfl ?_
   refine JO_q (QE_ext rfl rfl) rfl ?_
   refine JO_allocZ rfl [_, _] rfl rfl ?_
   intro β18 s18 h18
   refine JO_q (QE_as rfl) rfl ?_
   refine JO_st 0 [_, _] rfl rfl rfl rfl rfl rfl rfl rfl rfl ?_
   refine JO_nil ?_
   refine thenQ_n ?_
   refine JC_seq ?_
   refine JC_region ?_
   refine JO_q (QE_fa0 rfl rfl rfl rfl) rfl ?_
   refine JO_q (QE_ld1 0 rfl rfl rfl rfl rfl) rfl ?_
   refine JO_q (QE_cast (v' := .bool true) (QE_eq rfl rfl) (bT (by rw [hpk.2]))) rfl ?_
   refine JO_q (QE_mv rfl) rfl ?_
   refine JO_gT rfl rfl ?_
   refine JO_q (QE_mv rfl) rfl ?_
   refine JO_gT rfl rfl ?_
   refine JO_q (QE_mv rfl) rfl ?_
   refine JO_gT rfl rfl ?_
   refine JO_call (first := []) (captured := []) rfl rfl rfl (AC.isT (sameBytes_ac D _ _ _ _ _ _ (hD.le h18) _ _ _ b (hB.le (Le.trans (Le.trans (Le.trans (Le.trans (Le.trans (Le.trans h1 h2) h3) h14) h15) h17) h18))) hpk.1) ?_
   rintro _ _ s19 h19 ⟨rfl, rfl⟩
   refine JO_q (QE_pickT rfl rfl) rfl ?_
   refine JO_q (QE_as rfl) rfl ?_
   refine JO_nil ?_
   refine thenQ_n ?_
   refine JC_ret ?_
   refine retQ_mk [_, _, _] L (.inr rfl) (.tmp rfl (.nil)) rfl (Le.trans (Le.trans (Le.trans (Le.trans (Le.trans (Le.trans (Le.trans h1 h2) h3) h14) h15) h17) h18) h19) (fun sR hS2 => ?_)
   exact ⟨rfl, rfl⟩
end Go.Proofs.YteomcjpigoaioaaGreatDoor
namespace Go.Proofs.YteomcjpigoaioaaGreatDoor
open Go Go.FL Go.ChangeShapes Go.WideShapes Go.ChangeAt Go.RowKit Go.Deep
theorem own_knob : ownKnob Tryz.prog.godebug = none := by kernel_rfl
theorem laid_out : laidOutB Tryz.prog = true := by kernel_rfl
theorem mark_free (l : List Obj) : ∃ D, ∀ E, D ≤ E → ∀ o ∈ l, o ≠ dum E := by
  induction l with
  | nil => exact ⟨0, fun _ _ _ h => by cases h⟩
  | cons x l ih =>
    obtain ⟨D, hD⟩ := ih
    have hx : ∃ B, ∀ E, B ≤ E → x ≠ dum E := by
      cases x with
      | mapIter a n b c => exact ⟨n + 1, fun E hE h => by simp only [dum, Obj.mapIter.injEq] at h; omega⟩
      | _ => exact ⟨0, fun E _ h => by simp [dum] at h⟩
    obtain ⟨B, hB⟩ := hx
    refine ⟨max D B, fun E hE o ho => ?_⟩
    rcases List.mem_cons.1 ho with rfl | ho
    · exact hB E (by omega)
    · exact hD E (by omega) o ho
theorem mark_world (W : World) : ∃ D, ∀ k : Nat, W.heap[k]? ≠ some (dum D) := by
  obtain ⟨D, hD⟩ := mark_free W.heap.toList
  refine ⟨D, fun k hk => hD D (Nat.le_refl _) (dum D) ?_ rfl⟩
  rw [← Array.getElem?_toList] at hk
  exact List.mem_of_getElem? hk
theorem below_of {D : Nat} {W W' : World} (hD : ∀ k : Nat, W.heap[k]? ≠ some (dum D)) (h : Le D W W') : Below W.heap.size W W' :=
  ⟨h.os, h.tape, h.output, h.size, fun k hk => (h.block k hk).resolve_left (hD k)⟩
theorem law_calls {P : Program} {f : FuncId} {args : List Value} {W : World} (h : ∀ D, AC P D f args [] W fun v L' _ => v = .bool true ∧ [] = L') :
    Calls P f args.toArray W fun e W' => e = .returned (.bool true) ∧ Below W.heap.size W W' := by
  obtain ⟨D, hD⟩ := mark_world W
  refine ((h D).2 ⟨by simp, fun x hx => by cases hx⟩).mono ?_
  rintro e w' ⟨v, L', s', h1, rfl, h3, h4, rfl, rfl⟩
  exact ⟨h1, below_of hD h4⟩
section
variable {H : Type} {enc : TypeId × Value → H} {P : Program}
theorem trodAll_stays {W W' : World} (hl : laidOutB P = true) (hb : Below W.heap.size W W') : ∀ {ts : List TypeId} {vs : List Value} {ds : List (DataW H)} {ps : List MemPlace}, (∀ t ∈ ts, P.readableRec t = true ∧ t < P.types.size) → (∀ x ∈ ps, x.block < W.heap.size) →
    DataW.TrodAll enc P W 0 (fun _ => true) true ts vs ds ps → DataW.TrodAll enc P W' 0 (fun b => decide (b < W.heap.size)) true ts vs ds ps
  | [], _, _, _, _, _, h => by
    obtain ⟨rfl, rfl, rfl⟩ := trodAll_nil h
    exact trodAll_mk0
  | t :: ts, _, _, _, hts, hp, h => by
    obtain ⟨v, vs, d, ds, a, b, rfl, rfl, rfl, h1, h2⟩ := trodAll_cons h
    have ht := hts t (List.mem_cons_self ..)
    exact trodAll_cons_mk (Below.trod hl ht.1 ht.2 h1 hb fun x hx => hp x (List.mem_append_left _ hx)) (trodAll_stays hl hb (fun t' h' => hts t' (List.mem_cons_of_mem _ h')) (fun x hx => hp x (List.mem_append_right _ hx)) h2)
theorem law_post {fn : Func} {s : ChangeSpec} {W W' : World} {args : Array Value} {ds gs : List (DataW H)} {before : List MemPlace} {tb : TypeId} (hl : laidOutB P = true) (hts : ∀ t ∈ fn.params.toList, P.readableRec t = true ∧ t < P.types.size) (hr : fn.resultTypes = #[tb]) (hb : P.underlying tb = some .bool)
    (hv : s.vars = []) (hW : DataW.Whole enc P fn.params.toList s.vars false W args.toList ds gs before) (hfn : s.fn H ds = { results := [.lit (.bool true)], args := ds }) (hB : Below W.heap.size W W') : s.post enc P fn false true false false W args (.bool true) W' := by
  have hlt : ∀ x ∈ before, x.block < W.heap.size := fun x hx => hW.lt x hx
  have hW' := hW
  obtain ⟨p, q, hA, hV, rfl, _, _⟩ := hW
  rw [hv] at hV
  obtain ⟨rfl, rfl⟩ := trodVars_none hV
  refine ⟨ds, [], p ++ [], [], p, [], hW', ?_, ?_, ?_, hB.frame _, fun h => by cases h⟩
  · rw [List.append_nil, hfn, hr]; exact trodAll_cons_mk (shut_bool hb _) trodAll_mk0
  · rw [List.append_nil, hfn]; exact trodAll_stays hl hB hts (fun x hx => hlt x (List.mem_append_left _ hx)) hA
  · rw [List.append_nil, hfn, hv]; rfl
end
def Rd (W : World) (t : TypeId) (cs : List Value) : Prop := ∃ (H : Type) (enc : TypeId × Value → H) (n : Nat) (x : DataW H × List MemPlace), DataW.trod enc Tryz.prog W 0 (fun _ => true) true n t cs = some x
section
variable {W : World} {t e : TypeId} {cs : List Value}
theorem rd_int {k : IntKind} (ht : Tryz.prog.underlying t = some (.int k)) (h : Rd W t cs) : ∃ n, cs = [.int k n] ∧ (Lit.int k n).wf = true := by
  obtain ⟨H, enc, n, x, h⟩ := h
  obtain ⟨i, h1, _, h2⟩ := DataW.trod_int ht h
  exact ⟨i, h1, h2⟩
theorem rd_slice {sz : Nat} (ht : Tryz.prog.underlying t = some (.slice e)) (hc : Tryz.prog.cellsOf e = sz) (hp : 0 < sz) (h : Rd W t cs) : ∃ A n c, cs = [.slice A n c] ∧ n ≤ c ∧ c ≤ 9223372036854775807 ∧
    ∀ i, i < n → ∃ b off ds, A = some ⟨b, off, none⟩ ∧ CellsAt W b (off + i * sz) ds ∧ ds.length = sz ∧ Rd W e ds := by
  obtain ⟨H, enc, q, x, h⟩ := h
  rcases open_slice ht h with ⟨rfl, _⟩ | ⟨a, len, cap, m, k, D, Pl, rfl, _, h1, h2, h3, _, h4⟩
  · exact ⟨none, 0, 0, rfl, Nat.le_refl _, by omega, fun i hi => by omega⟩
  · simp only [maxLen] at h2
    refine ⟨some a, len, cap, rfl, h1, by omega, fun i hi => ?_⟩
    obtain ⟨ds, k1, k2⟩ := h4 i (by simp at h3; omega)
    rw [hc] at k1
    obtain ⟨_, k3, k4⟩ := World.cells?_some k1
    obtain ⟨b, off, spot⟩ := a
    have hs : spot = none := by
      obtain ⟨ds0, j1, _⟩ := h4 0 (by simp at h3; omega)
      rw [hc, Nat.zero_mul] at j1
      obtain ⟨_, j3, j4⟩ := World.cells?_some j1
      have := j4 0 hp
      rw [List.getElem?_eq_getElem (by omega)] at this
      simpa [Addr.add] using World.cell?_spot this
    subst hs
    refine ⟨b, off, ds, rfl, fun j v hj => ?_, k3, H, enc, k, _, k2⟩
    have hl : j < sz := by rw [← k3]; exact (List.getElem?_eq_some_iff.1 hj).1
    have := k4 j hl
    rw [hj, add_lit, add_lit] at this
    exact this
theorem sl_of {α : Type} [Inhabited α] {R : World → α → List Value → Prop} {sz : Nat} (ht : Tryz.prog.underlying t = some (.slice e)) (hc : Tryz.prog.cellsOf e = sz) (hp : 0 < sz) (h : Rd W t cs) (hel : ∀ ds, Rd W e ds → ∃ x : α, R W x ds) : ∃ A n c l, cs = [.slice A n c] ∧ Sl sz R W A n c l := by
  obtain ⟨A, n, c, h1, h2, h3, h4⟩ := rd_slice ht hc hp h
  obtain ⟨f, hf⟩ := choose_lt (α := α) (p := fun i x => ∃ b off ds, A = some ⟨b, off, none⟩ ∧ CellsAt W b (off + i * sz) ds ∧ ds.length = sz ∧ R W x ds) (n := n) (fun i hi => by
    obtain ⟨b, off, ds, k1, k2, k3, k4⟩ := h4 i hi
    obtain ⟨x, hx⟩ := hel ds k4
    exact ⟨x, b, off, ds, k1, k2, k3, hx⟩)
  refine ⟨A, n, c, (List.range n).map f, h1, by simp, h2, h3, fun i x hi => ?_⟩
  rw [List.getElem?_map] at hi
  cases hr : (List.range n)[i]? with
  | none => simp [hr] at hi
  | some j =>
    simp [hr] at hi
    obtain ⟨hi1, hi2⟩ := List.getElem?_eq_some_iff.1 hr
    simp at hi1 hi2
    subst hi2; subst hi
    exact hf i hi1
theorem one_eq {a b : Value} (h : [a] = [b]) : a = b := by injection h
theorem u32_wf {n : Int} (h : (Lit.int .u32 n).wf = true) : U32 n := by have := bounds_u32 h; exact ⟨by omega, by omega⟩
end
end Go.Proofs.YteomcjpigoaioaaGreatDoor
namespace Go.Proofs.YteomcjpigoaioaaGreatDoor
open Go Go.FL Go.ChangeShapes Go.WideShapes Go.ChangeAt Go.RowKit
set_option maxRecDepth 100000
instance : Inhabited Ac := ⟨⟨0, 0, ⟨0, 0⟩, ⟨0, 0⟩⟩⟩
instance : Inhabited Ins := ⟨⟨[], 0, false, []⟩⟩
theorem c_u32 : Tryz.prog.cellsOf 52 = 1 := by kernel_rfl
theorem c_u8 : Tryz.prog.cellsOf 5 = 1 := by kernel_rfl
section
variable {W : World} {cs : List Value}
theorem rd_words (h : Rd W 25 cs) : ∃ A n c l, cs = [.slice A n c] ∧ Wds W A n c l := sl_of Tryz.underlying25 c_u32 (by decide) h fun _ hd => by
  obtain ⟨n, h1, h2⟩ := rd_int Tryz.underlying52 hd
  exact ⟨n, h1, u32_wf h2⟩
theorem rd_bytes (h : Rd W 61 cs) : ∃ A n c l, cs = [.slice A n c] ∧ Bts W A n c l := sl_of Tryz.underlying61 c_u8 (by decide) h fun _ hd => by
  obtain ⟨n, h1, h2⟩ := rd_int Tryz.underlying5 hd
  have := bounds_u8 h2
  refine ⟨UInt8.ofNat n.toNat, h1.trans ?_⟩
  have e : ((UInt8.ofNat n.toNat).toNat : Int) = n := by simp [UInt8.toNat_ofNat']; omega
  rw [e]
end
section
variable {H : Type} {enc : TypeId × Value → H} {W : World} {base : Nat} {v : Value} {d : DataW H} {ps : List MemPlace}
theorem rd_of {t : TypeId} (hd : DataW.Trod enc Tryz.prog W 0 (fun _ => true) true t v d ps) : Rd W t v.cells.toList := by
  obtain ⟨n, h⟩ := hd
  exact ⟨H, enc, n, _, h⟩
theorem cell_of {t e : TypeId} (ht : Tryz.prog.underlying t = some (.slice e)) (hv : Value.okWide Tryz.prog W .any base t v) : v.cells.toList = [v] := by
  unfold Value.okWide at hv
  rw [ht] at hv
  simp only [Cell.okWide] at hv
  cases v <;> simp_all [Value.cells, Cell.ok]
theorem arg_words (hv : Value.okWide Tryz.prog W .any base 25 v) (hd : DataW.Trod enc Tryz.prog W 0 (fun _ => true) true 25 v d ps) : ∃ A n c l, v = .slice A n c ∧ Wds W A n c l := by
  obtain ⟨A, n, c, l, h1, h2⟩ := rd_words (rd_of hd)
  rw [cell_of Tryz.underlying25 hv] at h1
  exact ⟨A, n, c, l, one_eq h1, h2⟩
theorem arg_bytes (hv : Value.okWide Tryz.prog W .any base 61 v) (hd : DataW.Trod enc Tryz.prog W 0 (fun _ => true) true 61 v d ps) : ∃ A n c l, v = .slice A n c ∧ Bts W A n c l := by
  obtain ⟨A, n, c, l, h1, h2⟩ := rd_bytes (rd_of hd)
  rw [cell_of Tryz.underlying61 hv] at h1
  exact ⟨A, n, c, l, one_eq h1, h2⟩
end
end Go.Proofs.YteomcjpigoaioaaGreatDoor
namespace Go.Proofs.YteomcjpigoaioaaGreatDoor
open Go Go.FL Go.RowKit
theorem row_err (u : TypeId) (hu : Tryz.prog.typeName? 3 u = Tryz.prog.typeName? 3 247) : u = 247 :=
  have hn : Tryz.prog.typeName? 3 247 = some ("*" ++ "errors.errorString") := by kernel_rfl
  typeName_ptr_named (nm := "errors.errorString") (by kernel_rfl) (by kernel_rfl) (by decide) u (hu.trans hn)
theorem gw_var {W : World} {nm : String} {g : Nat} {cs : Array Value} (hg : Tryz.prog.globalNamed nm = some g) (h : W.var? Tryz.prog nm = some cs) : ∃ ty fz, W.heap[g]? = some (.cells cs ty fz) := by
  unfold World.var? at h
  rw [hg] at h
  simp only [Option.bind_some] at h
  split at h
  · rename_i c t f hb
    injection h with h
    subst h
    exact ⟨t, f, hb⟩
  · cases h
set_option maxRecDepth 100000 in
theorem gw_of {W : World} (h : laidMetH Tryz.prog Rows.asmPackIsInverseRow.laid W) : GW W := by
  rw [MakeChecks.laidMetH_plain _ _ _ (by kernel_rfl)] at h
  have h2 := h.tail.tail
  have hpow := Lib.tabIs_of_head (zs := Lib.pow10Tab) (k := .u64) (g := 0) (by kernel_rfl) (by kernel_rfl) Tryz.underlying220 Tryz.underlying123 (by kernel_rfl) (by kernel_rfl) h2
  have h4 := h2.tail.tail
  obtain ⟨a1, s1, hv1, _⟩ := laid_sentinel (g := 7) h4 (by kernel_rfl) (by kernel_rfl) Tryz.underlying106 (fun u hu => row_err u (hu.trans (by kernel_rfl))) Tryz.underlying247 Tryz.underlying249 rfl rfl Tryz.underlying9 (by kernel_rfl) (by kernel_rfl)
  obtain ⟨a2, s2, hv2, _⟩ := laid_sentinel (g := 6) h4.tail (by kernel_rfl) (by kernel_rfl) Tryz.underlying106 (fun u hu => row_err u (hu.trans (by kernel_rfl))) Tryz.underlying247 Tryz.underlying249 rfl rfl Tryz.underlying9 (by kernel_rfl) (by kernel_rfl)
  refine ⟨?_, ?_, ?_⟩
  · exact gw_var (g := 0) (by kernel_rfl) hpow
  · exact ⟨_, _, World.var?_cell (g := 6) (by kernel_rfl) hv2 0⟩
  · exact ⟨_, _, World.var?_cell (g := 7) (by kernel_rfl) hv1 0⟩
end Go.Proofs.YteomcjpigoaioaaGreatDoor
namespace Go.Proofs.YteomcjpigoaioaaGreatDoor
open Go Go.FL Go.ChangeShapes Go.WideShapes Go.ChangeAt Go.RowKit
theorem asmPackIsInverse_reads : ∀ t ∈ Tryz.f9.params.toList, Tryz.prog.readableRec t = true ∧ t < Tryz.prog.types.size := by
  rw [Tryz.params9]
  intro t ht
  simp only [List.mem_cons, List.not_mem_nil, or_false] at ht
  rcases ht with rfl | rfl <;> exact ⟨by kernel_rfl, of_decide_eq_true (by kernel_rfl)⟩
set_option maxRecDepth 100000 in
theorem asmPackIsInverse_contract (H : Type) (enc : TypeId × Value → H) (W : World) (base : Nat) (args : Array Value) (ds gs : List (DataW H)) (before : List MemPlace)
    (hval : ∀ (j : Nat) t v, Tryz.f9.params[j]? = some t → args[j]? = some v → Value.okWide Tryz.prog W .any base t v)
    (hW : DataW.Whole enc Tryz.prog Tryz.f9.params.toList Rows.asmPackIsInverseSpec.vars false W args.toList ds gs before) (hL : laidMetH Tryz.prog Rows.asmPackIsInverseRow.laid W) :
    Calls Tryz.prog 9 args W fun e W' => ∃ v, e = .returned v ∧ Rows.asmPackIsInverseSpec.post enc Tryz.prog Tryz.f9 false true false false W args v W' := by
  have hW' := hW
  obtain ⟨p, q, hA0, hV, rfl, hfz, hnd⟩ := hW'
  have hA : DataW.TrodAll enc Tryz.prog W 0 (fun _ => true) true Tryz.f9.params.toList args.toList ds p := hA0
  rw [Tryz.params9] at hA hval
  obtain ⟨v0, vs0, d0, ds0, p0, q0, hargs0, rfl, rfl, h0, r0⟩ := trodAll_cons hA
  obtain ⟨v1, vs1, d1, ds1, p1, q1, hargs1, rfl, rfl, h1, r1⟩ := trodAll_cons r0
  obtain ⟨rfl, rfl, rfl⟩ := trodAll_nil r1
  obtain rfl : args = #[v0, v1] := by cases args; simp_all
  obtain ⟨rfl, rfl⟩ := trodVars_none hV
  obtain ⟨A0, n0, c0, l0, rfl, hW0⟩ := arg_words (hval 0 25 v0 rfl rfl) h0
  obtain ⟨A1, n1, c1, l1, rfl, hB1⟩ := arg_bytes (hval 1 61 v1 rfl rfl) h1
  refine (law_calls (args := [_, _]) fun D => lawInverse_ac D [] W (gw_of hL) A0 n0 c0 l0 hW0 A1 n1 c1 l1 hB1).mono fun e W' ⟨he, hg⟩ => ?_
  subst he
  exact ⟨_, rfl, law_post laid_out asmPackIsInverse_reads (by kernel_rfl) Tryz.underlying4 rfl hW rfl hg⟩
set_option maxRecDepth 100000 in
theorem asmPackIsInverse_lifted (os : Os) (started : os.Started) (H : Type) (enc : TypeId × Value → H) :
    ReturnsInHanded {} Tryz.checked os 9 .any (fun w args => (Rows.asmPackIsInverseSpec.pre enc Tryz.prog Tryz.f9 [] false w args ∧ laidMetH Tryz.prog Rows.asmPackIsInverseRow.laid w) ∧ sizedMet enc Tryz.prog Tryz.f9 (OpenSpec.ofChange Rows.asmPackIsInverseSpec) false w args) (Rows.asmPackIsInverseSpec.post enc Tryz.prog Tryz.f9 false true false false) := by
  refine returnsInHanded_of_change_and (C := Tryz.checked) (X := fun w _ => laidMetH Tryz.prog Rows.asmPackIsInverseRow.laid w) (fun _ _ _ hh h => h.of_heap hh) own_knob started (by kernel_rfl) Tryz.func9
    (ChangeSpec.witness_shaped (enc := enc) (C := Tryz.checked) (os := os) (X := fun w _ => laidMetH Tryz.prog Rows.asmPackIsInverseRow.laid w) false (World.laidAll Tryz.prog os Rows.asmPackIsInverseRow.laid) #[.slice none 0 0, .slice none 0 0] 8 (World.laidAll_os _ _ _)
      (World.shaped_of_ZipB (by kernel_rfl) (by kernel_rfl)) (by kernel_rfl) (by kernel_rfl) (by kernel_rfl)
      (by rw [MakeChecks.laidMetH_plain _ _ _ (by kernel_rfl)]; exact laidMet_laidAll _ (by kernel_rfl) (by kernel_rfl))) ?_
  intro W base args ds gs before hval hW _ _ hL _
  exact asmPackIsInverse_contract H enc W base args ds gs before hval hW hL
theorem asmPackIsInverse_said : Rows.AsmPackIsInverseSaid :=
  OpenClaim.holds_of_wide 9 Tryz.f9 rfl rfl rfl rfl rfl rfl rfl ⟨rfl, rfl, rfl, rfl, rfl⟩ rfl rfl rfl rfl rfl (by kernel_rfl) Tryz.func9 (by kernel_rfl)
    (of_decide_eq_true (by kernel_rfl)) (by unfold Func.isWrapper; first | (rw [if_pos (by decide +kernel)]; kernel_rfl) | (rw [if_neg (by decide +kernel)]; exact ⟨rfl, rfl⟩))
    (fun os started H enc _ => asmPackIsInverse_lifted os started H enc)
theorem asmPackIsInverse_plain (f : FuncId) (fn : Func) (hf : Tryz.pinned.checked.prog.funcNamed Rows.asmPackIsInverseRow.func = some f) (hfn : Tryz.pinned.checked.prog.funcs[f]? = some fn) : true = Tryz.pinned.checked.prog.looks [] ∧ ∀ (j : Nat) t, fn.params[j]? = some t → Tryz.pinned.checked.prog.wantsStandIn t = false := by
  obtain rfl : f = 9 := Option.some.inj ((show Tryz.prog.funcNamed Rows.asmPackIsInverseRow.func = some 9 by kernel_rfl).symm.trans hf) |>.symm
  obtain rfl : fn = Tryz.f9 := (Option.some.inj (Tryz.func9.symm.trans hfn)).symm
  exact ⟨by kernel_rfl, fun j t ht => by
    rw [Tryz.params9] at ht
    have hm : t ∈ [25, 61] := by simpa using Array.mem_of_getElem? ht
    have hall : ([25, 61].all fun u => !Tryz.prog.wantsStandIn u) = true := by kernel_rfl
    exact (show Tryz.prog.wantsStandIn t = false by simpa using List.all_eq_true.1 hall t hm)⟩
theorem asmPackIsInverse_holds : Rows.AsmPackIsInverseCardSaid :=
  Claim7.holds_tied_plain_at .later [] _ _ _ _ asmPackIsInverse_said (fun _ h => by cases h) (by kernel_rfl) (fun _ h => by cases h) asmPackIsInverse_row_tie rfl ⟨rfl, rfl⟩ (by kernel_rfl) rfl asmPackIsInverse_plain (by kernel_rfl)
end Go.Proofs.YteomcjpigoaioaaGreatDoor
