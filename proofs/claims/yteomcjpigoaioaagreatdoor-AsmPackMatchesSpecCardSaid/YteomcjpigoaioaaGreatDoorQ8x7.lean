/- The law AsmPackMatchesSpec: for every input it returns true, and its arguments read behind the call as they read before; what the package-level variables of the library hold is tied tgt the text of the program. Part 7 of the proof of asmPackMatchesSpec_holds: texts W15, Pm, W18, Rf, Rg, Rc, M8. -/
import Derived.Test.YteomcjpigoaioaaGreatDoorQ8x6
import Derived.ProofKit
import Derived.OpenShut
import Derived.SizedLaws
import Derived.Deep.Slices
import Derived.Test.YteomcjpigoaioaaGreatDoorRows
import Derived.Lay
import Derived.Lib.LaidTab
import Derived.Stop.LaidErr
import Derived.SevenTiedAt
import Derived.Test.YteomcjpigoaioaaGreatDoorCards
import Derived.Test.YteomcjpigoaioaaGreatDoorTie
set_option linter.unusedVariables false
set_option linter.unusedSimpArgs false
set_option linter.unnecessarySimpa false
namespace Go.Proofs.YteomcjpigoaioaaGreatDoor
open Go.FL
attribute [local irreducible] JC JO JA JB thenQ blockQ retQ AC fill CellsAt QE Ev Mid
theorem bT {p : Prop} [Decidable p] (h : p) : Value.bool (decide p) = .bool true := by rw [decide_eq_true h]
theorem bF {p : Prop} [Decidable p] (h : p) : Value.bool (!decide p) = .bool false := by rw [decide_eq_true h]; rfl
theorem AC.isT {P : Program} {D : Nat} {f : FuncId} {args : List Value} {L : Hl} {s : World} {p : Prop} [Decidable p] (h : AC P D f args L s fun v L' _ => v = .bool (decide p) ∧ L = L') (hp : p) : AC P D f args L s fun v L' _ => v = .bool true ∧ L = L' :=
  h.mono fun v L' _ _ ⟨h1, h2⟩ => ⟨by rw [h1, decide_eq_true hp], h2⟩
theorem defaultP_ac (D : Nat) (L : Hl) (s : World) : AC Tryz.prog D 46 [] L s fun v L' s' => L = L' ∧ ∃ A n c, v = .agg #[.int .i64 65536, .slice A n c] ∧ Inss s' A n c defT.ins := AC.pubW (defaultO_ac D L s)
def exT : List UInt8 := [32, 106, 117, 109, 112, 32, 101, 110, 100, 32, 59, 32, 97, 32, 99, 111, 109, 109, 101, 110, 116, 10, 120, 58, 32, 119, 111, 114, 100, 32, 55, 10, 101, 110, 100, 58, 32, 108, 111, 97, 100, 32, 120, 10, 32, 115, 112, 97, 99, 101, 32, 50, 10]
theorem ex_R : asmR defT exT = .inr ([26, 3, 7, 3, 2, 0, 0], [([120], 2), ([101, 110, 100], 3)]) := by decide +kernel
theorem ex_tab : (tabFault defT).1 = 0 := by decide +kernel
theorem ex_W : asmW defT exT = [26, 3, 7, 3, 2, 0, 0] ∧ asmL defT exT = [([120], 2), ([101, 110, 100], 3)] ∧ asmFt defT exT = (0, 0) := asmW_r ex_R
def exL : List UInt8 := [110, 117, 109, 32, 57, 10, 115, 116, 111, 112, 10, 119, 111, 114, 100, 32, 50, 10]
theorem ex_l : lstF defT [2, 9, 1, 2] = exL := by
  obtain ⟨y, hy, ho, hn⟩ : ∃ y, findI defT.ins 2 = some y ∧ y.operand = true ∧ y.name = [110, 117, 109] := ⟨(findI defT.ins 2).get (by decide +kernel), (Option.some_get _).symm, by decide +kernel, by decide +kernel⟩
  obtain ⟨z, hz, zo, zn⟩ : ∃ y, findI defT.ins 1 = some y ∧ y.operand = false ∧ y.name = [115, 116, 111, 112] := ⟨(findI defT.ins 1).get (by decide +kernel), (Option.some_get _).symm, by decide +kernel, by decide +kernel⟩
  rw [lst_opd hy ho, lst_plain hz zo, lst_word (by unfold plainB; rw [hy]; simp [ho]) (by simp), hn, zn, show (9 : Int).toNat = 9 from rfl, show (2 : Int).toNat = 2 from rfl, Lib.decDigits_one (by decide), Lib.decDigits_one (by decide)]
  rfl
theorem ex_S : listS defT [2, 9, 1, 2] = exL ∧ listE defT [2, 9, 1, 2] = (0, 0) := by
  have h3 : ¬ 400000 < (lstF defT [2, 9, 1, 2]).length := by rw [ex_l]; decide
  have := list_ok ex_tab (by decide +kernel) h3
  rw [ex_l] at this
  exact this
theorem ex_K : keyS [97, 49] = 65 ∧ keyE [97, 49] = (0, 0) := by decide +kernel
theorem ex_N : nameS 65 = [97, 49] ∧ nameE 65 = (0, 0) := by
  have h : nmF 65 [] = some [49, 97] := by
    rw [nmF_more (by decide) (by decide), nmF_more (by decide) (by decide), show 65 / 37 / 37 = 0 from rfl, nmF_zero]; rfl
  have := name_ok h (by decide +kernel)
  exact this
theorem ex_P : packS [5, 300] = [5, 172, 2] ∧ packE [5, 300] = (0, 0) := by
  have h1 : grp 5 = [5] := grp_small (by decide)
  have h2 : grp 300 = [172, 2] := by rw [grp_big (by decide), grp_small (by decide)]; rfl
  refine ⟨?_, rfl⟩
  rw [packS, if_neg (by decide), packF]
  show [grp 5, grp 300].flatten = _
  rw [h1, h2]; rfl
theorem ex_U : unpS [5, 172, 2] = [5, 300] ∧ unpE [5, 172, 2] = (0, 0) := by
  have h : upF 0 [] [5, 172, 2] = .inr [5, 300] := by
    rw [upF_more (x := (5, 1, 5, [172, 2])) (by decide) (by decide +kernel) (by decide), upF_more (x := (300, 2, 2, [])) (by decide) (by decide +kernel) (by decide), upF_nil]; rfl
  exact unp_r (unp_ok (by decide) h (by decide))
theorem wds_lit {s : World} {b : Nat} {l : List Int} (h : CellsAt s b 0 (wv l)) (hu : ∀ x ∈ l, U32 x) (hl : l.length ≤ 1000) : Wds s (some ⟨b, 0, none⟩) l.length l.length l :=
  wds_pub (yc := []) (cc := l.length) (by simpa using h) hu (by simp) (by omega)
theorem bts_lit {s : World} {b : Nat} {l : List UInt8} (h : CellsAt s b 0 (bv l)) (hl : l.length ≤ 1000) : Bts s (some ⟨b, 0, none⟩) l.length l.length l :=
  bts_pub (yc := []) (cc := l.length) (by simpa using h) (by simp) (by omega)
theorem labs_lit {s : World} {b : Nat} {l : List (List UInt8 × Int)} (h : CellsAt s b 0 (lbv l)) (hu : ∀ x ∈ l, U32 x.2) (hl : l.length ≤ 1000) : Labs s (some ⟨b, 0, none⟩) l.length l.length l := by
  have hll : (lbv l).length = l.length * 2 := by
    clear h hu hl
    induction l with
    | nil => rfl
    | cons x l ih => simp only [lbv, List.map_cons, List.flatten_cons, List.length_append, List.length_cons, List.length_nil] at ih ⊢; omega
  exact Own.labs (e := 0) (A := [(b, cb (lbv l ++ []) 0)]) (.blk b l.length l.length (lbv l) [] hll (by simp [hll]) (Nat.le_refl _) (by omega)) hu (fun b' zs t hm => by
    simp only [List.append_nil, List.mem_singleton, Prod.mk.injEq] at hm
    obtain ⟨rfl, hcb⟩ := hm
    have : zs = lbv l := by
      unfold cb at hcb
      injection hcb with e1
      simpa using congrArg Array.toList e1
    rw [this]; exact h) rfl
theorem u32L (l : List Int) (h : l.all (fun x => decide (0 ≤ x ∧ x < 4294967296)) = true) : ∀ x ∈ l, U32 x := fun x hx => by have := List.all_eq_true.1 h x hx; simpa [U32] using this
set_option maxHeartbeats 4000000 in
set_option maxRecDepth 100000 in
theorem translated_ac (D : Nat) (L : Hl) (s : World) (hG : GW s) : AC Tryz.prog D 14 [] L s fun v L' _ => v = .bool true ∧ L = L' := by
 refine AC_enter (TT := TT) (fn := Tryz.f14) TT_ok Tryz.func14 (by kernel_rfl) rfl Tryz.ntmps14 rfl (rs := [.tmp 0]) rfl [] rfl ?_
 refine JC_seq ?_
 refine JC_region ?_
 refine JO_q (QE_as rfl) rfl ?_
 refine JO_nil ?_
 refine thenQ_n ?_
 refine JC_seq ?_
 refine JC_region ?_
 refine JO_call (first := []) (captured := []) rfl rfl rfl (defaultP_ac D _ _) ?_
 rintro _ _ s1 h1 ⟨rfl, Ad1, nd1, cd1, rfl, hd1⟩
 refine JO_call (first := []) (captured := []) rfl rfl rfl (assembleP_ac D _ _ (hG.le h1) defT _ _ _ (hd1.le (Le.refl (D := D) _)) exT) ?_
 rintro _ _ s2 h2 ⟨rfl, A1, n1, c1, rfl, hW1⟩
 rw [ex_W.1] at hW1
 refine JO_q (QE_mv rfl) rfl ?_
 refine JO_q (QE_ext rfl rfl) rfl ?_
 refine JO_q (QE_ext rfl rfl) rfl ?_
 refine JO_allocZ rfl [_, _] rfl rfl ?_
 intro β3 s3 h3
 refine JO_q (QE_as rfl) rfl ?_
 refine JO_st 0 [_, _] rfl rfl rfl rfl rfl rfl rfl rfl rfl ?_
 refine JO_nil ?_
 refine thenQ_n ?_
 refine JC_seq ?_
 refine JC_region ?_
 refine JO_call (first := []) (captured := []) rfl rfl rfl (defaultP_ac D _ _) ?_
 rintro _ _ s4 h4 ⟨rfl, Ad2, nd2, cd2, rfl, hd2⟩
 refine JO_call (first := []) (captured := []) rfl rfl rfl (labelsP_ac D _ _ (hG.le (Le.trans (Le.trans (Le.trans h1 h2) h3) h4)) defT _ _ _ (hd2.le (Le.refl (D := D) _)) exT) ?_
 rintro _ _ s5 h5 ⟨rfl, A2, n2, c2, rfl, hL2⟩
 rw [ex_W.2.1] at hL2
 refine JO_q (QE_mv rfl) rfl ?_
 refine JO_q (QE_ext rfl rfl) rfl ?_
 refine JO_q (QE_ext rfl rfl) rfl ?_
 refine JO_allocZ rfl [_, _] rfl rfl ?_
 intro β6 s6 h6
 refine JO_q (QE_as rfl) rfl ?_
 refine JO_st 0 [_, _] rfl rfl rfl rfl rfl rfl rfl rfl rfl ?_
 refine JO_nil ?_
 refine thenQ_n ?_
 refine JC_seq ?_
 refine JC_region ?_
 refine JO_call (first := []) (captured := []) rfl rfl rfl (defaultP_ac D _ _) ?_
 rintro _ _ s7 h7 ⟨rfl, Ad3, nd3, cd3, rfl, hd3⟩
 refine JO_bs [(_, _), (_, _), (_, _), (_, _)] [_, _, _, _] rfl rfl rfl rfl rfl rfl rfl rfl rfl ?_
 intro βi s8 h8 hci
 refine JO_call (first := []) (captured := []) rfl rfl rfl (list_ac D _ _ (hG.le (Le.trans (Le.trans (Le.trans (Le.trans (Le.trans (Le.trans (Le.trans h1 h2) h3) h4) h5) h6) h7) h8)) defT _ _ _ (hd3.le h8) _ _ _ [2, 9, 1, 2] (wds_lit (l := [2, 9, 1, 2]) (hci.le (Le.refl (D := D) _)) (u32L _ rfl) (by decide))) ?_
 rintro _ _ s9 h9 ⟨rfl, rfl⟩
 refine JO_q (QE_mv rfl) rfl ?_
 refine JO_q (QE_ext rfl rfl) rfl ?_
 refine JO_q (QE_ext rfl rfl) rfl ?_
 refine JO_allocZ rfl [_, _] rfl rfl ?_
 intro β10 s10 h10
 refine JO_q (QE_as rfl) rfl ?_
 refine JO_st 0 [_, _] rfl rfl rfl rfl rfl rfl rfl rfl rfl ?_
 refine JO_nil ?_
 refine thenQ_n ?_
 refine JC_seq ?_
 refine JC_region ?_
 refine JO_call (first := []) (captured := []) rfl rfl rfl (key_ac D _ _ [97, 49]) ?_
 rintro _ _ s11 h11 ⟨rfl, rfl⟩
 refine JO_q (QE_mv rfl) rfl ?_
 refine JO_q (QE_ext rfl rfl) rfl ?_
 refine JO_q (QE_ext rfl rfl) rfl ?_
 refine JO_allocZ rfl [_, _] rfl rfl ?_
 intro β12 s12 h12
 refine JO_q (QE_as rfl) rfl ?_
 refine JO_st 0 [_, _] rfl rfl rfl rfl rfl rfl rfl rfl rfl ?_
 refine JO_nil ?_
 refine thenQ_n ?_
 refine JC_seq ?_
 refine JC_region ?_
 refine JO_call (first := []) (captured := []) rfl rfl rfl (name_ac D _ _ 65 (by decide)) ?_
 rintro _ _ s13 h13 ⟨rfl, rfl⟩
 refine JO_q (QE_mv rfl) rfl ?_
 refine JO_q (QE_ext rfl rfl) rfl ?_
 refine JO_q (QE_ext rfl rfl) rfl ?_
 refine JO_allocZ rfl [_, _] rfl rfl ?_
 intro β14 s14 h14
 refine JO_q (QE_as rfl) rfl ?_
 refine JO_st 0 [_, _] rfl rfl rfl rfl rfl rfl rfl rfl rfl ?_
 refine JO_nil ?_
 refine thenQ_n ?_
 refine JC_seq ?_
 refine JC_region ?_
 refine JO_bs [(_, _), (_, _)] [_, _] rfl rfl rfl rfl rfl rfl rfl rfl rfl ?_
 intro βp s15 h15 hcp
 refine JO_call (first := []) (captured := []) rfl rfl rfl (pack_ac D _ _ _ _ _ [5, 300] (wds_lit (l := [5, 300]) (hcp.le (Le.refl (D := D) _)) (u32L _ rfl) (by decide))) ?_
 rintro _ _ s16 h16 ⟨rfl, A3, n3, c3, rfl, hP⟩
 rw [ex_P.1] at hP
 refine JO_q (QE_mv rfl) rfl ?_
 refine JO_q (QE_ext rfl rfl) rfl ?_
 refine JO_q (QE_ext rfl rfl) rfl ?_
 refine JO_allocZ rfl [_, _] rfl rfl ?_
 intro β17 s17 h17
 refine JO_q (QE_as rfl) rfl ?_
 refine JO_st 0 [_, _] rfl rfl rfl rfl rfl rfl rfl rfl rfl ?_
 refine JO_nil ?_
 refine thenQ_n ?_
 refine JC_seq ?_
 refine JC_region ?_
 refine JO_bs [(_, _), (_, _), (_, _)] [_, _, _] rfl rfl rfl rfl rfl rfl rfl rfl rfl ?_
 intro βq s18 h18 hcq
 refine JO_call (first := []) (captured := []) rfl rfl rfl (unpack_ac D _ _ _ _ _ [5, 172, 2] (bts_lit (l := [5, 172, 2]) (hcq.le (Le.refl (D := D) _)) (by decide))) ?_
 rintro _ _ s19 h19 ⟨rfl, A4, n4, c4, rfl, hU⟩
 rw [ex_U.1] at hU
 refine JO_q (QE_mv rfl) rfl ?_
 refine JO_q (QE_ext rfl rfl) rfl ?_
 refine JO_q (QE_ext rfl rfl) rfl ?_
 refine JO_allocZ rfl [_, _] rfl rfl ?_
 intro β20 s20 h20
 refine JO_q (QE_as rfl) rfl ?_
 refine JO_st 0 [_, _] rfl rfl rfl rfl rfl rfl rfl rfl rfl ?_
 refine JO_nil ?_
 refine thenQ_n ?_
 refine JC_seq ?_
 refine JC_seq ?_
 refine JC_region ?_
 refine JO_q (QE_fa0 rfl rfl rfl rfl) rfl ?_
 refine JO_q (QE_ld1 6 rfl rfl rfl rfl rfl) rfl ?_
 refine JO_q (QE_cast (v' := .bool false) (QE_ne rfl rfl) (bF (by rw [ex_W.2.2]))) rfl ?_
 refine JO_q (QE_mv rfl) rfl ?_
 refine JO_gT rfl rfl ?_
 refine JO_q (QE_fa0 rfl rfl rfl rfl) rfl ?_
 refine JO_gT rfl rfl ?_
 refine JO_q (QE_ld1 5 rfl rfl rfl rfl rfl) rfl ?_
 refine JO_gT rfl rfl ?_
 refine JO_q (QE_cast (v' := .bool false) (QE_ne rfl rfl) (bF (by rw [ex_W.2.2]))) rfl ?_
 refine JO_q (QE_pickF rfl rfl) rfl ?_
 refine JO_q (QE_mv rfl) rfl ?_
 refine JO_gT rfl rfl ?_
 refine JO_q (QE_fa0 rfl rfl rfl rfl) rfl ?_
 refine JO_gT rfl rfl ?_
 refine JO_q (QE_ld1 4 rfl rfl rfl rfl rfl) rfl ?_
 refine JO_gT rfl rfl ?_
 refine JO_q (QE_cast (v' := .bool false) (QE_ne rfl rfl) (bF (by rw [ex_S.2]))) rfl ?_
 refine JO_q (QE_pickF rfl rfl) rfl ?_
 refine JO_q (QE_mv rfl) rfl ?_
 refine JO_gT rfl rfl ?_
 refine JO_q (QE_fa0 rfl rfl rfl rfl) rfl ?_
 refine JO_gT rfl rfl ?_
 refine JO_q (QE_ld1 3 rfl rfl rfl rfl rfl) rfl ?_
 refine JO_gT rfl rfl ?_
 refine JO_q (QE_cast (v' := .bool false) (QE_ne rfl rfl) (bF (by rw [ex_K.2]))) rfl ?_
 refine JO_q (QE_pickF rfl rfl) rfl ?_
 refine JO_q (QE_mv rfl) rfl ?_
 refine JO_gT rfl rfl ?_
 refine JO_q (QE_fa0 rfl rfl rfl rfl) rfl ?_
 refine JO_gT rfl rfl ?_
 refine JO_q (QE_ld1 2 rfl rfl rfl rfl rfl) rfl ?_
 refine JO_gT rfl rfl ?_
 refine JO_q (QE_cast (v' := .bool false) (QE_ne rfl rfl) (bF (by rw [ex_N.2]))) rfl ?_
 refine JO_q (QE_pickF rfl rfl) rfl ?_
 refine JO_q (QE_mv rfl) rfl ?_
 refine JO_gT rfl rfl ?_
 refine JO_q (QE_fa0 rfl rfl rfl rfl) rfl ?_
 refine JO_gT rfl rfl ?_
 refine JO_q (QE_ld1 1 rfl rfl rfl rfl rfl) rfl ?_
 refine JO_gT rfl rfl ?_
 refine JO_q (QE_cast (v' := .bool false) (QE_ne rfl rfl) (bF (by rw [ex_P.2]))) rfl ?_
 refine JO_q (QE_pickF rfl rfl) rfl ?_
 refine JO_q (QE_mv rfl) rfl ?_
 refine JO_gT rfl rfl ?_
 refine JO_q (QE_fa0 rfl rfl rfl rfl) rfl ?_
 refine JO_gT rfl rfl ?_
 refine JO_q (QE_ld1 0 rfl rfl rfl rfl rfl) rfl ?_
 refine JO_gT rfl rfl ?_
 refine JO_q (QE_cast (v' := .bool false) (QE_ne rfl rfl) (bF (by rw [ex_U.2]))) rfl ?_
 refine JO_q (QE_pickF rfl rfl) rfl ?_
 refine JO_nil ?_
 refine thenQ_n ?_
 refine JC_ifF rfl ?_
 refine JC_skip ?_
 refine thenQ_n ?_
 refine JC_seq ?_
 refine JC_region ?_
 refine JO_q (QE_mv rfl) rfl ?_
 refine JO_bs [(_, _), (_, _), (_, _), (_, _), (_, _), (_, _), (_, _)] [_, _, _, _, _, _, _] rfl rfl rfl rfl rfl rfl rfl rfl rfl ?_
 intro βe s21 h21 hce
 refine JO_call (first := []) (captured := []) rfl rfl rfl (AC.isT (sameWords_ac D _ _ _ _ _ _ (hW1.le (Le.trans (Le.trans (Le.trans (Le.trans (Le.trans (Le.trans (Le.trans (Le.trans (Le.trans (Le.trans (Le.trans (Le.trans (Le.trans (Le.trans (Le.trans (Le.trans (Le.trans (Le.trans h3 h4) h5) h6) h7) h8) h9) h10) h11) h12) h13) h14) h15) h16) h17) h18) h19) h20) h21)) _ _ _ [26, 3, 7, 3, 2, 0, 0] (wds_lit (l := [26, 3, 7, 3, 2, 0, 0]) (hce.le (Le.refl (D := D) _)) (u32L _ rfl) (by decide))) rfl) ?_
 rintro _ _ s22 h22 ⟨rfl, rfl⟩
 refine JO_q (QE_mv rfl) rfl ?_
 refine JO_gT rfl rfl ?_
 refine JO_q (QE_mv rfl) rfl ?_
 refine JO_gT rfl rfl ?_
 refine JO_q (QE_build [(_, _), (_, _)] [_, _] rfl rfl rfl rfl rfl rfl) rfl ?_
 refine JO_gT rfl rfl ?_
 refine JO_q (QE_build [(_, _), (_, _)] [_, _] rfl rfl rfl rfl rfl rfl) rfl ?_
 refine JO_gT rfl rfl ?_
 refine JO_bs [(_, _), (_, _)] [_, _, _, _] rfl rfl rfl rfl rfl rfl rfl rfl rfl ?_
 intro βf s23 h23 hcf
 refine JO_gT rfl rfl ?_
 refine JO_call (first := []) (captured := []) rfl rfl rfl (AC.isT (sameLabels_ac D _ _ _ _ _ _ (hL2.le (Le.trans (Le.trans (Le.trans (Le.trans (Le.trans (Le.trans (Le.trans (Le.trans (Le.trans (Le.trans (Le.trans (Le.trans (Le.trans (Le.trans (Le.trans (Le.trans (Le.trans h6 h7) h8) h9) h10) h11) h12) h13) h14) h15) h16) h17) h18) h19) h20) h21) h22) h23)) _ _ _ [([120], 2), ([101, 110, 100], 3)] (labs_lit (l := [([120], 2), ([101, 110, 100], 3)]) (hcf.le (Le.refl (D := D) _)) (by simp [U32]) (by decide))) rfl) ?_
 rintro _ _ s24 h24 ⟨rfl, rfl⟩
 refine JO_q (QE_pickT rfl rfl) rfl ?_
 refine JO_q (QE_mv rfl) rfl ?_
 refine JO_gT rfl rfl ?_
 refine JO_q (QE_mv rfl) rfl ?_
 refine JO_gT rfl rfl ?_
 refine JO_q (QE_cast (v' := .bool true) (QE_seq rfl rfl) (bT ex_S.1)) rfl ?_
 refine JO_q (QE_pickT rfl rfl) rfl ?_
 refine JO_q (QE_mv rfl) rfl ?_
 refine JO_gT rfl rfl ?_
 refine JO_q (QE_mv rfl) rfl ?_
 refine JO_gT rfl rfl ?_
 refine JO_q (QE_cast (v' := .bool true) (QE_eq rfl rfl) (bT ex_K.1)) rfl ?_
 refine JO_q (QE_pickT rfl rfl) rfl ?_
 refine JO_q (QE_mv rfl) rfl ?_
 refine JO_gT rfl rfl ?_
 refine JO_q (QE_mv rfl) rfl ?_
 refine JO_gT rfl rfl ?_
 refine JO_q (QE_cast (v' := .bool true) (QE_seq rfl rfl) (bT ex_N.1)) rfl ?_
 refine JO_q (QE_pickT rfl rfl) rfl ?_
 refine JO_q (QE_mv rfl) rfl ?_
 refine JO_gT rfl rfl ?_
 refine JO_q (QE_mv rfl) rfl ?_
 refine JO_gT rfl rfl ?_
 refine JO_bs [(_, _), (_, _), (_, _)] [_, _, _] rfl rfl rfl rfl rfl rfl rfl rfl rfl ?_
 intro βg s25 h25 hcg
 refine JO_gT rfl rfl ?_
 refine JO_call (first := []) (captured := []) rfl rfl rfl (AC.isT (sameBytes_ac D _ _ _ _ _ _ (hP.le (Le.trans (Le.trans (Le.trans (Le.trans (Le.trans (Le.trans (Le.trans (Le.trans h17 h18) h19) h20) h21) h22) h23) h24) h25)) _ _ _ [5, 172, 2] (bts_lit (l := [5, 172, 2]) (hcg.le (Le.refl (D := D) _)) (by decide))) rfl) ?_
 rintro _ _ s26 h26 ⟨rfl, rfl⟩
 refine JO_q (QE_pickT rfl rfl) rfl ?_
 refine JO_q (QE_mv rfl) rfl ?_
 refine JO_gT rfl rfl ?_
 refine JO_q (QE_mv rfl) rfl ?_
 refine JO_gT rfl rfl ?_
 refine JO_bs [(_, _), (_, _)] [_, _] rfl rfl rfl rfl rfl rfl rfl rfl rfl ?_
 intro βh s27 h27 hch
 refine JO_gT rfl rfl ?_
 refine JO_call (first := []) (captured := []) rfl rfl rfl (AC.isT (sameWords_ac D _ _ _ _ _ _ (hU.le (Le.trans (Le.trans (Le.trans (Le.trans (Le.trans (Le.trans (Le.trans h20 h21) h22) h23) h24) h25) h26) h27)) _ _ _ [5, 300] (wds_lit (l := [5, 300]) (hch.le (Le.refl (D := D) _)) (u32L _ rfl) (by decide))) rfl) ?_
 rintro _ _ s28 h28 ⟨rfl, rfl⟩
 refine JO_q (QE_pickT rfl rfl) rfl ?_
 refine JO_q (QE_as rfl) rfl ?_
 refine JO_nil ?_
 refine thenQ_n ?_
 refine JC_ret ?_
 refine retQ_mk [_, _, _, _, _, _, _] L (.inr rfl) (.tmp rfl (.nil)) rfl (Le.trans (Le.trans (Le.trans (Le.trans (Le.trans (Le.trans (Le.trans (Le.trans (Le.trans (Le.trans (Le.trans (Le.trans (Le.trans (Le.trans (Le.trans (Le.trans (Le.trans (Le.trans (Le.trans (Le.trans (Le.trans (Le.trans (Le.trans (Le.trans (Le.trans (Le.trans (Le.trans h1 h2) h3) h4) h5) h6) h7) h8) h9) h10) h11) h12) h13) h14) h15) h16) h17) h18) h19) h20) h21) h22) h23) h24) h25) h26) h27) h28) (fun sR hS2 => ?_)
 exact ⟨rfl, rfl⟩
end Go.Proofs.YteomcjpigoaioaaGreatDoor
namespace Go.Proofs.YteomcjpigoaioaaGreatDoor
open Go Go.FL Go.RowKit
def wsum (l : List UInt8) (k : Nat) : Nat → Nat
  | 0 => 0
  | n + 1 => wsum l k n + (l.getD (k + n) 0).toNat % 128 * 128 ^ n
theorem wsum_succ {l : List UInt8} {k n : Nat} {c : UInt8} (h : l[k + n]? = some c) : wsum l k (n + 1) = wsum l k n + c.toNat % 128 * 128 ^ n := by
  rw [wsum, List.getD_eq_getElem?_getD, h]; rfl
theorem wsum_lt (l : List UInt8) (k n : Nat) : wsum l k n < 128 ^ n := by
  induction n with
  | zero => simp [wsum]
  | succ n ih =>
    rw [wsum, Nat.pow_succ]
    have h1 : (l.getD (k + n) 0).toNat % 128 * 128 ^ n ≤ 127 * 128 ^ n := Nat.mul_le_mul_right _ (by omega)
    omega
theorem dropAt {l : List UInt8} {k : Nat} {c : UInt8} (h : l[k]? = some c) : l.drop k = c :: l.drop (k + 1) := by
  obtain ⟨hk, rfl⟩ := List.getElem?_eq_some_iff.1 h
  exact List.drop_eq_getElem_cons hk
theorem up_step {l : List UInt8} {k sz : Nat} {c : UInt8} (hU : upG 0 0 (l.drop k) = upG sz (wsum l k sz) (l.drop (k + sz))) (hch : l[k + sz]? = some c) (hc : 128 ≤ c.toNat) :
    (sz + 1 < 5 → upG 0 0 (l.drop k) = upG (sz + 1) (wsum l k (sz + 1)) (l.drop (k + (sz + 1)))) ∧ (sz + 1 = 5 → upG 0 0 (l.drop k) = .inl 6) := by
  rw [dropAt hch, upG, if_neg (by omega)] at hU
  refine ⟨fun h => ?_, fun h => ?_⟩
  · rw [hU, if_neg (by omega), wsum_succ hch]; rfl
  · rw [hU, if_pos h]
theorem up_last {l : List UInt8} {k sz : Nat} {c : UInt8} (hU : upG 0 0 (l.drop k) = upG sz (wsum l k sz) (l.drop (k + sz))) (hch : l[k + sz]? = some c) (hc : c.toNat < 128) :
    upG 0 0 (l.drop k) = .inr (wsum l k (sz + 1), sz + 1, c, l.drop (k + (sz + 1))) := by
  rw [dropAt hch, upG, if_pos hc] at hU
  rw [hU, wsum_succ hch]; rfl
theorem w_step {l : List UInt8} {k j w T : Nat} {c : UInt8} (h : w * 128 ^ (j + 1) + wsum l k (j + 1) = T) (hch : l[k + j]? = some c) : (128 * w + c.toNat % 128) * 128 ^ j + wsum l k j = T := by
  rw [wsum_succ hch, Nat.pow_succ] at h
  rw [Nat.add_mul, ← h, Nat.mul_comm (128 ^ j) 128, ← Nat.mul_assoc, Nat.mul_comm w 128]
  omega
theorem w_le {w j T X : Nat} (h : w * 128 ^ j + X = T) : w ≤ T := by
  have h1 : w * 1 ≤ w * 128 ^ j := Nat.mul_le_mul_left _ (Nat.one_le_pow _ _ (by decide))
  omega
theorem rem128 (n : Nat) (k : IntKind) : Value.int k ((n : Int).tmod 128) = .int k ((n % 128 : Nat) : Int) := by rw [Int.tmod_eq_emod_of_nonneg (by omega)]; rfl
theorem quo128 {n : Nat} (h : n < 4294967296) : Value.int .u32 (IntKind.u32.wrap ((n : Int).tdiv 128)) = .int .u32 ((n / 128 : Nat) : Int) := by
  rw [Int.tdiv_eq_ediv_of_nonneg (by omega), IntKind.wrap_u32]; congr 1; omega
theorem add128 (n : Nat) : Value.int .u32 (IntKind.u32.wrap (((n % 128 : Nat) : Int) + 128)) = .int .u32 ((n % 128 + 128 : Nat) : Int) := by
  rw [IntKind.wrap_u32]; congr 1; omega
theorem byte128 (n : Nat) : Value.int .u8 (IntKind.u8.wrap ((n % 128 + 128 : Nat) : Int)) = .int .u8 ((UInt8.ofNat (n % 128 + 128)).toNat : Int) := by
  rw [IntKind.wrap_u8]; congr 1
theorem acc128 {w c : Nat} (h : w < 34359738368) (hc : c < 256) : Value.int .i64 (IntKind.i64.wrap (128 * (w : Int) + ((c % 128 : Nat) : Int))) = .int .i64 ((128 * w + c % 128 : Nat) : Int) := by
  rw [w64 (by omega) (by omega)]; rfl
theorem bv_app (a b : List UInt8) : bv (a ++ b) = bv a ++ bv b := by simp [bv]
end Go.Proofs.YteomcjpigoaioaaGreatDoor
namespace Go.Proofs.YteomcjpigoaioaaGreatDoor
open Go.FL
attribute [local irreducible] JC JO JA JB thenQ blockQ retQ AC fill CellsAt QE Ev Mid
set_option maxHeartbeats 1000000 in
set_option maxRecDepth 100000 in
theorem groupsO_ac (D : Nat) (L : Hl) (s : World) (w : Nat) (hw : w < 4294967296) (ih : ∀ w', w' < w → ∀ (L : Hl) (s : World), AC Tryz.prog D 63 [.int .u32 (w' : Int)] L s fun v L' s' => L = L' ∧ ∃ A n c, v = .slice A n c ∧ Bts s' A n c (grp w')) : AC Tryz.prog D 63 [.int .u32 (w : Int)] L s fun v L' s' => ∃ M', L' = M' ++ L ∧ ∀ s2, Le D s' s2 → Pub M' s2 → ∃ A n c, v = .slice A n c ∧ Bts s2 A n c (grp w) := by
 refine AC_enter (TT := TT) (fn := Tryz.f63) TT_ok Tryz.func63 (by kernel_rfl) rfl Tryz.ntmps63 rfl (rs := [.tmp 2]) rfl [(0, _)] rfl ?_
 refine JC_seq ?_
 refine JC_region ?_
 refine JO_q (QE_as rfl) rfl ?_
 refine JO_nil ?_
 refine thenQ_n ?_
 refine JC_seq ?_
 refine JC_seq ?_
 refine JC_region ?_
 refine JO_q (QE_mv rfl) rfl ?_
 refine JO_q (QE_lt rfl rfl) rfl ?_
 refine JO_nil ?_
 refine thenQ_n ?_
 refine JC_ifD rfl (fun c1 => ?_) (fun c1 => ?_)
 ·
  have hw1 : w < 128 := by omega
  refine JC_seq ?_
  refine JC_region ?_
  refine JO_q (QE_mv rfl) rfl ?_
  refine JO_q (QE_cast (QE_conv rfl rfl rfl rfl rfl) (byteN hw1)) rfl ?_
  refine JO_bs [(_, _)] [_] rfl rfl rfl rfl rfl rfl rfl rfl rfl ?_
  intro βn s2 h2 hcb
  refine JO_q (QE_as rfl) rfl ?_
  refine JO_nil ?_
  refine thenQ_n ?_
  refine JC_ret ?_
  refine thenQ_r ?_
  refine retQ_mk [] _ (.inr rfl) (.tmp rfl (.nil)) rfl h2 (fun sR hS2 => ?_)
  exact ⟨[], rfl, fun s2 hs2 hp => ⟨_, _, _, rfl, by rw [grp_small hw1]; exact bts_lit (l := [UInt8.ofNat w]) (hcb.le (Le.trans (Le.refl (D := D) _) (Le.trans hS2 hs2))) (by simp)⟩⟩
 ·
  have hw1 : ¬ w < 128 := by omega
  refine JC_skip ?_
  refine thenQ_n ?_
  refine JC_seq ?_
  refine JC_region ?_
  refine JO_q (QE_as rfl) rfl ?_
  refine JO_nil ?_
  refine thenQ_n ?_
  refine JC_seq ?_
  refine JC_region ?_
  refine JO_q (QE_mv rfl) rfl ?_
  refine JO_q (QE_mv rfl) rfl ?_
  refine JO_q (QE_cast (QE_rem rfl rfl (by decide)) (rem128 w .u32)) rfl ?_
  refine JO_q (QE_cast (QE_add rfl rfl) (add128 w)) rfl ?_
  refine JO_q (QE_cast (QE_conv rfl rfl rfl rfl rfl) (byte128 w)) rfl ?_
  refine JO_bs [(_, _)] [_] rfl rfl rfl rfl rfl rfl rfl rfl rfl ?_
  intro βn s3 h3 hcb
  refine JO_app (sz := 1) [] [] L rfl rfl rfl rfl rfl rfl rfl Own.nil (Row.of_cells (hcb.le (Le.refl (D := D) _)) rfl rfl) ⟨by simp [ti5], by omega⟩ rfl ?_
  intro v1 M1 s4 h4 o1
  obtain ⟨Av1, cv1, rfl, _, _⟩ := Own.slice o1
  simp only [List.nil_append]
  refine JO_q (QE_as rfl) rfl ?_
  refine JO_nil ?_
  refine thenQ_n ?_
  refine JC_seq ?_
  refine JC_region ?_
  refine JO_q (QE_mv rfl) rfl ?_
  refine JO_q (QE_mv rfl) rfl ?_
  refine JO_q (QE_cast (QE_quo rfl rfl (by decide)) (quo128 hw)) rfl ?_
  refine JO_call (first := []) (captured := []) rfl rfl rfl (ih (w / 128) (by omega) _ _) ?_
  rintro _ _ s5 h5 ⟨rfl, Ag, ng, cg, rfl, hg⟩
  have hgl := hg.1
  have hgn := grp_len (w := w / 128) (by omega)
  refine JO_app (sz := 1) [] M1 L rfl rfl rfl rfl rfl rfl rfl o1 (hg.row.le (Le.refl (D := D) _)) ⟨by simp [ti5]; omega, by omega⟩ rfl ?_
  intro v2 M2 s6 h6 o2
  obtain ⟨Av2, cv2, rfl, _, _⟩ := Own.slice o2
  simp only [List.nil_append]
  refine JO_q (QE_as rfl) rfl ?_
  refine JO_nil ?_
  refine thenQ_n ?_
  refine JC_ret ?_
  refine retQ_mk [] _ (.inr rfl) (.tmp rfl (.nil)) rfl (Le.trans (Le.trans (Le.trans h3 h4) h5) h6) (fun sR hS2 => ?_)
  refine ⟨M2, rfl, fun s2 hs2 hp => ⟨Av2, _, cv2, rfl, ?_⟩⟩
  have e : 0 + 1 + ng = (UInt8.ofNat (w % 128 + 128) :: grp (w / 128)).length := by simp only [List.length_cons]; omega
  rw [grp_big hw1]
  rw [e] at o2 ⊢
  exact Own.bts o2 hp
theorem groups_ac (D : Nat) (w : Nat) (hw : w < 4294967296) : ∀ (L : Hl) (s : World), AC Tryz.prog D 63 [.int .u32 (w : Int)] L s fun v L' s' => L = L' ∧ ∃ A n c, v = .slice A n c ∧ Bts s' A n c (grp w) := by
  induction w using Nat.strongRecOn with
  | _ w ih => exact fun L s => AC.pubW (groupsO_ac D L s w hw fun w' h => ih w' h (by omega))
set_option maxHeartbeats 1000000 in
set_option maxRecDepth 100000 in
theorem packedO_ac (D : Nat) (L : Hl) (s : World) (A : Option Addr) (n c : Nat) (l : List Int) (hA : Wds s A n c l) (hl : l.length ≤ 65536) : AC Tryz.prog D 35 [.slice A n c] L s fun v L' s' => ∃ M', L' = M' ++ L ∧ ∀ s2, Le D s' s2 → Pub M' s2 → ∃ A1 n1 c1, v = .slice A1 n1 c1 ∧ Bts s2 A1 n1 c1 (packF l) := by
 have hn := hA.1
 have hu := hA.u32
 refine AC_enter (TT := TT) (fn := Tryz.f35) TT_ok Tryz.func35 (by kernel_rfl) rfl Tryz.ntmps35 rfl (rs := [.tmp 2]) rfl [(0, _)] rfl ?_
 refine JC_seq ?_
 refine JC_region ?_
 refine JO_q (QE_as rfl) rfl ?_
 refine JO_nil ?_
 refine thenQ_n ?_
 refine JC_seq ?_
 refine JC_region ?_
 refine JO_q (QE_as rfl) rfl ?_
 refine JO_nil ?_
 refine thenQ_n ?_
 refine JC_seq ?_
 refine JC_seq ?_
 refine JC_region ?_
 refine JO_q (QE_as rfl) rfl ?_
 refine JO_nil ?_
 refine thenQ_n ?_
 refine JC_block ?_
 refine JC_loop (γ := Nat × Value × Hl × List UInt8) (fun g => [(0, _), (2, _), (3, g.2.1), (4, .int .i64 (g.1 : Int))]) (fun g => g.2.2.1 ++ L) (fun g tw => Le D s tw ∧ (g.1 ≤ n ∧ Own 5 1 g.2.2.1 g.2.1 g.2.2.2.length (bv g.2.2.2) ∧ packF l = g.2.2.2 ++ packF (l.drop g.1) ∧ g.2.2.2.length ≤ 5 * g.1)) (fun g => n - g.1) (fun _ _ _ h hl => ⟨h.1.trans hl, h.2⟩) (0, .slice none 0 0, [], []) (Keeps.cons rfl (Keeps.cons rfl (Keeps.cons rfl (Keeps.cons rfl (Keeps.nil _))))) rfl ⟨Le.refl _, ⟨Nat.zero_le _, Own.nil, rfl, Nat.le_refl _⟩⟩ ?_
 intro g s1 I1
 obtain ⟨k, vo, Mo, out⟩ := g
 obtain ⟨hk0, hO, hS, hol⟩ := I1.2
 simp only at hk0 hO hS hol
 dsimp only
 refine JC_seq ?_
 refine JC_seq ?_
 refine JC_region ?_
 refine JO_q (QE_mv rfl) rfl ?_
 refine JO_q (QE_mv rfl) rfl ?_
 refine JO_q (QE_lenS rfl rfl rfl) rfl ?_
 refine JO_q (QE_lt rfl rfl) rfl ?_
 refine JO_nil ?_
 refine thenQ_n ?_
 refine JC_ifD rfl (fun c2 => ?_) (fun c2 => ?_)
 ·
  have hk : k < n := by omega
  obtain ⟨b, off, x, rfl, hx, hcx, hux⟩ := Wds.at_ (hA.le I1.1) hk
  obtain ⟨X, rfl⟩ := Int.eq_ofNat_of_zero_le hux.1
  have hX : X < 4294967296 := by have := hux.2; omega
  refine JC_skip ?_
  refine thenQ_n ?_
  refine JC_seq ?_
  refine JC_block ?_
  refine JC_region ?_
  refine JO_q (QE_mv rfl) rfl ?_
  refine JO_q (QE_mv rfl) rfl ?_
  refine JO_q (QE_mv rfl) rfl ?_
  refine JO_q (QE_ia1 rfl rfl rfl rfl rfl rfl hk) rfl ?_
  refine JO_q (QE_ldsR0 rfl rfl rfl (hcx.le (Le.refl (D := D) _)) rfl) rfl ?_
  refine JO_call (first := []) (captured := []) rfl rfl rfl (groups_ac D X hX _ _) ?_
  rintro _ _ s3 h3 ⟨rfl, Ag, ng, cg, rfl, hg⟩
  have hgl := hg.1
  have hgn := grp_len hX
  refine JO_app (sz := 1) [] Mo L rfl rfl rfl rfl rfl rfl rfl hO (hg.row.le (Le.refl (D := D) _)) ⟨by simp [ti5]; omega, by omega⟩ rfl ?_
  intro v2 M2 s4 h4 o2
  obtain ⟨Av2, cv2, rfl, _, _⟩ := Own.slice o2
  simp only [List.nil_append]
  refine JO_q (QE_as rfl) rfl ?_
  refine JO_nil ?_
  refine blockQ_n ?_
  refine thenQ_n ?_
  refine JC_region ?_
  refine JO_q (QE_mv rfl) rfl ?_
  refine JO_q (QE_add' rfl rfl (w64 (by omega) (by omega))) rfl ?_
  refine JO_q (QE_as rfl) rfl ?_
  refine JO_nil ?_
  refine thenQ_n ⟨(k + 1, .slice Av2 (out.length + ng) cv2, M2, out ++ grp X), [], (Keeps.cons rfl (Keeps.cons rfl (Keeps.cons rfl (Keeps.cons rfl (Keeps.nil _))))), rfl, ⟨(Le.trans (Le.trans I1.1 h3) h4), ⟨by simp only; omega, by simp only [List.length_append, bv_app]; rw [hgl] at o2 ⊢; exact o2, by simp only; rw [hS, pack_at hx, Int.toNat_natCast, ← List.append_assoc], by simp only [List.length_append]; omega⟩⟩, (by simp only; omega)⟩
 ·
  rw [List.drop_eq_nil_of_le (by omega)] at hS
  obtain ⟨Ao, co, rfl, _, _⟩ := Own.slice hO
  refine JC_exit ?_
  refine thenQ_x ?_
  refine thenQ_x ?_
  refine blockQ_x ?_
  refine thenQ_n ?_
  refine JC_seq ?_
  refine JC_region ?_
  refine JO_q (QE_mv rfl) rfl ?_
  refine JO_q (QE_as rfl) rfl ?_
  refine JO_nil ?_
  refine thenQ_n ?_
  refine JC_ret ?_
  refine retQ_mk [] _ (.inr rfl) (.tmp rfl (.nil)) rfl I1.1 (fun sR hS2 => ?_)
  refine ⟨Mo, rfl, fun s2 hs2 hp => ⟨Ao, out.length, co, rfl, ?_⟩⟩
  rw [hS]; simp only [packF, List.map_nil, List.flatten_nil, List.append_nil]; exact Own.bts hO hp
theorem packed_ac (D : Nat) (L : Hl) (s : World) (A : Option Addr) (n c : Nat) (l : List Int) (hA : Wds s A n c l) (hl : l.length ≤ 65536) : AC Tryz.prog D 35 [.slice A n c] L s fun v L' s' => L = L' ∧ ∃ A1 n1 c1, v = .slice A1 n1 c1 ∧ Bts s' A1 n1 c1 (packF l) := AC.pubW (packedO_ac D L s A n c l hA hl)
set_option maxHeartbeats 4000000 in
set_option maxRecDepth 100000 in
theorem unpackedO_ac (D : Nat) (L : Hl) (s : World) (A : Option Addr) (n c : Nat) (l : List UInt8) (hA : Bts s A n c l) : AC Tryz.prog D 33 [.slice A n c] L s fun v L' s' => ∃ M', L' = M' ++ L ∧ ∀ s2, Le D s' s2 → Pub M' s2 → ∃ A1 n1 c1, v = .tuple #[.slice A1 n1 c1, .agg #[.int .i64 (unpE l).1, .int .i64 (unpE l).2]] ∧ Wds s2 A1 n1 c1 (unpS l) := by
 have hn := hA.1
 refine AC_enter (TT := TT) (fn := Tryz.f33) TT_ok Tryz.func33 (by kernel_rfl) rfl Tryz.ntmps33 rfl (rs := [.tmp 2, .cell 3 27]) rfl [(0, _)] rfl ?_
 refine JC_seq ?_
 refine JC_region ?_
 refine JO_q (QE_as rfl) rfl ?_
 refine JO_allocZ rfl [_, _] rfl rfl ?_
 intro β1 s1 h1
 refine JO_nil ?_
 refine thenQ_n ?_
 refine JC_seq ?_
 refine JC_seq ?_
 refine JC_region ?_
 refine JO_q (QE_mv rfl) rfl ?_
 refine JO_q (QE_lenS rfl rfl rfl) rfl ?_
 refine JO_q (QE_gt rfl rfl) rfl ?_
 refine JO_nil ?_
 refine thenQ_n ?_
 refine JC_ifD rfl (fun c2 => ?_) (fun c2 => ?_)
 ·
  have hlong : 327680 < l.length := by omega
  refine JC_seq ?_
  refine JC_region ?_
  refine JO_call (first := []) (captured := []) rfl rfl rfl (at_ac D _ _ _ _) ?_
  rintro _ _ s3 h3 ⟨rfl, rfl⟩
  refine JO_q (QE_as rfl) rfl ?_
  refine JO_st 0 [_, _] rfl rfl rfl rfl rfl rfl rfl rfl rfl ?_
  refine JO_nil ?_
  refine thenQ_n ?_
  refine JC_ret ?_
  refine thenQ_r ?_
  refine retQ_mk [_] _ (.inr rfl) (.tmp rfl (.agg (us := [_, _]) 0 rfl rfl rfl rfl rfl (.nil))) rfl (Le.trans h1 h3) (fun sR hS2 => ?_)
  first
    | (refine ⟨[], rfl, fun s2 hs2 hp => ⟨none, 0, 0, ?_, ?_⟩⟩
       · rw [(unp_l (unp_long hlong)).2]; rfl
       · rw [(unp_l (unp_long hlong)).1]; exact Wds.nil _ _ _ (by omega))
    | (have hE := unp_l (unp_err hlong (by rw [hS]; exact upF_err hne htr))
       refine ⟨[], rfl, fun s2 hs2 hp => ⟨none, 0, 0, ?_, ?_⟩⟩
       · rw [hE.2]; rfl
       · rw [hE.1]; exact Wds.nil _ _ _ (by omega))
    | (have hE := unp_l (unp_err hlong (by rw [hS]; exact upF_err hne hfm))
       refine ⟨[], rfl, fun s2 hs2 hp => ⟨none, 0, 0, ?_, ?_⟩⟩
       · rw [hE.2]; rfl
       · rw [hE.1]; exact Wds.nil _ _ _ (by omega))
    | (have hE := unp_l (unp_err hlong (by rw [hS]; exact upF_form hne hUP h62))
       refine ⟨[], rfl, fun s2 hs2 hp => ⟨none, 0, 0, ?_, ?_⟩⟩
       · rw [hE.2]; rfl
       · rw [hE.1]; exact Wds.nil _ _ _ (by omega))
    | (have hE := unp_l (unp_big hlong hS hbig)
       refine ⟨[], rfl, fun s2 hs2 hp => ⟨none, 0, 0, ?_, ?_⟩⟩
       · rw [hE.2]; rfl
       · rw [hE.1]; exact Wds.nil _ _ _ (by omega))
    | (have hE := unp_r (unp_ok hlong hS hbig)
       refine ⟨Mo, rfl, fun s2 hs2 hp => ⟨Ao, out.length, co, ?_, ?_⟩⟩
       · rw [hE.2]; rfl
       · rw [hE.1]; exact Own.wds hO huo hp)
 ·
  have hlong : ¬ 327680 < l.length := by omega
  refine JC_skip ?_
  refine thenQ_n ?_
  refine JC_seq ?_
  refine JC_region ?_
  refine JO_q (QE_as rfl) rfl ?_
  refine JO_nil ?_
  refine thenQ_n ?_
  refine JC_seq ?_
  refine JC_region ?_
  refine JO_q (QE_as rfl) rfl ?_
  refine JO_nil ?_
  refine thenQ_n ?_
  refine JC_seq ?_
  refine JC_block ?_
  refine JC_loop (γ := Nat × Value × Hl × List Int) (fun g => [(0, _), (2, .slice none 0 0), (3, _), (4, g.2.1), (5, .int .i64 (g.1 : Int))]) (fun g => (β1, cb [.int .i64 0, .int .i64 0] 27) :: (g.2.2.1 ++ L)) (fun g tw => Le D s1 tw ∧ (g.1 ≤ n ∧ Own 52 1 g.2.2.1 g.2.1 g.2.2.2.length (wv g.2.2.2) ∧ (∀ x ∈ g.2.2.2, U32 x) ∧ g.2.2.2.length ≤ g.1 ∧ upF 0 [] l = upF g.1 g.2.2.2 (l.drop g.1))) (fun g => n - g.1) (fun _ _ _ h hl => ⟨h.1.trans hl, h.2⟩) (0, .slice none 0 0, [], []) (Keeps.cons rfl (Keeps.cons rfl (Keeps.cons rfl (Keeps.cons rfl (Keeps.cons rfl (Keeps.nil _)))))) rfl ⟨Le.refl _, ⟨Nat.zero_le _, Own.nil, (fun _ h => by cases h), Nat.le_refl _, rfl⟩⟩ ?_
  intro g s4 I4
  obtain ⟨k, vo, Mo, out⟩ := g
  obtain ⟨hk0, hO, huo, hol, hS⟩ := I4.2
  simp only at hk0 hO huo hol hS
  dsimp only
  refine JC_seq ?_
  refine JC_seq ?_
  refine JC_region ?_
  refine JO_q (QE_mv rfl) rfl ?_
  refine JO_q (QE_mv rfl) rfl ?_
  refine JO_q (QE_lenS rfl rfl rfl) rfl ?_
  refine JO_q (QE_lt rfl rfl) rfl ?_
  refine JO_nil ?_
  refine thenQ_n ?_
  refine JC_ifD rfl (fun c5 => ?_) (fun c5 => ?_)
  ·
   have hk : k < n := by omega
   have hne : l.drop k ≠ [] := by rw [ne_eq, List.drop_eq_nil_iff]; omega
   refine JC_skip ?_
   refine thenQ_n ?_
   refine JC_block ?_
   refine JC_seq ?_
   refine JC_region ?_
   refine JO_q (QE_as rfl) rfl ?_
   refine JO_nil ?_
   refine thenQ_n ?_
   refine JC_seq ?_
   refine JC_block ?_
   refine JC_loop (γ := Nat) (fun g => [(0, _), (2, .slice none 0 0), (3, _), (4, _), (5, _), (6, .int .i64 (g : Int))]) (fun g => (β1, cb [.int .i64 0, .int .i64 0] 27) :: (Mo ++ L)) (fun g tw => Le D s4 tw ∧ (g ≤ 5 ∧ k + g ≤ n ∧ (g < 5 → upG 0 0 (l.drop k) = upG g (wsum l k g) (l.drop (k + g))) ∧ (g = 5 → upG 0 0 (l.drop k) = .inl 6))) (fun g => 5 - g) (fun _ _ _ h hl => ⟨h.1.trans hl, h.2⟩) 0 (Keeps.cons rfl (Keeps.cons rfl (Keeps.cons rfl (Keeps.cons rfl (Keeps.cons rfl (Keeps.cons rfl (Keeps.nil _))))))) rfl ⟨Le.refl _, ⟨by omega, by omega, fun _ => rfl, fun h => by omega⟩⟩ ?_
   intro g s6 I6
   obtain ⟨sz, rfl⟩ : ∃ sz, sz = g := ⟨_, rfl⟩
   obtain ⟨hsz5, hks, hU, hU5⟩ := I6.2
   refine JC_seq ?_
   refine JC_cutB 35 (sz < 5 ∧ ∃ ch, l[k + sz]? = some ch ∧ 128 ≤ ch.toNat) ?_ ?_
   ·
    refine JC_region ?_
    refine JO_q (QE_mv rfl) rfl ?_
    refine JO_q (QE_lt rfl rfl) rfl ?_
    refine JO_q (QE_mv rfl) rfl ?_
    refine JO_caseD (t := 19) rfl (fun c8 => ?_) (fun c8 => ?_)
    ·
     refine JO_gT rfl rfl ?_
     refine JO_q (QE_mv rfl) rfl ?_
     refine JO_gT rfl rfl ?_
     refine JO_q (QE_mv rfl) rfl ?_
     refine JO_gT rfl rfl ?_
     refine JO_q (QE_add' rfl rfl (w64 (by omega) (by omega))) rfl ?_
     refine JO_gT rfl rfl ?_
     refine JO_q (QE_mv rfl) rfl ?_
     refine JO_gT rfl rfl ?_
     refine JO_q (QE_lenS rfl rfl rfl) rfl ?_
     refine JO_gT rfl rfl ?_
     refine JO_q (QE_lt rfl rfl) rfl ?_
     refine JO_q (QE_pickT rfl rfl) rfl ?_
     refine JO_q (QE_mv rfl) rfl ?_
     refine JO_caseD (t := 27) rfl (fun c9 => ?_) (fun c9 => ?_)
     ·
      refine JO_gT rfl rfl ?_
      refine JO_q (QE_mv rfl) rfl ?_
      refine JO_gT rfl rfl ?_
      refine JO_q (QE_mv rfl) rfl ?_
      refine JO_gT rfl rfl ?_
      refine JO_q (QE_mv rfl) rfl ?_
      refine JO_gT rfl rfl ?_
      refine JO_q (QE_add' (c := ((k + sz : Nat) : Int)) rfl rfl (by rw [w64 (by omega) (by omega)]; simp)) rfl ?_
      refine JO_gT rfl rfl ?_
      have hks2 : k + sz < n := by omega
      obtain ⟨b, off, ch, rfl, hch, hcc⟩ := Bts.at_ (hA.le (Le.trans (Le.trans h1 I4.1) I6.1)) hks2
      have hc256 := ch.toNat_lt
      refine JO_q (QE_ia1 rfl rfl rfl rfl rfl rfl hks2) rfl ?_
      refine JO_gT rfl rfl ?_
      refine JO_q (QE_ldsR0 rfl rfl rfl (hcc.le (Le.refl (D := D) _)) rfl) rfl ?_
      refine JO_gT rfl rfl ?_
      refine JO_q (QE_ge rfl rfl) rfl ?_
      refine JO_q (QE_pickT rfl rfl) rfl ?_
      refine JO_nil ?_
      refine thenQ_n (MidB.mk (Le.refl (D := D) _) (by repeat (first | exact Suf.refl | refine Suf.push rfl ?_)) rfl (decide_eq_decide.2 (⟨fun h => ⟨by omega, ch, hch, by omega⟩, fun ⟨_, c9, h9, h8⟩ => by rw [hch] at h9; injection h9 with h9; subst h9; omega⟩)))
     ·
      refine JO_gF rfl rfl rfl rfl ?_
      refine JO_gF rfl rfl rfl rfl ?_
      refine JO_gF rfl rfl rfl rfl ?_
      refine JO_gF rfl rfl rfl rfl ?_
      refine JO_gF rfl rfl rfl rfl ?_
      refine JO_gF rfl rfl rfl rfl ?_
      refine JO_gF rfl rfl rfl rfl ?_
      refine JO_q (QE_pickF rfl rfl) rfl ?_
      refine JO_nil ?_
      refine thenQ_n (MidB.mk (Le.refl (D := D) _) (by repeat (first | exact Suf.refl | refine Suf.push rfl ?_)) rfl ((decide_eq_false (by first | (intro h; omega) | (rintro ⟨_, c9, h9, _⟩; have := (List.getElem?_eq_some_iff.1 h9).1; omega))).symm))
    ·
     refine JO_gF rfl rfl rfl rfl ?_
     refine JO_gF rfl rfl rfl rfl ?_
     refine JO_gF rfl rfl rfl rfl ?_
     refine JO_gF rfl rfl rfl rfl ?_
     refine JO_gF rfl rfl rfl rfl ?_
     refine JO_gF rfl rfl rfl rfl ?_
     refine JO_q (QE_pickF rfl rfl) rfl ?_
     refine JO_q (QE_mv rfl) rfl ?_
     refine JO_gF rfl rfl rfl rfl ?_
     refine JO_gF rfl rfl rfl rfl ?_
     refine JO_gF rfl rfl rfl rfl ?_
     refine JO_gF rfl rfl rfl rfl ?_
     refine JO_gF rfl rfl rfl rfl ?_
     refine JO_gF rfl rfl rfl rfl ?_
     refine JO_gF rfl rfl rfl rfl ?_
     refine JO_q (QE_pickF rfl rfl) rfl ?_
     refine JO_nil ?_
     refine thenQ_n (MidB.mk (Le.refl (D := D) _) (by repeat (first | exact Suf.refl | refine Suf.push rfl ?_)) rfl ((decide_eq_false (by first | (intro h; omega) | (rintro ⟨_, c9, h9, _⟩; have := (List.getElem?_eq_some_iff.1 h9).1; omega))).symm))
   ·
    intro s7 h7
    refine JC_ifD rfl (fun c10 => ?_) (fun c10 => ?_)
    ·
     obtain ⟨h35a, ch, h35c, h35b⟩ := c10
     refine JC_skip ?_
     refine thenQ_n ?_
     refine JC_block ?_
     refine JC_region ?_
     refine JO_q (QE_mv rfl) rfl ?_
     refine JO_q (QE_add' rfl rfl (w64 (by omega) (by omega))) rfl ?_
     refine JO_q (QE_as rfl) rfl ?_
     refine JO_nil ?_
     refine blockQ_n ?_
     refine thenQ_n ⟨(sz + 1), [], (Keeps.cons rfl (Keeps.cons rfl (Keeps.cons rfl (Keeps.cons rfl (Keeps.cons rfl (Keeps.cons rfl (Keeps.nil _))))))), rfl, ⟨(Le.trans I6.1 h7), ⟨by omega, by have := (List.getElem?_eq_some_iff.1 h35c).1; omega, (up_step (hU h35a) h35c h35b).1, (up_step (hU h35a) h35c h35b).2⟩⟩, (by omega)⟩
    ·
     have h35 := c10
     refine JC_exit ?_
     refine thenQ_x ?_
     refine thenQ_x ?_
     refine blockQ_x ?_
     refine thenQ_n ?_
     refine JC_seq ?_
     refine JC_cutB 47 (sz < 5 ∧ k + sz = n) ?_ ?_
     ·
      refine JC_region ?_
      refine JO_q (QE_mv rfl) rfl ?_
      refine JO_q (QE_lt rfl rfl) rfl ?_
      refine JO_q (QE_mv rfl) rfl ?_
      refine JO_caseD (t := 40) rfl (fun c12 => ?_) (fun c12 => ?_)
      ·
       refine JO_gT rfl rfl ?_
       refine JO_q (QE_mv rfl) rfl ?_
       refine JO_gT rfl rfl ?_
       refine JO_q (QE_mv rfl) rfl ?_
       refine JO_gT rfl rfl ?_
       refine JO_q (QE_add' rfl rfl (w64 (by omega) (by omega))) rfl ?_
       refine JO_gT rfl rfl ?_
       refine JO_q (QE_mv rfl) rfl ?_
       refine JO_gT rfl rfl ?_
       refine JO_q (QE_lenS rfl rfl rfl) rfl ?_
       refine JO_gT rfl rfl ?_
       refine JO_q (QE_eq rfl rfl) rfl ?_
       refine JO_q (QE_pickT rfl rfl) rfl ?_
       refine JO_nil ?_
       refine thenQ_n (MidB.mk (Le.refl (D := D) _) (by repeat (first | exact Suf.refl | refine Suf.push rfl ?_)) rfl (decide_eq_decide.2 (⟨fun h => ⟨by omega, by omega⟩, fun h => by omega⟩)))
      ·
       refine JO_gF rfl rfl rfl rfl ?_
       refine JO_gF rfl rfl rfl rfl ?_
       refine JO_gF rfl rfl rfl rfl ?_
       refine JO_gF rfl rfl rfl rfl ?_
       refine JO_gF rfl rfl rfl rfl ?_
       refine JO_gF rfl rfl rfl rfl ?_
       refine JO_q (QE_pickF rfl rfl) rfl ?_
       refine JO_nil ?_
       refine thenQ_n (MidB.mk (Le.refl (D := D) _) (by repeat (first | exact Suf.refl | refine Suf.push rfl ?_)) rfl ((decide_eq_false (by intro h; omega)).symm))
     ·
      intro s11 h11
      refine JC_ifD rfl (fun c13 => ?_) (fun c13 => ?_)
      ·
       have h47 := c13
       have htr : upG 0 0 (l.drop k) = .inl 15 := by rw [hU h47.1, List.drop_eq_nil_of_le (by omega), upG]
       refine JC_seq ?_
       refine JC_region ?_
       refine JO_q (QE_mv rfl) rfl ?_
       refine JO_call (first := []) (captured := []) rfl rfl rfl (at_ac D _ _ _ _) ?_
       rintro _ _ s14 h14 ⟨rfl, rfl⟩
       refine JO_q (QE_as rfl) rfl ?_
       refine JO_st 0 [_, _] rfl rfl rfl rfl rfl rfl rfl rfl rfl ?_
       refine JO_nil ?_
       refine thenQ_n ?_
       refine JC_ret ?_
       refine thenQ_r ?_
       refine blockQ_r ?_
       refine thenQ_r ?_
       refine blockQ_r ?_
       refine thenQ_r ?_
       refine retQ_mk (_ :: Mo) _ (.inr rfl) (.tmp rfl (.agg (us := [_, _]) 0 rfl rfl rfl rfl rfl (.nil))) rfl (Le.trans (Le.trans (Le.trans (Le.trans (Le.trans h1 I4.1) I6.1) h7) h11) h14) (fun sR hS2 => ?_)
       first
         | (refine ⟨[], rfl, fun s2 hs2 hp => ⟨none, 0, 0, ?_, ?_⟩⟩
            · rw [(unp_l (unp_long hlong)).2]; rfl
            · rw [(unp_l (unp_long hlong)).1]; exact Wds.nil _ _ _ (by omega))
         | (have hE := unp_l (unp_err hlong (by rw [hS]; exact upF_err hne htr))
            refine ⟨[], rfl, fun s2 hs2 hp => ⟨none, 0, 0, ?_, ?_⟩⟩
            · rw [hE.2]; rfl
            · rw [hE.1]; exact Wds.nil _ _ _ (by omega))
         | (have hE := unp_l (unp_err hlong (by rw [hS]; exact upF_err hne hfm))
            refine ⟨[], rfl, fun s2 hs2 hp => ⟨none, 0, 0, ?_, ?_⟩⟩
            · rw [hE.2]; rfl
            · rw [hE.1]; exact Wds.nil _ _ _ (by omega))
         | (have hE := unp_l (unp_err hlong (by rw [hS]; exact upF_form hne hUP h62))
            refine ⟨[], rfl, fun s2 hs2 hp => ⟨none, 0, 0, ?_, ?_⟩⟩
            · rw [hE.2]; rfl
            · rw [hE.1]; exact Wds.nil _ _ _ (by omega))
         | (have hE := unp_l (unp_big hlong hS hbig)
            refine ⟨[], rfl, fun s2 hs2 hp => ⟨none, 0, 0, ?_, ?_⟩⟩
            · rw [hE.2]; rfl
            · rw [hE.1]; exact Wds.nil _ _ _ (by omega))
         | (have hE := unp_r (unp_ok hlong hS hbig)
            refine ⟨Mo, rfl, fun s2 hs2 hp => ⟨Ao, out.length, co, ?_, ?_⟩⟩
            · rw [hE.2]; rfl
            · rw [hE.1]; exact Own.wds hO huo hp)
      ·
       have h47 := c13
       refine JC_skip ?_
       refine thenQ_n ?_
       refine JC_seq ?_
       refine JC_seq ?_
       refine JC_region ?_
       refine JO_q (QE_mv rfl) rfl ?_
       refine JO_q (QE_eq rfl rfl) rfl ?_
       refine JO_nil ?_
       refine thenQ_n ?_
       refine JC_ifD rfl (fun c15 => ?_) (fun c15 => ?_)
       ·
        have hfm : upG 0 0 (l.drop k) = .inl 6 := hU5 (by omega)
        refine JC_seq ?_
        refine JC_region ?_
        refine JO_q (QE_mv rfl) rfl ?_
        refine JO_call (first := []) (captured := []) rfl rfl rfl (at_ac D _ _ _ _) ?_
        rintro _ _ s16 h16 ⟨rfl, rfl⟩
        refine JO_q (QE_as rfl) rfl ?_
        refine JO_st 0 [_, _] rfl rfl rfl rfl rfl rfl rfl rfl rfl ?_
        refine JO_nil ?_
        refine thenQ_n ?_
        refine JC_ret ?_
        refine thenQ_r ?_
        refine blockQ_r ?_
        refine thenQ_r ?_
        refine blockQ_r ?_
        refine thenQ_r ?_
        refine retQ_mk (_ :: Mo) _ (.inr rfl) (.tmp rfl (.agg (us := [_, _]) 0 rfl rfl rfl rfl rfl (.nil))) rfl (Le.trans (Le.trans (Le.trans (Le.trans (Le.trans h1 I4.1) I6.1) h7) h11) h16) (fun sR hS2 => ?_)
        first
          | (refine ⟨[], rfl, fun s2 hs2 hp => ⟨none, 0, 0, ?_, ?_⟩⟩
             · rw [(unp_l (unp_long hlong)).2]; rfl
             · rw [(unp_l (unp_long hlong)).1]; exact Wds.nil _ _ _ (by omega))
          | (have hE := unp_l (unp_err hlong (by rw [hS]; exact upF_err hne htr))
             refine ⟨[], rfl, fun s2 hs2 hp => ⟨none, 0, 0, ?_, ?_⟩⟩
             · rw [hE.2]; rfl
             · rw [hE.1]; exact Wds.nil _ _ _ (by omega))
          | (have hE := unp_l (unp_err hlong (by rw [hS]; exact upF_err hne hfm))
             refine ⟨[], rfl, fun s2 hs2 hp => ⟨none, 0, 0, ?_, ?_⟩⟩
             · rw [hE.2]; rfl
             · rw [hE.1]; exact Wds.nil _ _ _ (by omega))
          | (have hE := unp_l (unp_err hlong (by rw [hS]; exact upF_form hne hUP h62))
             refine ⟨[], rfl, fun s2 hs2 hp => ⟨none, 0, 0, ?_, ?_⟩⟩
             · rw [hE.2]; rfl
             · rw [hE.1]; exact Wds.nil _ _ _ (by omega))
          | (have hE := unp_l (unp_big hlong hS hbig)
             refine ⟨[], rfl, fun s2 hs2 hp => ⟨none, 0, 0, ?_, ?_⟩⟩
             · rw [hE.2]; rfl
             · rw [hE.1]; exact Wds.nil _ _ _ (by omega))
          | (have hE := unp_r (unp_ok hlong hS hbig)
             refine ⟨Mo, rfl, fun s2 hs2 hp => ⟨Ao, out.length, co, ?_, ?_⟩⟩
             · rw [hE.2]; rfl
             · rw [hE.1]; exact Own.wds hO huo hp)
       ·
        have hs4 : sz < 5 := by omega
        have hks2 : k + sz < n := by omega
        obtain ⟨b, off, ch, rfl, hch, hcc⟩ := Bts.at_ (hA.le (Le.trans (Le.trans (Le.trans (Le.trans h1 I4.1) I6.1) h7) h11)) hks2
        have hc256 := ch.toNat_lt
        have hc : ch.toNat < 128 := by
          rcases Nat.lt_or_ge ch.toNat 128 with h | h
          · exact h
          · exact absurd ⟨hs4, ch, hch, h⟩ h35
        have hUP := up_last (hU hs4) hch hc
        have hwl := wsum_lt l k (sz + 1)
        have hp5 : 128 ^ (sz + 1) ≤ 128 ^ 5 := Nat.pow_le_pow_right (by omega) (by omega)
        refine JC_skip ?_
        refine thenQ_n ?_
        refine JC_seq ?_
        refine JC_region ?_
        refine JO_q (QE_as rfl) rfl ?_
        refine JO_nil ?_
        refine thenQ_n ?_
        refine JC_seq ?_
        refine JC_seq ?_
        refine JC_region ?_
        refine JO_q (QE_mv rfl) rfl ?_
        refine JO_q (QE_as rfl) rfl ?_
        refine JO_nil ?_
        refine thenQ_n ?_
        refine JC_block ?_
        refine JC_loop (γ := Nat × Nat) (fun g => [(0, _), (2, .slice none 0 0), (3, _), (4, _), (5, _), (6, _), (7, .int .i64 (g.2 : Int)), (8, .int .i64 ((g.1 : Int) - 1))]) (fun g => (β1, cb [.int .i64 0, .int .i64 0] 27) :: (Mo ++ L)) (fun g tw => Le D s11 tw ∧ (g.1 ≤ sz + 1 ∧ g.2 * 128 ^ g.1 + wsum l k g.1 = wsum l k (sz + 1))) (fun g => g.1) (fun _ _ _ h hl => ⟨h.1.trans hl, h.2⟩) (sz + 1, 0) (Keeps.cons rfl (Keeps.cons rfl (Keeps.cons rfl (Keeps.cons rfl (Keeps.cons rfl (Keeps.cons rfl (Keeps.cons rfl (Keeps.cons (congrArg some (congrArg (Value.int .i64) (by simp only; omega))) (Keeps.nil _))))))))) rfl ⟨Le.refl _, ⟨Nat.le_refl _, by simp⟩⟩ ?_
        intro g s17 I17
        obtain ⟨g, w⟩ := g
        obtain ⟨hg0, hT⟩ := I17.2
        simp only at hg0 hT
        dsimp only
        refine JC_seq ?_
        refine JC_seq ?_
        refine JC_region ?_
        refine JO_q (QE_mv rfl) rfl ?_
        refine JO_q (QE_ge rfl rfl) rfl ?_
        refine JO_nil ?_
        refine thenQ_n ?_
        refine JC_ifD rfl (fun c18 => ?_) (fun c18 => ?_)
        ·
         obtain ⟨j, rfl⟩ : ∃ j, g = j + 1 := ⟨g - 1, by omega⟩
         have hkj : k + j < n := by omega
         obtain ⟨bj, offj, cj, hAj, hcj, hccj⟩ := Bts.at_ (hA.le (Le.trans (Le.trans (Le.trans (Le.trans (Le.trans h1 I4.1) I6.1) h7) h11) I17.1)) hkj
         cases hAj
         have hcj256 := cj.toNat_lt
         have hwT := w_le hT
         rw [show (((j + 1 : Nat) : Int) - 1) = (j : Int) by omega]
         refine JC_skip ?_
         refine thenQ_n ?_
         refine JC_seq ?_
         refine JC_block ?_
         refine JC_region ?_
         refine JO_q (QE_mv rfl) rfl ?_
         refine JO_q (QE_mul' rfl rfl (w64 (by omega) (by omega))) rfl ?_
         refine JO_q (QE_mv rfl) rfl ?_
         refine JO_q (QE_mv rfl) rfl ?_
         refine JO_q (QE_mv rfl) rfl ?_
         refine JO_q (QE_add' (c := ((k + j : Nat) : Int)) rfl rfl (by rw [w64 (by omega) (by omega)]; simp)) rfl ?_
         refine JO_q (QE_ia1 rfl rfl rfl rfl rfl rfl hkj) rfl ?_
         refine JO_q (QE_ldsR0 rfl rfl rfl (hccj.le (Le.refl (D := D) _)) rfl) rfl ?_
         refine JO_q (QE_conv' rfl rfl rfl rfl rfl (w64 (by omega) (by omega))) rfl ?_
         refine JO_q (QE_cast (QE_rem rfl rfl (by decide)) (rem128 cj.toNat .i64)) rfl ?_
         refine JO_q (QE_cast (QE_add rfl rfl) (acc128 (by omega) hcj256)) rfl ?_
         refine JO_q (QE_as rfl) rfl ?_
         refine JO_nil ?_
         refine blockQ_n ?_
         refine thenQ_n ?_
         refine JC_region ?_
         refine JO_q (QE_mv rfl) rfl ?_
         refine JO_q (QE_sub' rfl rfl (w64 (by omega) (by omega))) rfl ?_
         refine JO_q (QE_as rfl) rfl ?_
         refine JO_nil ?_
         refine thenQ_n ⟨(j, 128 * w + cj.toNat % 128), [], (Keeps.cons rfl (Keeps.cons rfl (Keeps.cons rfl (Keeps.cons rfl (Keeps.cons rfl (Keeps.cons rfl (Keeps.cons rfl (Keeps.cons rfl (Keeps.nil _))))))))), rfl, ⟨I17.1, ⟨by simp only; omega, w_step hT hcj⟩⟩, (by simp only; omega)⟩
        ·
         have hg00 : g = 0 := by omega
         subst hg00
         have hT2 : w = wsum l k (sz + 1) := by
           have h0 : wsum l k 0 = 0 := rfl
           rw [h0, Nat.pow_zero, Nat.mul_one, Nat.add_zero] at hT
           exact hT
         subst hT2
         refine JC_exit ?_
         refine thenQ_x ?_
         refine thenQ_x ?_
         refine blockQ_x ?_
         refine thenQ_n ?_
         refine JC_seq ?_
         refine JC_cutB 84 (4294967295 < wsum l k (sz + 1) ∨ (1 < sz + 1 ∧ ch = 0)) ?_ ?_
         ·
          refine JC_region ?_
          refine JO_q (QE_mv rfl) rfl ?_
          refine JO_q (QE_gt rfl rfl) rfl ?_
          refine JO_q (QE_mv rfl) rfl ?_
          refine JO_caseD (t := 72) rfl (fun c20 => ?_) (fun c20 => ?_)
          ·
           refine JO_gF rfl rfl rfl rfl ?_
           refine JO_gF rfl rfl rfl rfl ?_
           refine JO_gF rfl rfl rfl rfl ?_
           refine JO_gU rfl rfl rfl ?_
           refine JO_gU rfl rfl rfl ?_
           refine JO_gU rfl rfl rfl ?_
           refine JO_gU rfl rfl rfl ?_
           refine JO_gU rfl rfl rfl ?_
           refine JO_gU rfl rfl rfl ?_
           refine JO_gU rfl rfl rfl ?_
           refine JO_gF rfl rfl rfl rfl ?_
           refine JO_q (QE_pickT rfl rfl) rfl ?_
           refine JO_nil ?_
           refine thenQ_n (MidB.mk (Le.refl (D := D) _) (by repeat (first | exact Suf.refl | refine Suf.push rfl ?_)) rfl ((decide_eq_true (by first | exact .inl (by omega) | (intro h; rcases h with h | h <;> omega))).symm))
          ·
           refine JO_gT rfl rfl ?_
           refine JO_q (QE_mv rfl) rfl ?_
           refine JO_gT rfl rfl ?_
           refine JO_q (QE_gt rfl rfl) rfl ?_
           refine JO_gT rfl rfl ?_
           refine JO_q (QE_mv rfl) rfl ?_
           refine JO_caseD (t := 75) rfl (fun c21 => ?_) (fun c21 => ?_)
           ·
            refine JO_gT rfl rfl ?_
            refine JO_q (QE_mv rfl) rfl ?_
            refine JO_gT rfl rfl ?_
            refine JO_q (QE_mv rfl) rfl ?_
            refine JO_gT rfl rfl ?_
            refine JO_q (QE_mv rfl) rfl ?_
            refine JO_gT rfl rfl ?_
            refine JO_q (QE_add' (c := ((k + sz : Nat) : Int)) rfl rfl (by rw [w64 (by omega) (by omega)]; simp)) rfl ?_
            refine JO_gT rfl rfl ?_
            refine JO_q (QE_ia1 rfl rfl rfl rfl rfl rfl hks2) rfl ?_
            refine JO_gT rfl rfl ?_
            refine JO_q (QE_ldsR0 rfl rfl rfl (hcc.le I17.1) rfl) rfl ?_
            refine JO_gT rfl rfl ?_
            refine JO_q (QE_eq rfl rfl) rfl ?_
            refine JO_gT rfl rfl ?_
            refine JO_q (QE_pickT rfl rfl) rfl ?_
            refine JO_q (QE_pickF rfl rfl) rfl ?_
            refine JO_nil ?_
            refine thenQ_n (MidB.mk (Le.refl (D := D) _) (by repeat (first | exact Suf.refl | refine Suf.push rfl ?_)) rfl (decide_eq_decide.2 (⟨fun h => .inr ⟨by omega, u8_eq.2 h⟩, fun h => h.elim (fun h => absurd h (by omega)) (fun h => u8_eq.1 h.2)⟩)))
           ·
            refine JO_gF rfl rfl rfl rfl ?_
            refine JO_gF rfl rfl rfl rfl ?_
            refine JO_gF rfl rfl rfl rfl ?_
            refine JO_gF rfl rfl rfl rfl ?_
            refine JO_gF rfl rfl rfl rfl ?_
            refine JO_gF rfl rfl rfl rfl ?_
            refine JO_gF rfl rfl rfl rfl ?_
            refine JO_gT rfl rfl ?_
            refine JO_q (QE_pickF rfl rfl) rfl ?_
            refine JO_q (QE_pickF rfl rfl) rfl ?_
            refine JO_nil ?_
            refine thenQ_n (MidB.mk (Le.refl (D := D) _) (by repeat (first | exact Suf.refl | refine Suf.push rfl ?_)) rfl ((decide_eq_false (by first | exact .inl (by omega) | (intro h; rcases h with h | h <;> omega))).symm))
         ·
          intro s19 h19
          refine JC_ifD rfl (fun c22 => ?_) (fun c22 => ?_)
          ·
           have h62 := c22
           refine JC_seq ?_
           refine JC_region ?_
           refine JO_q (QE_mv rfl) rfl ?_
           refine JO_call (first := []) (captured := []) rfl rfl rfl (at_ac D _ _ _ _) ?_
           rintro _ _ s23 h23 ⟨rfl, rfl⟩
           refine JO_q (QE_as rfl) rfl ?_
           refine JO_st 0 [_, _] rfl rfl rfl rfl rfl rfl rfl rfl rfl ?_
           refine JO_nil ?_
           refine thenQ_n ?_
           refine JC_ret ?_
           refine thenQ_r ?_
           refine blockQ_r ?_
           refine thenQ_r ?_
           refine blockQ_r ?_
           refine thenQ_r ?_
           refine retQ_mk (_ :: Mo) _ (.inr rfl) (.tmp rfl (.agg (us := [_, _]) 0 rfl rfl rfl rfl rfl (.nil))) rfl (Le.trans (Le.trans (Le.trans (Le.trans (Le.trans (Le.trans (Le.trans h1 I4.1) I6.1) h7) h11) I17.1) h19) h23) (fun sR hS2 => ?_)
           first
             | (refine ⟨[], rfl, fun s2 hs2 hp => ⟨none, 0, 0, ?_, ?_⟩⟩
                · rw [(unp_l (unp_long hlong)).2]; rfl
                · rw [(unp_l (unp_long hlong)).1]; exact Wds.nil _ _ _ (by omega))
             | (have hE := unp_l (unp_err hlong (by rw [hS]; exact upF_err hne htr))
                refine ⟨[], rfl, fun s2 hs2 hp => ⟨none, 0, 0, ?_, ?_⟩⟩
                · rw [hE.2]; rfl
                · rw [hE.1]; exact Wds.nil _ _ _ (by omega))
             | (have hE := unp_l (unp_err hlong (by rw [hS]; exact upF_err hne hfm))
                refine ⟨[], rfl, fun s2 hs2 hp => ⟨none, 0, 0, ?_, ?_⟩⟩
                · rw [hE.2]; rfl
                · rw [hE.1]; exact Wds.nil _ _ _ (by omega))
             | (have hE := unp_l (unp_err hlong (by rw [hS]; exact upF_form hne hUP h62))
                refine ⟨[], rfl, fun s2 hs2 hp => ⟨none, 0, 0, ?_, ?_⟩⟩
                · rw [hE.2]; rfl
                · rw [hE.1]; exact Wds.nil _ _ _ (by omega))
             | (have hE := unp_l (unp_big hlong hS hbig)
                refine ⟨[], rfl, fun s2 hs2 hp => ⟨none, 0, 0, ?_, ?_⟩⟩
                · rw [hE.2]; rfl
                · rw [hE.1]; exact Wds.nil _ _ _ (by omega))
             | (have hE := unp_r (unp_ok hlong hS hbig)
                refine ⟨Mo, rfl, fun s2 hs2 hp => ⟨Ao, out.length, co, ?_, ?_⟩⟩
                · rw [hE.2]; rfl
                · rw [hE.1]; exact Own.wds hO huo hp)
          ·
           have h62 := c22
           refine JC_skip ?_
           refine thenQ_n ?_
           refine JC_seq ?_
           refine JC_region ?_
           refine JO_q (QE_mv rfl) rfl ?_
           refine JO_q (QE_mv rfl) rfl ?_
           refine JO_q (QE_conv' rfl rfl rfl rfl rfl (wrap_small (by omega))) rfl ?_
           refine JO_bs [(_, _)] [_] rfl rfl rfl rfl rfl rfl rfl rfl rfl ?_
           intro βn s24 h24 hcb
           refine JO_app (sz := 1) [_] Mo L rfl rfl rfl rfl rfl rfl rfl hO (Row.of_cells (hcb.le (Le.refl (D := D) _)) rfl rfl) ⟨by simp [ti52]; omega, by omega⟩ rfl ?_
           intro v2 M2 s25 h25 o2
           obtain ⟨Av2, cv2, rfl, _, _⟩ := Own.slice o2
           simp only [List.cons_append, List.nil_append]
           refine JO_q (QE_as rfl) rfl ?_
           refine JO_nil ?_
           refine thenQ_n ?_
           refine JC_region ?_
           refine JO_q (QE_mv rfl) rfl ?_
           refine JO_q (QE_mv rfl) rfl ?_
           refine JO_q (QE_add' rfl rfl (w64 (by omega) (by omega))) rfl ?_
           refine JO_q (QE_add' rfl rfl (w64 (by omega) (by omega))) rfl ?_
           refine JO_q (QE_as rfl) rfl ?_
           refine JO_nil ?_
           refine blockQ_n ?_
           refine thenQ_n ⟨(k + (sz + 1), .slice Av2 (out.length + 1) cv2, M2, out ++ [((wsum l k (sz + 1) : Nat) : Int)]), [], (Keeps.cons rfl (Keeps.cons rfl (Keeps.cons rfl (Keeps.cons rfl (Keeps.cons (congrArg some (congrArg (Value.int .i64) (by simp only; omega))) (Keeps.nil _)))))), rfl, ⟨(Le.trans (Le.trans (Le.trans (Le.trans (Le.trans (Le.trans (Le.trans I4.1 I6.1) h7) h11) I17.1) h19) h24) h25), ⟨by simp only; omega, by simp only [List.length_append, List.length_cons, List.length_nil, wv_snoc]; exact o2, snoc_u huo (u32N (by omega)), by simp only [List.length_append, List.length_cons, List.length_nil]; omega, by simp only; rw [hS, upF_more hne hUP h62]⟩⟩, (by simp only; omega)⟩
  ·
   rw [List.drop_eq_nil_of_le (by omega), upF_nil] at hS
   obtain ⟨Ao, co, rfl, _, _⟩ := Own.slice hO
   refine JC_exit ?_
   refine thenQ_x ?_
   refine thenQ_x ?_
   refine blockQ_x ?_
   refine thenQ_n ?_
   refine JC_seq ?_
   refine JC_seq ?_
   refine JC_region ?_
   refine JO_q (QE_mv rfl) rfl ?_
   refine JO_q (QE_lenS rfl rfl rfl) rfl ?_
   refine JO_q (QE_gt rfl rfl) rfl ?_
   refine JO_nil ?_
   refine thenQ_n ?_
   refine JC_ifD rfl (fun c26 => ?_) (fun c26 => ?_)
   ·
    have hbig : 65536 < out.length := by omega
    refine JC_seq ?_
    refine JC_region ?_
    refine JO_call (first := []) (captured := []) rfl rfl rfl (at_ac D _ _ _ _) ?_
    rintro _ _ s27 h27 ⟨rfl, rfl⟩
    refine JO_q (QE_as rfl) rfl ?_
    refine JO_st 0 [_, _] rfl rfl rfl rfl rfl rfl rfl rfl rfl ?_
    refine JO_nil ?_
    refine thenQ_n ?_
    refine JC_ret ?_
    refine thenQ_r ?_
    refine retQ_mk (_ :: Mo) _ (.inr rfl) (.tmp rfl (.agg (us := [_, _]) 0 rfl rfl rfl rfl rfl (.nil))) rfl (Le.trans (Le.trans h1 I4.1) h27) (fun sR hS2 => ?_)
    first
      | (refine ⟨[], rfl, fun s2 hs2 hp => ⟨none, 0, 0, ?_, ?_⟩⟩
         · rw [(unp_l (unp_long hlong)).2]; rfl
         · rw [(unp_l (unp_long hlong)).1]; exact Wds.nil _ _ _ (by omega))
      | (have hE := unp_l (unp_err hlong (by rw [hS]; exact upF_err hne htr))
         refine ⟨[], rfl, fun s2 hs2 hp => ⟨none, 0, 0, ?_, ?_⟩⟩
         · rw [hE.2]; rfl
         · rw [hE.1]; exact Wds.nil _ _ _ (by omega))
      | (have hE := unp_l (unp_err hlong (by rw [hS]; exact upF_err hne hfm))
         refine ⟨[], rfl, fun s2 hs2 hp => ⟨none, 0, 0, ?_, ?_⟩⟩
         · rw [hE.2]; rfl
         · rw [hE.1]; exact Wds.nil _ _ _ (by omega))
      | (have hE := unp_l (unp_err hlong (by rw [hS]; exact upF_form hne hUP h62))
         refine ⟨[], rfl, fun s2 hs2 hp => ⟨none, 0, 0, ?_, ?_⟩⟩
         · rw [hE.2]; rfl
         · rw [hE.1]; exact Wds.nil _ _ _ (by omega))
      | (have hE := unp_l (unp_big hlong hS hbig)
         refine ⟨[], rfl, fun s2 hs2 hp => ⟨none, 0, 0, ?_, ?_⟩⟩
         · rw [hE.2]; rfl
         · rw [hE.1]; exact Wds.nil _ _ _ (by omega))
      | (have hE := unp_r (unp_ok hlong hS hbig)
         refine ⟨Mo, rfl, fun s2 hs2 hp => ⟨Ao, out.length, co, ?_, ?_⟩⟩
         · rw [hE.2]; rfl
         · rw [hE.1]; exact Own.wds hO huo hp)
   ·
    have hbig : ¬ 65536 < out.length := by omega
    refine JC_skip ?_
    refine thenQ_n ?_
    refine JC_seq ?_
    refine JC_region ?_
    refine JO_q (QE_mv rfl) rfl ?_
    refine JO_q (QE_build [] [_, _] rfl rfl rfl rfl rfl rfl) rfl ?_
    refine JO_q (QE_as rfl) rfl ?_
    refine JO_st 0 [_, _] rfl rfl rfl rfl rfl rfl rfl rfl rfl ?_
    refine JO_nil ?_
    refine thenQ_n ?_
    refine JC_ret ?_
    refine retQ_mk [_] _ (.inr rfl) (.tmp rfl (.agg (us := [_, _]) 0 rfl rfl rfl rfl rfl (.nil))) rfl (Le.trans h1 I4.1) (fun sR hS2 => ?_)
    first
      | (refine ⟨[], rfl, fun s2 hs2 hp => ⟨none, 0, 0, ?_, ?_⟩⟩
         · rw [(unp_l (unp_long hlong)).2]; rfl
         · rw [(unp_l (unp_long hlong)).1]; exact Wds.nil _ _ _ (by omega))
      | (have hE := unp_l (unp_err hlong (by rw [hS]; exact upF_err hne htr))
         refine ⟨[], rfl, fun s2 hs2 hp => ⟨none, 0, 0, ?_, ?_⟩⟩
         · rw [hE.2]; rfl
         · rw [hE.1]; exact Wds.nil _ _ _ (by omega))
      | (have hE := unp_l (unp_err hlong (by rw [hS]; exact upF_err hne hfm))
         refine ⟨[], rfl, fun s2 hs2 hp => ⟨none, 0, 0, ?_, ?_⟩⟩
         · rw [hE.2]; rfl
         · rw [hE.1]; exact Wds.nil _ _ _ (by omega))
      | (have hE := unp_l (unp_err hlong (by rw [hS]; exact upF_form hne hUP h62))
         refine ⟨[], rfl, fun s2 hs2 hp => ⟨none, 0, 0, ?_, ?_⟩⟩
         · rw [hE.2]; rfl
         · rw [hE.1]; exact Wds.nil _ _ _ (by omega))
      | (have hE := unp_l (unp_big hlong hS hbig)
         refine ⟨[], rfl, fun s2 hs2 hp => ⟨none, 0, 0, ?_, ?_⟩⟩
         · rw [hE.2]; rfl
         · rw [hE.1]; exact Wds.nil _ _ _ (by omega))
      | (have hE := unp_r (unp_ok hlong hS hbig)
         refine ⟨Mo, rfl, fun s2 hs2 hp => ⟨Ao, out.length, co, ?_, ?_⟩⟩
         · rw [hE.2]; rfl
         · rw [hE.1]; exact Own.wds hO huo hp)
theorem unpacked_ac (D : Nat) (L : Hl) (s : World) (A : Option Addr) (n c : Nat) (l : List UInt8) (hA : Bts s A n c l) : AC Tryz.prog D 33 [.slice A n c] L s fun v L' s' => L = L' ∧ ∃ A1 n1 c1, v = .tuple #[.slice A1 n1 c1, .agg #[.int .i64 (unpE l).1, .int .i64 (unpE l).2]] ∧ Wds s' A1 n1 c1 (unpS l) := AC.pubW (unpackedO_ac D L s A n c l hA)
set_option maxHeartbeats 2000000 in
set_option maxRecDepth 100000 in
theorem lawPack_ac (D : Nat) (L : Hl) (s : World) (hG : GW s) (A : Option Addr) (n c : Nat) (l : List Int) (hW : Wds s A n c l) (A1 : Option Addr) (n1 c1 : Nat) (b : List UInt8) (hB : Bts s A1 n1 c1 b) : AC Tryz.prog D 8 [.slice A n c, .slice A1 n1 c1] L s fun v L' _ => v = .bool true ∧ L = L' := by
 have hn := hW.1
 refine AC_enter (TT := TT) (fn := Tryz.f8) TT_ok Tryz.func8 (by kernel_rfl) rfl Tryz.ntmps8 rfl (rs := [.tmp 4]) rfl [(0, _), (1, _)] rfl ?_
 refine JC_seq ?_
 refine JC_region ?_
 refine JO_q (QE_as rfl) rfl ?_
 refine JO_nil ?_
 refine thenQ_n ?_
 refine JC_seq ?_
 refine JC_region ?_
 refine JO_q (QE_mv rfl) rfl ?_
 refine JO_call (first := []) (captured := []) rfl rfl rfl (pack_ac D _ _ _ _ _ _ (hW.le (Le.refl (D := D) _))) ?_
 rintro _ _ s1 h1 ⟨rfl, Ap, np, cp, rfl, hP⟩
 refine JO_q (QE_mv rfl) rfl ?_
 refine JO_q (QE_ext rfl rfl) rfl ?_
 refine JO_q (QE_ext rfl rfl) rfl ?_
 refine JO_allocZ rfl [_, _] rfl rfl ?_
 intro β2 s2 h2
 refine JO_q (QE_as rfl) rfl ?_
 refine JO_st 0 [_, _] rfl rfl rfl rfl rfl rfl rfl rfl rfl ?_
 refine JO_nil ?_
 refine thenQ_n ?_
 refine JC_seq ?_
 refine JC_region ?_
 refine JO_q (QE_mv rfl) rfl ?_
 refine JO_call (first := []) (captured := []) rfl rfl rfl (unpack_ac D _ _ _ _ _ _ (hB.le (Le.trans h1 h2))) ?_
 rintro _ _ s3 h3 ⟨rfl, Au, nu, cu, rfl, hU⟩
 refine JO_q (QE_mv rfl) rfl ?_
 refine JO_q (QE_ext rfl rfl) rfl ?_
 refine JO_q (QE_ext rfl rfl) rfl ?_
 refine JO_allocZ rfl [_, _] rfl rfl ?_
 intro β4 s4 h4
 refine JO_q (QE_as rfl) rfl ?_
 refine JO_st 0 [_, _] rfl rfl rfl rfl rfl rfl rfl rfl rfl ?_
 refine JO_nil ?_
 refine thenQ_n ?_
 refine JC_seq ?_
 refine JC_region ?_
 refine JO_q (QE_mv rfl) rfl ?_
 refine JO_call (first := []) (captured := []) rfl rfl rfl (unpacked_ac D _ _ _ _ _ _ (hB.le (Le.trans (Le.trans (Le.trans h1 h2) h3) h4))) ?_
 rintro _ _ s5 h5 ⟨rfl, Av, nv, cv, rfl, hV⟩
 refine JO_q (QE_mv rfl) rfl ?_
 refine JO_q (QE_ext rfl rfl) rfl ?_
 refine JO_q (QE_ext rfl rfl) rfl ?_
 refine JO_allocZ rfl [_, _] rfl rfl ?_
 intro β6 s6 h6
 refine JO_q (QE_as rfl) rfl ?_
 refine JO_st 0 [_, _] rfl rfl rfl rfl rfl rfl rfl rfl rfl ?_
 refine JO_nil ?_
 refine thenQ_n ?_
 refine JC_seq ?_
 refine JC_seq ?_
 refine JC_region ?_
 refine JO_call (first := []) (captured := []) rfl rfl rfl (translated_ac D _ _ (hG.le (Le.trans (Le.trans (Le.trans (Le.trans (Le.trans h1 h2) h3) h4) h5) h6))) ?_
 rintro _ _ s7 h7 ⟨rfl, rfl⟩
 refine JO_q (QE_notT rfl) rfl ?_
 refine JO_q (QE_mv rfl) rfl ?_
 refine JO_gT rfl rfl ?_
 refine JO_q (QE_ldA 1 [_, _] rfl rfl rfl rfl rfl) rfl ?_
 refine JO_gT rfl rfl ?_
 refine JO_q (QE_ldA 0 [_, _] rfl rfl rfl rfl rfl) rfl ?_
 refine JO_gT rfl rfl ?_
 refine JO_q (QE_cast (v' := .bool false) (QE_ane rfl rfl (eqFault _ _ _ _)) (bF ⟨rfl, rfl⟩)) rfl ?_
 refine JO_q (QE_pickF rfl rfl) rfl ?_
 refine JO_q (QE_mv rfl) rfl ?_
 refine JO_gT rfl rfl ?_
 refine JO_q (QE_mv rfl) rfl ?_
 refine JO_gT rfl rfl ?_
 refine JO_q (QE_mv rfl) rfl ?_
 refine JO_gT rfl rfl ?_
 refine JO_call (first := []) (captured := []) rfl rfl rfl (AC.isT (sameWords_ac D _ _ _ _ _ _ (hU.le (Le.trans (Le.trans (Le.trans h4 h5) h6) h7)) _ _ _ _ (hV.le (Le.trans h6 h7))) rfl) ?_
 rintro _ _ s8 h8 ⟨rfl, rfl⟩
 refine JO_gT rfl rfl ?_
 refine JO_q (QE_notT rfl) rfl ?_
 refine JO_q (QE_pickF rfl rfl) rfl ?_
 refine JO_nil ?_
 refine thenQ_n ?_
 refine JC_ifF rfl ?_
 refine JC_skip ?_
 refine thenQ_n ?_
 refine JC_seq ?_
 refine JC_seq ?_
 refine JC_region ?_
 refine JO_q (QE_mv rfl) rfl ?_
 refine JO_q (QE_lenS rfl rfl rfl) rfl ?_
 refine JO_q (QE_gt rfl rfl) rfl ?_
 refine JO_nil ?_
 refine thenQ_n ?_
 refine JC_ifD rfl (fun c9 => ?_) (fun c9 => ?_)
 ·
  refine JC_seq ?_
  refine JC_draw drawsMixed 9 rfl _ (fun _ h => h) ?_
  intro s10 h10
  refine JA_q 0 rfl (by kernel_rfl) (by kernel_rfl) (by kernel_rfl) trivial (QE_ldA 2 [_, _] rfl rfl rfl rfl rfl) rfl ?_
  refine JA_1 1 (by kernel_rfl) ?_
  refine JB_call rfl trivial (first := []) (captured := []) rfl rfl rfl (at_ac D _ _ _ _) ?_
  rintro _ _ s11 h11 ⟨rfl, rfl⟩
  refine ⟨fun _ _ h => h, ?_⟩
  refine JA_q 2 rfl (by kernel_rfl) (by kernel_rfl) (by kernel_rfl) trivial (QE_cast (v' := .bool true) (QE_aeq rfl rfl (eqFault _ _ _ _)) (bT (by rw [packE, if_pos (by omega)]; exact ⟨rfl, rfl⟩))) rfl ?_
  refine JA_q 3 rfl (by kernel_rfl) (by kernel_rfl) (by kernel_rfl) trivial (QE_mv rfl) rfl ?_
  refine JA_q 4 rfl (by kernel_rfl) (by kernel_rfl) (by kernel_rfl) ⟨_, rfl, rfl⟩ (QE_mv rfl) rfl ?_
  refine JA_q 5 rfl (by kernel_rfl) (by kernel_rfl) (by kernel_rfl) ⟨_, rfl, rfl⟩ (QE_lenS rfl rfl rfl) rfl ?_
  refine JA_q 6 rfl (by kernel_rfl) (by kernel_rfl) (by kernel_rfl) ⟨_, rfl, rfl⟩ (QE_cast (v' := .bool true) (QE_eq rfl rfl) (bT (by have h := hP.1; rw [packS, if_pos (by omega)] at h; simp at h; omega))) rfl ?_
  refine JA_q 7 rfl (by kernel_rfl) (by kernel_rfl) (by kernel_rfl) trivial (QE_pickT rfl rfl) rfl ?_
  refine JA_q 8 rfl (by kernel_rfl) (by kernel_rfl) (by kernel_rfl) trivial (QE_as rfl) rfl ?_
  refine JA_done (by kernel_rfl) ?_
  refine thenQ_n ?_
  refine JC_ret ?_
  refine thenQ_r ?_
  refine retQ_mk [_, _, _] L (.inr rfl) (.tmp rfl (.nil)) rfl (Le.trans (Le.trans (Le.trans (Le.trans (Le.trans (Le.trans (Le.trans (Le.trans (Le.trans h1 h2) h3) h4) h5) h6) h7) h8) h10) h11) (fun sR hS2 => ?_)
  exact ⟨rfl, rfl⟩
 ·
  refine JC_skip ?_
  refine thenQ_n ?_
  refine JC_seq ?_
  refine JC_region ?_
  refine JO_q (QE_fa0 rfl rfl rfl rfl) rfl ?_
  refine JO_q (QE_ld1 2 rfl rfl rfl rfl rfl) rfl ?_
  refine JO_q (QE_cast (v' := .bool true) (QE_eq rfl rfl) (bT (by rw [packE, if_neg (by omega)]))) rfl ?_
  refine JO_q (QE_mv rfl) rfl ?_
  refine JO_gT rfl rfl ?_
  refine JO_q (QE_mv rfl) rfl ?_
  refine JO_gT rfl rfl ?_
  refine JO_q (QE_mv rfl) rfl ?_
  refine JO_gT rfl rfl ?_
  refine JO_call (first := []) (captured := []) rfl rfl rfl (packed_ac D _ _ _ _ _ _ (hW.le (Le.trans (Le.trans (Le.trans (Le.trans (Le.trans (Le.trans (Le.trans h1 h2) h3) h4) h5) h6) h7) h8)) (by omega)) ?_
  rintro _ _ s12 h12 ⟨rfl, Aw, nw, cw, rfl, hQ⟩
  refine JO_gT rfl rfl ?_
  refine JO_call (first := []) (captured := []) rfl rfl rfl (AC.isT (sameBytes_ac D _ _ _ _ _ _ (hP.le (Le.trans (Le.trans (Le.trans (Le.trans (Le.trans (Le.trans (Le.trans h2 h3) h4) h5) h6) h7) h8) h12)) _ _ _ _ (hQ.le (Le.refl (D := D) _))) (by rw [packS, if_neg (by omega)])) ?_
  rintro _ _ s13 h13 ⟨rfl, rfl⟩
  refine JO_q (QE_pickT rfl rfl) rfl ?_
  refine JO_q (QE_as rfl) rfl ?_
  refine JO_nil ?_
  refine thenQ_n ?_
  refine JC_ret ?_
  refine retQ_mk [_, _, _] L (.inr rfl) (.tmp rfl (.nil)) rfl (Le.trans (Le.trans (Le.trans (Le.trans (Le.trans (Le.trans (Le.trans (Le.trans (Le.trans h1 h2) h3) h4) h5) h6) h7) h8) h12) h13) (fun sR hS2 => ?_)
  exact ⟨rfl, rfl⟩
end Go.Proofs.YteomcjpigoaioaaGreatDoor
namespace Go.Proofs.YteomcjpigoaioaaGreatDoor
open Go Go.FL Go.ChangeShapes Go.WideShapes Go.ChangeAt Go.RowKit Go.Deep
theorem own_knob : ownKnob Tryz.prog.godebug = none := by kernel_rfl
theorem laid_out : laidOutB Tryz.prog = true := by kernel_rfl
theorem mark_free (l : List Obj) : ∃ D, ∀ E, D ≤ E → ∀ o ∈ l, o ≠ dum E := by
  induction l with
  | nil => exact ⟨0, fun _ _ _ h => by cases h⟩
  | cons x l ih =>
    obtain ⟨D, hD⟩ := ih
    have hx : ∃ B, ∀ E, B ≤ E → x ≠ dum E := by
      cases x with
      | mapIter a n b c => exact ⟨n + 1, fun E hE h => by simp only [dum, Obj.mapIter.injEq] at h; omega⟩
      | _ => exact ⟨0, fun E _ h => by simp [dum] at h⟩
    obtain ⟨B, hB⟩ := hx
    refine ⟨max D B, fun E hE o ho => ?_⟩
    rcases List.mem_cons.1 ho with rfl | ho
    · exact hB E (by omega)
    · exact hD E (by omega) o ho
theorem mark_world (W : World) : ∃ D, ∀ k : Nat, W.heap[k]? ≠ some (dum D) := by
  obtain ⟨D, hD⟩ := mark_free W.heap.toList
  refine ⟨D, fun k hk => hD D (Nat.le_refl _) (dum D) ?_ rfl⟩
  rw [← Array.getElem?_toList] at hk
  exact List.mem_of_getElem? hk
theorem below_of {D : Nat} {W W' : World} (hD : ∀ k : Nat, W.heap[k]? ≠ some (dum D)) (h : Le D W W') : Below W.heap.size W W' :=
  ⟨h.os, h.tape, h.output, h.size, fun k hk => (h.block k hk).resolve_left (hD k)⟩
theorem law_calls {P : Program} {f : FuncId} {args : List Value} {W : World} (h : ∀ D, AC P D f args [] W fun v L' _ => v = .bool true ∧ [] = L') :
    Calls P f args.toArray W fun e W' => e = .returned (.bool true) ∧ Below W.heap.size W W' := by
  obtain ⟨D, hD⟩ := mark_world W
  refine ((h D).2 ⟨by simp, fun x hx => by cases hx⟩).mono ?_
  rintro e w' ⟨v, L', s', h1, rfl, h3, h4, rfl, rfl⟩
  exact ⟨h1, below_of hD h4⟩
section
variable {H : Type} {enc : TypeId × Value → H} {P : Program}
theorem trodAll_stays {W W' : World} (hl : laidOutB P = true) (hb : Below W.heap.size W W') : ∀ {ts : List TypeId} {vs : List Value} {ds : List (DataW H)} {ps : List MemPlace}, (∀ t ∈ ts, P.readableRec t = true ∧ t < P.types.size) → (∀ x ∈ ps, x.block < W.heap.size) →
    DataW.TrodAll enc P W 0 (fun _ => true) true ts vs ds ps → DataW.TrodAll enc P W' 0 (fun b => decide (b < W.heap.size)) true ts vs ds ps
  | [], _, _, _, _, _, h => by
    obtain ⟨rfl, rfl, rfl⟩ := trodAll_nil h
    exact trodAll_mk0
  | t :: ts, _, _, _, hts, hp, h => by
    obtain ⟨v, vs, d, ds, a, b, rfl, rfl, rfl, h1, h2⟩ := trodAll_cons h
    have ht := hts t (List.mem_cons_self ..)
    exact trodAll_cons_mk (Below.trod hl ht.1 ht.2 h1 hb fun x hx => hp x (List.mem_append_left _ hx)) (trodAll_stays hl hb (fun t' h' => hts t' (List.mem_cons_of_mem _ h')) (fun x hx => hp x (List.mem_append_right _ hx)) h2)
theorem law_post {fn : Func} {s : ChangeSpec} {W W' : World} {args : Array Value} {ds gs : List (DataW H)} {before : List MemPlace} {tb : TypeId} (hl : laidOutB P = true) (hts : ∀ t ∈ fn.params.toList, P.readableRec t = true ∧ t < P.types.size) (hr : fn.resultTypes = #[tb]) (hb : P.underlying tb = some .bool)
    (hv : s.vars = []) (hW : DataW.Whole enc P fn.params.toList s.vars false W args.toList ds gs before) (hfn : s.fn H ds = { results := [.lit (.bool true)], args := ds }) (hB : Below W.heap.size W W') : s.post enc P fn false true false false W args (.bool true) W' := by
  have hlt : ∀ x ∈ before, x.block < W.heap.size := fun x hx => hW.lt x hx
  have hW' := hW
  obtain ⟨p, q, hA, hV, rfl, _, _⟩ := hW
  rw [hv] at hV
  obtain ⟨rfl, rfl⟩ := trodVars_none hV
  refine ⟨ds, [], p ++ [], [], p, [], hW', ?_, ?_, ?_, hB.frame _, fun h => by cases h⟩
  · rw [List.append_nil, hfn, hr]; exact trodAll_cons_mk (shut_bool hb _) trodAll_mk0
  · rw [List.append_nil, hfn]; exact trodAll_stays hl hB hts (fun x hx => hlt x (List.mem_append_left _ hx)) hA
  · rw [List.append_nil, hfn, hv]; rfl
end
def Rd (W : World) (t : TypeId) (cs : List Value) : Prop := ∃ (H : Type) (enc : TypeId × Value → H) (n : Nat) (x : DataW H × List MemPlace), DataW.trod enc Tryz.prog W 0 (fun _ => true) true n t cs = some x
section
variable {W : World} {t e : TypeId} {cs : List Value}
theorem rd_int {k : IntKind} (ht : Tryz.prog.underlying t = some (.int k)) (h : Rd W t cs) : ∃ n, cs = [.int k n] ∧ (Lit.int k n).wf = true := by
  obtain ⟨H, enc, n, x, h⟩ := h
  obtain ⟨i, h1, _, h2⟩ := DataW.trod_int ht h
  exact ⟨i, h1, h2⟩
theorem rd_slice {sz : Nat} (ht : Tryz.prog.underlying t = some (.slice e)) (hc : Tryz.prog.cellsOf e = sz) (hp : 0 < sz) (h : Rd W t cs) : ∃ A n c, cs = [.slice A n c] ∧ n ≤ c ∧ c ≤ 9223372036854775807 ∧
    ∀ i, i < n → ∃ b off ds, A = some ⟨b, off, none⟩ ∧ CellsAt W b (off + i * sz) ds ∧ ds.length = sz ∧ Rd W e ds := by
  obtain ⟨H, enc, q, x, h⟩ := h
  rcases open_slice ht h with ⟨rfl, _⟩ | ⟨a, len, cap, m, k, D, Pl, rfl, _, h1, h2, h3, _, h4⟩
  · exact ⟨none, 0, 0, rfl, Nat.le_refl _, by omega, fun i hi => by omega⟩
  · simp only [maxLen] at h2
    refine ⟨some a, len, cap, rfl, h1, by omega, fun i hi => ?_⟩
    obtain ⟨ds, k1, k2⟩ := h4 i (by simp at h3; omega)
    rw [hc] at k1
    obtain ⟨_, k3, k4⟩ := World.cells?_some k1
    obtain ⟨b, off, spot⟩ := a
    have hs : spot = none := by
      obtain ⟨ds0, j1, _⟩ := h4 0 (by simp at h3; omega)
      rw [hc, Nat.zero_mul] at j1
      obtain ⟨_, j3, j4⟩ := World.cells?_some j1
      have := j4 0 hp
      rw [List.getElem?_eq_getElem (by omega)] at this
      simpa [Addr.add] using World.cell?_spot this
    subst hs
    refine ⟨b, off, ds, rfl, fun j v hj => ?_, k3, H, enc, k, _, k2⟩
    have hl : j < sz := by rw [← k3]; exact (List.getElem?_eq_some_iff.1 hj).1
    have := k4 j hl
    rw [hj, add_lit, add_lit] at this
    exact this
theorem sl_of {α : Type} [Inhabited α] {R : World → α → List Value → Prop} {sz : Nat} (ht : Tryz.prog.underlying t = some (.slice e)) (hc : Tryz.prog.cellsOf e = sz) (hp : 0 < sz) (h : Rd W t cs) (hel : ∀ ds, Rd W e ds → ∃ x : α, R W x ds) : ∃ A n c l, cs = [.slice A n c] ∧ Sl sz R W A n c l := by
  obtain ⟨A, n, c, h1, h2, h3, h4⟩ := rd_slice ht hc hp h
  obtain ⟨f, hf⟩ := choose_lt (α := α) (p := fun i x => ∃ b off ds, A = some ⟨b, off, none⟩ ∧ CellsAt W b (off + i * sz) ds ∧ ds.length = sz ∧ R W x ds) (n := n) (fun i hi => by
    obtain ⟨b, off, ds, k1, k2, k3, k4⟩ := h4 i hi
    obtain ⟨x, hx⟩ := hel ds k4
    exact ⟨x, b, off, ds, k1, k2, k3, hx⟩)
  refine ⟨A, n, c, (List.range n).map f, h1, by simp, h2, h3, fun i x hi => ?_⟩
  rw [List.getElem?_map] at hi
  cases hr : (List.range n)[i]? with
  | none => simp [hr] at hi
  | some j =>
    simp [hr] at hi
    obtain ⟨hi1, hi2⟩ := List.getElem?_eq_some_iff.1 hr
    simp at hi1 hi2
    subst hi2; subst hi
    exact hf i hi1
theorem one_eq {a b : Value} (h : [a] = [b]) : a = b := by injection h
theorem u32_wf {n : Int} (h : (Lit.int .u32 n).wf = true) : U32 n := by have := bounds_u32 h; exact ⟨by omega, by omega⟩
end
end Go.Proofs.YteomcjpigoaioaaGreatDoor
namespace Go.Proofs.YteomcjpigoaioaaGreatDoor
open Go Go.FL Go.ChangeShapes Go.WideShapes Go.ChangeAt Go.RowKit
set_option maxRecDepth 100000
instance : Inhabited Ac := ⟨⟨0, 0, ⟨0, 0⟩, ⟨0, 0⟩⟩⟩
instance : Inhabited Ins := ⟨⟨[], 0, false, []⟩⟩
theorem c_u32 : Tryz.prog.cellsOf 52 = 1 := by kernel_rfl
theorem c_u8 : Tryz.prog.cellsOf 5 = 1 := by kernel_rfl
section
variable {W : World} {cs : List Value}
theorem rd_words (h : Rd W 25 cs) : ∃ A n c l, cs = [.slice A n c] ∧ Wds W A n c l := sl_of Tryz.underlying25 c_u32 (by decide) h fun _ hd => by
  obtain ⟨n, h1, h2⟩ := rd_int Tryz.underlying52 hd
  exact ⟨n, h1, u32_wf h2⟩
theorem rd_bytes (h : Rd W 61 cs) : ∃ A n c l, cs = [.slice A n c] ∧ Bts W A n c l := sl_of Tryz.underlying61 c_u8 (by decide) h fun _ hd => by
  obtain ⟨n, h1, h2⟩ := rd_int Tryz.underlying5 hd
  have := bounds_u8 h2
  refine ⟨UInt8.ofNat n.toNat, h1.trans ?_⟩
  have e : ((UInt8.ofNat n.toNat).toNat : Int) = n := by simp [UInt8.toNat_ofNat']; omega
  rw [e]
end
section
variable {H : Type} {enc : TypeId × Value → H} {W : World} {base : Nat} {v : Value} {d : DataW H} {ps : List MemPlace}
theorem rd_of {t : TypeId} (hd : DataW.Trod enc Tryz.prog W 0 (fun _ => true) true t v d ps) : Rd W t v.cells.toList := by
  obtain ⟨n, h⟩ := hd
  exact ⟨H, enc, n, _, h⟩
theorem cell_of {t e : TypeId} (ht : Tryz.prog.underlying t = some (.slice e)) (hv : Value.okWide Tryz.prog W .any base t v) : v.cells.toList = [v] := by
  unfold Value.okWide at hv
  rw [ht] at hv
  simp only [Cell.okWide] at hv
  cases v <;> simp_all [Value.cells, Cell.ok]
theorem arg_words (hv : Value.okWide Tryz.prog W .any base 25 v) (hd : DataW.Trod enc Tryz.prog W 0 (fun _ => true) true 25 v d ps) : ∃ A n c l, v = .slice A n c ∧ Wds W A n c l := by
  obtain ⟨A, n, c, l, h1, h2⟩ := rd_words (rd_of hd)
  rw [cell_of Tryz.underlying25 hv] at h1
  exact ⟨A, n, c, l, one_eq h1, h2⟩
theorem arg_bytes (hv : Value.okWide Tryz.prog W .any base 61 v) (hd : DataW.Trod enc Tryz.prog W 0 (fun _ => true) true 61 v d ps) : ∃ A n c l, v = .slice A n c ∧ Bts W A n c l := by
  obtain ⟨A, n, c, l, h1, h2⟩ := rd_bytes (rd_of hd)
  rw [cell_of Tryz.underlying61 hv] at h1
  exact ⟨A, n, c, l, one_eq h1, h2⟩
end
end Go.Proofs.YteomcjpigoaioaaGreatDoor
namespace Go.Proofs.YteomcjpigoaioaaGreatDoor
open Go Go.FL Go.RowKit
theorem row_err (u : TypeId) (hu : Tryz.prog.typeName? 3 u = Tryz.prog.typeName? 3 247) : u = 247 :=
  have hn : Tryz.prog.typeName? 3 247 = some ("*" ++ "errors.errorString") := by kernel_rfl
  typeName_ptr_named (nm := "errors.errorString") (by kernel_rfl) (by kernel_rfl) (by decide) u (hu.trans hn)
theorem gw_var {W : World} {nm : String} {g : Nat} {cs : Array Value} (hg : Tryz.prog.globalNamed nm = some g) (h : W.var? Tryz.prog nm = some cs) : ∃ ty fz, W.heap[g]? = some (.cells cs ty fz) := by
  unfold World.var? at h
  rw [hg] at h
  simp only [Option.bind_some] at h
  split at h
  · rename_i c t f hb
    injection h with h
    subst h
    exact ⟨t, f, hb⟩
  · cases h
set_option maxRecDepth 100000 in
theorem gw_of {W : World} (h : laidMetH Tryz.prog Rows.asmPackIsInverseRow.laid W) : GW W := by
  rw [MakeChecks.laidMetH_plain _ _ _ (by kernel_rfl)] at h
  have h2 := h.tail.tail
  have hpow := Lib.tabIs_of_head (zs := Lib.pow10Tab) (k := .u64) (g := 0) (by kernel_rfl) (by kernel_rfl) Tryz.underlying220 Tryz.underlying123 (by kernel_rfl) (by kernel_rfl) h2
  have h4 := h2.tail.tail
  obtain ⟨a1, s1, hv1, _⟩ := laid_sentinel (g := 7) h4 (by kernel_rfl) (by kernel_rfl) Tryz.underlying106 (fun u hu => row_err u (hu.trans (by kernel_rfl))) Tryz.underlying247 Tryz.underlying249 rfl rfl Tryz.underlying9 (by kernel_rfl) (by kernel_rfl)
  obtain ⟨a2, s2, hv2, _⟩ := laid_sentinel (g := 6) h4.tail (by kernel_rfl) (by kernel_rfl) Tryz.underlying106 (fun u hu => row_err u (hu.trans (by kernel_rfl))) Tryz.underlying247 Tryz.underlying249 rfl rfl Tryz.underlying9 (by kernel_rfl) (by kernel_rfl)
  refine ⟨?_, ?_, ?_⟩
  · exact gw_var (g := 0) (by kernel_rfl) hpow
  · exact ⟨_, _, World.var?_cell (g := 6) (by kernel_rfl) hv2 0⟩
  · exact ⟨_, _, World.var?_cell (g := 7) (by kernel_rfl) hv1 0⟩
end Go.Proofs.YteomcjpigoaioaaGreatDoor
namespace Go.Proofs.YteomcjpigoaioaaGreatDoor
open Go Go.FL Go.ChangeShapes Go.WideShapes Go.ChangeAt Go.RowKit
theorem asmPackMatchesSpec_reads : ∀ t ∈ Tryz.f8.params.toList, Tryz.prog.readableRec t = true ∧ t < Tryz.prog.types.size := by
  rw [Tryz.params8]
  intro t ht
  simp only [List.mem_cons, List.not_mem_nil, or_false] at ht
  rcases ht with rfl | rfl <;> exact ⟨by kernel_rfl, of_decide_eq_true (by kernel_rfl)⟩
set_option maxRecDepth 100000 in
theorem asmPackMatchesSpec_contract (H : Type) (enc : TypeId × Value → H) (W : World) (base : Nat) (args : Array Value) (ds gs : List (DataW H)) (before : List MemPlace)
    (hval : ∀ (j : Nat) t v, Tryz.f8.params[j]? = some t → args[j]? = some v → Value.okWide Tryz.prog W .any base t v)
    (hW : DataW.Whole enc Tryz.prog Tryz.f8.params.toList Rows.asmPackMatchesSpecSpec.vars false W args.toList ds gs before) (hL : laidMetH Tryz.prog Rows.asmPackMatchesSpecRow.laid W) :
    Calls Tryz.prog 8 args W fun e W' => ∃ v, e = .returned v ∧ Rows.asmPackMatchesSpecSpec.post enc Tryz.prog Tryz.f8 false true false false W args v W' := by
  have hW' := hW
  obtain ⟨p, q, hA0, hV, rfl, hfz, hnd⟩ := hW'
  have hA : DataW.TrodAll enc Tryz.prog W 0 (fun _ => true) true Tryz.f8.params.toList args.toList ds p := hA0
  rw [Tryz.params8] at hA hval
  obtain ⟨v0, vs0, d0, ds0, p0, q0, hargs0, rfl, rfl, h0, r0⟩ := trodAll_cons hA
  obtain ⟨v1, vs1, d1, ds1, p1, q1, hargs1, rfl, rfl, h1, r1⟩ := trodAll_cons r0
  obtain ⟨rfl, rfl, rfl⟩ := trodAll_nil r1
  obtain rfl : args = #[v0, v1] := by cases args; simp_all
  obtain ⟨rfl, rfl⟩ := trodVars_none hV
  obtain ⟨A0, n0, c0, l0, rfl, hW0⟩ := arg_words (hval 0 25 v0 rfl rfl) h0
  obtain ⟨A1, n1, c1, l1, rfl, hB1⟩ := arg_bytes (hval 1 61 v1 rfl rfl) h1
  refine (law_calls (args := [_, _]) fun D => lawPack_ac D [] W (gw_of hL) A0 n0 c0 l0 hW0 A1 n1 c1 l1 hB1).mono fun e W' ⟨he, hg⟩ => ?_
  subst he
  exact ⟨_, rfl, law_post laid_out asmPackMatchesSpec_reads (by kernel_rfl) Tryz.underlying4 rfl hW rfl hg⟩
set_option maxRecDepth 100000 in
theorem asmPackMatchesSpec_lifted (os : Os) (started : os.Started) (H : Type) (enc : TypeId × Value → H) :
    ReturnsInHanded {} Tryz.checked os 8 .any (fun w args => (Rows.asmPackMatchesSpecSpec.pre enc Tryz.prog Tryz.f8 [] false w args ∧ laidMetH Tryz.prog Rows.asmPackMatchesSpecRow.laid w) ∧ sizedMet enc Tryz.prog Tryz.f8 (OpenSpec.ofChange Rows.asmPackMatchesSpecSpec) false w args) (Rows.asmPackMatchesSpecSpec.post enc Tryz.prog Tryz.f8 false true false false) := by
  refine returnsInHanded_of_change_and (C := Tryz.checked) (X := fun w _ => laidMetH Tryz.prog Rows.asmPackMatchesSpecRow.laid w) (fun _ _ _ hh h => h.of_heap hh) own_knob started (by kernel_rfl) Tryz.func8
    (ChangeSpec.witness_shaped (enc := enc) (C := Tryz.checked) (os := os) (X := fun w _ => laidMetH Tryz.prog Rows.asmPackMatchesSpecRow.laid w) false (World.laidAll Tryz.prog os Rows.asmPackMatchesSpecRow.laid) #[.slice none 0 0, .slice none 0 0] 8 (World.laidAll_os _ _ _)
      (World.shaped_of_ZipB (by kernel_rfl) (by kernel_rfl)) (by kernel_rfl) (by kernel_rfl) (by kernel_rfl)
      (by rw [MakeChecks.laidMetH_plain _ _ _ (by kernel_rfl)]; exact laidMet_laidAll _ (by kernel_rfl) (by kernel_rfl))) ?_
  intro W base args ds gs before hval hW _ _ hL _
  exact asmPackMatchesSpec_contract H enc W base args ds gs before hval hW hL
theorem asmPackMatchesSpec_said : Rows.AsmPackMatchesSpecSaid :=
  OpenClaim.holds_of_wide 8 Tryz.f8 rfl rfl rfl rfl rfl rfl rfl ⟨rfl, rfl, rfl, rfl, rfl⟩ rfl rfl rfl rfl rfl (by kernel_rfl) Tryz.func8 (by kernel_rfl)
    (of_decide_eq_true (by kernel_rfl)) (by unfold Func.isWrapper; first | (rw [if_pos (by decide +kernel)]; kernel_rfl) | (rw [if_neg (by decide +kernel)]; exact ⟨rfl, rfl⟩))
    (fun os started H enc _ => asmPackMatchesSpec_lifted os started H enc)
theorem asmPackMatchesSpec_plain (f : FuncId) (fn : Func) (hf : Tryz.pinned.checked.prog.funcNamed Rows.asmPackMatchesSpecRow.func = some f) (hfn : Tryz.pinned.checked.prog.funcs[f]? = some fn) : true = Tryz.pinned.checked.prog.looks [] ∧ ∀ (j : Nat) t, fn.params[j]? = some t → Tryz.pinned.checked.prog.wantsStandIn t = false := by
  obtain rfl : f = 8 := Option.some.inj ((show Tryz.prog.funcNamed Rows.asmPackMatchesSpecRow.func = some 8 by kernel_rfl).symm.trans hf) |>.symm
  obtain rfl : fn = Tryz.f8 := (Option.some.inj (Tryz.func8.symm.trans hfn)).symm
  exact ⟨by kernel_rfl, fun j t ht => by
    rw [Tryz.params8] at ht
    have hm : t ∈ [25, 61] := by simpa using Array.mem_of_getElem? ht
    have hall : ([25, 61].all fun u => !Tryz.prog.wantsStandIn u) = true := by kernel_rfl
    exact (show Tryz.prog.wantsStandIn t = false by simpa using List.all_eq_true.1 hall t hm)⟩
theorem asmPackMatchesSpec_holds : Rows.AsmPackMatchesSpecCardSaid :=
  Claim7.holds_tied_plain_at .later [] _ _ _ _ asmPackMatchesSpec_said (fun _ h => by cases h) (by kernel_rfl) (fun _ h => by cases h) asmPackMatchesSpec_row_tie rfl ⟨rfl, rfl⟩ (by kernel_rfl) rfl asmPackMatchesSpec_plain (by kernel_rfl)
end Go.Proofs.YteomcjpigoaioaaGreatDoor
