/- The law AsmCommentsDoNotMatter: for every input of bulk at most 1048576 it returns true, and its arguments read behind the call as they read before; what the package-level variables of the library hold is tied tgt the text of the program. Part 7 of the proof of asmCommentsDoNotMatter_holds: texts W15, La, Cm, W22, Rf, Rg, Rc, Ru, M6. -/
import Derived.Test.YteomcjpigoaioaaGreatDoorQ6x6
import Derived.ProofKit
import Derived.OpenShut
import Derived.SizedLaws
import Derived.Deep.Slices
import Derived.Test.YteomcjpigoaioaaGreatDoorRows
import Derived.Lay
import Derived.Lib.LaidTab
import Derived.Stop.LaidErr
import Derived.SevenTiedAt
import Derived.Test.YteomcjpigoaioaaGreatDoorCards
import Derived.Test.YteomcjpigoaioaaGreatDoorTie
import Derived.ChangeMaps5
import Derived.JoinedCond
set_option linter.unusedVariables false
set_option linter.unusedSimpArgs false
set_option linter.unnecessarySimpa false
namespace Go.Proofs.YteomcjpigoaioaaGreatDoor
open Go.FL
attribute [local irreducible] JC JO JA JB thenQ blockQ retQ AC fill CellsAt QE Ev Mid
theorem bT {p : Prop} [Decidable p] (h : p) : Value.bool (decide p) = .bool true := by rw [decide_eq_true h]
theorem bF {p : Prop} [Decidable p] (h : p) : Value.bool (!decide p) = .bool false := by rw [decide_eq_true h]; rfl
theorem AC.isT {P : Program} {D : Nat} {f : FuncId} {args : List Value} {L : Hl} {s : World} {p : Prop} [Decidable p] (h : AC P D f args L s fun v L' _ => v = .bool (decide p) ∧ L = L') (hp : p) : AC P D f args L s fun v L' _ => v = .bool true ∧ L = L' :=
  h.mono fun v L' _ _ ⟨h1, h2⟩ => ⟨by rw [h1, decide_eq_true hp], h2⟩
theorem defaultP_ac (D : Nat) (L : Hl) (s : World) : AC Tryz.prog D 46 [] L s fun v L' s' => L = L' ∧ ∃ A n c, v = .agg #[.int .i64 65536, .slice A n c] ∧ Inss s' A n c defT.ins := AC.pubW (defaultO_ac D L s)
def exT : List UInt8 := [32, 106, 117, 109, 112, 32, 101, 110, 100, 32, 59, 32, 97, 32, 99, 111, 109, 109, 101, 110, 116, 10, 120, 58, 32, 119, 111, 114, 100, 32, 55, 10, 101, 110, 100, 58, 32, 108, 111, 97, 100, 32, 120, 10, 32, 115, 112, 97, 99, 101, 32, 50, 10]
theorem ex_R : asmR defT exT = .inr ([26, 3, 7, 3, 2, 0, 0], [([120], 2), ([101, 110, 100], 3)]) := by decide +kernel
theorem ex_tab : (tabFault defT).1 = 0 := by decide +kernel
theorem ex_W : asmW defT exT = [26, 3, 7, 3, 2, 0, 0] ∧ asmL defT exT = [([120], 2), ([101, 110, 100], 3)] ∧ asmFt defT exT = (0, 0) := asmW_r ex_R
def exL : List UInt8 := [110, 117, 109, 32, 57, 10, 115, 116, 111, 112, 10, 119, 111, 114, 100, 32, 50, 10]
theorem ex_l : lstF defT [2, 9, 1, 2] = exL := by
  obtain ⟨y, hy, ho, hn⟩ : ∃ y, findI defT.ins 2 = some y ∧ y.operand = true ∧ y.name = [110, 117, 109] := ⟨(findI defT.ins 2).get (by decide +kernel), (Option.some_get _).symm, by decide +kernel, by decide +kernel⟩
  obtain ⟨z, hz, zo, zn⟩ : ∃ y, findI defT.ins 1 = some y ∧ y.operand = false ∧ y.name = [115, 116, 111, 112] := ⟨(findI defT.ins 1).get (by decide +kernel), (Option.some_get _).symm, by decide +kernel, by decide +kernel⟩
  rw [lst_opd hy ho, lst_plain hz zo, lst_word (by unfold plainB; rw [hy]; simp [ho]) (by simp), hn, zn, show (9 : Int).toNat = 9 from rfl, show (2 : Int).toNat = 2 from rfl, Lib.decDigits_one (by decide), Lib.decDigits_one (by decide)]
  rfl
theorem ex_S : listS defT [2, 9, 1, 2] = exL ∧ listE defT [2, 9, 1, 2] = (0, 0) := by
  have h3 : ¬ 400000 < (lstF defT [2, 9, 1, 2]).length := by rw [ex_l]; decide
  have := list_ok ex_tab (by decide +kernel) h3
  rw [ex_l] at this
  exact this
theorem ex_K : keyS [97, 49] = 65 ∧ keyE [97, 49] = (0, 0) := by decide +kernel
theorem ex_N : nameS 65 = [97, 49] ∧ nameE 65 = (0, 0) := by
  have h : nmF 65 [] = some [49, 97] := by
    rw [nmF_more (by decide) (by decide), nmF_more (by decide) (by decide), show 65 / 37 / 37 = 0 from rfl, nmF_zero]; rfl
  have := name_ok h (by decide +kernel)
  exact this
theorem ex_P : packS [5, 300] = [5, 172, 2] ∧ packE [5, 300] = (0, 0) := by
  have h1 : grp 5 = [5] := grp_small (by decide)
  have h2 : grp 300 = [172, 2] := by rw [grp_big (by decide), grp_small (by decide)]; rfl
  refine ⟨?_, rfl⟩
  rw [packS, if_neg (by decide), packF]
  show [grp 5, grp 300].flatten = _
  rw [h1, h2]; rfl
theorem ex_U : unpS [5, 172, 2] = [5, 300] ∧ unpE [5, 172, 2] = (0, 0) := by
  have h : upF 0 [] [5, 172, 2] = .inr [5, 300] := by
    rw [upF_more (x := (5, 1, 5, [172, 2])) (by decide) (by decide +kernel) (by decide), upF_more (x := (300, 2, 2, [])) (by decide) (by decide +kernel) (by decide), upF_nil]; rfl
  exact unp_r (unp_ok (by decide) h (by decide))
theorem wds_lit {s : World} {b : Nat} {l : List Int} (h : CellsAt s b 0 (wv l)) (hu : ∀ x ∈ l, U32 x) (hl : l.length ≤ 1000) : Wds s (some ⟨b, 0, none⟩) l.length l.length l :=
  wds_pub (yc := []) (cc := l.length) (by simpa using h) hu (by simp) (by omega)
theorem bts_lit {s : World} {b : Nat} {l : List UInt8} (h : CellsAt s b 0 (bv l)) (hl : l.length ≤ 1000) : Bts s (some ⟨b, 0, none⟩) l.length l.length l :=
  bts_pub (yc := []) (cc := l.length) (by simpa using h) (by simp) (by omega)
theorem labs_lit {s : World} {b : Nat} {l : List (List UInt8 × Int)} (h : CellsAt s b 0 (lbv l)) (hu : ∀ x ∈ l, U32 x.2) (hl : l.length ≤ 1000) : Labs s (some ⟨b, 0, none⟩) l.length l.length l := by
  have hll : (lbv l).length = l.length * 2 := by
    clear h hu hl
    induction l with
    | nil => rfl
    | cons x l ih => simp only [lbv, List.map_cons, List.flatten_cons, List.length_append, List.length_cons, List.length_nil] at ih ⊢; omega
  exact Own.labs (e := 0) (A := [(b, cb (lbv l ++ []) 0)]) (.blk b l.length l.length (lbv l) [] hll (by simp [hll]) (Nat.le_refl _) (by omega)) hu (fun b' zs t hm => by
    simp only [List.append_nil, List.mem_singleton, Prod.mk.injEq] at hm
    obtain ⟨rfl, hcb⟩ := hm
    have : zs = lbv l := by
      unfold cb at hcb
      injection hcb with e1
      simpa using congrArg Array.toList e1
    rw [this]; exact h) rfl
theorem u32L (l : List Int) (h : l.all (fun x => decide (0 ≤ x ∧ x < 4294967296)) = true) : ∀ x ∈ l, U32 x := fun x hx => by have := List.all_eq_true.1 h x hx; simpa [U32] using this
set_option maxHeartbeats 4000000 in
set_option maxRecDepth 100000 in
theorem translated_ac (D : Nat) (L : Hl) (s : World) (hG : GW s) : AC Tryz.prog D 14 [] L s fun v L' _ => v = .bool true ∧ L = L' := by
 refine AC_enter (TT := TT) (fn := Tryz.f14) TT_ok Tryz.func14 (by kernel_rfl) rfl Tryz.ntmps14 rfl (rs := [.tmp 0]) rfl [] rfl ?_
 refine JC_seq ?_
 refine JC_region ?_
 refine JO_q (QE_as rfl) rfl ?_
 refine JO_nil ?_
 refine thenQ_n ?_
 refine JC_seq ?_
 refine JC_region ?_
 refine JO_call (first := []) (captured := []) rfl rfl rfl (defaultP_ac D _ _) ?_
 rintro _ _ s1 h1 ⟨rfl, Ad1, nd1, cd1, rfl, hd1⟩
 refine JO_call (first := []) (captured := []) rfl rfl rfl (assembleP_ac D _ _ (hG.le h1) defT _ _ _ (hd1.le (Le.refl (D := D) _)) exT) ?_
 rintro _ _ s2 h2 ⟨rfl, A1, n1, c1, rfl, hW1⟩
 rw [ex_W.1] at hW1
 refine JO_q (QE_mv rfl) rfl ?_
 refine JO_q (QE_ext rfl rfl) rfl ?_
 refine JO_q (QE_ext rfl rfl) rfl ?_
 refine JO_allocZ rfl [_, _] rfl rfl ?_
 intro β3 s3 h3
 refine JO_q (QE_as rfl) rfl ?_
 refine JO_st 0 [_, _] rfl rfl rfl rfl rfl rfl rfl rfl rfl ?_
 refine JO_nil ?_
 refine thenQ_n ?_
 refine JC_seq ?_
 refine JC_region ?_
 refine JO_call (first := []) (captured := []) rfl rfl rfl (defaultP_ac D _ _) ?_
 rintro _ _ s4 h4 ⟨rfl, Ad2, nd2, cd2, rfl, hd2⟩
 refine JO_call (first := []) (captured := []) rfl rfl rfl (labelsP_ac D _ _ (hG.le (Le.trans (Le.trans (Le.trans h1 h2) h3) h4)) defT _ _ _ (hd2.le (Le.refl (D := D) _)) exT) ?_
 rintro _ _ s5 h5 ⟨rfl, A2, n2, c2, rfl, hL2⟩
 rw [ex_W.2.1] at hL2
 refine JO_q (QE_mv rfl) rfl ?_
 refine JO_q (QE_ext rfl rfl) rfl ?_
 refine JO_q (QE_ext rfl rfl) rfl ?_
 refine JO_allocZ rfl [_, _] rfl rfl ?_
 intro β6 s6 h6
 refine JO_q (QE_as rfl) rfl ?_
 refine JO_st 0 [_, _] rfl rfl rfl rfl rfl rfl rfl rfl rfl ?_
 refine JO_nil ?_
 refine thenQ_n ?_
 refine JC_seq ?_
 refine JC_region ?_
 refine JO_call (first := []) (captured := []) rfl rfl rfl (defaultP_ac D _ _) ?_
 rintro _ _ s7 h7 ⟨rfl, Ad3, nd3, cd3, rfl, hd3⟩
 refine JO_bs [(_, _), (_, _), (_, _), (_, _)] [_, _, _, _] rfl rfl rfl rfl rfl rfl rfl rfl rfl ?_
 intro βi s8 h8 hci
 refine JO_call (first := []) (captured := []) rfl rfl rfl (list_ac D _ _ (hG.le (Le.trans (Le.trans (Le.trans (Le.trans (Le.trans (Le.trans (Le.trans h1 h2) h3) h4) h5) h6) h7) h8)) defT _ _ _ (hd3.le h8) _ _ _ [2, 9, 1, 2] (wds_lit (l := [2, 9, 1, 2]) (hci.le (Le.refl (D := D) _)) (u32L _ rfl) (by decide))) ?_
 rintro _ _ s9 h9 ⟨rfl, rfl⟩
 refine JO_q (QE_mv rfl) rfl ?_
 refine JO_q (QE_ext rfl rfl) rfl ?_
 refine JO_q (QE_ext rfl rfl) rfl ?_
 refine JO_allocZ rfl [_, _] rfl rfl ?_
 intro β10 s10 h10
 refine JO_q (QE_as rfl) rfl ?_
 refine JO_st 0 [_, _] rfl rfl rfl rfl rfl rfl rfl rfl rfl ?_
 refine JO_nil ?_
 refine thenQ_n ?_
 refine JC_seq ?_
 refine JC_region ?_
 refine JO_call (first := []) (captured := []) rfl rfl rfl (key_ac D _ _ [97, 49]) ?_
 rintro _ _ s11 h11 ⟨rfl, rfl⟩
 refine JO_q (QE_mv rfl) rfl ?_
 refine JO_q (QE_ext rfl rfl) rfl ?_
 refine JO_q (QE_ext rfl rfl) rfl ?_
 refine JO_allocZ rfl [_, _] rfl rfl ?_
 intro β12 s12 h12
 refine JO_q (QE_as rfl) rfl ?_
 refine JO_st 0 [_, _] rfl rfl rfl rfl rfl rfl rfl rfl rfl ?_
 refine JO_nil ?_
 refine thenQ_n ?_
 refine JC_seq ?_
 refine JC_region ?_
 refine JO_call (first := []) (captured := []) rfl rfl rfl (name_ac D _ _ 65 (by decide)) ?_
 rintro _ _ s13 h13 ⟨rfl, rfl⟩
 refine JO_q (QE_mv rfl) rfl ?_
 refine JO_q (QE_ext rfl rfl) rfl ?_
 refine JO_q (QE_ext rfl rfl) rfl ?_
 refine JO_allocZ rfl [_, _] rfl rfl ?_
 intro β14 s14 h14
 refine JO_q (QE_as rfl) rfl ?_
 refine JO_st 0 [_, _] rfl rfl rfl rfl rfl rfl rfl rfl rfl ?_
 refine JO_nil ?_
 refine thenQ_n ?_
 refine JC_seq ?_
 refine JC_region ?_
 refine JO_bs [(_, _), (_, _)] [_, _] rfl rfl rfl rfl rfl rfl rfl rfl rfl ?_
 intro βp s15 h15 hcp
 refine JO_call (first := []) (captured := []) rfl rfl rfl (pack_ac D _ _ _ _ _ [5, 300] (wds_lit (l := [5, 300]) (hcp.le (Le.refl (D := D) _)) (u32L _ rfl) (by decide))) ?_
 rintro _ _ s16 h16 ⟨rfl, A3, n3, c3, rfl, hP⟩
 rw [ex_P.1] at hP
 refine JO_q (QE_mv rfl) rfl ?_
 refine JO_q (QE_ext rfl rfl) rfl ?_
 refine JO_q (QE_ext rfl rfl) rfl ?_
 refine JO_allocZ rfl [_, _] rfl rfl ?_
 intro β17 s17 h17
 refine JO_q (QE_as rfl) rfl ?_
 refine JO_st 0 [_, _] rfl rfl rfl rfl rfl rfl rfl rfl rfl ?_
 refine JO_nil ?_
 refine thenQ_n ?_
 refine JC_seq ?_
 refine JC_region ?_
 refine JO_bs [(_, _), (_, _), (_, _)] [_, _, _] rfl rfl rfl rfl rfl rfl rfl rfl rfl ?_
 intro βq s18 h18 hcq
 refine JO_call (first := []) (captured := []) rfl rfl rfl (unpack_ac D _ _ _ _ _ [5, 172, 2] (bts_lit (l := [5, 172, 2]) (hcq.le (Le.refl (D := D) _)) (by decide))) ?_
 rintro _ _ s19 h19 ⟨rfl, A4, n4, c4, rfl, hU⟩
 rw [ex_U.1] at hU
 refine JO_q (QE_mv rfl) rfl ?_
 refine JO_q (QE_ext rfl rfl) rfl ?_
 refine JO_q (QE_ext rfl rfl) rfl ?_
 refine JO_allocZ rfl [_, _] rfl rfl ?_
 intro β20 s20 h20
 refine JO_q (QE_as rfl) rfl ?_
 refine JO_st 0 [_, _] rfl rfl rfl rfl rfl rfl rfl rfl rfl ?_
 refine JO_nil ?_
 refine thenQ_n ?_
 refine JC_seq ?_
 refine JC_seq ?_
 refine JC_region ?_
 refine JO_q (QE_fa0 rfl rfl rfl rfl) rfl ?_
 refine JO_q (QE_ld1 6 rfl rfl rfl rfl rfl) rfl ?_
 refine JO_q (QE_cast (v' := .bool false) (QE_ne rfl rfl) (bF (by rw [ex_W.2.2]))) rfl ?_
 refine JO_q (QE_mv rfl) rfl ?_
 refine JO_gT rfl rfl ?_
 refine JO_q (QE_fa0 rfl rfl rfl rfl) rfl ?_
 refine JO_gT rfl rfl ?_
 refine JO_q (QE_ld1 5 rfl rfl rfl rfl rfl) rfl ?_
 refine JO_gT rfl rfl ?_
 refine JO_q (QE_cast (v' := .bool false) (QE_ne rfl rfl) (bF (by rw [ex_W.2.2]))) rfl ?_
 refine JO_q (QE_pickF rfl rfl) rfl ?_
 refine JO_q (QE_mv rfl) rfl ?_
 refine JO_gT rfl rfl ?_
 refine JO_q (QE_fa0 rfl rfl rfl rfl) rfl ?_
 refine JO_gT rfl rfl ?_
 refine JO_q (QE_ld1 4 rfl rfl rfl rfl rfl) rfl ?_
 refine JO_gT rfl rfl ?_
 refine JO_q (QE_cast (v' := .bool false) (QE_ne rfl rfl) (bF (by rw [ex_S.2]))) rfl ?_
 refine JO_q (QE_pickF rfl rfl) rfl ?_
 refine JO_q (QE_mv rfl) rfl ?_
 refine JO_gT rfl rfl ?_
 refine JO_q (QE_fa0 rfl rfl rfl rfl) rfl ?_
 refine JO_gT rfl rfl ?_
 refine JO_q (QE_ld1 3 rfl rfl rfl rfl rfl) rfl ?_
 refine JO_gT rfl rfl ?_
 refine JO_q (QE_cast (v' := .bool false) (QE_ne rfl rfl) (bF (by rw [ex_K.2]))) rfl ?_
 refine JO_q (QE_pickF rfl rfl) rfl ?_
 refine JO_q (QE_mv rfl) rfl ?_
 refine JO_gT rfl rfl ?_
 refine JO_q (QE_fa0 rfl rfl rfl rfl) rfl ?_
 refine JO_gT rfl rfl ?_
 refine JO_q (QE_ld1 2 rfl rfl rfl rfl rfl) rfl ?_
 refine JO_gT rfl rfl ?_
 refine JO_q (QE_cast (v' := .bool false) (QE_ne rfl rfl) (bF (by rw [ex_N.2]))) rfl ?_
 refine JO_q (QE_pickF rfl rfl) rfl ?_
 refine JO_q (QE_mv rfl) rfl ?_
 refine JO_gT rfl rfl ?_
 refine JO_q (QE_fa0 rfl rfl rfl rfl) rfl ?_
 refine JO_gT rfl rfl ?_
 refine JO_q (QE_ld1 1 rfl rfl rfl rfl rfl) rfl ?_
 refine JO_gT rfl rfl ?_
 refine JO_q (QE_cast (v' := .bool false) (QE_ne rfl rfl) (bF (by rw [ex_P.2]))) rfl ?_
 refine JO_q (QE_pickF rfl rfl) rfl ?_
 refine JO_q (QE_mv rfl) rfl ?_
 refine JO_gT rfl rfl ?_
 refine JO_q (QE_fa0 rfl rfl rfl rfl) rfl ?_
 refine JO_gT rfl rfl ?_
 refine JO_q (QE_ld1 0 rfl rfl rfl rfl rfl) rfl ?_
 refine JO_gT rfl rfl ?_
 refine JO_q (QE_cast (v' := .bool false) (QE_ne rfl rfl) (bF (by rw [ex_U.2]))) rfl ?_
 refine JO_q (QE_pickF rfl rfl) rfl ?_
 refine JO_nil ?_
 refine thenQ_n ?_
 refine JC_ifF rfl ?_
 refine JC_skip ?_
 refine thenQ_n ?_
 refine JC_seq ?_
 refine JC_region ?_
 refine JO_q (QE_mv rfl) rfl ?_
 refine JO_bs [(_, _), (_, _), (_, _), (_, _), (_, _), (_, _), (_, _)] [_, _, _, _, _, _, _] rfl rfl rfl rfl rfl rfl rfl rfl rfl ?_
 intro βe s21 h21 hce
 refine JO_call (first := []) (captured := []) rfl rfl rfl (AC.isT (sameWords_ac D _ _ _ _ _ _ (hW1.le (Le.trans (Le.trans (Le.trans (Le.trans (Le.trans (Le.trans (Le.trans (Le.trans (Le.trans (Le.trans (Le.trans (Le.trans (Le.trans (Le.trans (Le.trans (Le.trans (Le.trans (Le.trans h3 h4) h5) h6) h7) h8) h9) h10) h11) h12) h13) h14) h15) h16) h17) h18) h19) h20) h21)) _ _ _ [26, 3, 7, 3, 2, 0, 0] (wds_lit (l := [26, 3, 7, 3, 2, 0, 0]) (hce.le (Le.refl (D := D) _)) (u32L _ rfl) (by decide))) rfl) ?_
 rintro _ _ s22 h22 ⟨rfl, rfl⟩
 refine JO_q (QE_mv rfl) rfl ?_
 refine JO_gT rfl rfl ?_
 refine JO_q (QE_mv rfl) rfl ?_
 refine JO_gT rfl rfl ?_
 refine JO_q (QE_build [(_, _), (_, _)] [_, _] rfl rfl rfl rfl rfl rfl) rfl ?_
 refine JO_gT rfl rfl ?_
 refine JO_q (QE_build [(_, _), (_, _)] [_, _] rfl rfl rfl rfl rfl rfl) rfl ?_
 refine JO_gT rfl rfl ?_
 refine JO_bs [(_, _), (_, _)] [_, _, _, _] rfl rfl rfl rfl rfl rfl rfl rfl rfl ?_
 intro βf s23 h23 hcf
 refine JO_gT rfl rfl ?_
 refine JO_call (first := []) (captured := []) rfl rfl rfl (AC.isT (sameLabels_ac D _ _ _ _ _ _ (hL2.le (Le.trans (Le.trans (Le.trans (Le.trans (Le.trans (Le.trans (Le.trans (Le.trans (Le.trans (Le.trans (Le.trans (Le.trans (Le.trans (Le.trans (Le.trans (Le.trans (Le.trans h6 h7) h8) h9) h10) h11) h12) h13) h14) h15) h16) h17) h18) h19) h20) h21) h22) h23)) _ _ _ [([120], 2), ([101, 110, 100], 3)] (labs_lit (l := [([120], 2), ([101, 110, 100], 3)]) (hcf.le (Le.refl (D := D) _)) (by simp [U32]) (by decide))) rfl) ?_
 rintro _ _ s24 h24 ⟨rfl, rfl⟩
 refine JO_q (QE_pickT rfl rfl) rfl ?_
 refine JO_q (QE_mv rfl) rfl ?_
 refine JO_gT rfl rfl ?_
 refine JO_q (QE_mv rfl) rfl ?_
 refine JO_gT rfl rfl ?_
 refine JO_q (QE_cast (v' := .bool true) (QE_seq rfl rfl) (bT ex_S.1)) rfl ?_
 refine JO_q (QE_pickT rfl rfl) rfl ?_
 refine JO_q (QE_mv rfl) rfl ?_
 refine JO_gT rfl rfl ?_
 refine JO_q (QE_mv rfl) rfl ?_
 refine JO_gT rfl rfl ?_
 refine JO_q (QE_cast (v' := .bool true) (QE_eq rfl rfl) (bT ex_K.1)) rfl ?_
 refine JO_q (QE_pickT rfl rfl) rfl ?_
 refine JO_q (QE_mv rfl) rfl ?_
 refine JO_gT rfl rfl ?_
 refine JO_q (QE_mv rfl) rfl ?_
 refine JO_gT rfl rfl ?_
 refine JO_q (QE_cast (v' := .bool true) (QE_seq rfl rfl) (bT ex_N.1)) rfl ?_
 refine JO_q (QE_pickT rfl rfl) rfl ?_
 refine JO_q (QE_mv rfl) rfl ?_
 refine JO_gT rfl rfl ?_
 refine JO_q (QE_mv rfl) rfl ?_
 refine JO_gT rfl rfl ?_
 refine JO_bs [(_, _), (_, _), (_, _)] [_, _, _] rfl rfl rfl rfl rfl rfl rfl rfl rfl ?_
 intro βg s25 h25 hcg
 refine JO_gT rfl rfl ?_
 refine JO_call (first := []) (captured := []) rfl rfl rfl (AC.isT (sameBytes_ac D _ _ _ _ _ _ (hP.le (Le.trans (Le.trans (Le.trans (Le.trans (Le.trans (Le.trans (Le.trans (Le.trans h17 h18) h19) h20) h21) h22) h23) h24) h25)) _ _ _ [5, 172, 2] (bts_lit (l := [5, 172, 2]) (hcg.le (Le.refl (D := D) _)) (by decide))) rfl) ?_
 rintro _ _ s26 h26 ⟨rfl, rfl⟩
 refine JO_q (QE_pickT rfl rfl) rfl ?_
 refine JO_q (QE_mv rfl) rfl ?_
 refine JO_gT rfl rfl ?_
 refine JO_q (QE_mv rfl) rfl ?_
 refine JO_gT rfl rfl ?_
 refine JO_bs [(_, _), (_, _)] [_, _] rfl rfl rfl rfl rfl rfl rfl rfl rfl ?_
 intro βh s27 h27 hch
 refine JO_gT rfl rfl ?_
 refine JO_call (first := []) (captured := []) rfl rfl rfl (AC.isT (sameWords_ac D _ _ _ _ _ _ (hU.le (Le.trans (Le.trans (Le.trans (Le.trans (Le.trans (Le.trans (Le.trans h20 h21) h22) h23) h24) h25) h26) h27)) _ _ _ [5, 300] (wds_lit (l := [5, 300]) (hch.le (Le.refl (D := D) _)) (u32L _ rfl) (by decide))) rfl) ?_
 rintro _ _ s28 h28 ⟨rfl, rfl⟩
 refine JO_q (QE_pickT rfl rfl) rfl ?_
 refine JO_q (QE_as rfl) rfl ?_
 refine JO_nil ?_
 refine thenQ_n ?_
 refine JC_ret ?_
 refine retQ_mk [_, _, _, _, _, _, _] L (.inr rfl) (.tmp rfl (.nil)) rfl (Le.trans (Le.trans (Le.trans (Le.trans (Le.trans (Le.trans (Le.trans (Le.trans (Le.trans (Le.trans (Le.trans (Le.trans (Le.trans (Le.trans (Le.trans (Le.trans (Le.trans (Le.trans (Le.trans (Le.trans (Le.trans (Le.trans (Le.trans (Le.trans (Le.trans (Le.trans (Le.trans h1 h2) h3) h4) h5) h6) h7) h8) h9) h10) h11) h12) h13) h14) h15) h16) h17) h18) h19) h20) h21) h22) h23) h24) h25) h26) h27) h28) (fun sR hS2 => ?_)
 exact ⟨rfl, rfl⟩
end Go.Proofs.YteomcjpigoaioaaGreatDoor
namespace Go.Proofs.YteomcjpigoaioaaGreatDoor
open Go Go.FL Go.RowKit
theorem fnd_not {c : UInt8} {l : List UInt8} (h : c ∉ l) : fnd c l = none := by
  induction l with
  | nil => rfl
  | cons x l ih =>
    simp only [List.mem_cons, not_or] at h
    have hx : ¬ x = c := fun e => h.1 e.symm
    simp [fnd, hx, ih h.2]
theorem splitF_line {c : UInt8} {m : List UInt8} (h : c ∉ m) (cur r : List UInt8) : splitF (c.toNat : Int) cur (m ++ c :: r) = (cur ++ m) :: splitB (c.toNat : Int) r := by
  induction m generalizing cur with
  | nil => simp [splitF, splitB]
  | cons x m ih =>
    simp only [List.mem_cons, not_or] at h
    have hx : ¬ (x.toNat : Int) = (c.toNat : Int) := fun e => h.1 (u8_eq.2 e).symm
    rw [List.cons_append, splitF, if_neg hx, ih h.2, List.append_assoc]; rfl
theorem split_line {m : List UInt8} (h : (10 : UInt8) ∉ m) (r : List UInt8) : splitB 10 (m ++ 10 :: r) = m :: splitB 10 r := by
  have := splitF_line h [] r
  exact this
end Go.Proofs.YteomcjpigoaioaaGreatDoor
namespace Go.Proofs.YteomcjpigoaioaaGreatDoor
open Go Go.FL Go.RowKit
theorem cut_cons (c x : UInt8) (l : List UInt8) : (cutB c (x :: l)).1 = if x = c then [] else x :: (cutB c l).1 := by
  unfold cutB
  simp only [fnd]
  by_cases h : x = c
  · simp [h]
  · simp only [h, if_false]
    cases hf : fnd c l with
    | none => simp
    | some i => simp
def decL_ (cm l : List UInt8) : List UInt8 := 32 :: 32 :: (l ++ 32 :: 59 :: cm)
theorem cut_tail (cm l : List UInt8) : (cutB 59 (l ++ 32 :: 59 :: cm)).1 = (cutB 59 l).1 ∨ (cutB 59 (l ++ 32 :: 59 :: cm)).1 = (cutB 59 l).1 ++ [32] := by
  induction l with
  | nil =>
    right
    rw [List.nil_append, cut_cons, if_neg (by decide), cut_cons, if_pos rfl]
    rfl
  | cons x l ih =>
    rw [List.cons_append, cut_cons, cut_cons]
    by_cases h : x = 59
    · left; rw [if_pos h, if_pos h]
    · rw [if_neg h, if_neg h]
      rcases ih with h1 | h1
      · left; rw [h1]
      · right; rw [h1]; rfl
theorem fldF_tail (cur m : List UInt8) : fldF cur (m ++ [32]) = fldF cur m := by
  induction m generalizing cur with
  | nil =>
    by_cases h : cur = [] <;> simp [fldF, h]
  | cons x m ih =>
    rw [List.cons_append, fldF, fldF, ih, ih]
theorem fldB_eq (m : List UInt8) : fldB m = fldF [] m := by unfold fldB splitB; exact fld_filter [] m
theorem line_dec (cm l : List UInt8) : lineL (decL_ cm l) = lineL l := by
  unfold lineL decL_
  congr 1
  rw [cut_cons, if_neg (by decide), cut_cons, if_neg (by decide), fldB_eq, fldF, if_pos rfl, if_pos rfl, fldF, if_pos rfl, if_pos rfl, fldB_eq]
  rcases cut_tail cm l with h | h
  · rw [h]
  · rw [h, fldF_tail]
def jn (cm : List UInt8) : List (List UInt8) → List UInt8
  | [] => []
  | [x] => decL_ cm x
  | x :: y :: r => decL_ cm x ++ 10 :: jn cm (y :: r)
theorem jn_cons (cm x : List UInt8) {r : List (List UInt8)} (h : r ≠ []) : jn cm (x :: r) = decL_ cm x ++ 10 :: jn cm r := by
  cases r with
  | nil => exact absurd rfl h
  | cons y r => rfl
theorem jn_snoc (cm x : List UInt8) {l : List (List UInt8)} (h : l ≠ []) : jn cm (l ++ [x]) = jn cm l ++ 10 :: decL_ cm x := by
  induction l with
  | nil => exact absurd rfl h
  | cons y l ih =>
    cases l with
    | nil => rfl
    | cons z l =>
      rw [List.cons_append, jn_cons cm y (by simp), ih (by simp), jn_cons cm y (by simp), List.append_assoc]
      rfl
theorem dec_no10 {cm x : List UInt8} (hc : (10 : UInt8) ∉ cm) (hx : (10 : UInt8) ∉ x) : (10 : UInt8) ∉ decL_ cm x := by
  simp [decL_, hc, hx]
theorem split_one {m : List UInt8} (h : (10 : UInt8) ∉ m) : splitB 10 m = [m] := by
  have := splitB_fnd 10 m
  rw [fnd_not h] at this
  exact this
theorem split_jn {cm : List UInt8} (hc : (10 : UInt8) ∉ cm) : ∀ {ls : List (List UInt8)}, ls ≠ [] → (∀ x ∈ ls, (10 : UInt8) ∉ x) → splitB 10 (jn cm ls) = ls.map (decL_ cm)
  | [], h, _ => absurd rfl h
  | [x], _, hx => by
    rw [jn, split_one (dec_no10 hc (hx x (List.mem_cons_self ..)))]; rfl
  | x :: y :: r, _, hx => by
    rw [jn_cons cm x (by simp), split_line (dec_no10 hc (hx x (List.mem_cons_self ..))), split_jn hc (by simp) fun z hz => hx z (List.mem_cons_of_mem _ hz)]
    rfl
theorem splitF_no {cur l : List UInt8} (h : (10 : UInt8) ∉ cur) : ∀ p ∈ splitF 10 cur l, (10 : UInt8) ∉ p := by
  induction l generalizing cur with
  | nil => intro p hp; rw [splitF, List.mem_singleton] at hp; rw [hp]; exact h
  | cons x l ih =>
    intro p hp
    rw [splitF] at hp
    split at hp
    · rcases List.mem_cons.1 hp with rfl | hp
      · exact h
      · exact ih (by simp) p hp
    · rename_i hx
      refine ih (cur := cur ++ [x]) ?_ p hp
      intro hm
      rcases List.mem_append.1 hm with h1 | h1
      · exact h h1
      · rw [← List.mem_singleton.1 h1] at hx; exact hx rfl
theorem splitF_ne (c : Int) (cur l : List UInt8) : splitF c cur l ≠ [] := fun h => by
  have := splitF_pos c cur l
  rw [h] at this
  cases this
theorem jn_len (cm cur l : List UInt8) : (jn cm (splitF 10 cur l)).length = cur.length + l.length + (splitF 10 cur l).length * (4 + cm.length) := by
  induction l generalizing cur with
  | nil => simp [splitF, jn, decL_]; omega
  | cons x l ih =>
    rw [splitF]
    split
    · rw [jn_cons cm cur (splitF_ne _ _ _), List.length_append, List.length_cons, ih, List.length_cons, List.length_cons, Nat.add_mul]
      simp only [decL_, List.length_cons, List.length_append, List.length_nil]
      omega
    · rw [ih]
      simp
      omega
theorem asmF_map (cm : List UInt8) (t : Tab) (ls : List (List UInt8)) : ∀ (i : Nat) (w : List Int) (l : List (List UInt8 × Int)) (r : List (Int × Nat × List UInt8 × Int)), asmF t i w l r (ls.map (decL_ cm)) = asmF t i w l r ls := by
  induction ls with
  | nil => intros; rfl
  | cons x ls ih =>
    intro i w l r
    rw [List.map_cons]
    simp only [asmF, line_dec, ih]
theorem asm_comments {t : Tab} {cm tx : List UInt8} (hc : (10 : UInt8) ∉ cm) (hl : tx.length ≤ 20000) (hcl : cm.length ≤ 10) : asmR t (jn cm (splitB 10 tx)) = asmR t tx := by
  have h1 := jn_len cm [] tx
  have h2 := splitF_len 10 [] tx
  have h3 : (splitF 10 [] tx).length * (4 + cm.length) ≤ 20001 * 14 := Nat.mul_le_mul (by omega) (by omega)
  have h4 : ¬ 400000 < (jn cm (splitB 10 tx)).length := by
    unfold splitB
    rw [h1]
    simp only [List.length_nil]
    omega
  unfold asmR
  rw [if_neg h4, if_neg (by omega : ¬ 400000 < tx.length), split_jn (ls := splitB 10 tx) hc (splitF_ne _ _ _) (splitF_no (by simp)), asmF_map]
theorem one_line {cm : List UInt8} (h : (splitB 10 cm).length ≤ 1) : (10 : UInt8) ∉ cm := by
  have := split_count 10 cm
  have e : ((10 : UInt8).toNat : Int) = 10 := rfl
  rw [e] at this
  exact List.count_eq_zero.1 (by omega)
theorem take_snoc {α : Type} {l : List α} {k : Nat} {x : α} (h : l[k]? = some x) : l.take (k + 1) = l.take k ++ [x] := by
  rw [List.take_add_one, h]; rfl
theorem jn_step {cm : List UInt8} {l : List (List UInt8)} {k : Nat} {x : List UInt8} (h : l[k]? = some x) (hk : k ≠ 0) : jn cm (l.take (k + 1)) = ((((jn cm (l.take k) ++ [10]) ++ [32, 32]) ++ x) ++ [32, 59]) ++ cm := by
  have h0 : l.take k ≠ [] := by
    have := (List.getElem?_eq_some_iff.1 h).1
    intro e
    have := congrArg List.length e
    rw [List.length_take, List.length_nil] at this
    omega
  rw [take_snoc h, jn_snoc cm x h0]
  simp [decL_]
theorem jn_first {cm : List UInt8} {l : List (List UInt8)} {x : List UInt8} (h : l[0]? = some x) : jn cm (l.take (0 + 1)) = ((([] ++ [32, 32]) ++ x) ++ [32, 59]) ++ cm := by
  rw [take_snoc h]
  simp [jn, decL_]
end Go.Proofs.YteomcjpigoaioaaGreatDoor
namespace Go.Proofs.YteomcjpigoaioaaGreatDoor
open Go.FL
attribute [local irreducible] JC JO JA JB thenQ blockQ retQ AC fill CellsAt QE Ev Mid
set_option maxHeartbeats 2000000 in
set_option maxRecDepth 100000 in
theorem lawComments_ac (D : Nat) (L : Hl) (s : World) (hG : GW s) (t : Tab) (A : Option Addr) (n c : Nat) (hA : Inss s A n c t.ins) (tx cm : List UInt8) (htx : tx.length ≤ 9223372036854775807) (hcm : cm.length ≤ 1048576) : AC Tryz.prog D 6 [.agg #[.int .i64 t.cells, .slice A n c], St tx, St cm] L s fun v L' _ => v = .bool true ∧ L = L' := by
 refine AC_enter (TT := TT) (fn := Tryz.f6) TT_ok Tryz.func6 (by kernel_rfl) rfl Tryz.ntmps6 rfl (rs := [.tmp 6]) rfl [(0, _), (1, _), (2, _)] rfl ?_
 refine JC_seq ?_
 refine JC_region ?_
 refine JO_boxA rfl rfl ?_
 intro β1 s1 h1
 refine JO_q (QE_as rfl) rfl ?_
 refine JO_nil ?_
 refine thenQ_n ?_
 refine JC_seq ?_
 refine JC_seq ?_
 refine JC_region ?_
 refine JO_call (first := []) (captured := []) rfl rfl rfl (translated_ac D _ _ (hG.le h1)) ?_
 rintro _ _ s2 h2 ⟨rfl, rfl⟩
 refine JO_q (QE_notT rfl) rfl ?_
 refine JO_nil ?_
 refine thenQ_n ?_
 refine JC_ifF rfl ?_
 refine JC_skip ?_
 refine thenQ_n ?_
 refine JC_seq ?_
 refine JC_seq ?_
 refine JC_region ?_
 refine JO_q (QE_mv rfl) rfl ?_
 refine JO_call (first := []) (captured := []) rfl rfl rfl (split_ac D _ _ cm 10 (by omega)) ?_
 rintro _ _ s3 h3 ⟨rfl, Ac, nc, cc, rfl, hSc⟩
 have hnc := hSc.1
 refine JO_q (QE_lenS rfl rfl rfl) rfl ?_
 refine JO_q (QE_gt rfl rfl) rfl ?_
 refine JO_q (QE_mv rfl) rfl ?_
 refine JO_caseD (t := 20) rfl (fun c4 => ?_) (fun c4 => ?_)
 ·
  refine JO_gF rfl rfl rfl rfl ?_
  refine JO_gF rfl rfl rfl rfl ?_
  refine JO_gF rfl rfl rfl rfl ?_
  refine JO_q (QE_pickT rfl rfl) rfl ?_
  refine JO_q (QE_mv rfl) rfl ?_
  refine JO_gF rfl rfl rfl rfl ?_
  refine JO_gF rfl rfl rfl rfl ?_
  refine JO_gF rfl rfl rfl rfl ?_
  refine JO_q (QE_pickT rfl rfl) rfl ?_
  refine JO_nil ?_
  refine thenQ_n ?_
  refine JC_ifT rfl ?_
  refine JC_seq ?_
  refine JC_region ?_
  refine JO_q (QE_as rfl) rfl ?_
  refine JO_nil ?_
  refine thenQ_n ?_
  refine JC_ret ?_
  refine thenQ_r ?_
  refine retQ_mk [_] L (.inr rfl) (.tmp rfl (.nil)) rfl (Le.trans (Le.trans h1 h2) h3) (fun sR hS2 => ?_)
  exact ⟨rfl, rfl⟩
 ·
  refine JO_gT rfl rfl ?_
  refine JO_q (QE_mv rfl) rfl ?_
  refine JO_gT rfl rfl ?_
  refine JO_q (QE_lenT rfl rfl rfl) rfl ?_
  refine JO_gT rfl rfl ?_
  refine JO_q (QE_gt rfl rfl) rfl ?_
  refine JO_q (QE_pickF rfl rfl) rfl ?_
  refine JO_q (QE_mv rfl) rfl ?_
  refine JO_caseD (t := 25) rfl (fun c5 => ?_) (fun c5 => ?_)
  ·
   refine JO_gF rfl rfl rfl rfl ?_
   refine JO_gF rfl rfl rfl rfl ?_
   refine JO_gF rfl rfl rfl rfl ?_
   refine JO_q (QE_pickT rfl rfl) rfl ?_
   refine JO_nil ?_
   refine thenQ_n ?_
   refine JC_ifT rfl ?_
   refine JC_seq ?_
   refine JC_region ?_
   refine JO_q (QE_as rfl) rfl ?_
   refine JO_nil ?_
   refine thenQ_n ?_
   refine JC_ret ?_
   refine thenQ_r ?_
   refine retQ_mk [_] L (.inr rfl) (.tmp rfl (.nil)) rfl (Le.trans (Le.trans h1 h2) h3) (fun sR hS2 => ?_)
   exact ⟨rfl, rfl⟩
  ·
   refine JO_gT rfl rfl ?_
   refine JO_q (QE_mv rfl) rfl ?_
   refine JO_gT rfl rfl ?_
   refine JO_q (QE_lenT rfl rfl rfl) rfl ?_
   refine JO_gT rfl rfl ?_
   refine JO_q (QE_gt rfl rfl) rfl ?_
   refine JO_q (QE_pickF rfl rfl) rfl ?_
   refine JO_nil ?_
   refine thenQ_n ?_
   refine JC_ifD rfl (fun c6 => ?_) (fun c6 => ?_)
   ·
    refine JC_seq ?_
    refine JC_region ?_
    refine JO_q (QE_as rfl) rfl ?_
    refine JO_nil ?_
    refine thenQ_n ?_
    refine JC_ret ?_
    refine thenQ_r ?_
    refine retQ_mk [_] L (.inr rfl) (.tmp rfl (.nil)) rfl (Le.trans (Le.trans h1 h2) h3) (fun sR hS2 => ?_)
    exact ⟨rfl, rfl⟩
   ·
    refine JC_skip ?_
    refine thenQ_n ?_
    refine JC_seq ?_
    refine JC_region ?_
    refine JO_q (QE_mv rfl) rfl ?_
    refine JO_call (first := []) (captured := []) rfl rfl rfl (split_ac D _ _ tx 10 (by omega)) ?_
    rintro _ _ s7 h7 ⟨rfl, At, nt, ct, rfl, hSt⟩
    have hnt := hSt.1
    have hns := splitF_len 10 [] tx
    have hnt2 : nt = (splitF 10 [] tx).length := hnt
    refine JO_q (QE_as rfl) rfl ?_
    refine JO_nil ?_
    refine thenQ_n ?_
    refine JC_seq ?_
    refine JC_region ?_
    refine JO_q (QE_as rfl) rfl ?_
    refine JO_nil ?_
    refine thenQ_n ?_
    refine JC_seq ?_
    refine JC_seq ?_
    refine JC_region ?_
    refine JO_q (QE_as rfl) rfl ?_
    refine JO_nil ?_
    refine thenQ_n ?_
    refine JC_block ?_
    refine JC_loop (γ := Nat × List UInt8) (fun g => [(1, _), (2, _), (3, _), (6, _), (7, _), (8, St g.2), (9, .int .i64 (g.1 : Int))]) (fun _ => _) (fun g tw => Le D s7 tw ∧ (g.1 ≤ nt ∧ g.2 = jn cm ((splitB 10 tx).take g.1) ∧ g.2.length ≤ g.1 * 20030)) (fun g => nt - g.1) (fun _ _ _ h hl => ⟨h.1.trans hl, h.2⟩) (0, []) (Keeps.cons rfl (Keeps.cons rfl (Keeps.cons rfl (Keeps.cons rfl (Keeps.cons rfl (Keeps.cons rfl (Keeps.cons rfl (Keeps.nil _)))))))) rfl ⟨Le.refl _, ⟨Nat.zero_le _, rfl, by simp⟩⟩ ?_
    intro g s8 I8
    obtain ⟨k, out⟩ := g
    obtain ⟨hk0, hS, hol⟩ := I8.2
    simp only at hk0 hS hol
    dsimp only
    refine JC_seq ?_
    refine JC_seq ?_
    refine JC_region ?_
    refine JO_q (QE_mv rfl) rfl ?_
    refine JO_q (QE_mv rfl) rfl ?_
    refine JO_q (QE_lenS rfl rfl rfl) rfl ?_
    refine JO_q (QE_lt rfl rfl) rfl ?_
    refine JO_nil ?_
    refine thenQ_n ?_
    refine JC_ifD rfl (fun c9 => ?_) (fun c9 => ?_)
    ·
     have hk : k < nt := by omega
     obtain ⟨b, off, x, rfl, hx, hcx, hxl⟩ := Strs.at_ (hSt.le I8.1) hk
     have hxs := splitF_short 10 [] tx x (List.mem_of_getElem? hx)
     simp only [List.length_nil] at hxs
     refine JC_skip ?_
     refine thenQ_n ?_
     refine JC_seq ?_
     refine JC_block ?_
     refine JC_seq ?_
     refine JC_seq ?_
     refine JC_region ?_
     refine JO_q (QE_mv rfl) rfl ?_
     refine JO_q (QE_gt rfl rfl) rfl ?_
     refine JO_nil ?_
     refine thenQ_n ?_
     refine JC_ifD rfl (fun c10 => ?_) (fun c10 => ?_)
     ·
      have hk1 : k ≠ 0 := by omega
      refine JC_region ?_
      refine JO_q (QE_mv rfl) rfl ?_
      refine JO_q (QE_sadd rfl rfl (by simp only [List.length_append, List.length_cons, List.length_nil]; omega)) rfl ?_
      refine JO_q (QE_as rfl) rfl ?_
      refine JO_nil ?_
      refine thenQ_n ?_
      refine JC_region ?_
      refine JO_q (QE_mv rfl) rfl ?_
      refine JO_q (QE_sadd rfl rfl (by simp only [List.length_append, List.length_cons, List.length_nil]; omega)) rfl ?_
      refine JO_q (QE_mv rfl) rfl ?_
      refine JO_q (QE_mv rfl) rfl ?_
      refine JO_q (QE_ia1 rfl rfl rfl rfl rfl rfl hk) rfl ?_
      refine JO_q (QE_ldsR0 rfl rfl rfl (hcx.le (Le.refl (D := D) _)) rfl) rfl ?_
      refine JO_q (QE_sadd rfl rfl (by simp only [List.length_append, List.length_cons, List.length_nil]; omega)) rfl ?_
      refine JO_q (QE_sadd rfl rfl (by simp only [List.length_append, List.length_cons, List.length_nil]; omega)) rfl ?_
      refine JO_q (QE_mv rfl) rfl ?_
      refine JO_q (QE_sadd rfl rfl (by simp only [List.length_append, List.length_cons, List.length_nil]; omega)) rfl ?_
      refine JO_q (QE_as rfl) rfl ?_
      refine JO_nil ?_
      refine blockQ_n ?_
      refine thenQ_n ?_
      refine JC_region ?_
      refine JO_q (QE_mv rfl) rfl ?_
      refine JO_q (QE_add' rfl rfl (w64 (by omega) (by omega))) rfl ?_
      refine JO_q (QE_as rfl) rfl ?_
      refine JO_nil ?_
      refine thenQ_n ⟨(k + 1, ((((out ++ [10]) ++ [32, 32]) ++ x) ++ [32, 59]) ++ cm), [], (Keeps.cons rfl (Keeps.cons rfl (Keeps.cons rfl (Keeps.cons rfl (Keeps.cons rfl (Keeps.cons rfl (Keeps.cons rfl (Keeps.nil _)))))))), rfl, ⟨I8.1, by first | exact ⟨by simp only; omega, by simp only; rw [jn_step hx hk1, ← hS], by simp only [List.length_append, List.length_cons, List.length_nil]; omega⟩ | exact ⟨by simp only; omega, by simp only; rw [jn_first hx], by simp only [List.length_append, List.length_cons, List.length_nil]; omega⟩⟩, (by simp only; omega)⟩
     ·
      have hk1 : k = 0 := by omega
      subst hk1
      obtain rfl : out = [] := hS
      refine JC_skip ?_
      refine thenQ_n ?_
      refine JC_region ?_
      refine JO_q (QE_mv rfl) rfl ?_
      refine JO_q (QE_sadd rfl rfl (by simp only [List.length_append, List.length_cons, List.length_nil]; omega)) rfl ?_
      refine JO_q (QE_mv rfl) rfl ?_
      refine JO_q (QE_mv rfl) rfl ?_
      refine JO_q (QE_ia1 rfl rfl rfl rfl rfl rfl hk) rfl ?_
      refine JO_q (QE_ldsR0 rfl rfl rfl (hcx.le (Le.refl (D := D) _)) rfl) rfl ?_
      refine JO_q (QE_sadd rfl rfl (by simp only [List.length_append, List.length_cons, List.length_nil]; omega)) rfl ?_
      refine JO_q (QE_sadd rfl rfl (by simp only [List.length_append, List.length_cons, List.length_nil]; omega)) rfl ?_
      refine JO_q (QE_mv rfl) rfl ?_
      refine JO_q (QE_sadd rfl rfl (by simp only [List.length_append, List.length_cons, List.length_nil]; omega)) rfl ?_
      refine JO_q (QE_as rfl) rfl ?_
      refine JO_nil ?_
      refine blockQ_n ?_
      refine thenQ_n ?_
      refine JC_region ?_
      refine JO_q (QE_mv rfl) rfl ?_
      refine JO_q (QE_add' rfl rfl (w64 (by omega) (by omega))) rfl ?_
      refine JO_q (QE_as rfl) rfl ?_
      refine JO_nil ?_
      refine thenQ_n ⟨(0 + 1, ((([] ++ [32, 32]) ++ x) ++ [32, 59]) ++ cm), [], (Keeps.cons rfl (Keeps.cons rfl (Keeps.cons rfl (Keeps.cons rfl (Keeps.cons rfl (Keeps.cons rfl (Keeps.cons rfl (Keeps.nil _)))))))), rfl, ⟨I8.1, by first | exact ⟨by simp only; omega, by simp only; rw [jn_step hx hk1, ← hS], by simp only [List.length_append, List.length_cons, List.length_nil]; omega⟩ | exact ⟨by simp only; omega, by simp only; rw [jn_first hx], by simp only [List.length_append, List.length_cons, List.length_nil]; omega⟩⟩, (by simp only; omega)⟩
    ·
     have hS2 : out = jn cm (splitB 10 tx) := by rw [hS, List.take_of_length_le (by omega)]
     have hR : asmR t out = asmR t tx := by rw [hS2]; exact asm_comments (one_line (by omega)) (by omega) (by omega)
     have hWe : asmW t out = asmW t tx := by unfold asmW; rw [hR]
     have hFe : asmFt t out = asmFt t tx := by unfold asmFt; rw [hR]
     refine JC_exit ?_
     refine thenQ_x ?_
     refine thenQ_x ?_
     refine blockQ_x ?_
     refine thenQ_n ?_
     refine JC_seq ?_
     refine JC_region ?_
     refine JO_q (QE_ldA 0 [_, _] rfl rfl rfl rfl rfl) rfl ?_
     refine JO_q (QE_mv rfl) rfl ?_
     refine JO_call (first := []) (captured := []) rfl rfl rfl (assembleP_ac D _ _ (hG.le (Le.trans (Le.trans (Le.trans (Le.trans h1 h2) h3) h7) I8.1)) t _ _ _ (hA.le (Le.trans (Le.trans (Le.trans (Le.trans h1 h2) h3) h7) I8.1)) tx) ?_
     rintro _ _ s11 h11 ⟨rfl, A5, n5, c5, rfl, hW5⟩
     refine JO_q (QE_mv rfl) rfl ?_
     refine JO_q (QE_ext rfl rfl) rfl ?_
     refine JO_q (QE_ext rfl rfl) rfl ?_
     refine JO_allocZ rfl [_, _] rfl rfl ?_
     intro β12 s12 h12
     refine JO_q (QE_as rfl) rfl ?_
     refine JO_st 0 [_, _] rfl rfl rfl rfl rfl rfl rfl rfl rfl ?_
     refine JO_nil ?_
     refine thenQ_n ?_
     refine JC_seq ?_
     refine JC_region ?_
     refine JO_q (QE_ldA 1 [_, _] rfl rfl rfl rfl rfl) rfl ?_
     refine JO_q (QE_mv rfl) rfl ?_
     refine JO_call (first := []) (captured := []) rfl rfl rfl (assembleP_ac D _ _ (hG.le (Le.trans (Le.trans (Le.trans (Le.trans (Le.trans (Le.trans h1 h2) h3) h7) I8.1) h11) h12)) t _ _ _ (hA.le (Le.trans (Le.trans (Le.trans (Le.trans (Le.trans (Le.trans h1 h2) h3) h7) I8.1) h11) h12)) out) ?_
     rintro _ _ s13 h13 ⟨rfl, A6, n6, c6, rfl, hW6⟩
     refine JO_q (QE_mv rfl) rfl ?_
     refine JO_q (QE_ext rfl rfl) rfl ?_
     refine JO_q (QE_ext rfl rfl) rfl ?_
     refine JO_allocZ rfl [_, _] rfl rfl ?_
     intro β14 s14 h14
     refine JO_q (QE_as rfl) rfl ?_
     refine JO_st 0 [_, _] rfl rfl rfl rfl rfl rfl rfl rfl rfl ?_
     refine JO_nil ?_
     refine thenQ_n ?_
     refine JC_seq ?_
     refine JC_region ?_
     refine JO_q (QE_ldA 1 [_, _] rfl rfl rfl rfl rfl) rfl ?_
     refine JO_q (QE_ldA 0 [_, _] rfl rfl rfl rfl rfl) rfl ?_
     refine JO_q (QE_cast (v' := .bool true) (QE_aeq rfl rfl (eqFault _ _ _ _)) (bT (by rw [hFe]; exact ⟨rfl, rfl⟩))) rfl ?_
     refine JO_q (QE_mv rfl) rfl ?_
     refine JO_gT rfl rfl ?_
     refine JO_q (QE_mv rfl) rfl ?_
     refine JO_gT rfl rfl ?_
     refine JO_q (QE_mv rfl) rfl ?_
     refine JO_gT rfl rfl ?_
     refine JO_call (first := []) (captured := []) rfl rfl rfl (AC.isT (sameWords_ac D _ _ _ _ _ _ (hW5.le (Le.trans (Le.trans h12 h13) h14)) _ _ _ _ (hW6.le h14)) hWe.symm) ?_
     rintro _ _ s15 h15 ⟨rfl, rfl⟩
     refine JO_q (QE_pickT rfl rfl) rfl ?_
     refine JO_q (QE_as rfl) rfl ?_
     refine JO_nil ?_
     refine thenQ_n ?_
     refine JC_ret ?_
     refine retQ_mk [_, _, _] L (.inr rfl) (.tmp rfl (.nil)) rfl (Le.trans (Le.trans (Le.trans (Le.trans (Le.trans (Le.trans (Le.trans (Le.trans (Le.trans h1 h2) h3) h7) I8.1) h11) h12) h13) h14) h15) (fun sR hS2 => ?_)
     exact ⟨rfl, rfl⟩
end Go.Proofs.YteomcjpigoaioaaGreatDoor
namespace Go.Proofs.YteomcjpigoaioaaGreatDoor
open Go Go.FL Go.ChangeShapes Go.WideShapes Go.ChangeAt Go.RowKit Go.Deep
theorem own_knob : ownKnob Tryz.prog.godebug = none := by kernel_rfl
theorem laid_out : laidOutB Tryz.prog = true := by kernel_rfl
theorem mark_free (l : List Obj) : ∃ D, ∀ E, D ≤ E → ∀ o ∈ l, o ≠ dum E := by
  induction l with
  | nil => exact ⟨0, fun _ _ _ h => by cases h⟩
  | cons x l ih =>
    obtain ⟨D, hD⟩ := ih
    have hx : ∃ B, ∀ E, B ≤ E → x ≠ dum E := by
      cases x with
      | mapIter a n b c => exact ⟨n + 1, fun E hE h => by simp only [dum, Obj.mapIter.injEq] at h; omega⟩
      | _ => exact ⟨0, fun E _ h => by simp [dum] at h⟩
    obtain ⟨B, hB⟩ := hx
    refine ⟨max D B, fun E hE o ho => ?_⟩
    rcases List.mem_cons.1 ho with rfl | ho
    · exact hB E (by omega)
    · exact hD E (by omega) o ho
theorem mark_world (W : World) : ∃ D, ∀ k : Nat, W.heap[k]? ≠ some (dum D) := by
  obtain ⟨D, hD⟩ := mark_free W.heap.toList
  refine ⟨D, fun k hk => hD D (Nat.le_refl _) (dum D) ?_ rfl⟩
  rw [← Array.getElem?_toList] at hk
  exact List.mem_of_getElem? hk
theorem below_of {D : Nat} {W W' : World} (hD : ∀ k : Nat, W.heap[k]? ≠ some (dum D)) (h : Le D W W') : Below W.heap.size W W' :=
  ⟨h.os, h.tape, h.output, h.size, fun k hk => (h.block k hk).resolve_left (hD k)⟩
theorem law_calls {P : Program} {f : FuncId} {args : List Value} {W : World} (h : ∀ D, AC P D f args [] W fun v L' _ => v = .bool true ∧ [] = L') :
    Calls P f args.toArray W fun e W' => e = .returned (.bool true) ∧ Below W.heap.size W W' := by
  obtain ⟨D, hD⟩ := mark_world W
  refine ((h D).2 ⟨by simp, fun x hx => by cases hx⟩).mono ?_
  rintro e w' ⟨v, L', s', h1, rfl, h3, h4, rfl, rfl⟩
  exact ⟨h1, below_of hD h4⟩
section
variable {H : Type} {enc : TypeId × Value → H} {P : Program}
theorem trodAll_stays {W W' : World} (hl : laidOutB P = true) (hb : Below W.heap.size W W') : ∀ {ts : List TypeId} {vs : List Value} {ds : List (DataW H)} {ps : List MemPlace}, (∀ t ∈ ts, P.readableRec t = true ∧ t < P.types.size) → (∀ x ∈ ps, x.block < W.heap.size) →
    DataW.TrodAll enc P W 0 (fun _ => true) true ts vs ds ps → DataW.TrodAll enc P W' 0 (fun b => decide (b < W.heap.size)) true ts vs ds ps
  | [], _, _, _, _, _, h => by
    obtain ⟨rfl, rfl, rfl⟩ := trodAll_nil h
    exact trodAll_mk0
  | t :: ts, _, _, _, hts, hp, h => by
    obtain ⟨v, vs, d, ds, a, b, rfl, rfl, rfl, h1, h2⟩ := trodAll_cons h
    have ht := hts t (List.mem_cons_self ..)
    exact trodAll_cons_mk (Below.trod hl ht.1 ht.2 h1 hb fun x hx => hp x (List.mem_append_left _ hx)) (trodAll_stays hl hb (fun t' h' => hts t' (List.mem_cons_of_mem _ h')) (fun x hx => hp x (List.mem_append_right _ hx)) h2)
theorem law_post {fn : Func} {s : ChangeSpec} {W W' : World} {args : Array Value} {ds gs : List (DataW H)} {before : List MemPlace} {tb : TypeId} (hl : laidOutB P = true) (hts : ∀ t ∈ fn.params.toList, P.readableRec t = true ∧ t < P.types.size) (hr : fn.resultTypes = #[tb]) (hb : P.underlying tb = some .bool)
    (hv : s.vars = []) (hW : DataW.Whole enc P fn.params.toList s.vars false W args.toList ds gs before) (hfn : s.fn H ds = { results := [.lit (.bool true)], args := ds }) (hB : Below W.heap.size W W') : s.post enc P fn false true false false W args (.bool true) W' := by
  have hlt : ∀ x ∈ before, x.block < W.heap.size := fun x hx => hW.lt x hx
  have hW' := hW
  obtain ⟨p, q, hA, hV, rfl, _, _⟩ := hW
  rw [hv] at hV
  obtain ⟨rfl, rfl⟩ := trodVars_none hV
  refine ⟨ds, [], p ++ [], [], p, [], hW', ?_, ?_, ?_, hB.frame _, fun h => by cases h⟩
  · rw [List.append_nil, hfn, hr]; exact trodAll_cons_mk (shut_bool hb _) trodAll_mk0
  · rw [List.append_nil, hfn]; exact trodAll_stays hl hB hts (fun x hx => hlt x (List.mem_append_left _ hx)) hA
  · rw [List.append_nil, hfn, hv]; rfl
end
def Rd (W : World) (t : TypeId) (cs : List Value) : Prop := ∃ (H : Type) (enc : TypeId × Value → H) (n : Nat) (x : DataW H × List MemPlace), DataW.trod enc Tryz.prog W 0 (fun _ => true) true n t cs = some x
section
variable {W : World} {t e : TypeId} {cs : List Value}
theorem rd_int {k : IntKind} (ht : Tryz.prog.underlying t = some (.int k)) (h : Rd W t cs) : ∃ n, cs = [.int k n] ∧ (Lit.int k n).wf = true := by
  obtain ⟨H, enc, n, x, h⟩ := h
  obtain ⟨i, h1, _, h2⟩ := DataW.trod_int ht h
  exact ⟨i, h1, h2⟩
theorem rd_bool (ht : Tryz.prog.underlying t = some .bool) (h : Rd W t cs) : ∃ b, cs = [.bool b] := by
  obtain ⟨H, enc, n, x, h⟩ := h
  obtain ⟨i, h1, _⟩ := DataW.trod_bool ht h
  exact ⟨i, h1⟩
theorem rd_str (ht : Tryz.prog.underlying t = some .string) (h : Rd W t cs) : ∃ l : List UInt8, cs = [St l] ∧ l.length ≤ 9223372036854775807 := by
  obtain ⟨H, enc, n, x, h⟩ := h
  obtain ⟨s, h1, _, h2⟩ := DataW.trod_string ht h
  refine ⟨s.data.toList, by rw [h1], ?_⟩
  have : s.data.toList.length = s.size := by rw [Array.length_toList]; rfl
  simp only [maxLen] at h2
  omega
theorem rd_field {fs : Array Field} (ht : Tryz.prog.underlying t = some (.struct fs)) (h : Rd W t cs) {sz : Nat} (hc : Tryz.prog.cellsOf t = sz) : cs.length = sz ∧ ∀ (i : Nat) (f : Field), fs[i]? = some f → ∀ (ty off n : Nat), f.type = ty → f.offset = off → Tryz.prog.cellsOf ty = n → Rd W ty ((cs.drop off).take n) := by
  obtain ⟨H, enc, n, x, h⟩ := h
  obtain ⟨xs, m, _, _, h1, h2, h3⟩ := DataW.trod_struct ht h
  refine ⟨h1.trans hc, fun i f hf ty off k e1 e2 e3 => ?_⟩
  have hi : i < xs.length := by rw [h2]; exact (Array.getElem?_eq_some_iff.1 hf).1
  have := h3 i f hf
  rw [List.getElem?_eq_getElem hi, e1, e2, e3] at this
  exact ⟨H, enc, m, _, this⟩
theorem rd_slice {sz : Nat} (ht : Tryz.prog.underlying t = some (.slice e)) (hc : Tryz.prog.cellsOf e = sz) (hp : 0 < sz) (h : Rd W t cs) : ∃ A n c, cs = [.slice A n c] ∧ n ≤ c ∧ c ≤ 9223372036854775807 ∧
    ∀ i, i < n → ∃ b off ds, A = some ⟨b, off, none⟩ ∧ CellsAt W b (off + i * sz) ds ∧ ds.length = sz ∧ Rd W e ds := by
  obtain ⟨H, enc, q, x, h⟩ := h
  rcases open_slice ht h with ⟨rfl, _⟩ | ⟨a, len, cap, m, k, D, Pl, rfl, _, h1, h2, h3, _, h4⟩
  · exact ⟨none, 0, 0, rfl, Nat.le_refl _, by omega, fun i hi => by omega⟩
  · simp only [maxLen] at h2
    refine ⟨some a, len, cap, rfl, h1, by omega, fun i hi => ?_⟩
    obtain ⟨ds, k1, k2⟩ := h4 i (by simp at h3; omega)
    rw [hc] at k1
    obtain ⟨_, k3, k4⟩ := World.cells?_some k1
    obtain ⟨b, off, spot⟩ := a
    have hs : spot = none := by
      obtain ⟨ds0, j1, _⟩ := h4 0 (by simp at h3; omega)
      rw [hc, Nat.zero_mul] at j1
      obtain ⟨_, j3, j4⟩ := World.cells?_some j1
      have := j4 0 hp
      rw [List.getElem?_eq_getElem (by omega)] at this
      simpa [Addr.add] using World.cell?_spot this
    subst hs
    refine ⟨b, off, ds, rfl, fun j v hj => ?_, k3, H, enc, k, _, k2⟩
    have hl : j < sz := by rw [← k3]; exact (List.getElem?_eq_some_iff.1 hj).1
    have := k4 j hl
    rw [hj, add_lit, add_lit] at this
    exact this
theorem sl_of {α : Type} [Inhabited α] {R : World → α → List Value → Prop} {sz : Nat} (ht : Tryz.prog.underlying t = some (.slice e)) (hc : Tryz.prog.cellsOf e = sz) (hp : 0 < sz) (h : Rd W t cs) (hel : ∀ ds, Rd W e ds → ∃ x : α, R W x ds) : ∃ A n c l, cs = [.slice A n c] ∧ Sl sz R W A n c l := by
  obtain ⟨A, n, c, h1, h2, h3, h4⟩ := rd_slice ht hc hp h
  obtain ⟨f, hf⟩ := choose_lt (α := α) (p := fun i x => ∃ b off ds, A = some ⟨b, off, none⟩ ∧ CellsAt W b (off + i * sz) ds ∧ ds.length = sz ∧ R W x ds) (n := n) (fun i hi => by
    obtain ⟨b, off, ds, k1, k2, k3, k4⟩ := h4 i hi
    obtain ⟨x, hx⟩ := hel ds k4
    exact ⟨x, b, off, ds, k1, k2, k3, hx⟩)
  refine ⟨A, n, c, (List.range n).map f, h1, by simp, h2, h3, fun i x hi => ?_⟩
  rw [List.getElem?_map] at hi
  cases hr : (List.range n)[i]? with
  | none => simp [hr] at hi
  | some j =>
    simp [hr] at hi
    obtain ⟨hi1, hi2⟩ := List.getElem?_eq_some_iff.1 hr
    simp at hi1 hi2
    subst hi2; subst hi
    exact hf i hi1
theorem len2 {l : List Value} (h : l.length = 2) : ∃ a b, l = [a, b] := by match l, h with | [a, b], _ => exact ⟨a, b, rfl⟩
theorem len4 {l : List Value} (h : l.length = 4) : ∃ a b c d, l = [a, b, c, d] := by match l, h with | [a, b, c, d], _ => exact ⟨a, b, c, d, rfl⟩
theorem len6 {l : List Value} (h : l.length = 6) : ∃ a b c d e f, l = [a, b, c, d, e, f] := by match l, h with | [a, b, c, d, e, f], _ => exact ⟨a, b, c, d, e, f, rfl⟩
theorem one_eq {a b : Value} (h : [a] = [b]) : a = b := by injection h
theorem u32_wf {n : Int} (h : (Lit.int .u32 n).wf = true) : U32 n := by have := bounds_u32 h; exact ⟨by omega, by omega⟩
end
end Go.Proofs.YteomcjpigoaioaaGreatDoor
namespace Go.Proofs.YteomcjpigoaioaaGreatDoor
open Go Go.FL Go.ChangeShapes Go.WideShapes Go.ChangeAt Go.RowKit
set_option maxRecDepth 100000
instance : Inhabited Ac := ⟨⟨0, 0, ⟨0, 0⟩, ⟨0, 0⟩⟩⟩
instance : Inhabited Ins := ⟨⟨[], 0, false, []⟩⟩
theorem c_int : Tryz.prog.cellsOf 3 = 1 := by kernel_rfl
theorem c_u32 : Tryz.prog.cellsOf 52 = 1 := by kernel_rfl
theorem c_bool : Tryz.prog.cellsOf 4 = 1 := by kernel_rfl
theorem c_str : Tryz.prog.cellsOf 9 = 1 := by kernel_rfl
theorem c_term : Tryz.prog.cellsOf 115 = 2 := by kernel_rfl
theorem c_act : Tryz.prog.cellsOf 117 = 6 := by kernel_rfl
theorem c_acts : Tryz.prog.cellsOf 95 = 1 := by kernel_rfl
theorem c_ins : Tryz.prog.cellsOf 97 = 4 := by kernel_rfl
theorem c_inss : Tryz.prog.cellsOf 22 = 1 := by kernel_rfl
theorem c_tab : Tryz.prog.cellsOf 24 = 2 := by kernel_rfl
section
variable {W : World} {cs : List Value}
theorem rd_term (h : Rd W 115 cs) : ∃ x : Tm, cs = [.int .i64 x.kind, .int .u32 x.val] ∧ U32 x.val := by
  obtain ⟨h1, h2⟩ := rd_field Tryz.underlying115 h c_term
  obtain ⟨a, b, rfl⟩ := len2 h1
  obtain ⟨k, e1, _⟩ := rd_int Tryz.underlying3 (h2 0 _ rfl _ _ _ rfl rfl c_int)
  obtain ⟨v, e2, w2⟩ := rd_int Tryz.underlying52 (h2 1 _ rfl _ _ _ rfl rfl c_u32)
  have z1 : a = .int .i64 k := one_eq e1
  have z2 : b = .int .u32 v := one_eq e2
  subst z1; subst z2
  exact ⟨⟨k, v⟩, rfl, u32_wf w2⟩
theorem rd_action (h : Rd W 117 cs) : ∃ a : Ac, cs = a.cs ∧ U32 a.x.val ∧ U32 a.y.val := by
  obtain ⟨h1, h2⟩ := rd_field Tryz.underlying117 h c_act
  obtain ⟨a, b, c, d, e, f, rfl⟩ := len6 h1
  obtain ⟨k, e1, _⟩ := rd_int Tryz.underlying3 (h2 0 _ rfl _ _ _ rfl rfl c_int)
  obtain ⟨t, e2, _⟩ := rd_int Tryz.underlying3 (h2 1 _ rfl _ _ _ rfl rfl c_int)
  obtain ⟨x, e3, wx⟩ := rd_term (h2 2 _ rfl _ _ _ rfl rfl c_term)
  obtain ⟨y, e4, wy⟩ := rd_term (h2 3 _ rfl _ _ _ rfl rfl c_term)
  have z1 : a = .int .i64 k := one_eq e1
  have z2 : b = .int .i64 t := one_eq e2
  have y3 : [c, d] = [.int .i64 x.kind, .int .u32 x.val] := e3
  have y4 : [e, f] = [.int .i64 y.kind, .int .u32 y.val] := e4
  injection y3 with z3 x3'
  injection y4 with z4 x4'
  have z3' : d = .int .u32 x.val := one_eq x3'
  have z4' : f = .int .u32 y.val := one_eq x4'
  subst z1; subst z2; subst z3; subst z3'; subst z4; subst z4'
  exact ⟨⟨k, t, x, y⟩, rfl, wx, wy⟩
theorem rd_acts (h : Rd W 95 cs) : ∃ A n c l, cs = [.slice A n c] ∧ Acs W A n c l := sl_of Tryz.underlying95 c_act (by decide) h fun _ hd => rd_action hd
theorem rd_ins (h : Rd W 97 cs) : ∃ x : Ins, InsR W x cs := by
  obtain ⟨h1, h2⟩ := rd_field Tryz.underlying97 h c_ins
  obtain ⟨a, b, c, d, rfl⟩ := len4 h1
  obtain ⟨l, e1, w1⟩ := rd_str Tryz.underlying9 (h2 0 _ rfl _ _ _ rfl rfl c_str)
  obtain ⟨v, e2, w2⟩ := rd_int Tryz.underlying52 (h2 1 _ rfl _ _ _ rfl rfl c_u32)
  obtain ⟨o, e3⟩ := rd_bool Tryz.underlying4 (h2 2 _ rfl _ _ _ rfl rfl c_bool)
  obtain ⟨A, n, q, la, e4, w4⟩ := rd_acts (h2 3 _ rfl _ _ _ rfl rfl c_acts)
  have z1 : a = St l := one_eq e1
  have z2 : b = .int .u32 v := one_eq e2
  have z3 : c = .bool o := one_eq e3
  have z4 : d = .slice A n q := one_eq e4
  subst z1; subst z2; subst z3; subst z4
  exact ⟨⟨l, v, o, la⟩, A, n, q, rfl, w4, w1, u32_wf w2⟩
theorem rd_inss (h : Rd W 22 cs) : ∃ A n c l, cs = [.slice A n c] ∧ Inss W A n c l := sl_of Tryz.underlying22 c_ins (by decide) h fun _ hd => rd_ins hd
theorem rd_table (h : Rd W 24 cs) : ∃ (t : Tab) (A : Option Addr) (n c : Nat), cs = [.int .i64 t.cells, .slice A n c] ∧ Inss W A n c t.ins := by
  obtain ⟨h1, h2⟩ := rd_field Tryz.underlying24 h c_tab
  obtain ⟨a, b, rfl⟩ := len2 h1
  obtain ⟨k, e1, _⟩ := rd_int Tryz.underlying3 (h2 0 _ rfl _ _ _ rfl rfl c_int)
  obtain ⟨A, n, c, l, e2, w2⟩ := rd_inss (h2 1 _ rfl _ _ _ rfl rfl c_inss)
  have z1 : a = .int .i64 k := one_eq e1
  have z2 : b = .slice A n c := one_eq e2
  subst z1; subst z2
  exact ⟨⟨k, l⟩, A, n, c, rfl, w2⟩
end
section
variable {H : Type} {enc : TypeId × Value → H} {W : World} {base : Nat} {v : Value} {d : DataW H} {ps : List MemPlace}
theorem rd_of {t : TypeId} (hd : DataW.Trod enc Tryz.prog W 0 (fun _ => true) true t v d ps) : Rd W t v.cells.toList := by
  obtain ⟨n, h⟩ := hd
  exact ⟨H, enc, n, _, h⟩
theorem agg_of {t : TypeId} {fs : Array Field} (ht : Tryz.prog.underlying t = some (.struct fs)) (hv : Value.okWide Tryz.prog W .any base t v) : ∃ cs, v = .agg cs := by
  unfold Value.okWide at hv
  rw [ht] at hv
  obtain ⟨cs, h, _⟩ := hv
  exact ⟨cs, h⟩
theorem arg_table (hv : Value.okWide Tryz.prog W .any base 24 v) (hd : DataW.Trod enc Tryz.prog W 0 (fun _ => true) true 24 v d ps) : ∃ (t : Tab) (A : Option Addr) (n c : Nat), v = .agg #[.int .i64 t.cells, .slice A n c] ∧ Inss W A n c t.ins := by
  obtain ⟨cs, rfl⟩ := agg_of Tryz.underlying24 hv
  obtain ⟨t, A, n, c, h1, h2⟩ := rd_table (rd_of hd)
  refine ⟨t, A, n, c, ?_, h2⟩
  simp only [Value.cells] at h1
  rw [← h1]
end
end Go.Proofs.YteomcjpigoaioaaGreatDoor
namespace Go.Proofs.YteomcjpigoaioaaGreatDoor
open Go Go.FL Go.RowKit
theorem row_err (u : TypeId) (hu : Tryz.prog.typeName? 3 u = Tryz.prog.typeName? 3 247) : u = 247 :=
  have hn : Tryz.prog.typeName? 3 247 = some ("*" ++ "errors.errorString") := by kernel_rfl
  typeName_ptr_named (nm := "errors.errorString") (by kernel_rfl) (by kernel_rfl) (by decide) u (hu.trans hn)
theorem gw_var {W : World} {nm : String} {g : Nat} {cs : Array Value} (hg : Tryz.prog.globalNamed nm = some g) (h : W.var? Tryz.prog nm = some cs) : ∃ ty fz, W.heap[g]? = some (.cells cs ty fz) := by
  unfold World.var? at h
  rw [hg] at h
  simp only [Option.bind_some] at h
  split at h
  · rename_i c t f hb
    injection h with h
    subst h
    exact ⟨t, f, hb⟩
  · cases h
set_option maxRecDepth 100000 in
theorem gw_of {W : World} (h : laidMetH Tryz.prog Rows.asmPackIsInverseRow.laid W) : GW W := by
  rw [MakeChecks.laidMetH_plain _ _ _ (by kernel_rfl)] at h
  have h2 := h.tail.tail
  have hpow := Lib.tabIs_of_head (zs := Lib.pow10Tab) (k := .u64) (g := 0) (by kernel_rfl) (by kernel_rfl) Tryz.underlying220 Tryz.underlying123 (by kernel_rfl) (by kernel_rfl) h2
  have h4 := h2.tail.tail
  obtain ⟨a1, s1, hv1, _⟩ := laid_sentinel (g := 7) h4 (by kernel_rfl) (by kernel_rfl) Tryz.underlying106 (fun u hu => row_err u (hu.trans (by kernel_rfl))) Tryz.underlying247 Tryz.underlying249 rfl rfl Tryz.underlying9 (by kernel_rfl) (by kernel_rfl)
  obtain ⟨a2, s2, hv2, _⟩ := laid_sentinel (g := 6) h4.tail (by kernel_rfl) (by kernel_rfl) Tryz.underlying106 (fun u hu => row_err u (hu.trans (by kernel_rfl))) Tryz.underlying247 Tryz.underlying249 rfl rfl Tryz.underlying9 (by kernel_rfl) (by kernel_rfl)
  refine ⟨?_, ?_, ?_⟩
  · exact gw_var (g := 0) (by kernel_rfl) hpow
  · exact ⟨_, _, World.var?_cell (g := 6) (by kernel_rfl) hv2 0⟩
  · exact ⟨_, _, World.var?_cell (g := 7) (by kernel_rfl) hv1 0⟩
end Go.Proofs.YteomcjpigoaioaaGreatDoor
namespace Go.Proofs.YteomcjpigoaioaaGreatDoor
open Go Go.FL Go.ChangeShapes Go.WideShapes Go.ChangeAt Go.RowKit Go.Deep
set_option maxRecDepth 100000
section
variable {H : Type} {enc : TypeId × Value → H} {W : World} {base : Nat} {v : Value} {d : DataW H} {ps : List MemPlace}
theorem arg_strD (hv : Value.okWide Tryz.prog W .any base 9 v) (hd : DataW.Trod enc Tryz.prog W 0 (fun _ => true) true 9 v d ps) : ∃ l, v = St l ∧ d = .lit (.string l) ∧ l.length ≤ 9223372036854775807 := by
  obtain ⟨x, h1, h2⟩ := rd_str Tryz.underlying9 (rd_of hd)
  obtain ⟨u, hu, hdd, _, _⟩ := ChangeMaps.open_string Tryz.underlying9 hv hd
  subst hu
  have hx : Value.string u = St x := one_eq h1
  injection hx with hx
  subst hx
  exact ⟨x, rfl, by rw [hdd], h2⟩
theorem small_str {a b : DataW H} {l : List UInt8} (h : Rows.uptoSmall H [a, b, .lit (.string l)] = true) : l.length ≤ 1048576 := by
  have h1 := of_decide_eq_true h
  simp only [Rows.uptoBulkAll, Rows.uptoBulk] at h1
  omega
theorem pre_small {P : Program} {fn : Func} {s : ChangeSpec} {w : World} {args : Array Value} {fuel : Nat} (h : (match DataW.whole enc P w fn.params.toList s.vars false args.toList fuel with | some x => Rows.uptoSmall H (x.1 ++ x.2.1) | none => false) = true) : (Rows.OpenSpec.upto s).pre enc P fn [] false w args := by
  cases hx : DataW.whole enc P w fn.params.toList s.vars false args.toList fuel with
  | none => rw [hx] at h; cases h
  | some x => rw [hx] at h; exact (OpenSpec.pre_some rfl _ _ _ _).2 ⟨x.1, x.2.1, x.2.2, DataW.Whole_of_whole hx, rfl, h⟩
end
end Go.Proofs.YteomcjpigoaioaaGreatDoor
namespace Go.Proofs.YteomcjpigoaioaaGreatDoor
open Go Go.FL Go.ChangeShapes Go.WideShapes Go.ChangeAt Go.RowKit
theorem asmCommentsDoNotMatter_reads : ∀ t ∈ Tryz.f6.params.toList, Tryz.prog.readableRec t = true ∧ t < Tryz.prog.types.size := by
  rw [Tryz.params6]
  intro t ht
  simp only [List.mem_cons, List.not_mem_nil, or_false] at ht
  rcases ht with rfl | rfl | rfl <;> exact ⟨by kernel_rfl, of_decide_eq_true (by kernel_rfl)⟩
set_option maxRecDepth 100000 in
theorem asmCommentsDoNotMatter_contract (H : Type) (enc : TypeId × Value → H) (W : World) (base : Nat) (args : Array Value) (ds gs : List (DataW H)) (before : List MemPlace)
    (hval : ∀ (j : Nat) t v, Tryz.f6.params[j]? = some t → args[j]? = some v → Value.okWide Tryz.prog W .any base t v)
    (hW : DataW.Whole enc Tryz.prog Tryz.f6.params.toList Rows.asmCommentsDoNotMatterSpec.vars false W args.toList ds gs before) (hL : laidMetH Tryz.prog Rows.asmCommentsDoNotMatterUptoRow.laid W) (hk : Rows.uptoSmall H (ds ++ gs) = true) :
    Calls Tryz.prog 6 args W fun e W' => ∃ v, e = .returned v ∧ Rows.asmCommentsDoNotMatterSpec.post enc Tryz.prog Tryz.f6 false true false false W args v W' := by
  have hW' := hW
  obtain ⟨p, q, hA0, hV, rfl, hfz, hnd⟩ := hW'
  have hA : DataW.TrodAll enc Tryz.prog W 0 (fun _ => true) true Tryz.f6.params.toList args.toList ds p := hA0
  rw [Tryz.params6] at hA hval
  obtain ⟨v0, vs0, d0, ds0, p0, q0, hargs0, rfl, rfl, h0, r0⟩ := trodAll_cons hA
  obtain ⟨v1, vs1, d1, ds1, p1, q1, hargs1, rfl, rfl, h1, r1⟩ := trodAll_cons r0
  obtain ⟨v2, vs2, d2, ds2, p2, q2, hargs2, rfl, rfl, h2, r2⟩ := trodAll_cons r1
  obtain ⟨rfl, rfl, rfl⟩ := trodAll_nil r2
  obtain rfl : args = #[v0, v1, v2] := by cases args; simp_all
  obtain ⟨rfl, rfl⟩ := trodVars_none hV
  simp only [List.append_nil] at hk
  obtain ⟨t0, A0, n0, c0, rfl, hT0⟩ := arg_table (hval 0 24 v0 rfl rfl) h0
  obtain ⟨l1, rfl, hd1, hL1⟩ := arg_strD (hval 1 9 v1 rfl rfl) h1
  obtain ⟨l2, rfl, hd2, hL2⟩ := arg_strD (hval 2 9 v2 rfl rfl) h2
  subst hd2
  have hk2 := small_str hk
  refine (law_calls (args := [_, _, _]) fun D => lawComments_ac D [] W (gw_of hL) t0 A0 n0 c0 hT0 l1 l2 hL1 hk2).mono fun e W' ⟨he, hg⟩ => ?_
  subst he
  exact ⟨_, rfl, law_post laid_out asmCommentsDoNotMatter_reads (by kernel_rfl) Tryz.underlying4 rfl hW rfl hg⟩
set_option maxRecDepth 100000 in
theorem asmCommentsDoNotMatter_lifted (os : Os) (started : os.Started) (H : Type) (enc : TypeId × Value → H) (F : Stop.Interp) :
    ReturnsInHanded {} Tryz.checked os 6 .any (Rows.asmCommentsDoNotMatterUptoRow.pre enc Tryz.prog Tryz.f6 (Rows.OpenSpec.upto Rows.asmCommentsDoNotMatterSpec)) (((Rows.OpenSpec.upto Rows.asmCommentsDoNotMatterSpec).at F).post enc Tryz.prog Tryz.f6 false true false false) := by
  refine returnsInHanded_of_calls own_knob started (by kernel_rfl) ?_ ?_
  · obtain ⟨w, tape, i, h1, h2, h3, h4, ⟨⟨_, hX⟩, h5⟩, h6⟩ := ChangeSpec.witness_shaped (H := H) (enc := enc) (C := Tryz.checked) (os := os) (f := 6) (fn := Tryz.f6) (s := Rows.asmCommentsDoNotMatterSpec) (conds := []) (apart := false) (X := fun w args => laidMetH Tryz.prog Rows.asmCommentsDoNotMatterUptoRow.laid w ∧ (Rows.OpenSpec.upto Rows.asmCommentsDoNotMatterSpec).pre enc Tryz.prog Tryz.f6 [] false w args) false (World.laidAll Tryz.prog os Rows.asmCommentsDoNotMatterUptoRow.laid) #[.agg #[.int .i64 0, .slice none 0 0], .string .empty, .string .empty] 8 (World.laidAll_os _ _ _)
      (World.shaped_of_ZipB (by kernel_rfl) (by kernel_rfl)) (by kernel_rfl) (by kernel_rfl) (by kernel_rfl)
      ⟨by rw [MakeChecks.laidMetH_plain _ _ _ (by kernel_rfl)]; exact laidMet_laidAll _ (by kernel_rfl) (by kernel_rfl),
        pre_small (fuel := 8) (by kernel_rfl)⟩
    exact ⟨w, tape, i, h1, h2, h3, h4, ⟨⟨hX.2, hX.1⟩, h5⟩, h6⟩
  · intro w tape i _ _ _ hok hpre _
    obtain ⟨_, _, _, fn', hfn', _, _, _, _, hval⟩ := hok
    obtain rfl : fn' = Tryz.f6 := Option.some.inj (hfn'.symm.trans Tryz.func6)
    obtain ⟨⟨hp, hl⟩, _⟩ := hpre
    obtain ⟨ds, gs, before, hw, _, hkk⟩ := (OpenSpec.pre_some rfl _ _ _ _).1 hp
    have hw' := DataW.Whole.of_heap (w' := w.forCall tape i) (by rfl) hw
    refine (asmCommentsDoNotMatter_contract H enc (w.forCall tape i) w.heap.size i.args ds gs before hval hw' (hl.of_heap (by rfl)) hkk).mono fun e W' ⟨v, he, hp⟩ => ?_
    subst he
    exact ChangeSpec.post_blind hp
theorem asmCommentsDoNotMatter_said : Rows.AsmCommentsDoNotMatterUptoSaid :=
  OpenClaim.holds_of_cond 6 Tryz.f6 rfl rfl rfl rfl rfl rfl rfl ⟨rfl, rfl, rfl, rfl, rfl⟩ rfl rfl rfl rfl rfl (by kernel_rfl) Tryz.func6 (by kernel_rfl)
    (of_decide_eq_true (by kernel_rfl)) (by unfold Func.isWrapper; first | (rw [if_pos (by decide +kernel)]; kernel_rfl) | (rw [if_neg (by decide +kernel)]; exact ⟨rfl, rfl⟩))
    (fun os started H enc _ F => asmCommentsDoNotMatter_lifted os started H enc F)
theorem asmCommentsDoNotMatter_plain (f : FuncId) (fn : Func) (hf : Tryz.pinned.checked.prog.funcNamed Rows.asmCommentsDoNotMatterUptoRow.func = some f) (hfn : Tryz.pinned.checked.prog.funcs[f]? = some fn) : true = Tryz.pinned.checked.prog.looks [] ∧ ∀ (j : Nat) t, fn.params[j]? = some t → Tryz.pinned.checked.prog.wantsStandIn t = false := by
  obtain rfl : f = 6 := Option.some.inj ((show Tryz.prog.funcNamed Rows.asmCommentsDoNotMatterUptoRow.func = some 6 by kernel_rfl).symm.trans hf) |>.symm
  obtain rfl : fn = Tryz.f6 := (Option.some.inj (Tryz.func6.symm.trans hfn)).symm
  exact ⟨by kernel_rfl, fun j t ht => by
    rw [Tryz.params6] at ht
    have hm : t ∈ [24, 9, 9] := by simpa using Array.mem_of_getElem? ht
    have hall : ([24, 9, 9].all fun u => !Tryz.prog.wantsStandIn u) = true := by kernel_rfl
    exact (show Tryz.prog.wantsStandIn t = false by simpa using List.all_eq_true.1 hall t hm)⟩
theorem asmCommentsDoNotMatter_holds : Rows.AsmCommentsDoNotMatterUptoCardSaid :=
  Claim7.holds_tied_plain_at .later [] _ _ _ _ asmCommentsDoNotMatter_said (fun _ h => by cases h) (by kernel_rfl) (fun _ h => by cases h) asmCommentsDoNotMatterUpto_row_tie rfl ⟨rfl, rfl⟩ (by kernel_rfl) rfl asmCommentsDoNotMatter_plain (by kernel_rfl)
end Go.Proofs.YteomcjpigoaioaaGreatDoor
