/- Part 7 of the proof of asmKeysMatchSpec_holds: texts W15, Kk, W17, Rf, Rg, Rc, Rd, M7. -/
import Derived.Test.YteomcjpigoaioaaGreatDoorQ7x6
import Derived.ProofKit
import Derived.OpenShut
import Derived.SizedLaws
import Derived.Deep.Slices
import Derived.Test.YteomcjpigoaioaaGreatDoorRows
import Derived.Lay
import Derived.Lib.LaidTab
import Derived.Stop.LaidErr
import Derived.SevenTiedAt
import Derived.Test.YteomcjpigoaioaaGreatDoorCards
import Derived.Test.YteomcjpigoaioaaGreatDoorTie
set_option linter.unusedVariables false
set_option linter.unusedSimpArgs false
set_option linter.unnecessarySimpa false
namespace Go.Proofs.YteomcjpigoaioaaGreatDoor
open Go.FL
attribute [local irreducible] JC JO JA JB thenQ blockQ retQ AC fill CellsAt QE Ev Mid
theorem bT {p : Prop} [Decidable p] (h : p) : Value.bool (decide p) = .bool true := by rw [decide_eq_true h]
theorem bF {p : Prop} [Decidable p] (h : p) : Value.bool (!decide p) = .bool false := by rw [decide_eq_true h]; rfl
theorem AC.isT {P : Program} {D : Nat} {f : FuncId} {args : List Value} {L : Hl} {s : World} {p : Prop} [Decidable p] (h : AC P D f args L s fun v L' _ => v = .bool (decide p) ∧ L = L') (hp : p) : AC P D f args L s fun v L' _ => v = .bool true ∧ L = L' :=
  h.mono fun v L' _ _ ⟨h1, h2⟩ => ⟨by rw [h1, decide_eq_true hp], h2⟩
theorem defaultP_ac (D : Nat) (L : Hl) (s : World) : AC Tryz.prog D 46 [] L s fun v L' s' => L = L' ∧ ∃ A n c, v = .agg #[.int .i64 65536, .slice A n c] ∧ Inss s' A n c defT.ins := AC.pubW (defaultO_ac D L s)
def exT : List UInt8 := [32, 106, 117, 109, 112, 32, 101, 110, 100, 32, 59, 32, 97, 32, 99, 111, 109, 109, 101, 110, 116, 10, 120, 58, 32, 119, 111, 114, 100, 32, 55, 10, 101, 110, 100, 58, 32, 108, 111, 97, 100, 32, 120, 10, 32, 115, 112, 97, 99, 101, 32, 50, 10]
theorem ex_R : asmR defT exT = .inr ([26, 3, 7, 3, 2, 0, 0], [([120], 2), ([101, 110, 100], 3)]) := by decide +kernel
theorem ex_tab : (tabFault defT).1 = 0 := by decide +kernel
theorem ex_W : asmW defT exT = [26, 3, 7, 3, 2, 0, 0] ∧ asmL defT exT = [([120], 2), ([101, 110, 100], 3)] ∧ asmFt defT exT = (0, 0) := asmW_r ex_R
def exL : List UInt8 := [110, 117, 109, 32, 57, 10, 115, 116, 111, 112, 10, 119, 111, 114, 100, 32, 50, 10]
theorem ex_l : lstF defT [2, 9, 1, 2] = exL := by
  obtain ⟨y, hy, ho, hn⟩ : ∃ y, findI defT.ins 2 = some y ∧ y.operand = true ∧ y.name = [110, 117, 109] := ⟨(findI defT.ins 2).get (by decide +kernel), (Option.some_get _).symm, by decide +kernel, by decide +kernel⟩
  obtain ⟨z, hz, zo, zn⟩ : ∃ y, findI defT.ins 1 = some y ∧ y.operand = false ∧ y.name = [115, 116, 111, 112] := ⟨(findI defT.ins 1).get (by decide +kernel), (Option.some_get _).symm, by decide +kernel, by decide +kernel⟩
  rw [lst_opd hy ho, lst_plain hz zo, lst_word (by unfold plainB; rw [hy]; simp [ho]) (by simp), hn, zn, show (9 : Int).toNat = 9 from rfl, show (2 : Int).toNat = 2 from rfl, Lib.decDigits_one (by decide), Lib.decDigits_one (by decide)]
  rfl
theorem ex_S : listS defT [2, 9, 1, 2] = exL ∧ listE defT [2, 9, 1, 2] = (0, 0) := by
  have h3 : ¬ 400000 < (lstF defT [2, 9, 1, 2]).length := by rw [ex_l]; decide
  have := list_ok ex_tab (by decide +kernel) h3
  rw [ex_l] at this
  exact this
theorem ex_K : keyS [97, 49] = 65 ∧ keyE [97, 49] = (0, 0) := by decide +kernel
theorem ex_N : nameS 65 = [97, 49] ∧ nameE 65 = (0, 0) := by
  have h : nmF 65 [] = some [49, 97] := by
    rw [nmF_more (by decide) (by decide), nmF_more (by decide) (by decide), show 65 / 37 / 37 = 0 from rfl, nmF_zero]; rfl
  have := name_ok h (by decide +kernel)
  exact this
theorem ex_P : packS [5, 300] = [5, 172, 2] ∧ packE [5, 300] = (0, 0) := by
  have h1 : grp 5 = [5] := grp_small (by decide)
  have h2 : grp 300 = [172, 2] := by rw [grp_big (by decide), grp_small (by decide)]; rfl
  refine ⟨?_, rfl⟩
  rw [packS, if_neg (by decide), packF]
  show [grp 5, grp 300].flatten = _
  rw [h1, h2]; rfl
theorem ex_U : unpS [5, 172, 2] = [5, 300] ∧ unpE [5, 172, 2] = (0, 0) := by
  have h : upF 0 [] [5, 172, 2] = .inr [5, 300] := by
    rw [upF_more (x := (5, 1, 5, [172, 2])) (by decide) (by decide +kernel) (by decide), upF_more (x := (300, 2, 2, [])) (by decide) (by decide +kernel) (by decide), upF_nil]; rfl
  exact unp_r (unp_ok (by decide) h (by decide))
theorem wds_lit {s : World} {b : Nat} {l : List Int} (h : CellsAt s b 0 (wv l)) (hu : ∀ x ∈ l, U32 x) (hl : l.length ≤ 1000) : Wds s (some ⟨b, 0, none⟩) l.length l.length l :=
  wds_pub (yc := []) (cc := l.length) (by simpa using h) hu (by simp) (by omega)
theorem bts_lit {s : World} {b : Nat} {l : List UInt8} (h : CellsAt s b 0 (bv l)) (hl : l.length ≤ 1000) : Bts s (some ⟨b, 0, none⟩) l.length l.length l :=
  bts_pub (yc := []) (cc := l.length) (by simpa using h) (by simp) (by omega)
theorem labs_lit {s : World} {b : Nat} {l : List (List UInt8 × Int)} (h : CellsAt s b 0 (lbv l)) (hu : ∀ x ∈ l, U32 x.2) (hl : l.length ≤ 1000) : Labs s (some ⟨b, 0, none⟩) l.length l.length l := by
  have hll : (lbv l).length = l.length * 2 := by
    clear h hu hl
    induction l with
    | nil => rfl
    | cons x l ih => simp only [lbv, List.map_cons, List.flatten_cons, List.length_append, List.length_cons, List.length_nil] at ih ⊢; omega
  exact Own.labs (e := 0) (A := [(b, cb (lbv l ++ []) 0)]) (.blk b l.length l.length (lbv l) [] hll (by simp [hll]) (Nat.le_refl _) (by omega)) hu (fun b' zs t hm => by
    simp only [List.append_nil, List.mem_singleton, Prod.mk.injEq] at hm
    obtain ⟨rfl, hcb⟩ := hm
    have : zs = lbv l := by
      unfold cb at hcb
      injection hcb with e1
      simpa using congrArg Array.toList e1
    rw [this]; exact h) rfl
theorem u32L (l : List Int) (h : l.all (fun x => decide (0 ≤ x ∧ x < 4294967296)) = true) : ∀ x ∈ l, U32 x := fun x hx => by have := List.all_eq_true.1 h x hx; simpa [U32] using this
set_option maxHeartbeats 4000000 in
set_option maxRecDepth 100000 in
theorem translated_ac (D : Nat) (L : Hl) (s : World) (hG : GW s) : AC Tryz.prog D 14 [] L s fun v L' _ => v = .bool true ∧ L = L' := by
 refine AC_enter (TT := TT) (fn := Tryz.f14) TT_ok Tryz.func14 (by kernel_rfl) rfl Tryz.ntmps14 rfl (rs := [.tmp 0]) rfl [] rfl ?_
 refine JC_seq ?_
 refine JC_region ?_
 refine JO_q (QE_as rfl) rfl ?_
 refine JO_nil ?_
 refine thenQ_n ?_
 refine JC_seq ?_
 refine JC_region ?_
 refine JO_call (first := []) (captured := []) rfl rfl rfl (defaultP_ac D _ _) ?_
 rintro _ _ s1 h1 ⟨rfl, Ad1, nd1, cd1, rfl, hd1⟩
 refine JO_call (first := []) (captured := []) rfl rfl rfl (assembleP_ac D _ _ (hG.le h1) defT _ _ _ (hd1.le (Le.refl (D := D) _)) exT) ?_
 rintro _ _ s2 h2 ⟨rfl, A1, n1, c1, rfl, hW1⟩
 rw [ex_W.1] at hW1
 refine JO_q (QE_mv rfl) rfl ?_
 refine JO_q (QE_ext rfl rfl) rfl ?_
 refine JO_q (QE_ext rfl rfl) rfl ?_
 refine JO_allocZ rfl [_, _] rfl rfl ?_
 intro β3 s3 h3
 refine JO_q (QE_as rfl) rfl ?_
 refine JO_st 0 [_, _] rfl rfl rfl rfl rfl rfl rfl rfl rfl ?_
 refine JO_nil ?_
 refine thenQ_n ?_
 refine JC_seq ?_
 refine JC_region ?_
 refine JO_call (first := []) (captured := []) rfl rfl rfl (defaultP_ac D _ _) ?_
 rintro _ _ s4 h4 ⟨rfl, Ad2, nd2, cd2, rfl, hd2⟩
 refine JO_call (first := []) (captured := []) rfl rfl rfl (labelsP_ac D _ _ (hG.le (Le.trans (Le.trans (Le.trans h1 h2) h3) h4)) defT _ _ _ (hd2.le (Le.refl (D := D) _)) exT) ?_
 rintro _ _ s5 h5 ⟨rfl, A2, n2, c2, rfl, hL2⟩
 rw [ex_W.2.1] at hL2
 refine JO_q (QE_mv rfl) rfl ?_
 refine JO_q (QE_ext rfl rfl) rfl ?_
 refine JO_q (QE_ext rfl rfl) rfl ?_
 refine JO_allocZ rfl [_, _] rfl rfl ?_
 intro β6 s6 h6
 refine JO_q (QE_as rfl) rfl ?_
 refine JO_st 0 [_, _] rfl rfl rfl rfl rfl rfl rfl rfl rfl ?_
 refine JO_nil ?_
 refine thenQ_n ?_
 refine JC_seq ?_
 refine JC_region ?_
 refine JO_call (first := []) (captured := []) rfl rfl rfl (defaultP_ac D _ _) ?_
 rintro _ _ s7 h7 ⟨rfl, Ad3, nd3, cd3, rfl, hd3⟩
 refine JO_bs [(_, _), (_, _), (_, _), (_, _)] [_, _, _, _] rfl rfl rfl rfl rfl rfl rfl rfl rfl ?_
 intro βi s8 h8 hci
 refine JO_call (first := []) (captured := []) rfl rfl rfl (list_ac D _ _ (hG.le (Le.trans (Le.trans (Le.trans (Le.trans (Le.trans (Le.trans (Le.trans h1 h2) h3) h4) h5) h6) h7) h8)) defT _ _ _ (hd3.le h8) _ _ _ [2, 9, 1, 2] (wds_lit (l := [2, 9, 1, 2]) (hci.le (Le.refl (D := D) _)) (u32L _ rfl) (by decide))) ?_
 rintro _ _ s9 h9 ⟨rfl, rfl⟩
 refine JO_q (QE_mv rfl) rfl ?_
 refine JO_q (QE_ext rfl rfl) rfl ?_
 refine JO_q (QE_ext rfl rfl) rfl ?_
 refine JO_allocZ rfl [_, _] rfl rfl ?_
 intro β10 s10 h10
 refine JO_q (QE_as rfl) rfl ?_
 refine JO_st 0 [_, _] rfl rfl rfl rfl rfl rfl rfl rfl rfl ?_
 refine JO_nil ?_
 refine thenQ_n ?_
 refine JC_seq ?_
 refine JC_region ?_
 refine JO_call (first := []) (captured := []) rfl rfl rfl (key_ac D _ _ [97, 49]) ?_
 rintro _ _ s11 h11 ⟨rfl, rfl⟩
 refine JO_q (QE_mv rfl) rfl ?_
 refine JO_q (QE_ext rfl rfl) rfl ?_
 refine JO_q (QE_ext rfl rfl) rfl ?_
 refine JO_allocZ rfl [_, _] rfl rfl ?_
 intro β12 s12 h12
 refine JO_q (QE_as rfl) rfl ?_
 refine JO_st 0 [_, _] rfl rfl rfl rfl rfl rfl rfl rfl rfl ?_
 refine JO_nil ?_
 refine thenQ_n ?_
 refine JC_seq ?_
 refine JC_region ?_
 refine JO_call (first := []) (captured := []) rfl rfl rfl (name_ac D _ _ 65 (by decide)) ?_
 rintro _ _ s13 h13 ⟨rfl, rfl⟩
 refine JO_q (QE_mv rfl) rfl ?_
 refine JO_q (QE_ext rfl rfl) rfl ?_
 refine JO_q (QE_ext rfl rfl) rfl ?_
 refine JO_allocZ rfl [_, _] rfl rfl ?_
 intro β14 s14 h14
 refine JO_q (QE_as rfl) rfl ?_
 refine JO_st 0 [_, _] rfl rfl rfl rfl rfl rfl rfl rfl rfl ?_
 refine JO_nil ?_
 refine thenQ_n ?_
 refine JC_seq ?_
 refine JC_region ?_
 refine JO_bs [(_, _), (_, _)] [_, _] rfl rfl rfl rfl rfl rfl rfl rfl rfl ?_
 intro βp s15 h15 hcp
 refine JO_call (first := []) (captured := []) rfl rfl rfl (pack_ac D _ _ _ _ _ [5, 300] (wds_lit (l := [5, 300]) (hcp.le (Le.refl (D := D) _)) (u32L _ rfl) (by decide))) ?_
 rintro _ _ s16 h16 ⟨rfl, A3, n3, c3, rfl, hP⟩
 rw [ex_P.1] at hP
 refine JO_q (QE_mv rfl) rfl ?_
 refine JO_q (QE_ext rfl rfl) rfl ?_
 refine JO_q (QE_ext rfl rfl) rfl ?_
 refine JO_allocZ rfl [_, _] rfl rfl ?_
 intro β17 s17 h17
 refine JO_q (QE_as rfl) rfl ?_
 refine JO_st 0 [_, _] rfl rfl rfl rfl rfl rfl rfl rfl rfl ?_
 refine JO_nil ?_
 refine thenQ_n ?_
 refine JC_seq ?_
 refine JC_region ?_
 refine JO_bs [(_, _), (_, _), (_, _)] [_, _, _] rfl rfl rfl rfl rfl rfl rfl rfl rfl ?_
 intro βq s18 h18 hcq
 refine JO_call (first := []) (captured := []) rfl rfl rfl (unpack_ac D _ _ _ _ _ [5, 172, 2] (bts_lit (l := [5, 172, 2]) (hcq.le (Le.refl (D := D) _)) (by decide))) ?_
 rintro _ _ s19 h19 ⟨rfl, A4, n4, c4, rfl, hU⟩
 rw [ex_U.1] at hU
 refine JO_q (QE_mv rfl) rfl ?_
 refine JO_q (QE_ext rfl rfl) rfl ?_
 refine JO_q (QE_ext rfl rfl) rfl ?_
 refine JO_allocZ rfl [_, _] rfl rfl ?_
 intro β20 s20 h20
 refine JO_q (QE_as rfl) rfl ?_
 refine JO_st 0 [_, _] rfl rfl rfl rfl rfl rfl rfl rfl rfl ?_
 refine JO_nil ?_
 refine thenQ_n ?_
 refine JC_seq ?_
 refine JC_seq ?_
 refine JC_region ?_
 refine JO_q (QE_fa0 rfl rfl rfl rfl) rfl ?_
 refine JO_q (QE_ld1 6 rfl rfl rfl rfl rfl) rfl ?_
 refine JO_q (QE_cast (v' := .bool false) (QE_ne rfl rfl) (bF (by rw [ex_W.2.2]))) rfl ?_
 refine JO_q (QE_mv rfl) rfl ?_
 refine JO_gT rfl rfl ?_
 refine JO_q (QE_fa0 rfl rfl rfl rfl) rfl ?_
 refine JO_gT rfl rfl ?_
 refine JO_q (QE_ld1 5 rfl rfl rfl rfl rfl) rfl ?_
 refine JO_gT rfl rfl ?_
 refine JO_q (QE_cast (v' := .bool false) (QE_ne rfl rfl) (bF (by rw [ex_W.2.2]))) rfl ?_
 refine JO_q (QE_pickF rfl rfl) rfl ?_
 refine JO_q (QE_mv rfl) rfl ?_
 refine JO_gT rfl rfl ?_
 refine JO_q (QE_fa0 rfl rfl rfl rfl) rfl ?_
 refine JO_gT rfl rfl ?_
 refine JO_q (QE_ld1 4 rfl rfl rfl rfl rfl) rfl ?_
 refine JO_gT rfl rfl ?_
 refine JO_q (QE_cast (v' := .bool false) (QE_ne rfl rfl) (bF (by rw [ex_S.2]))) rfl ?_
 refine JO_q (QE_pickF rfl rfl) rfl ?_
 refine JO_q (QE_mv rfl) rfl ?_
 refine JO_gT rfl rfl ?_
 refine JO_q (QE_fa0 rfl rfl rfl rfl) rfl ?_
 refine JO_gT rfl rfl ?_
 refine JO_q (QE_ld1 3 rfl rfl rfl rfl rfl) rfl ?_
 refine JO_gT rfl rfl ?_
 refine JO_q (QE_cast (v' := .bool false) (QE_ne rfl rfl) (bF (by rw [ex_K.2]))) rfl ?_
 refine JO_q (QE_pickF rfl rfl) rfl ?_
 refine JO_q (QE_mv rfl) rfl ?_
 refine JO_gT rfl rfl ?_
 refine JO_q (QE_fa0 rfl rfl rfl rfl) rfl ?_
 refine JO_gT rfl rfl ?_
 refine JO_q (QE_ld1 2 rfl rfl rfl rfl rfl) rfl ?_
 refine JO_gT rfl rfl ?_
 refine JO_q (QE_cast (v' := .bool false) (QE_ne rfl rfl) (bF (by rw [ex_N.2]))) rfl ?_
 refine JO_q (QE_pickF rfl rfl) rfl ?_
 refine JO_q (QE_mv rfl) rfl ?_
 refine JO_gT rfl rfl ?_
 refine JO_q (QE_fa0 rfl rfl rfl rfl) rfl ?_
 refine JO_gT rfl rfl ?_
 refine JO_q (QE_ld1 1 rfl rfl rfl rfl rfl) rfl ?_
 refine JO_gT rfl rfl ?_
 refine JO_q (QE_cast (v' := .bool false) (QE_ne rfl rfl) (bF (by rw [ex_P.2]))) rfl ?_
 refine JO_q (QE_pickF rfl rfl) rfl ?_
 refine JO_q (QE_mv rfl) rfl ?_
 refine JO_gT rfl rfl ?_
 refine JO_q (QE_fa0 rfl rfl rfl rfl) rfl ?_
 refine JO_gT rfl rfl ?_
 refine JO_q (QE_ld1 0 rfl rfl rfl rfl rfl) rfl ?_
 refine JO_gT rfl rfl ?_
 refine JO_q (QE_cast (v' := .bool false) (QE_ne rfl rfl) (bF (by rw [ex_U.2]))) rfl ?_
 refine JO_q (QE_pickF rfl rfl) rfl ?_
 refine JO_nil ?_
 refine thenQ_n ?_
 refine JC_ifF rfl ?_
 refine JC_skip ?_
 refine thenQ_n ?_
 refine JC_seq ?_
 refine JC_region ?_
 refine JO_q (QE_mv rfl) rfl ?_
 refine JO_bs [(_, _), (_, _), (_, _), (_, _), (_, _), (_, _), (_, _)] [_, _, _, _, _, _, _] rfl rfl rfl rfl rfl rfl rfl rfl rfl ?_
 intro βe s21 h21 hce
 refine JO_call (first := []) (captured := []) rfl rfl rfl (AC.isT (sameWords_ac D _ _ _ _ _ _ (hW1.le (Le.trans (Le.trans (Le.trans (Le.trans (Le.trans (Le.trans (Le.trans (Le.trans (Le.trans (Le.trans (Le.trans (Le.trans (Le.trans (Le.trans (Le.trans (Le.trans (Le.trans (Le.trans h3 h4) h5) h6) h7) h8) h9) h10) h11) h12) h13) h14) h15) h16) h17) h18) h19) h20) h21)) _ _ _ [26, 3, 7, 3, 2, 0, 0] (wds_lit (l := [26, 3, 7, 3, 2, 0, 0]) (hce.le (Le.refl (D := D) _)) (u32L _ rfl) (by decide))) rfl) ?_
 rintro _ _ s22 h22 ⟨rfl, rfl⟩
 refine JO_q (QE_mv rfl) rfl ?_
 refine JO_gT rfl rfl ?_
 refine JO_q (QE_mv rfl) rfl ?_
 refine JO_gT rfl rfl ?_
 refine JO_q (QE_build [(_, _), (_, _)] [_, _] rfl rfl rfl rfl rfl rfl) rfl ?_
 refine JO_gT rfl rfl ?_
 refine JO_q (QE_build [(_, _), (_, _)] [_, _] rfl rfl rfl rfl rfl rfl) rfl ?_
 refine JO_gT rfl rfl ?_
 refine JO_bs [(_, _), (_, _)] [_, _, _, _] rfl rfl rfl rfl rfl rfl rfl rfl rfl ?_
 intro βf s23 h23 hcf
 refine JO_gT rfl rfl ?_
 refine JO_call (first := []) (captured := []) rfl rfl rfl (AC.isT (sameLabels_ac D _ _ _ _ _ _ (hL2.le (Le.trans (Le.trans (Le.trans (Le.trans (Le.trans (Le.trans (Le.trans (Le.trans (Le.trans (Le.trans (Le.trans (Le.trans (Le.trans (Le.trans (Le.trans (Le.trans (Le.trans h6 h7) h8) h9) h10) h11) h12) h13) h14) h15) h16) h17) h18) h19) h20) h21) h22) h23)) _ _ _ [([120], 2), ([101, 110, 100], 3)] (labs_lit (l := [([120], 2), ([101, 110, 100], 3)]) (hcf.le (Le.refl (D := D) _)) (by simp [U32]) (by decide))) rfl) ?_
 rintro _ _ s24 h24 ⟨rfl, rfl⟩
 refine JO_q (QE_pickT rfl rfl) rfl ?_
 refine JO_q (QE_mv rfl) rfl ?_
 refine JO_gT rfl rfl ?_
 refine JO_q (QE_mv rfl) rfl ?_
 refine JO_gT rfl rfl ?_
 refine JO_q (QE_cast (v' := .bool true) (QE_seq rfl rfl) (bT ex_S.1)) rfl ?_
 refine JO_q (QE_pickT rfl rfl) rfl ?_
 refine JO_q (QE_mv rfl) rfl ?_
 refine JO_gT rfl rfl ?_
 refine JO_q (QE_mv rfl) rfl ?_
 refine JO_gT rfl rfl ?_
 refine JO_q (QE_cast (v' := .bool true) (QE_eq rfl rfl) (bT ex_K.1)) rfl ?_
 refine JO_q (QE_pickT rfl rfl) rfl ?_
 refine JO_q (QE_mv rfl) rfl ?_
 refine JO_gT rfl rfl ?_
 refine JO_q (QE_mv rfl) rfl ?_
 refine JO_gT rfl rfl ?_
 refine JO_q (QE_cast (v' := .bool true) (QE_seq rfl rfl) (bT ex_N.1)) rfl ?_
 refine JO_q (QE_pickT rfl rfl) rfl ?_
 refine JO_q (QE_mv rfl) rfl ?_
 refine JO_gT rfl rfl ?_
 refine JO_q (QE_mv rfl) rfl ?_
 refine JO_gT rfl rfl ?_
 refine JO_bs [(_, _), (_, _), (_, _)] [_, _, _] rfl rfl rfl rfl rfl rfl rfl rfl rfl ?_
 intro βg s25 h25 hcg
 refine JO_gT rfl rfl ?_
 refine JO_call (first := []) (captured := []) rfl rfl rfl (AC.isT (sameBytes_ac D _ _ _ _ _ _ (hP.le (Le.trans (Le.trans (Le.trans (Le.trans (Le.trans (Le.trans (Le.trans (Le.trans h17 h18) h19) h20) h21) h22) h23) h24) h25)) _ _ _ [5, 172, 2] (bts_lit (l := [5, 172, 2]) (hcg.le (Le.refl (D := D) _)) (by decide))) rfl) ?_
 rintro _ _ s26 h26 ⟨rfl, rfl⟩
 refine JO_q (QE_pickT rfl rfl) rfl ?_
 refine JO_q (QE_mv rfl) rfl ?_
 refine JO_gT rfl rfl ?_
 refine JO_q (QE_mv rfl) rfl ?_
 refine JO_gT rfl rfl ?_
 refine JO_bs [(_, _), (_, _)] [_, _] rfl rfl rfl rfl rfl rfl rfl rfl rfl ?_
 intro βh s27 h27 hch
 refine JO_gT rfl rfl ?_
 refine JO_call (first := []) (captured := []) rfl rfl rfl (AC.isT (sameWords_ac D _ _ _ _ _ _ (hU.le (Le.trans (Le.trans (Le.trans (Le.trans (Le.trans (Le.trans (Le.trans h20 h21) h22) h23) h24) h25) h26) h27)) _ _ _ [5, 300] (wds_lit (l := [5, 300]) (hch.le (Le.refl (D := D) _)) (u32L _ rfl) (by decide))) rfl) ?_
 rintro _ _ s28 h28 ⟨rfl, rfl⟩
 refine JO_q (QE_pickT rfl rfl) rfl ?_
 refine JO_q (QE_as rfl) rfl ?_
 refine JO_nil ?_
 refine thenQ_n ?_
 refine JC_ret ?_
 refine retQ_mk [_, _, _, _, _, _, _] L (.inr rfl) (.tmp rfl (.nil)) rfl (Le.trans (Le.trans (Le.trans (Le.trans (Le.trans (Le.trans (Le.trans (Le.trans (Le.trans (Le.trans (Le.trans (Le.trans (Le.trans (Le.trans (Le.trans (Le.trans (Le.trans (Le.trans (Le.trans (Le.trans (Le.trans (Le.trans (Le.trans (Le.trans (Le.trans (Le.trans (Le.trans h1 h2) h3) h4) h5) h6) h7) h8) h9) h10) h11) h12) h13) h14) h15) h16) h17) h18) h19) h20) h21) h22) h23) h24) h25) h26) h27) h28) (fun sR hS2 => ?_)
 exact ⟨rfl, rfl⟩
end Go.Proofs.YteomcjpigoaioaaGreatDoor
namespace Go.Proofs.YteomcjpigoaioaaGreatDoor
open Go Go.FL Go.RowKit
abbrev digs : List UInt8 := [32, 97, 98, 99, 100, 101, 102, 103, 104, 105, 106, 107, 108, 109, 110, 111, 112, 113, 114, 115, 116, 117, 118, 119, 120, 121, 122, 48, 49, 50, 51, 52, 53, 54, 55, 56, 57]
def dK (c : UInt8) : Nat := (fnd c digs).getD 0
def chr0 (d : Nat) : UInt8 := digs.getD d 0
def addK (k : Nat) (c : UInt8) : Nat := k * 37 + dK c
def valK (l : List UInt8) : Nat := l.foldl addK 0
def okC (c : UInt8) : Bool := letB c || digB c
theorem dK_lt (c : UInt8) : dK c < 37 := by
  unfold dK
  cases h : fnd c digs with
  | none => simp
  | some i => exact fnd_lt h
theorem dig_fin : ∀ k : Fin 256, okC (UInt8.ofNat k.val) = true → digK (UInt8.ofNat k.val) = (dK (UInt8.ofNat k.val) : Int) ∧ findB digs ((UInt8.ofNat k.val).toNat : Int) = (dK (UInt8.ofNat k.val) : Int) ∧ 1 ≤ dK (UInt8.ofNat k.val) ∧ chr0 (dK (UInt8.ofNat k.val)) = UInt8.ofNat k.val := by decide +kernel
theorem dig_all {c : UInt8} (h : okC c = true) : digK c = (dK c : Int) ∧ findB digs (c.toNat : Int) = (dK c : Int) ∧ 1 ≤ dK c ∧ chr0 (dK c) = c := by
  have h1 := dig_fin ⟨c.toNat, c.toNat_lt⟩
  simp only [UInt8.ofNat_toNat] at h1
  exact h1 h
theorem chr_fin : ∀ d : Fin 37, dK (chr0 d.val) = d.val ∧ (d.val ≠ 0 → chrK d.val = chr0 d.val) ∧ (digs.drop d.val).take 1 = [chr0 d.val] := by decide +kernel
theorem chr_all {d : Nat} (h : d < 37) : dK (chr0 d) = d ∧ (d ≠ 0 → chrK d = chr0 d) ∧ (digs.drop d).take 1 = [chr0 d] := chr_fin ⟨d, h⟩
theorem valK_from (l : List UInt8) (a : Nat) : l.foldl addK a = a * 37 ^ l.length + valK l := by
  induction l generalizing a with
  | nil => simp [valK]
  | cons c l ih =>
    rw [valK, List.foldl_cons, List.foldl_cons, ih, ih (addK 0 c), List.length_cons, Nat.pow_succ]
    simp only [addK, Nat.zero_mul, Nat.zero_add, Nat.add_mul]
    rw [Nat.mul_assoc, Nat.mul_comm 37, Nat.add_assoc]
theorem valK_cons (c : UInt8) (l : List UInt8) : valK (c :: l) = dK c * 37 ^ l.length + valK l := by
  rw [valK, List.foldl_cons, valK_from]; simp [addK]
theorem valK_snoc (l : List UInt8) (c : UInt8) : valK (l ++ [c]) = valK l * 37 + dK c := by
  simp [valK, addK]
theorem valK_lt (l : List UInt8) : valK l < 37 ^ l.length := by
  induction l with
  | nil => simp [valK]
  | cons c l ih =>
    rw [valK_cons, List.length_cons, Nat.pow_succ]
    have h1 : dK c * 37 ^ l.length ≤ 36 * 37 ^ l.length := Nat.mul_le_mul_right _ (by have := dK_lt c; omega)
    omega
theorem chars_ok {l : List UInt8} {i : Nat} (h : charsFrom i l = true) : ∀ c ∈ l, okC c = true := by
  induction l generalizing i with
  | nil => intro c hc; cases hc
  | cons x l ih =>
    simp only [charsFrom, Bool.and_eq_true] at h
    intro c hc
    rcases List.mem_cons.1 hc with rfl | hc
    · have h1 := h.1
      simp only [chOK, Bool.or_eq_true, Bool.and_eq_true] at h1
      simp only [okC, Bool.or_eq_true]
      rcases h1 with h1 | h1
      · exact .inl h1
      · exact .inr h1.1
    · exact ih h.2 c hc
theorem label_ok {l : List UInt8} (h : labelB l = true) : ∀ c ∈ l, okC c = true := by
  simp only [labelB, Bool.and_eq_true] at h
  exact chars_ok h.2
theorem key_from {l : List UInt8} (h : ∀ c ∈ l, okC c = true) (a : Nat) : l.foldl stepK (w32 (a : Int)) = w32 ((l.foldl addK a : Nat) : Int) := by
  induction l generalizing a with
  | nil => rfl
  | cons c l ih =>
    rw [List.foldl_cons, List.foldl_cons, ← ih (fun x hx => h x (List.mem_cons_of_mem _ hx))]
    congr 1
    rw [stepK, (dig_all (h c (List.mem_cons_self ..))).1, addK]
    unfold w32
    omega
theorem valK_small {l : List UInt8} (h : labelB l = true) : valK l < 2565726409 := by
  have h1 := valK_lt l
  have h2 : 37 ^ l.length ≤ 37 ^ 6 := Nat.pow_le_pow_right (by omega) (labelB_len h).2
  omega
theorem keyV_val {l : List UInt8} (h : labelB l = true) : keyV l = (valK l : Int) := by
  have h1 := key_from (label_ok h) 0
  have h2 := valK_small h
  have e : w32 ((0 : Nat) : Int) = 0 := rfl
  rw [e] at h1
  rw [keyV, h1]
  show w32 ((valK l : Nat) : Int) = _
  unfold w32
  omega
theorem key_yes {l : List UInt8} (h : labelB l = true) : keyS l = (valK l : Int) ∧ keyE l = (0, 0) := ⟨by rw [keyS, if_pos h, keyV_val h], by rw [keyE, if_pos h]⟩
theorem key_no {l : List UInt8} (h : labelB l = false) : keyS l = 0 ∧ keyE l = (7, -1) := ⟨by rw [keyS, if_neg (by simp [h])], by rw [keyE, if_neg (by simp [h])]⟩
def nmR (n : Nat) (acc : List UInt8) : List UInt8 := if n = 0 then acc else nmR (n / 37) (chr0 (n % 37) :: acc)
termination_by n
decreasing_by omega
theorem nmR_zero (acc : List UInt8) : nmR 0 acc = acc := by rw [nmR, if_pos rfl]
theorem nmR_more {n : Nat} (h : n ≠ 0) (acc : List UInt8) : nmR n acc = nmR (n / 37) (chr0 (n % 37) :: acc) := by rw [nmR, if_neg h]
theorem nmR_app (n : Nat) (acc : List UInt8) : nmR n acc = nmR n [] ++ acc := by
  induction n using Nat.strongRecOn generalizing acc with
  | _ n ih =>
    by_cases h : n = 0
    · subst h; rw [nmR_zero, nmR_zero, List.nil_append]
    · rw [nmR_more h, nmR_more h, ih (n / 37) (by omega), ih (n / 37) (by omega) [chr0 (n % 37)], List.append_assoc]; rfl
theorem nmR_val (n : Nat) : valK (nmR n []) = n := by
  induction n using Nat.strongRecOn with
  | _ n ih =>
    by_cases h : n = 0
    · subst h; rw [nmR_zero]; rfl
    · rw [nmR_more h, nmR_app, valK_snoc, ih (n / 37) (by omega), (chr_all (Nat.mod_lt n (by decide))).1]
      omega
theorem nmR_key {l : List UInt8} (h : ∀ c ∈ l, okC c = true) (acc : List UInt8) : nmR (valK l) acc = l ++ acc := by
  generalize hn : l.length = n
  induction n generalizing l acc with
  | zero => rw [List.length_eq_zero_iff.1 hn]; exact nmR_zero acc
  | succ n ih =>
    rcases List.eq_nil_or_concat l with rfl | ⟨r, c, rfl⟩
    · cases hn
    · rw [List.concat_eq_append] at *
      have hc := dig_all (h c (by simp))
      have hlt := dK_lt c
      rw [valK_snoc, nmR_more (by omega), show (valK r * 37 + dK c) / 37 = valK r by omega, show (valK r * 37 + dK c) % 37 = dK c by omega, hc.2.2.2,
        ih (fun x hx => h x (by simp [hx])) _ (by simpa using hn), List.append_assoc]
      rfl
theorem nmF_R (n : Nat) (acc : List UInt8) : (∃ b, nmF n acc = some b ∧ nmR n acc.reverse = b.reverse) ∨ (nmF n acc = none ∧ (32 : UInt8) ∈ nmR n acc.reverse) := by
  induction n using Nat.strongRecOn generalizing acc with
  | _ n ih =>
    by_cases h : n = 0
    · subst h; exact .inl ⟨acc, nmF_zero acc, nmR_zero _⟩
    · by_cases h1 : n % 37 = 0
      · refine .inr ⟨nmF_bad h h1, ?_⟩
        rw [nmR_more h, nmR_app, h1]
        exact List.mem_append.2 (.inr (List.mem_cons_self ..))
      · have := ih (n / 37) (by omega) (acc ++ [chrK (n % 37)])
        rw [nmF_more h h1, nmR_more h]
        rw [List.reverse_append, (chr_all (Nat.mod_lt n (by decide))).2.1 h1] at this
        rw [(chr_all (Nat.mod_lt n (by decide))).2.1 h1]
        exact this
theorem name_yes {n : Nat} (h : labelB (nmR n []) = true) : nameS n = nmR n [] ∧ nameE n = (0, 0) := by
  rcases nmF_R n [] with ⟨b, h1, h2⟩ | ⟨_, h2⟩
  · rw [List.reverse_nil] at h2
    rw [h2] at h ⊢
    exact name_ok h1 h
  · have := label_ok h 32 (by simpa using h2)
    exact absurd this (by decide)
theorem name_not_ {n : Nat} (h : labelB (nmR n []) = false) : nameS n = [] ∧ nameE n = (6, -1) := by
  rcases nmF_R n [] with ⟨b, h1, h2⟩ | ⟨h1, _⟩
  · rw [List.reverse_nil] at h2
    rw [h2] at h
    exact name_no h1 h
  · exact name_none h1
theorem name_key {l : List UInt8} (h : labelB l = true) : nameS (valK l) = l ∧ nameE (valK l) = (0, 0) := by
  have h1 : nmR (valK l) [] = l := by rw [nmR_key (label_ok h), List.append_nil]
  have := name_yes (n := valK l) (by rw [h1]; exact h)
  rw [h1] at this
  exact this
theorem key_name {n : Nat} (h : labelB (nmR n []) = true) : keyS (nmR n []) = (n : Int) ∧ keyE (nmR n []) = (0, 0) := by
  have := key_yes h
  rw [nmR_val] at this
  exact this
theorem keyof_mul {l : List UInt8} {j : Nat} {c : UInt8} (h : labelB l = true) (hc : l[j]? = some c) : Value.int .i64 (IntKind.i64.wrap (((37 ^ (l.length - (j + 1)) : Nat) : Int) * findB digs (c.toNat : Int))) = .int .i64 ((dK c * 37 ^ (l.length - (j + 1)) : Nat) : Int) := by
  have h6 := (labelB_len h).2
  rw [(dig_all (label_ok h c (List.mem_of_getElem? hc))).2.1, ← Int.natCast_mul, Nat.mul_comm]
  have h1 : 37 ^ (l.length - (j + 1)) ≤ 37 ^ 6 := Nat.pow_le_pow_right (by omega) (by omega)
  have h2 : dK c * 37 ^ (l.length - (j + 1)) ≤ 36 * 37 ^ 6 := Nat.mul_le_mul (by have := dK_lt c; omega) h1
  rw [w64 (by omega) (by omega)]
theorem keyof_add {l : List UInt8} {j : Nat} {c : UInt8} (h : labelB l = true) (hc : l[j]? = some c) : Value.int .i64 (IntKind.i64.wrap (((valK (l.drop (j + 1)) : Nat) : Int) + ((dK c * 37 ^ (l.length - (j + 1)) : Nat) : Int))) = .int .i64 ((valK (l.drop j) : Nat) : Int) := by
  have h6 := (labelB_len h).2
  obtain ⟨hj, rfl⟩ := List.getElem?_eq_some_iff.1 hc
  have h1 := valK_lt (l.drop j)
  have h2 : 37 ^ (l.drop j).length ≤ 37 ^ 6 := Nat.pow_le_pow_right (by omega) (by simp; omega)
  rw [List.drop_eq_getElem_cons hj, valK_cons, List.length_drop] at *
  rw [← Int.natCast_add, Nat.add_comm, w64 (by omega) (by omega)]
theorem keyof_unit {l : List UInt8} {j : Nat} (h : labelB l = true) (hj : j < l.length) : Value.int .i64 (IntKind.i64.wrap (((37 ^ (l.length - (j + 1)) : Nat) : Int) * 37)) = .int .i64 ((37 ^ (l.length - j) : Nat) : Int) := by
  have h6 := (labelB_len h).2
  have h1 : 37 ^ (l.length - (j + 1)) ≤ 37 ^ 6 := Nat.pow_le_pow_right (by omega) (by omega)
  rw [show l.length - j = (l.length - (j + 1)) + 1 by omega, Nat.pow_succ]
  generalize 37 ^ (l.length - (j + 1)) = X at h1 ⊢
  rw [w64 (by omega) (by omega)]
  congr 1
end Go.Proofs.YteomcjpigoaioaaGreatDoor
namespace Go.Proofs.YteomcjpigoaioaaGreatDoor
open Go.FL
attribute [local irreducible] JC JO JA JB thenQ blockQ retQ AC fill CellsAt QE Ev Mid
set_option maxHeartbeats 1000000 in
set_option maxRecDepth 100000 in
theorem keyOf_ac (D : Nat) (L : Hl) (s : World) (l : List UInt8) (hlb : labelB l = true) : AC Tryz.prog D 29 [St l] L s fun v L' _ => v = .int .u32 (valK l : Int) ∧ L = L' := by
 have hl6 := (labelB_len hlb).2
 have hvs := valK_small hlb
 refine AC_enter (TT := TT) (fn := Tryz.f29) TT_ok Tryz.func29 (by kernel_rfl) rfl Tryz.ntmps29 rfl (rs := [.tmp 2]) rfl [(0, _)] rfl ?_
 refine JC_seq ?_
 refine JC_region ?_
 refine JO_q (QE_as rfl) rfl ?_
 refine JO_nil ?_
 refine thenQ_n ?_
 refine JC_seq ?_
 refine JC_region ?_
 refine JO_q (QE_as rfl) rfl ?_
 refine JO_nil ?_
 refine thenQ_n ?_
 refine JC_seq ?_
 refine JC_region ?_
 refine JO_q (QE_as rfl) rfl ?_
 refine JO_nil ?_
 refine thenQ_n ?_
 refine JC_seq ?_
 refine JC_seq ?_
 refine JC_region ?_
 refine JO_q (QE_mv rfl) rfl ?_
 refine JO_q (QE_lenT rfl rfl rfl) rfl ?_
 refine JO_q (QE_sub' rfl rfl (w64 (by omega) (by omega))) rfl ?_
 refine JO_q (QE_as rfl) rfl ?_
 refine JO_nil ?_
 refine thenQ_n ?_
 refine JC_block ?_
 refine JC_loop (γ := Nat) (fun g => [(0, _), (2, _), (3, .int .i64 ((valK (l.drop g) : Nat) : Int)), (4, .int .i64 ((37 ^ (l.length - g) : Nat) : Int)), (5, .int .i64 ((g : Int) - 1))]) (fun _ => _) (fun g tw => Le D s tw ∧ (g ≤ l.length)) (fun g => g) (fun _ _ _ h hl => ⟨h.1.trans hl, h.2⟩) l.length (Keeps.cons rfl (Keeps.cons rfl (Keeps.cons (congrArg some (congrArg (Value.int .i64) (by rw [List.drop_length]; rfl))) (Keeps.cons (congrArg some (congrArg (Value.int .i64) (by rw [Nat.sub_self]; rfl))) (Keeps.cons rfl (Keeps.nil _)))))) rfl ⟨Le.refl _, Nat.le_refl _⟩ ?_
 intro g s1 I1
 have hg := I1.2
 refine JC_seq ?_
 refine JC_seq ?_
 refine JC_region ?_
 refine JO_q (QE_mv rfl) rfl ?_
 refine JO_q (QE_ge rfl rfl) rfl ?_
 refine JO_nil ?_
 refine thenQ_n ?_
 refine JC_ifD rfl (fun c2 => ?_) (fun c2 => ?_)
 ·
  obtain ⟨j, rfl⟩ : ∃ j, g = j + 1 := ⟨g - 1, by omega⟩
  have hj : j < l.length := by omega
  obtain ⟨ch, hch⟩ : ∃ ch, l[j]? = some ch := ⟨_, List.getElem?_eq_getElem hj⟩
  rw [show (((j + 1 : Nat) : Int) - 1) = (j : Int) by omega]
  refine JC_skip ?_
  refine thenQ_n ?_
  refine JC_seq ?_
  refine JC_block ?_
  refine JC_seq ?_
  refine JC_region ?_
  refine JO_q (QE_mv rfl) rfl ?_
  refine JO_q (QE_mv rfl) rfl ?_
  refine JO_q (QE_mv rfl) rfl ?_
  refine JO_q (QE_mv rfl) rfl ?_
  refine JO_q (QE_ix rfl rfl rfl rfl hch) rfl ?_
  refine JO_call (first := []) (captured := []) rfl rfl rfl (find7_ac D _ _ digs _ (by decide)) ?_
  rintro _ _ s3 h3 ⟨rfl, rfl⟩
  refine JO_q (QE_cast (QE_mul rfl rfl) (keyof_mul hlb hch)) rfl ?_
  refine JO_q (QE_cast (QE_add rfl rfl) (keyof_add hlb hch)) rfl ?_
  refine JO_q (QE_as rfl) rfl ?_
  refine JO_nil ?_
  refine thenQ_n ?_
  refine JC_region ?_
  refine JO_q (QE_mv rfl) rfl ?_
  refine JO_q (QE_cast (QE_mul rfl rfl) (keyof_unit hlb hj)) rfl ?_
  refine JO_q (QE_as rfl) rfl ?_
  refine JO_nil ?_
  refine blockQ_n ?_
  refine thenQ_n ?_
  refine JC_region ?_
  refine JO_q (QE_mv rfl) rfl ?_
  refine JO_q (QE_sub' rfl rfl (w64 (by omega) (by omega))) rfl ?_
  refine JO_q (QE_as rfl) rfl ?_
  refine JO_nil ?_
  refine thenQ_n ⟨j, [], (Keeps.cons rfl (Keeps.cons rfl (Keeps.cons rfl (Keeps.cons rfl (Keeps.cons rfl (Keeps.nil _)))))), rfl, ⟨(Le.trans I1.1 h3), (by omega)⟩, (by omega)⟩
 ·
  have hg0 : g = 0 := by omega
  subst hg0
  rw [List.drop_zero]
  refine JC_exit ?_
  refine thenQ_x ?_
  refine thenQ_x ?_
  refine blockQ_x ?_
  refine thenQ_n ?_
  refine JC_seq ?_
  refine JC_region ?_
  refine JO_q (QE_mv rfl) rfl ?_
  refine JO_q (QE_cast (QE_conv rfl rfl rfl rfl rfl) (show Value.int .u32 (IntKind.u32.wrap ((valK l : Nat) : Int)) = .int .u32 ((valK l : Nat) : Int) by rw [wrapW, w32]; congr 1; omega)) rfl ?_
  refine JO_q (QE_as rfl) rfl ?_
  refine JO_nil ?_
  refine thenQ_n ?_
  refine JC_ret ?_
  refine retQ_mk [] L (.inr rfl) (.tmp rfl (.nil)) rfl I1.1 (fun sR hS2 => ?_)
  exact ⟨rfl, rfl⟩
set_option maxHeartbeats 1000000 in
set_option maxRecDepth 100000 in
theorem nameOf_ac (D : Nat) (L : Hl) (s : World) (key : Nat) (hkey : key < 4294967296) : AC Tryz.prog D 30 [.int .u32 (key : Int)] L s fun v L' _ => v = .tuple #[St (nmR key []), .bool (labelB (nmR key []))] ∧ L = L' := by
 refine AC_enter (TT := TT) (fn := Tryz.f30) TT_ok Tryz.func30 (by kernel_rfl) rfl Tryz.ntmps30 rfl (rs := [.tmp 2, .tmp 3]) rfl [(0, _)] rfl ?_
 refine JC_seq ?_
 refine JC_region ?_
 refine JO_q (QE_as rfl) rfl ?_
 refine JO_q (QE_as rfl) rfl ?_
 refine JO_nil ?_
 refine thenQ_n ?_
 refine JC_seq ?_
 refine JC_region ?_
 refine JO_q (QE_as rfl) rfl ?_
 refine JO_nil ?_
 refine thenQ_n ?_
 refine JC_seq ?_
 refine JC_block ?_
 refine JC_loop (γ := Nat × List UInt8) (fun g => [(0, .int .u32 (g.1 : Int)), (2, _), (3, _), (4, St g.2)]) (fun _ => _) (fun g tw => Le D s tw ∧ (nmR key [] = nmR g.1 g.2 ∧ g.2.length + g.1 ≤ key)) (fun g => g.1) (fun _ _ _ h hl => ⟨h.1.trans hl, h.2⟩) (key, []) (Keeps.cons rfl (Keeps.cons rfl (Keeps.cons rfl (Keeps.cons rfl (Keeps.nil _))))) rfl ⟨Le.refl _, ⟨rfl, by simp⟩⟩ ?_
 intro g s1 I1
 obtain ⟨n, acc⟩ := g
 obtain ⟨hS, hsz⟩ := I1.2
 simp only at hS hsz
 dsimp only
 refine JC_seq ?_
 refine JC_seq ?_
 refine JC_region ?_
 refine JO_q (QE_mv rfl) rfl ?_
 refine JO_q (QE_gt rfl rfl) rfl ?_
 refine JO_nil ?_
 refine thenQ_n ?_
 refine JC_ifD rfl (fun c2 => ?_) (fun c2 => ?_)
 ·
  have hn0 : n ≠ 0 := by omega
  have hd := chr_all (Nat.mod_lt n (by decide : 0 < 37))
  refine JC_skip ?_
  refine thenQ_n ?_
  refine JC_block ?_
  refine JC_seq ?_
  refine JC_region ?_
  refine JO_q (QE_mv rfl) rfl ?_
  refine JO_q (QE_cast (QE_rem rfl rfl (by decide)) (name_rem n)) rfl ?_
  refine JO_q (QE_as rfl) rfl ?_
  refine JO_nil ?_
  refine thenQ_n ?_
  refine JC_seq ?_
  refine JC_region ?_
  refine JO_q (QE_mv rfl) rfl ?_
  refine JO_q (QE_mv rfl) rfl ?_
  refine JO_q (QE_add' (c := ((n % 37 + 1 : Nat) : Int)) rfl rfl (by rw [wrapW, w32]; omega)) rfl ?_
  refine JO_q (QE_cast (QE_stLH (l := digs) (a := n % 37) (u := n % 37 + 1) rfl rfl rfl rfl rfl (by omega) (show n % 37 + 1 ≤ 37 by omega)) (congrArg St (show _ = [chr0 (n % 37)] by rw [← hd.2.2, show n % 37 + 1 - n % 37 = 1 by omega]))) rfl ?_
  refine JO_q (QE_mv rfl) rfl ?_
  refine JO_q (QE_sadd rfl rfl (by simp only [List.length_append, List.length_cons, List.length_nil]; omega)) rfl ?_
  refine JO_q (QE_as rfl) rfl ?_
  refine JO_nil ?_
  refine thenQ_n ?_
  refine JC_region ?_
  refine JO_q (QE_mv rfl) rfl ?_
  refine JO_q (QE_cast (QE_quo rfl rfl (by decide)) (name_quo (by omega))) rfl ?_
  refine JO_q (QE_as rfl) rfl ?_
  refine JO_nil ?_
  refine blockQ_n ?_
  refine thenQ_n ⟨(n / 37, chr0 (n % 37) :: acc), [], (Keeps.cons rfl (Keeps.cons rfl (Keeps.cons rfl (Keeps.cons rfl (Keeps.nil _))))), rfl, ⟨I1.1, ⟨by simp only; rw [hS, nmR_more (by omega)], by simp only [List.length_cons]; omega⟩⟩, (by simp only; omega)⟩
 ·
  have hn0 : n = 0 := by omega
  subst hn0
  rw [nmR_zero] at hS
  subst hS
  refine JC_exit ?_
  refine thenQ_x ?_
  refine thenQ_x ?_
  refine blockQ_x ?_
  refine thenQ_n ?_
  refine JC_seq ?_
  refine JC_region ?_
  refine JO_q (QE_mv rfl) rfl ?_
  refine JO_q (QE_mv rfl) rfl ?_
  refine JO_call (first := []) (captured := []) rfl rfl rfl (isLabel_ac D _ _ _ (by omega)) ?_
  rintro _ _ s3 h3 ⟨rfl, rfl⟩
  refine JO_q (QE_as rfl) rfl ?_
  refine JO_q (QE_as rfl) rfl ?_
  refine JO_nil ?_
  refine thenQ_n ?_
  refine JC_ret ?_
  refine retQ_mk [] L (.inr rfl) (.tmp rfl (.tmp rfl (.nil))) rfl (Le.trans I1.1 h3) (fun sR hS2 => ?_)
  exact ⟨rfl, rfl⟩
set_option maxHeartbeats 2000000 in
set_option maxRecDepth 100000 in
theorem lawKeys_ac (D : Nat) (L : Hl) (s : World) (hG : GW s) (l : List UInt8) (hl : l.length ≤ 9223372036854775807) (key : Nat) (hkey : key < 4294967296) : AC Tryz.prog D 7 [St l, .int .u32 (key : Int)] L s fun v L' _ => v = .bool true ∧ L = L' := by
 refine AC_enter (TT := TT) (fn := Tryz.f7) TT_ok Tryz.func7 (by kernel_rfl) rfl Tryz.ntmps7 rfl (rs := [.tmp 4]) rfl [(0, _), (1, _)] rfl ?_
 refine JC_seq ?_
 refine JC_region ?_
 refine JO_q (QE_as rfl) rfl ?_
 refine JO_nil ?_
 refine thenQ_n ?_
 refine JC_seq ?_
 refine JC_region ?_
 refine JO_q (QE_mv rfl) rfl ?_
 refine JO_call (first := []) (captured := []) rfl rfl rfl (key_ac D _ _ l) ?_
 rintro _ _ s1 h1 ⟨rfl, rfl⟩
 refine JO_q (QE_mv rfl) rfl ?_
 refine JO_q (QE_ext rfl rfl) rfl ?_
 refine JO_q (QE_ext rfl rfl) rfl ?_
 refine JO_allocZ rfl [_, _] rfl rfl ?_
 intro β2 s2 h2
 refine JO_q (QE_as rfl) rfl ?_
 refine JO_st 0 [_, _] rfl rfl rfl rfl rfl rfl rfl rfl rfl ?_
 refine JO_nil ?_
 refine thenQ_n ?_
 refine JC_seq ?_
 refine JC_region ?_
 refine JO_q (QE_mv rfl) rfl ?_
 refine JO_call (first := []) (captured := []) rfl rfl rfl (name_ac D _ _ key hkey) ?_
 rintro _ _ s3 h3 ⟨rfl, rfl⟩
 refine JO_q (QE_mv rfl) rfl ?_
 refine JO_q (QE_ext rfl rfl) rfl ?_
 refine JO_q (QE_ext rfl rfl) rfl ?_
 refine JO_allocZ rfl [_, _] rfl rfl ?_
 intro β4 s4 h4
 refine JO_q (QE_as rfl) rfl ?_
 refine JO_st 0 [_, _] rfl rfl rfl rfl rfl rfl rfl rfl rfl ?_
 refine JO_nil ?_
 refine thenQ_n ?_
 refine JC_seq ?_
 refine JC_seq ?_
 refine JC_region ?_
 refine JO_call (first := []) (captured := []) rfl rfl rfl (translated_ac D _ _ (hG.le (Le.trans (Le.trans (Le.trans h1 h2) h3) h4))) ?_
 rintro _ _ s5 h5 ⟨rfl, rfl⟩
 refine JO_q (QE_notT rfl) rfl ?_
 refine JO_nil ?_
 refine thenQ_n ?_
 refine JC_ifF rfl ?_
 refine JC_skip ?_
 refine thenQ_n ?_
 refine JC_seq ?_
 refine JC_seq ?_
 refine JC_region ?_
 refine JO_q (QE_mv rfl) rfl ?_
 refine JO_call (first := []) (captured := []) rfl rfl rfl (isLabel_ac D _ _ _ hl) ?_
 rintro _ _ s6 h6 ⟨rfl, rfl⟩
 refine JO_nil ?_
 refine thenQ_n ?_
 refine JC_if rfl (fun c7 => ?_) (fun c7 => ?_)
 ·
  have hlb := c7
  rw [(key_yes hlb).1]
  refine JC_seq ?_
  refine JC_region ?_
  refine JO_q (QE_mv rfl) rfl ?_
  refine JO_call (first := []) (captured := []) rfl rfl rfl (name_ac D _ _ (valK l) (by have := valK_small hlb; omega)) ?_
  rintro _ _ s8 h8 ⟨rfl, rfl⟩
  refine JO_q (QE_mv rfl) rfl ?_
  refine JO_q (QE_ext rfl rfl) rfl ?_
  refine JO_q (QE_ext rfl rfl) rfl ?_
  refine JO_allocZ rfl [_, _] rfl rfl ?_
  intro β9 s9 h9
  refine JO_q (QE_as rfl) rfl ?_
  refine JO_st 0 [_, _] rfl rfl rfl rfl rfl rfl rfl rfl rfl ?_
  refine JO_nil ?_
  refine thenQ_n ?_
  refine JC_seq ?_
  refine JC_region ?_
  refine JO_q (QE_fa0 rfl rfl rfl rfl) rfl ?_
  refine JO_q (QE_ld1 2 rfl rfl rfl rfl rfl) rfl ?_
  refine JO_q (QE_cast (v' := .bool false) (QE_ne rfl rfl) (bF (by rw [(key_yes hlb).2]))) rfl ?_
  refine JO_q (QE_mv rfl) rfl ?_
  refine JO_gT rfl rfl ?_
  refine JO_q (QE_mv rfl) rfl ?_
  refine JO_gT rfl rfl ?_
  refine JO_q (QE_mv rfl) rfl ?_
  refine JO_gT rfl rfl ?_
  refine JO_call (first := []) (captured := []) rfl rfl rfl (keyOf_ac D _ _ l hlb) ?_
  rintro _ _ s10 h10 ⟨rfl, rfl⟩
  refine JO_gT rfl rfl ?_
  refine JO_q (QE_cast (v' := .bool false) (QE_ne rfl rfl) (bF rfl)) rfl ?_
  refine JO_q (QE_pickF rfl rfl) rfl ?_
  refine JO_q (QE_mv rfl) rfl ?_
  refine JO_gT rfl rfl ?_
  refine JO_q (QE_fa0 rfl rfl rfl rfl) rfl ?_
  refine JO_gT rfl rfl ?_
  refine JO_q (QE_ld1 0 rfl rfl rfl rfl rfl) rfl ?_
  refine JO_gT rfl rfl ?_
  refine JO_q (QE_cast (v' := .bool false) (QE_ne rfl rfl) (bF (by rw [(name_key hlb).2]))) rfl ?_
  refine JO_q (QE_pickF rfl rfl) rfl ?_
  refine JO_q (QE_mv rfl) rfl ?_
  refine JO_gT rfl rfl ?_
  refine JO_q (QE_mv rfl) rfl ?_
  refine JO_gT rfl rfl ?_
  refine JO_q (QE_mv rfl) rfl ?_
  refine JO_gT rfl rfl ?_
  refine JO_q (QE_cast (v' := .bool false) (QE_sne rfl rfl) (bF (name_key hlb).1)) rfl ?_
  refine JO_q (QE_pickF rfl rfl) rfl ?_
  refine JO_nil ?_
  refine thenQ_n ?_
  refine JC_ifF rfl ?_
  refine JC_skip ?_
  refine thenQ_n ?_
  refine JC_seq ?_
  refine JC_region ?_
  refine JO_q (QE_mv rfl) rfl ?_
  refine JO_call (first := []) (captured := []) rfl rfl rfl (nameOf_ac D _ _ key hkey) ?_
  rintro _ _ s11 h11 ⟨rfl, rfl⟩
  refine JO_q (QE_mv rfl) rfl ?_
  refine JO_q (QE_ext rfl rfl) rfl ?_
  refine JO_q (QE_ext rfl rfl) rfl ?_
  refine JO_q (QE_as rfl) rfl ?_
  refine JO_q (QE_as rfl) rfl ?_
  refine JO_nil ?_
  refine thenQ_n ?_
  refine JC_seq ?_
  refine JC_seq ?_
  refine JC_region ?_
  refine JO_q (QE_mv rfl) rfl ?_
  refine JO_q (QE_not rfl) rfl ?_
  refine JO_nil ?_
  refine thenQ_n ?_
  refine JC_ifM rfl (fun c12 => ?_) (fun c12 => ?_)
  ·
   have hnm := name_not_ c12
   refine JC_seq ?_
   refine JC_draw drawsMixed 8 rfl _ (fun _ h => h) ?_
   intro s13 h13
   refine JA_q 0 rfl (by kernel_rfl) (by kernel_rfl) (by kernel_rfl) trivial (QE_ldA 1 [_, _] rfl rfl rfl rfl rfl) rfl ?_
   refine JA_1 1 (by kernel_rfl) ?_
   refine JB_call rfl trivial (first := []) (captured := []) rfl rfl rfl (at_ac D _ _ _ _) ?_
   rintro _ _ s14 h14 ⟨rfl, rfl⟩
   refine ⟨fun _ _ h => h, ?_⟩
   refine JA_q 2 rfl (by kernel_rfl) (by kernel_rfl) (by kernel_rfl) trivial (QE_cast (v' := .bool true) (QE_aeq rfl rfl (eqFault _ _ _ _)) (bT (by rw [hnm.2]; exact ⟨rfl, rfl⟩))) rfl ?_
   refine JA_q 3 rfl (by kernel_rfl) (by kernel_rfl) (by kernel_rfl) trivial (QE_mv rfl) rfl ?_
   refine JA_q 4 rfl (by kernel_rfl) (by kernel_rfl) (by kernel_rfl) ⟨_, rfl, rfl⟩ (QE_mv rfl) rfl ?_
   refine JA_q 5 rfl (by kernel_rfl) (by kernel_rfl) (by kernel_rfl) ⟨_, rfl, rfl⟩ (QE_cast (v' := .bool true) (QE_seq rfl rfl) (bT hnm.1)) rfl ?_
   refine JA_q 6 rfl (by kernel_rfl) (by kernel_rfl) (by kernel_rfl) trivial (QE_pickT rfl rfl) rfl ?_
   refine JA_q 7 rfl (by kernel_rfl) (by kernel_rfl) (by kernel_rfl) trivial (QE_as rfl) rfl ?_
   refine JA_done (by kernel_rfl) ?_
   refine thenQ_n ?_
   refine JC_ret ?_
   refine thenQ_r ?_
   refine retQ_mk [_, _, _] L (.inr rfl) (.tmp rfl (.nil)) rfl (Le.trans (Le.trans (Le.trans (Le.trans (Le.trans (Le.trans (Le.trans (Le.trans (Le.trans (Le.trans (Le.trans h1 h2) h3) h4) h5) h6) h8) h9) h10) h11) h13) h14) (fun sR hS2 => ?_)
   exact ⟨rfl, rfl⟩
  ·
   have hnl := c12
   have hnm := name_yes hnl
   have hkn := key_name hnl
   rw [← hnm.1] at hkn
   refine JC_skip ?_
   refine thenQ_n ?_
   refine JC_seq ?_
   refine JC_region ?_
   refine JO_q (QE_mv rfl) rfl ?_
   refine JO_call (first := []) (captured := []) rfl rfl rfl (key_ac D _ _ _) ?_
   rintro _ _ s15 h15 ⟨rfl, rfl⟩
   refine JO_q (QE_mv rfl) rfl ?_
   refine JO_q (QE_ext rfl rfl) rfl ?_
   refine JO_q (QE_ext rfl rfl) rfl ?_
   refine JO_allocZ rfl [_, _] rfl rfl ?_
   intro β16 s16 h16
   refine JO_q (QE_as rfl) rfl ?_
   refine JO_st 0 [_, _] rfl rfl rfl rfl rfl rfl rfl rfl rfl ?_
   refine JO_nil ?_
   refine thenQ_n ?_
   refine JC_seq ?_
   refine JC_region ?_
   refine JO_q (QE_fa0 rfl rfl rfl rfl) rfl ?_
   refine JO_q (QE_ld1 2 rfl rfl rfl rfl rfl) rfl ?_
   refine JO_q (QE_cast (v' := .bool true) (QE_eq rfl rfl) (bT (by rw [hnm.2]))) rfl ?_
   refine JO_q (QE_mv rfl) rfl ?_
   refine JO_gT rfl rfl ?_
   refine JO_q (QE_mv rfl) rfl ?_
   refine JO_gT rfl rfl ?_
   refine JO_q (QE_mv rfl) rfl ?_
   refine JO_gT rfl rfl ?_
   refine JO_q (QE_cast (v' := .bool true) (QE_seq rfl rfl) (bT hnm.1)) rfl ?_
   refine JO_q (QE_pickT rfl rfl) rfl ?_
   refine JO_q (QE_mv rfl) rfl ?_
   refine JO_gT rfl rfl ?_
   refine JO_q (QE_fa0 rfl rfl rfl rfl) rfl ?_
   refine JO_gT rfl rfl ?_
   refine JO_q (QE_ld1 0 rfl rfl rfl rfl rfl) rfl ?_
   refine JO_gT rfl rfl ?_
   refine JO_q (QE_cast (v' := .bool true) (QE_eq rfl rfl) (bT (by rw [hkn.2]))) rfl ?_
   refine JO_q (QE_pickT rfl rfl) rfl ?_
   refine JO_q (QE_mv rfl) rfl ?_
   refine JO_gT rfl rfl ?_
   refine JO_q (QE_mv rfl) rfl ?_
   refine JO_gT rfl rfl ?_
   refine JO_q (QE_mv rfl) rfl ?_
   refine JO_gT rfl rfl ?_
   refine JO_q (QE_cast (v' := .bool true) (QE_eq rfl rfl) (bT hkn.1)) rfl ?_
   refine JO_q (QE_pickT rfl rfl) rfl ?_
   refine JO_q (QE_as rfl) rfl ?_
   refine JO_nil ?_
   refine thenQ_n ?_
   refine JC_ret ?_
   refine retQ_mk [_, _, _, _] L (.inr rfl) (.tmp rfl (.nil)) rfl (Le.trans (Le.trans (Le.trans (Le.trans (Le.trans (Le.trans (Le.trans (Le.trans (Le.trans (Le.trans (Le.trans h1 h2) h3) h4) h5) h6) h8) h9) h10) h11) h15) h16) (fun sR hS2 => ?_)
   exact ⟨rfl, rfl⟩
 ·
  have hlb := c7
  rw [(key_no hlb).1]
  refine JC_seq ?_
  refine JC_draw drawsMixed 7 rfl _ (fun _ h => h) ?_
  intro s17 h17
  refine JA_q 0 rfl (by kernel_rfl) (by kernel_rfl) (by kernel_rfl) trivial (QE_ldA 1 [_, _] rfl rfl rfl rfl rfl) rfl ?_
  refine JA_1 1 (by kernel_rfl) ?_
  refine JB_call rfl trivial (first := []) (captured := []) rfl rfl rfl (at_ac D _ _ _ _) ?_
  rintro _ _ s18 h18 ⟨rfl, rfl⟩
  refine ⟨fun _ _ h => h, ?_⟩
  refine JA_q 2 rfl (by kernel_rfl) (by kernel_rfl) (by kernel_rfl) trivial (QE_cast (v' := .bool false) (QE_ane rfl rfl (eqFault _ _ _ _)) (bF (by rw [(key_no hlb).2]; exact ⟨rfl, rfl⟩))) rfl ?_
  refine JA_q 3 rfl (by kernel_rfl) (by kernel_rfl) (by kernel_rfl) trivial (QE_mv rfl) rfl ?_
  refine JA_q 4 rfl (by kernel_rfl) (by kernel_rfl) (by kernel_rfl) ⟨_, rfl, rfl⟩ (QE_mv rfl) rfl ?_
  refine JA_q 5 rfl (by kernel_rfl) (by kernel_rfl) (by kernel_rfl) ⟨_, rfl, rfl⟩ (QE_cast (v' := .bool false) (QE_ne rfl rfl) (bF rfl)) rfl ?_
  refine JA_q 6 rfl (by kernel_rfl) (by kernel_rfl) (by kernel_rfl) trivial (QE_pickF rfl rfl) rfl ?_
  refine JA_done (by kernel_rfl) ?_
  refine thenQ_n ?_
  refine JC_ifF rfl ?_
  refine JC_skip ?_
  refine thenQ_n ?_
  refine JC_seq ?_
  refine JC_region ?_
  refine JO_q (QE_mv rfl) rfl ?_
  refine JO_call (first := []) (captured := []) rfl rfl rfl (nameOf_ac D _ _ key hkey) ?_
  rintro _ _ s19 h19 ⟨rfl, rfl⟩
  refine JO_q (QE_mv rfl) rfl ?_
  refine JO_q (QE_ext rfl rfl) rfl ?_
  refine JO_q (QE_ext rfl rfl) rfl ?_
  refine JO_q (QE_as rfl) rfl ?_
  refine JO_q (QE_as rfl) rfl ?_
  refine JO_nil ?_
  refine thenQ_n ?_
  refine JC_seq ?_
  refine JC_seq ?_
  refine JC_region ?_
  refine JO_q (QE_mv rfl) rfl ?_
  refine JO_q (QE_not rfl) rfl ?_
  refine JO_nil ?_
  refine thenQ_n ?_
  refine JC_ifM rfl (fun c20 => ?_) (fun c20 => ?_)
  ·
   have hnm := name_not_ c20
   refine JC_seq ?_
   refine JC_draw drawsMixed 8 rfl _ (fun _ h => h) ?_
   intro s21 h21
   refine JA_q 0 rfl (by kernel_rfl) (by kernel_rfl) (by kernel_rfl) trivial (QE_ldA 0 [_, _] rfl rfl rfl rfl rfl) rfl ?_
   refine JA_1 1 (by kernel_rfl) ?_
   refine JB_call rfl trivial (first := []) (captured := []) rfl rfl rfl (at_ac D _ _ _ _) ?_
   rintro _ _ s22 h22 ⟨rfl, rfl⟩
   refine ⟨fun _ _ h => h, ?_⟩
   refine JA_q 2 rfl (by kernel_rfl) (by kernel_rfl) (by kernel_rfl) trivial (QE_cast (v' := .bool true) (QE_aeq rfl rfl (eqFault _ _ _ _)) (bT (by rw [hnm.2]; exact ⟨rfl, rfl⟩))) rfl ?_
   refine JA_q 3 rfl (by kernel_rfl) (by kernel_rfl) (by kernel_rfl) trivial (QE_mv rfl) rfl ?_
   refine JA_q 4 rfl (by kernel_rfl) (by kernel_rfl) (by kernel_rfl) ⟨_, rfl, rfl⟩ (QE_mv rfl) rfl ?_
   refine JA_q 5 rfl (by kernel_rfl) (by kernel_rfl) (by kernel_rfl) ⟨_, rfl, rfl⟩ (QE_cast (v' := .bool true) (QE_seq rfl rfl) (bT hnm.1)) rfl ?_
   refine JA_q 6 rfl (by kernel_rfl) (by kernel_rfl) (by kernel_rfl) trivial (QE_pickT rfl rfl) rfl ?_
   refine JA_q 7 rfl (by kernel_rfl) (by kernel_rfl) (by kernel_rfl) trivial (QE_as rfl) rfl ?_
   refine JA_done (by kernel_rfl) ?_
   refine thenQ_n ?_
   refine JC_ret ?_
   refine thenQ_r ?_
   refine retQ_mk [_, _] L (.inr rfl) (.tmp rfl (.nil)) rfl (Le.trans (Le.trans (Le.trans (Le.trans (Le.trans (Le.trans (Le.trans (Le.trans (Le.trans (Le.trans h1 h2) h3) h4) h5) h6) h17) h18) h19) h21) h22) (fun sR hS2 => ?_)
   exact ⟨rfl, rfl⟩
  ·
   have hnl := c20
   have hnm := name_yes hnl
   have hkn := key_name hnl
   rw [← hnm.1] at hkn
   refine JC_skip ?_
   refine thenQ_n ?_
   refine JC_seq ?_
   refine JC_region ?_
   refine JO_q (QE_mv rfl) rfl ?_
   refine JO_call (first := []) (captured := []) rfl rfl rfl (key_ac D _ _ _) ?_
   rintro _ _ s23 h23 ⟨rfl, rfl⟩
   refine JO_q (QE_mv rfl) rfl ?_
   refine JO_q (QE_ext rfl rfl) rfl ?_
   refine JO_q (QE_ext rfl rfl) rfl ?_
   refine JO_allocZ rfl [_, _] rfl rfl ?_
   intro β24 s24 h24
   refine JO_q (QE_as rfl) rfl ?_
   refine JO_st 0 [_, _] rfl rfl rfl rfl rfl rfl rfl rfl rfl ?_
   refine JO_nil ?_
   refine thenQ_n ?_
   refine JC_seq ?_
   refine JC_region ?_
   refine JO_q (QE_fa0 rfl rfl rfl rfl) rfl ?_
   refine JO_q (QE_ld1 1 rfl rfl rfl rfl rfl) rfl ?_
   refine JO_q (QE_cast (v' := .bool true) (QE_eq rfl rfl) (bT (by rw [hnm.2]))) rfl ?_
   refine JO_q (QE_mv rfl) rfl ?_
   refine JO_gT rfl rfl ?_
   refine JO_q (QE_mv rfl) rfl ?_
   refine JO_gT rfl rfl ?_
   refine JO_q (QE_mv rfl) rfl ?_
   refine JO_gT rfl rfl ?_
   refine JO_q (QE_cast (v' := .bool true) (QE_seq rfl rfl) (bT hnm.1)) rfl ?_
   refine JO_q (QE_pickT rfl rfl) rfl ?_
   refine JO_q (QE_mv rfl) rfl ?_
   refine JO_gT rfl rfl ?_
   refine JO_q (QE_fa0 rfl rfl rfl rfl) rfl ?_
   refine JO_gT rfl rfl ?_
   refine JO_q (QE_ld1 0 rfl rfl rfl rfl rfl) rfl ?_
   refine JO_gT rfl rfl ?_
   refine JO_q (QE_cast (v' := .bool true) (QE_eq rfl rfl) (bT (by rw [hkn.2]))) rfl ?_
   refine JO_q (QE_pickT rfl rfl) rfl ?_
   refine JO_q (QE_mv rfl) rfl ?_
   refine JO_gT rfl rfl ?_
   refine JO_q (QE_mv rfl) rfl ?_
   refine JO_gT rfl rfl ?_
   refine JO_q (QE_mv rfl) rfl ?_
   refine JO_gT rfl rfl ?_
   refine JO_q (QE_cast (v' := .bool true) (QE_eq rfl rfl) (bT hkn.1)) rfl ?_
   refine JO_q (QE_pickT rfl rfl) rfl ?_
   refine JO_q (QE_as rfl) rfl ?_
   refine JO_nil ?_
   refine thenQ_n ?_
   refine JC_ret ?_
   refine retQ_mk [_, _, _] L (.inr rfl) (.tmp rfl (.nil)) rfl (Le.trans (Le.trans (Le.trans (Le.trans (Le.trans (Le.trans (Le.trans (Le.trans (Le.trans (Le.trans h1 h2) h3) h4) h5) h6) h17) h18) h19) h23) h24) (fun sR hS2 => ?_)
   exact ⟨rfl, rfl⟩
end Go.Proofs.YteomcjpigoaioaaGreatDoor
namespace Go.Proofs.YteomcjpigoaioaaGreatDoor
open Go Go.FL Go.ChangeShapes Go.WideShapes Go.ChangeAt Go.RowKit Go.Deep
theorem own_knob : ownKnob Tryz.prog.godebug = none := by kernel_rfl
theorem laid_out : laidOutB Tryz.prog = true := by kernel_rfl
theorem mark_free (l : List Obj) : ∃ D, ∀ E, D ≤ E → ∀ o ∈ l, o ≠ dum E := by
  induction l with
  | nil => exact ⟨0, fun _ _ _ h => by cases h⟩
  | cons x l ih =>
    obtain ⟨D, hD⟩ := ih
    have hx : ∃ B, ∀ E, B ≤ E → x ≠ dum E := by
      cases x with
      | mapIter a n b c => exact ⟨n + 1, fun E hE h => by simp only [dum, Obj.mapIter.injEq] at h; omega⟩
      | _ => exact ⟨0, fun E _ h => by simp [dum] at h⟩
    obtain ⟨B, hB⟩ := hx
    refine ⟨max D B, fun E hE o ho => ?_⟩
    rcases List.mem_cons.1 ho with rfl | ho
    · exact hB E (by omega)
    · exact hD E (by omega) o ho
theorem mark_world (W : World) : ∃ D, ∀ k : Nat, W.heap[k]? ≠ some (dum D) := by
  obtain ⟨D, hD⟩ := mark_free W.heap.toList
  refine ⟨D, fun k hk => hD D (Nat.le_refl _) (dum D) ?_ rfl⟩
  rw [← Array.getElem?_toList] at hk
  exact List.mem_of_getElem? hk
theorem below_of {D : Nat} {W W' : World} (hD : ∀ k : Nat, W.heap[k]? ≠ some (dum D)) (h : Le D W W') : Below W.heap.size W W' :=
  ⟨h.os, h.tape, h.output, h.size, fun k hk => (h.block k hk).resolve_left (hD k)⟩
theorem law_calls {P : Program} {f : FuncId} {args : List Value} {W : World} (h : ∀ D, AC P D f args [] W fun v L' _ => v = .bool true ∧ [] = L') :
    Calls P f args.toArray W fun e W' => e = .returned (.bool true) ∧ Below W.heap.size W W' := by
  obtain ⟨D, hD⟩ := mark_world W
  refine ((h D).2 ⟨by simp, fun x hx => by cases hx⟩).mono ?_
  rintro e w' ⟨v, L', s', h1, rfl, h3, h4, rfl, rfl⟩
  exact ⟨h1, below_of hD h4⟩
section
variable {H : Type} {enc : TypeId × Value → H} {P : Program}
theorem trodAll_stays {W W' : World} (hl : laidOutB P = true) (hb : Below W.heap.size W W') : ∀ {ts : List TypeId} {vs : List Value} {ds : List (DataW H)} {ps : List MemPlace}, (∀ t ∈ ts, P.readableRec t = true ∧ t < P.types.size) → (∀ x ∈ ps, x.block < W.heap.size) →
    DataW.TrodAll enc P W 0 (fun _ => true) true ts vs ds ps → DataW.TrodAll enc P W' 0 (fun b => decide (b < W.heap.size)) true ts vs ds ps
  | [], _, _, _, _, _, h => by
    obtain ⟨rfl, rfl, rfl⟩ := trodAll_nil h
    exact trodAll_mk0
  | t :: ts, _, _, _, hts, hp, h => by
    obtain ⟨v, vs, d, ds, a, b, rfl, rfl, rfl, h1, h2⟩ := trodAll_cons h
    have ht := hts t (List.mem_cons_self ..)
    exact trodAll_cons_mk (Below.trod hl ht.1 ht.2 h1 hb fun x hx => hp x (List.mem_append_left _ hx)) (trodAll_stays hl hb (fun t' h' => hts t' (List.mem_cons_of_mem _ h')) (fun x hx => hp x (List.mem_append_right _ hx)) h2)
theorem law_post {fn : Func} {s : ChangeSpec} {W W' : World} {args : Array Value} {ds gs : List (DataW H)} {before : List MemPlace} {tb : TypeId} (hl : laidOutB P = true) (hts : ∀ t ∈ fn.params.toList, P.readableRec t = true ∧ t < P.types.size) (hr : fn.resultTypes = #[tb]) (hb : P.underlying tb = some .bool)
    (hv : s.vars = []) (hW : DataW.Whole enc P fn.params.toList s.vars false W args.toList ds gs before) (hfn : s.fn H ds = { results := [.lit (.bool true)], args := ds }) (hB : Below W.heap.size W W') : s.post enc P fn false true false false W args (.bool true) W' := by
  have hlt : ∀ x ∈ before, x.block < W.heap.size := fun x hx => hW.lt x hx
  have hW' := hW
  obtain ⟨p, q, hA, hV, rfl, _, _⟩ := hW
  rw [hv] at hV
  obtain ⟨rfl, rfl⟩ := trodVars_none hV
  refine ⟨ds, [], p ++ [], [], p, [], hW', ?_, ?_, ?_, hB.frame _, fun h => by cases h⟩
  · rw [List.append_nil, hfn, hr]; exact trodAll_cons_mk (shut_bool hb _) trodAll_mk0
  · rw [List.append_nil, hfn]; exact trodAll_stays hl hB hts (fun x hx => hlt x (List.mem_append_left _ hx)) hA
  · rw [List.append_nil, hfn, hv]; rfl
end
def Rd (W : World) (t : TypeId) (cs : List Value) : Prop := ∃ (H : Type) (enc : TypeId × Value → H) (n : Nat) (x : DataW H × List MemPlace), DataW.trod enc Tryz.prog W 0 (fun _ => true) true n t cs = some x
section
variable {W : World} {t e : TypeId} {cs : List Value}
theorem rd_str (ht : Tryz.prog.underlying t = some .string) (h : Rd W t cs) : ∃ l : List UInt8, cs = [St l] ∧ l.length ≤ 9223372036854775807 := by
  obtain ⟨H, enc, n, x, h⟩ := h
  obtain ⟨s, h1, _, h2⟩ := DataW.trod_string ht h
  refine ⟨s.data.toList, by rw [h1], ?_⟩
  have : s.data.toList.length = s.size := by rw [Array.length_toList]; rfl
  simp only [maxLen] at h2
  omega
theorem one_eq {a b : Value} (h : [a] = [b]) : a = b := by injection h
theorem u32_wf {n : Int} (h : (Lit.int .u32 n).wf = true) : U32 n := by have := bounds_u32 h; exact ⟨by omega, by omega⟩
end
end Go.Proofs.YteomcjpigoaioaaGreatDoor
namespace Go.Proofs.YteomcjpigoaioaaGreatDoor
open Go Go.FL Go.ChangeShapes Go.WideShapes Go.ChangeAt Go.RowKit
set_option maxRecDepth 100000
instance : Inhabited Ac := ⟨⟨0, 0, ⟨0, 0⟩, ⟨0, 0⟩⟩⟩
instance : Inhabited Ins := ⟨⟨[], 0, false, []⟩⟩
section
variable {H : Type} {enc : TypeId × Value → H} {W : World} {base : Nat} {v : Value} {d : DataW H} {ps : List MemPlace}
theorem rd_of {t : TypeId} (hd : DataW.Trod enc Tryz.prog W 0 (fun _ => true) true t v d ps) : Rd W t v.cells.toList := by
  obtain ⟨n, h⟩ := hd
  exact ⟨H, enc, n, _, h⟩
end
end Go.Proofs.YteomcjpigoaioaaGreatDoor
namespace Go.Proofs.YteomcjpigoaioaaGreatDoor
open Go Go.FL Go.RowKit
theorem row_err (u : TypeId) (hu : Tryz.prog.typeName? 3 u = Tryz.prog.typeName? 3 247) : u = 247 :=
  have hn : Tryz.prog.typeName? 3 247 = some ("*" ++ "errors.errorString") := by kernel_rfl
  typeName_ptr_named (nm := "errors.errorString") (by kernel_rfl) (by kernel_rfl) (by decide) u (hu.trans hn)
theorem gw_var {W : World} {nm : String} {g : Nat} {cs : Array Value} (hg : Tryz.prog.globalNamed nm = some g) (h : W.var? Tryz.prog nm = some cs) : ∃ ty fz, W.heap[g]? = some (.cells cs ty fz) := by
  unfold World.var? at h
  rw [hg] at h
  simp only [Option.bind_some] at h
  split at h
  · rename_i c t f hb
    injection h with h
    subst h
    exact ⟨t, f, hb⟩
  · cases h
set_option maxRecDepth 100000 in
theorem gw_of {W : World} (h : laidMetH Tryz.prog Rows.asmPackIsInverseRow.laid W) : GW W := by
  rw [MakeChecks.laidMetH_plain _ _ _ (by kernel_rfl)] at h
  have h2 := h.tail.tail
  have hpow := Lib.tabIs_of_head (zs := Lib.pow10Tab) (k := .u64) (g := 0) (by kernel_rfl) (by kernel_rfl) Tryz.underlying220 Tryz.underlying123 (by kernel_rfl) (by kernel_rfl) h2
  have h4 := h2.tail.tail
  obtain ⟨a1, s1, hv1, _⟩ := laid_sentinel (g := 7) h4 (by kernel_rfl) (by kernel_rfl) Tryz.underlying106 (fun u hu => row_err u (hu.trans (by kernel_rfl))) Tryz.underlying247 Tryz.underlying249 rfl rfl Tryz.underlying9 (by kernel_rfl) (by kernel_rfl)
  obtain ⟨a2, s2, hv2, _⟩ := laid_sentinel (g := 6) h4.tail (by kernel_rfl) (by kernel_rfl) Tryz.underlying106 (fun u hu => row_err u (hu.trans (by kernel_rfl))) Tryz.underlying247 Tryz.underlying249 rfl rfl Tryz.underlying9 (by kernel_rfl) (by kernel_rfl)
  refine ⟨?_, ?_, ?_⟩
  · exact gw_var (g := 0) (by kernel_rfl) hpow
  · exact ⟨_, _, World.var?_cell (g := 6) (by kernel_rfl) hv2 0⟩
  · exact ⟨_, _, World.var?_cell (g := 7) (by kernel_rfl) hv1 0⟩
end Go.Proofs.YteomcjpigoaioaaGreatDoor
namespace Go.Proofs.YteomcjpigoaioaaGreatDoor
open Go Go.FL Go.ChangeShapes Go.WideShapes Go.ChangeAt Go.RowKit Go.Deep
set_option maxRecDepth 100000
section
variable {H : Type} {enc : TypeId × Value → H} {W : World} {base : Nat} {v : Value} {d : DataW H} {ps : List MemPlace}
theorem arg_str (hv : Value.okWide Tryz.prog W .any base 9 v) (hd : DataW.Trod enc Tryz.prog W 0 (fun _ => true) true 9 v d ps) : ∃ l, v = St l ∧ l.length ≤ 9223372036854775807 := by
  obtain ⟨x, h1, h2⟩ := rd_str Tryz.underlying9 (rd_of hd)
  obtain ⟨u, rfl⟩ := okWide_string Tryz.underlying9 hv
  exact ⟨x, one_eq h1, h2⟩
theorem u32Nat {n : Int} (h : (Lit.int .u32 n).wf = true) : ∃ k : Nat, n = (k : Int) ∧ k < 4294967296 := by
  have h1 := u32_wf h
  exact ⟨n.toNat, by have := h1.1; omega, by have := h1.1; have := h1.2; omega⟩
end
end Go.Proofs.YteomcjpigoaioaaGreatDoor
namespace Go.Proofs.YteomcjpigoaioaaGreatDoor
open Go Go.FL Go.ChangeShapes Go.WideShapes Go.ChangeAt Go.RowKit
theorem asmKeysMatchSpec_reads : ∀ t ∈ Tryz.f7.params.toList, Tryz.prog.readableRec t = true ∧ t < Tryz.prog.types.size := by
  rw [Tryz.params7]
  intro t ht
  simp only [List.mem_cons, List.not_mem_nil, or_false] at ht
  rcases ht with rfl | rfl <;> exact ⟨by kernel_rfl, of_decide_eq_true (by kernel_rfl)⟩
set_option maxRecDepth 100000 in
theorem asmKeysMatchSpec_contract (H : Type) (enc : TypeId × Value → H) (W : World) (base : Nat) (args : Array Value) (ds gs : List (DataW H)) (before : List MemPlace)
    (hval : ∀ (j : Nat) t v, Tryz.f7.params[j]? = some t → args[j]? = some v → Value.okWide Tryz.prog W .any base t v)
    (hW : DataW.Whole enc Tryz.prog Tryz.f7.params.toList Rows.asmKeysMatchSpecSpec.vars false W args.toList ds gs before) (hL : laidMetH Tryz.prog Rows.asmKeysMatchSpecRow.laid W) :
    Calls Tryz.prog 7 args W fun e W' => ∃ v, e = .returned v ∧ Rows.asmKeysMatchSpecSpec.post enc Tryz.prog Tryz.f7 false true false false W args v W' := by
  have hW' := hW
  obtain ⟨p, q, hA0, hV, rfl, hfz, hnd⟩ := hW'
  have hA : DataW.TrodAll enc Tryz.prog W 0 (fun _ => true) true Tryz.f7.params.toList args.toList ds p := hA0
  rw [Tryz.params7] at hA hval
  obtain ⟨v0, vs0, d0, ds0, p0, q0, hargs0, rfl, rfl, h0, r0⟩ := trodAll_cons hA
  obtain ⟨v1, vs1, d1, ds1, p1, q1, hargs1, rfl, rfl, h1, r1⟩ := trodAll_cons r0
  obtain ⟨rfl, rfl, rfl⟩ := trodAll_nil r1
  obtain rfl : args = #[v0, v1] := by cases args; simp_all
  obtain ⟨rfl, rfl⟩ := trodVars_none hV
  obtain ⟨l0, rfl, hL0⟩ := arg_str (hval 0 9 v0 rfl rfl) h0
  obtain ⟨k1, rfl, rfl, rfl, wk1⟩ := open_int Tryz.underlying52 (hval 1 52 v1 rfl rfl) h1
  obtain ⟨k, rfl, hk⟩ := u32Nat wk1
  refine (law_calls (args := [_, _]) fun D => lawKeys_ac D [] W (gw_of hL) l0 hL0 k hk).mono fun e W' ⟨he, hg⟩ => ?_
  subst he
  exact ⟨_, rfl, law_post laid_out asmKeysMatchSpec_reads (by kernel_rfl) Tryz.underlying4 rfl hW rfl hg⟩
set_option maxRecDepth 100000 in
theorem asmKeysMatchSpec_lifted (os : Os) (started : os.Started) (H : Type) (enc : TypeId × Value → H) :
    ReturnsInHanded {} Tryz.checked os 7 .any (fun w args => (Rows.asmKeysMatchSpecSpec.pre enc Tryz.prog Tryz.f7 [] false w args ∧ laidMetH Tryz.prog Rows.asmKeysMatchSpecRow.laid w) ∧ sizedMet enc Tryz.prog Tryz.f7 (OpenSpec.ofChange Rows.asmKeysMatchSpecSpec) false w args) (Rows.asmKeysMatchSpecSpec.post enc Tryz.prog Tryz.f7 false true false false) := by
  refine returnsInHanded_of_change_and (C := Tryz.checked) (X := fun w _ => laidMetH Tryz.prog Rows.asmKeysMatchSpecRow.laid w) (fun _ _ _ hh h => h.of_heap hh) own_knob started (by kernel_rfl) Tryz.func7
    (ChangeSpec.witness_shaped (enc := enc) (C := Tryz.checked) (os := os) (X := fun w _ => laidMetH Tryz.prog Rows.asmKeysMatchSpecRow.laid w) false (World.laidAll Tryz.prog os Rows.asmKeysMatchSpecRow.laid) #[.string .empty, .int .u32 0] 8 (World.laidAll_os _ _ _)
      (World.shaped_of_ZipB (by kernel_rfl) (by kernel_rfl)) (by kernel_rfl) (by kernel_rfl) (by kernel_rfl)
      (by rw [MakeChecks.laidMetH_plain _ _ _ (by kernel_rfl)]; exact laidMet_laidAll _ (by kernel_rfl) (by kernel_rfl))) ?_
  intro W base args ds gs before hval hW _ _ hL _
  exact asmKeysMatchSpec_contract H enc W base args ds gs before hval hW hL
theorem asmKeysMatchSpec_said : Rows.AsmKeysMatchSpecSaid :=
  OpenClaim.holds_of_wide 7 Tryz.f7 rfl rfl rfl rfl rfl rfl rfl ⟨rfl, rfl, rfl, rfl, rfl⟩ rfl rfl rfl rfl rfl (by kernel_rfl) Tryz.func7 (by kernel_rfl)
    (of_decide_eq_true (by kernel_rfl)) (by unfold Func.isWrapper; first | (rw [if_pos (by decide +kernel)]; kernel_rfl) | (rw [if_neg (by decide +kernel)]; exact ⟨rfl, rfl⟩))
    (fun os started H enc _ => asmKeysMatchSpec_lifted os started H enc)
theorem asmKeysMatchSpec_plain (f : FuncId) (fn : Func) (hf : Tryz.pinned.checked.prog.funcNamed Rows.asmKeysMatchSpecRow.func = some f) (hfn : Tryz.pinned.checked.prog.funcs[f]? = some fn) : true = Tryz.pinned.checked.prog.looks [] ∧ ∀ (j : Nat) t, fn.params[j]? = some t → Tryz.pinned.checked.prog.wantsStandIn t = false := by
  obtain rfl : f = 7 := Option.some.inj ((show Tryz.prog.funcNamed Rows.asmKeysMatchSpecRow.func = some 7 by kernel_rfl).symm.trans hf) |>.symm
  obtain rfl : fn = Tryz.f7 := (Option.some.inj (Tryz.func7.symm.trans hfn)).symm
  exact ⟨by kernel_rfl, fun j t ht => by
    rw [Tryz.params7] at ht
    have hm : t ∈ [9, 52] := by simpa using Array.mem_of_getElem? ht
    have hall : ([9, 52].all fun u => !Tryz.prog.wantsStandIn u) = true := by kernel_rfl
    exact (show Tryz.prog.wantsStandIn t = false by simpa using List.all_eq_true.1 hall t hm)⟩
theorem asmKeysMatchSpec_holds : Rows.AsmKeysMatchSpecCardSaid :=
  Claim7.holds_tied_plain_at .later [] _ _ _ _ asmKeysMatchSpec_said (fun _ h => by cases h) (by kernel_rfl) (fun _ h => by cases h) asmKeysMatchSpec_row_tie rfl ⟨rfl, rfl⟩ (by kernel_rfl) rfl asmKeysMatchSpec_plain (by kernel_rfl)
end Go.Proofs.YteomcjpigoaioaaGreatDoor
