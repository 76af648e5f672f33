/- The reference: the default table. -/
import Derived.Test.YtpjnphonanbopaaV18
import Derived.Test.YtpjnphonanbopaaFlM
namespace Go.Proofs.Ytpjnphonanbopaa
open Go.FL
attribute [local irreducible] JC JO JA JB thenQ blockQ retQ AC fill CellsAt QE Ev Mid

def stdLines : List (List UInt8) := [[115, 116, 111, 112, 32, 45, 32, 46, 65],
  [110, 117, 109, 32, 78, 32, 61, 65, 44, 78],
  [108, 111, 97, 100, 32, 78, 32, 91, 65, 44, 78],
  [115, 116, 111, 114, 101, 32, 78, 32, 93, 78, 44, 65],
  [108, 111, 99, 97, 108, 32, 78, 32, 45, 66, 44, 67, 44, 78, 32, 91, 65, 44, 66],
  [97, 115, 115, 105, 103, 110, 32, 78, 32, 45, 66, 44, 67, 44, 78, 32, 93, 66, 44, 65],
  [102, 101, 116, 99, 104, 32, 78, 32, 43, 66, 44, 65, 44, 78, 32, 91, 65, 44, 66],
  [112, 117, 116, 97, 116, 32, 78, 32, 45, 67, 44, 67, 44, 35, 49, 32, 91, 66, 44, 67, 32, 43, 66, 44, 66, 44, 78, 32, 93, 66, 44, 65],
  [112, 117, 115, 104, 32, 45, 32, 93, 67, 44, 65, 32, 43, 67, 44, 67, 44, 35, 49],
  [100, 114, 111, 112, 32, 78, 32, 45, 67, 44, 67, 44, 78],
  [97, 100, 100, 32, 45, 32, 45, 67, 44, 67, 44, 35, 49, 32, 91, 66, 44, 67, 32, 43, 65, 44, 66, 44, 65],
  [115, 117, 98, 32, 45, 32, 45, 67, 44, 67, 44, 35, 49, 32, 91, 66, 44, 67, 32, 45, 65, 44, 66, 44, 65],
  [109, 117, 108, 32, 45, 32, 45, 67, 44, 67, 44, 35, 49, 32, 91, 66, 44, 67, 32, 42, 65, 44, 66, 44, 65],
  [100, 105, 118, 32, 45, 32, 45, 67, 44, 67, 44, 35, 49, 32, 91, 66, 44, 67, 32, 58, 35, 50, 44, 65, 32, 47, 65, 44, 66, 44, 65],
  [109, 111, 100, 32, 45, 32, 45, 67, 44, 67, 44, 35, 49, 32, 91, 66, 44, 67, 32, 58, 35, 50, 44, 65, 32, 37, 65, 44, 66, 44, 65],
  [97, 110, 100, 32, 45, 32, 45, 67, 44, 67, 44, 35, 49, 32, 91, 66, 44, 67, 32, 38, 65, 44, 66, 44, 65],
  [111, 114, 32, 45, 32, 45, 67, 44, 67, 44, 35, 49, 32, 91, 66, 44, 67, 32, 124, 65, 44, 66, 44, 65],
  [120, 111, 114, 32, 45, 32, 45, 67, 44, 67, 44, 35, 49, 32, 91, 66, 44, 67, 32, 94, 65, 44, 66, 44, 65],
  [108, 101, 102, 116, 32, 45, 32, 45, 67, 44, 67, 44, 35, 49, 32, 91, 66, 44, 67, 32, 123, 65, 44, 66, 44, 65],
  [114, 105, 103, 104, 116, 32, 45, 32, 45, 67, 44, 67, 44, 35, 49, 32, 91, 66, 44, 67, 32, 125, 65, 44, 66, 44, 65],
  [101, 113, 32, 45, 32, 45, 67, 44, 67, 44, 35, 49, 32, 91, 66, 44, 67, 32, 126, 65, 44, 66, 44, 65],
  [108, 101, 115, 115, 32, 45, 32, 45, 67, 44, 67, 44, 35, 49, 32, 91, 66, 44, 67, 32, 60, 65, 44, 66, 44, 65],
  [109, 111, 114, 101, 32, 45, 32, 45, 67, 44, 67, 44, 35, 49, 32, 91, 66, 44, 67, 32, 60, 65, 44, 65, 44, 66],
  [122, 101, 114, 111, 32, 45, 32, 126, 65, 44, 65, 44, 35, 48],
  [98, 111, 117, 110, 100, 32, 78, 32, 60, 66, 44, 65, 44, 78, 32, 58, 35, 49, 44, 66],
  [106, 117, 109, 112, 32, 78, 32, 61, 80, 44, 78],
  [106, 122, 101, 114, 111, 32, 78, 32, 59, 80, 44, 78, 44, 65],
  [99, 97, 108, 108, 32, 78, 32, 43, 68, 44, 68, 44, 35, 49, 32, 60, 66, 44, 68, 44, 35, 49, 48, 49, 32, 58, 35, 51, 44, 66, 32, 93, 67, 44, 80, 32, 43, 67, 44, 67, 44, 35, 49, 32, 61, 80, 44, 78],
  [114, 101, 116, 32, 78, 32, 45, 67, 44, 67, 44, 78, 32, 91, 80, 44, 67, 32, 45, 68, 44, 68, 44, 35, 49],
  [103, 101, 116, 32, 45, 32, 63, 65],
  [112, 117, 116, 32, 45, 32, 33, 65],
  [115, 116, 97, 99, 107, 32, 78, 32, 61, 67, 44, 78]]
def insL (i : Nat) (l : List UInt8) : Ins := ⟨(splitB 32 l).getD 0 [], (i : Int) + 1, decide ((splitB 32 l).getD 1 [] = [78]), ((splitB 32 l).drop 2).map actL⟩
def stdFrom : Nat → List (List UInt8) → List Ins
  | _, [] => []
  | i, l :: r => insL i l :: stdFrom (i + 1) r
def stdT : Tab := ⟨65536, stdFrom 0 stdLines⟩
def lineOK (l : List UInt8) : Bool := decide (l.length ≤ 100) && decide (2 ≤ (splitB 32 l).length) && ((splitB 32 l).drop 2).all okAct && decide ((splitB 32 l).length ≤ 20)
theorem lines_ok : stdLines.all lineOK = true := by decide +kernel
theorem std_at {i k : Nat} {l : List (List UInt8)} {x : List UInt8} (h : l[i]? = some x) : (stdFrom k l)[i]? = some (insL (k + i) x) := by
  induction l generalizing k i with
  | nil => cases h
  | cons y r ih =>
    cases i with
    | zero => simp at h; subst h; rfl
    | succ i => simp only [stdFrom, List.getElem?_cons_succ] at h ⊢; rw [ih h, Nat.add_assoc, Nat.add_comm 1 i]
theorem std_len (k : Nat) (l : List (List UInt8)) : (stdFrom k l).length = l.length := by
  induction l generalizing k with
  | nil => rfl
  | cons x r ih => simp [stdFrom, ih]
theorem line_ok {i : Nat} {x : List UInt8} (h : stdLines[i]? = some x) : x.length ≤ 100 ∧ 2 ≤ (splitB 32 x).length ∧ (∀ w ∈ (splitB 32 x).drop 2, okAct w = true) ∧ (splitB 32 x).length ≤ 20 := by
  have := List.all_eq_true.1 lines_ok x (List.mem_of_getElem? h)
  simp only [lineOK, Bool.and_eq_true, decide_eq_true_eq, List.all_eq_true] at this
  exact ⟨this.1.1.1, this.1.1.2, this.1.2, this.2⟩
theorem std_take {j : Nat} {l : List Ins} {y : Ins} (h : l[j]? = some y) : l.take (j + 1) = l.take j ++ [y] := by
  obtain ⟨hj, rfl⟩ := List.getElem?_eq_some_iff.1 h
  rw [List.take_succ_eq_append_getElem hj]
theorem sub_at {α : Type} {l : List α} {k : Nat} {x : α} (h : l[k + 2]? = some x) : (l.drop 2)[k]? = some x := by rw [List.getElem?_drop, Nat.add_comm]; exact h
theorem acts_take {l : List (List UInt8)} {k : Nat} {x : List UInt8} (h : (l.drop 2)[k]? = some x) : (((l.drop 2).take (k + 1)).map actL) = ((l.drop 2).take k).map actL ++ [actL x] := by
  obtain ⟨hj, rfl⟩ := List.getElem?_eq_some_iff.1 h
  rw [List.take_succ_eq_append_getElem hj, List.map_append]; rfl
theorem actL_u (l : List UInt8) : U32 (actL l).x.val ∧ U32 (actL l).y.val := by
  simp only [actL]
  constructor
  · split
    · exact termL_u _
    · exact U32_zero
  · split
    · exact termL_u _
    · exact U32_zero
theorem std_lit {s : World} {b : Nat} (h : CellsAt s b 0 (sb stdLines)) : Strs s (some ⟨b, 0, none⟩) 32 32 stdLines := by
  have he : sb stdLines = (stdLines.map fun x => [St x]).flatten := by rfl
  rw [he] at h
  refine Sl.lit _ h rfl ?_ 32 rfl (by omega)
  have : ∀ l : List (List UInt8), (∀ x ∈ l, x.length ≤ 9223372036854775807) → All2 (fun (x : List UInt8) (cs : List Value) => cs.length = 1 ∧ cs = [St x] ∧ x.length ≤ 9223372036854775807) l (l.map fun x => [St x]) := by
    intro l hl
    induction l with
    | nil => exact .nil
    | cons x r ih => exact .cons ⟨rfl, rfl, hl x (List.mem_cons_self ..)⟩ (ih fun y hy => hl y (List.mem_cons_of_mem _ hy))
  exact this stdLines fun x hx => by
    obtain ⟨i, hi⟩ := List.getElem?_of_mem hx
    have := (line_ok hi).1
    omega

set_option maxHeartbeats 8000000 in
set_option maxRecDepth 100000 in
theorem standardO_ac (D : Nat) (L : Hl) (s : World) : AC Try.prog D 30 [] L s fun v L' s' => ∃ M', L' = M' ++ L ∧ ∀ s2, Le D s' s2 → Pub M' s2 → ∃ A n c, v = .agg #[.int .i64 65536, .slice A n c] ∧ Inss s2 A n c stdT.ins := by
 refine AC_enter (TT := TT) (fn := Try.f30) TT_ok Try.func30 (by kernel_rfl) rfl Try.ntmps30 rfl (rs := [.cell 0 24]) rfl [] rfl ?_
 refine JC_seq ?_
 refine JC_region ?_
 refine JO_allocZ rfl [_, _] rfl rfl ?_
 intro β1 s1 h1
 refine JO_nil ?_
 refine thenQ_n ?_
 refine JC_seq ?_
 refine JC_region ?_
 refine JO_bs [(_, _), (_, _), (_, _), (_, _), (_, _), (_, _), (_, _), (_, _), (_, _), (_, _), (_, _), (_, _), (_, _), (_, _), (_, _), (_, _), (_, _), (_, _), (_, _), (_, _), (_, _), (_, _), (_, _), (_, _), (_, _), (_, _), (_, _), (_, _), (_, _), (_, _), (_, _), (_, _)] [_, _, _, _, _, _, _, _, _, _, _, _, _, _, _, _, _, _, _, _, _, _, _, _, _, _, _, _, _, _, _, _] rfl rfl rfl rfl rfl rfl rfl rfl rfl ?_
 intro βl s2 h2 hcl
 have hLn := std_lit hcl
 refine JO_q (QE_as rfl) rfl ?_
 refine JO_nil ?_
 refine thenQ_n ?_
 refine JC_seq ?_
 refine JC_region ?_
 refine JO_q (QE_build [(_, _)] [_, _] rfl rfl rfl rfl rfl rfl) rfl ?_
 refine JO_allocZ rfl [_, _] rfl rfl ?_
 intro β3 s3 h3
 refine JO_st 0 [_, _] rfl rfl rfl rfl rfl rfl rfl rfl rfl ?_
 refine JO_nil ?_
 refine thenQ_n ?_
 refine JC_seq ?_
 refine JC_seq ?_
 refine JC_region ?_
 refine JO_q (QE_as rfl) rfl ?_
 refine JO_nil ?_
 refine thenQ_n ?_
 refine JC_block ?_
 refine JC_loop (γ := Nat × Value × Hl × List (List Value)) (fun g => [(0, _), (1, _), (2, _), (3, .int .i64 (g.1 : Int))]) (fun g => (β3, cb [.int .i64 65536, g.2.1] 24) :: (β1, cb [.int .i64 0, .slice none 0 0] 24) :: (g.2.2.1 ++ L)) (fun g tw => Le D s3 tw ∧ (g.1 ≤ 32 ∧ Own 60 4 g.2.2.1 g.2.1 g.1 g.2.2.2.flatten ∧ All2 (fun x cs => cs.length = 4 ∧ InsR tw x cs) (stdT.ins.take g.1) g.2.2.2)) (fun g => 32 - g.1) (fun _ _ _ h hl => ⟨h.1.trans hl, by obtain ⟨_, k1, k2, k3⟩ := h; exact ⟨k1, k2, k3.mono fun a b h => ⟨h.1, h.2.le hl⟩⟩⟩) (0, .slice none 0 0, [], []) (Keeps.cons rfl (Keeps.cons rfl (Keeps.cons rfl (Keeps.cons rfl (Keeps.nil _))))) rfl ⟨Le.refl _, ⟨Nat.zero_le _, Own.nil, All2.nil⟩⟩ ?_
 intro g s4 I4
 obtain ⟨j, vj, Mj, css⟩ := g
 obtain ⟨hj0, hOj, hAj⟩ := I4.2
 simp only at hj0 hOj hAj
 dsimp only
 refine JC_seq ?_
 refine JC_seq ?_
 refine JC_region ?_
 refine JO_q (QE_mv rfl) rfl ?_
 refine JO_q (QE_mv rfl) rfl ?_
 refine JO_q (QE_lenS rfl rfl rfl) rfl ?_
 refine JO_q (QE_lt rfl rfl) rfl ?_
 refine JO_nil ?_
 refine thenQ_n ?_
 refine JC_ifD rfl (fun c5 => ?_) (fun c5 => ?_)
 ·
  have hj : j < 32 := by omega
  obtain ⟨bl, ol, ln, hE, hln, hcln, _⟩ := Strs.at_ (hLn.le (Le.trans h3 I4.1)) hj
  injection hE with hE
  injection hE with e1 e2
  subst e1
  subst e2
  obtain ⟨q1, q2, q3, q4⟩ := line_ok hln
  have hY : stdT.ins[j]? = some (insL j ln) := by have := std_at (k := 0) hln; rwa [Nat.zero_add] at this
  refine JC_skip ?_
  refine thenQ_n ?_
  refine JC_seq ?_
  refine JC_block ?_
  refine JC_seq ?_
  refine JC_region ?_
  refine JO_q (QE_mv rfl) rfl ?_
  refine JO_q (QE_mv rfl) rfl ?_
  refine JO_q (QE_ia1 rfl rfl rfl rfl rfl rfl hj) rfl ?_
  refine JO_q (QE_ldsR0 rfl rfl rfl (hcln.le (Le.refl (D := D) _)) rfl) rfl ?_
  refine JO_call (first := []) (captured := []) rfl rfl rfl (split_ac D _ _ _ _ (show ln.length ≤ 1000000000 by omega)) ?_
  rintro _ _ s6 h6 ⟨rfl, Aw, nw, cw, rfl, hW⟩
  have hnw := hW.1
  obtain ⟨bw, ow, x0, rfl, _, _, _⟩ := Strs.at_ hW (show 0 < nw by omega)
  have gw0 := Strs.get hW (k := 0) (x := (splitB 32 ln).getD 0 []) (by simp [List.getD, show 0 < (splitB 32 ln).length by omega])
  have gw1 := Strs.get hW (k := 1) (x := (splitB 32 ln).getD 1 []) (by simp [List.getD, show 1 < (splitB 32 ln).length by omega])
  have hw0l := gw0.2.2
  refine JO_q (QE_as rfl) rfl ?_
  refine JO_nil ?_
  refine thenQ_n ?_
  refine JC_seq ?_
  refine JC_draw drawsMixed 13 rfl _ (fun _ h => h) ?_
  intro s7 h7
  refine JA_q 0 rfl (by kernel_rfl) (by kernel_rfl) (by kernel_rfl) trivial (QE_mv rfl) rfl ?_
  refine JA_q 1 rfl (by kernel_rfl) (by kernel_rfl) (by kernel_rfl) trivial (QE_ia1 (j := 0) rfl rfl rfl rfl rfl rfl gw0.1) rfl ?_
  refine JA_q 2 rfl (by kernel_rfl) (by kernel_rfl) (by kernel_rfl) trivial (QE_ldsR0 rfl rfl rfl (gw0.2.1.le h7) rfl) rfl ?_
  refine JA_q 3 rfl (by kernel_rfl) (by kernel_rfl) (by kernel_rfl) trivial (QE_mv rfl) rfl ?_
  refine JA_q 4 rfl (by kernel_rfl) (by kernel_rfl) (by kernel_rfl) trivial (QE_add' rfl rfl (w64 (by omega) (by omega))) rfl ?_
  refine JA_q 5 rfl (by kernel_rfl) (by kernel_rfl) (by kernel_rfl) trivial (QE_conv' rfl rfl rfl rfl rfl (w32_in (by omega) (by omega))) rfl ?_
  refine JA_q 6 rfl (by kernel_rfl) (by kernel_rfl) (by kernel_rfl) trivial (QE_mv rfl) rfl ?_
  refine JA_q 7 rfl (by kernel_rfl) (by kernel_rfl) (by kernel_rfl) trivial (QE_ia1 (j := 1) rfl rfl rfl rfl rfl rfl gw1.1) rfl ?_
  refine JA_q 8 rfl (by kernel_rfl) (by kernel_rfl) (by kernel_rfl) trivial (QE_ldsR0 rfl rfl rfl (gw1.2.1.le h7) rfl) rfl ?_
  refine JA_q 9 rfl (by kernel_rfl) (by kernel_rfl) (by kernel_rfl) trivial (QE_seq rfl rfl) rfl ?_
  refine JA_q 10 rfl (by kernel_rfl) (by kernel_rfl) (by kernel_rfl) trivial (QE_build [(_, _), (_, _), (_, _)] [_, _, _, _] rfl rfl rfl rfl rfl rfl) rfl ?_
  refine JA_1 11 (by kernel_rfl) ?_
  refine JB_alloc rfl trivial rfl [_, _, _, _] rfl rfl ?_
  intro β8 s8 h8
  refine JA_1 12 (by kernel_rfl) ?_
  refine JB_st rfl trivial 0 [_, _, _, _] rfl rfl rfl rfl rfl rfl rfl rfl rfl (fun _ hx => sub_mem (sbY (sbY (sbE _))) hx) ?_
  refine JA_done (by kernel_rfl) ?_
  refine thenQ_n ?_
  refine JC_seq ?_
  refine JC_seq ?_
  refine JC_region ?_
  refine JO_q (QE_as rfl) rfl ?_
  refine JO_nil ?_
  refine thenQ_n ?_
  refine JC_block ?_
  refine JC_loop (γ := Nat × Value × Hl) (fun g => [(0, _), (1, _), (2, _), (3, _), (4, _), (5, _), (6, .int .i64 ((g.1 + 2 : Nat) : Int))]) (fun g => (β8, cb [St ((splitB 32 ln).getD 0 []), .int .u32 ((j : Int) + 1), .bool (decide ((splitB 32 ln).getD 1 [] = [78])), g.2.1] 60) :: (β3, cb [.int .i64 65536, vj] 24) :: (β1, cb [.int .i64 0, .slice none 0 0] 24) :: (g.2.2 ++ (Mj ++ L))) (fun g tw => Le D s8 tw ∧ (g.1 + 2 ≤ nw ∧ Own 86 6 g.2.2 g.2.1 g.1 (acv (((splitB 32 ln).drop 2).take g.1 |>.map actL)))) (fun g => nw - g.1) (fun _ _ _ h hl => ⟨h.1.trans hl, h.2⟩) (0, .slice none 0 0, []) (Keeps.cons rfl (Keeps.cons rfl (Keeps.cons rfl (Keeps.cons rfl (Keeps.cons rfl (Keeps.cons rfl (Keeps.cons rfl (Keeps.nil _)))))))) rfl ⟨Le.refl _, ⟨by simp only; omega, Own.nil⟩⟩ ?_
  intro g s9 I9
  obtain ⟨k, va, Ma⟩ := g
  obtain ⟨hk0, hOa⟩ := I9.2
  simp only at hk0 hOa
  dsimp only
  refine JC_seq ?_
  refine JC_seq ?_
  refine JC_region ?_
  refine JO_q (QE_mv rfl) rfl ?_
  refine JO_q (QE_mv rfl) rfl ?_
  refine JO_q (QE_lenS rfl rfl rfl) rfl ?_
  refine JO_q (QE_lt rfl rfl) rfl ?_
  refine JO_nil ?_
  refine thenQ_n ?_
  refine JC_ifD rfl (fun c10 => ?_) (fun c10 => ?_)
  ·
   have hk2 : k + 2 < nw := by omega
   obtain ⟨wk, hwk⟩ : ∃ wk, (splitB 32 ln)[k + 2]? = some wk := ⟨_, List.getElem?_eq_getElem (by omega)⟩
   have gk := Strs.get hW hwk
   have hokk := q3 wk (List.mem_of_getElem? (sub_at hwk))
   refine JC_skip ?_
   refine thenQ_n ?_
   refine JC_seq ?_
   refine JC_block ?_
   refine JC_drawT drawsMixed 11 rfl 0 ?_
   intro s11 h11
   refine JA_q 0 rfl (by kernel_rfl) (by kernel_rfl) (by kernel_rfl) trivial (QE_faB rfl rfl rfl rfl) rfl ?_
   refine JA_q 2 rfl (by kernel_rfl) (by kernel_rfl) (by kernel_rfl) trivial (QE_mv rfl) rfl ?_
   refine JA_q 3 rfl (by kernel_rfl) (by kernel_rfl) (by kernel_rfl) trivial (QE_mv rfl) rfl ?_
   refine JA_q 4 rfl (by kernel_rfl) (by kernel_rfl) (by kernel_rfl) trivial (QE_ia1 rfl rfl rfl rfl rfl rfl gk.1) rfl ?_
   refine JA_q 5 rfl (by kernel_rfl) (by kernel_rfl) (by kernel_rfl) trivial (QE_ldsR0 rfl rfl rfl (gk.2.1.le (Le.trans (Le.trans (Le.trans h7 h8) I9.1) h11)) rfl) rfl ?_
   refine JA_2 1 6 (by kernel_rfl) ?_ ?_
   ·
    refine JB_q rfl trivial (QE_ld1 0 rfl rfl rfl rfl rfl) rfl ?_
    refine JA_1 6 (by kernel_rfl) ?_
    refine JB_call rfl trivial (first := []) (captured := []) rfl rfl rfl (actionOf_ac D _ _ wk hokk (by have := splitF_short 32 [] ln _ (List.mem_of_getElem? hwk); simp only [List.length_nil, Nat.zero_add] at this; omega)) ?_
    rintro _ _ s12 h12 ⟨rfl, rfl⟩
    refine ⟨(fun _ hx _ => by cases hx), ?_⟩
    refine JA_1 7 (by kernel_rfl) ?_
    refine JB_bs rfl trivial [(_, _)] [_, _, _, _, _, _] rfl rfl rfl rfl rfl rfl rfl rfl rfl ?_
    intro βn s13 h13 hcb
    refine JA_1 8 (by kernel_rfl) ?_
    refine JB_app (sz := 6) rfl trivial [_, _, _] Ma _ rfl rfl rfl rfl rfl rfl rfl hOa (Row.of_cells (hcb.le (Le.refl (D := D) _)) rfl rfl) ⟨by simp [ti86]; omega, by omega⟩ rfl (fun A2 x hx _ => by cases hx) ?_
    intro va Aa s14 h14 oa
    obtain ⟨Ava, cva, rfl, _, _⟩ := Own.slice oa
    simp only [List.cons_append, List.nil_append]
    refine JA_q 9 rfl (by kernel_rfl) (by kernel_rfl) (by kernel_rfl) trivial (QE_faB rfl rfl rfl rfl) rfl ?_
    refine JA_1 10 (by kernel_rfl) ?_
    refine JB_st rfl trivial 0 [_, _, _, _] rfl rfl rfl rfl rfl rfl rfl rfl rfl (fun x hx => by cases hx) ?_
    refine JA_done (by kernel_rfl) ?_
    refine blockQ_n ?_
    refine thenQ_n ?_
    refine JC_region ?_
    refine JO_q (QE_mv rfl) rfl ?_
    refine JO_q (QE_add' rfl rfl (w64 (by omega) (by omega))) rfl ?_
    refine JO_q (QE_as rfl) rfl ?_
    refine JO_nil ?_
    refine thenQ_n ⟨(k + 1, .slice Ava (k + 1) cva, Aa), [], (Keeps.cons rfl (Keeps.cons rfl (Keeps.cons rfl (Keeps.cons rfl (Keeps.cons rfl (Keeps.cons rfl (Keeps.cons rfl (Keeps.nil _)))))))), rfl, ⟨(Le.trans (Le.trans (Le.trans (Le.trans I9.1 h11) h12) h13) h14), ⟨by simp only; omega, by simp only; rw [acts_take (sub_at hwk), acv_snoc]; exact oa⟩⟩, (by simp only; omega)⟩
   ·
    refine JB_call rfl trivial (first := []) (captured := []) rfl rfl rfl (actionOf_ac D _ _ wk hokk (by have := splitF_short 32 [] ln _ (List.mem_of_getElem? hwk); simp only [List.length_nil, Nat.zero_add] at this; omega)) ?_
    rintro _ _ s15 h15 ⟨rfl, rfl⟩
    refine ⟨(fun _ hx _ => by cases hx), ?_⟩
    refine JA_2 1 7 (by kernel_rfl) ?_ ?_
    ·
     refine JB_q rfl trivial (QE_ld1 0 rfl rfl rfl rfl rfl) rfl ?_
     refine JA_1 7 (by kernel_rfl) ?_
     refine JB_bs rfl trivial [(_, _)] [_, _, _, _, _, _] rfl rfl rfl rfl rfl rfl rfl rfl rfl ?_
     intro βn s16 h16 hcb
     refine JA_1 8 (by kernel_rfl) ?_
     refine JB_app (sz := 6) rfl trivial [_, _, _] Ma _ rfl rfl rfl rfl rfl rfl rfl hOa (Row.of_cells (hcb.le (Le.refl (D := D) _)) rfl rfl) ⟨by simp [ti86]; omega, by omega⟩ rfl (fun A2 x hx _ => by cases hx) ?_
     intro va Aa s17 h17 oa
     obtain ⟨Ava, cva, rfl, _, _⟩ := Own.slice oa
     simp only [List.cons_append, List.nil_append]
     refine JA_q 9 rfl (by kernel_rfl) (by kernel_rfl) (by kernel_rfl) trivial (QE_faB rfl rfl rfl rfl) rfl ?_
     refine JA_1 10 (by kernel_rfl) ?_
     refine JB_st rfl trivial 0 [_, _, _, _] rfl rfl rfl rfl rfl rfl rfl rfl rfl (fun x hx => by cases hx) ?_
     refine JA_done (by kernel_rfl) ?_
     refine blockQ_n ?_
     refine thenQ_n ?_
     refine JC_region ?_
     refine JO_q (QE_mv rfl) rfl ?_
     refine JO_q (QE_add' rfl rfl (w64 (by omega) (by omega))) rfl ?_
     refine JO_q (QE_as rfl) rfl ?_
     refine JO_nil ?_
     refine thenQ_n ⟨(k + 1, .slice Ava (k + 1) cva, Aa), [], (Keeps.cons rfl (Keeps.cons rfl (Keeps.cons rfl (Keeps.cons rfl (Keeps.cons rfl (Keeps.cons rfl (Keeps.cons rfl (Keeps.nil _)))))))), rfl, ⟨(Le.trans (Le.trans (Le.trans (Le.trans I9.1 h11) h15) h16) h17), ⟨by simp only; omega, by simp only; rw [acts_take (sub_at hwk), acv_snoc]; exact oa⟩⟩, (by simp only; omega)⟩
    ·
     refine JB_bs rfl trivial [(_, _)] [_, _, _, _, _, _] rfl rfl rfl rfl rfl rfl rfl rfl rfl ?_
     intro βn s18 h18 hcb
     refine JA_1 1 (by kernel_rfl) ?_
     refine JB_q rfl trivial (QE_ld1 0 rfl rfl rfl rfl rfl) rfl ?_
     refine JA_1 8 (by kernel_rfl) ?_
     refine JB_app (sz := 6) rfl trivial [_, _, _] Ma _ rfl rfl rfl rfl rfl rfl rfl hOa (Row.of_cells (hcb.le (Le.refl (D := D) _)) rfl rfl) ⟨by simp [ti86]; omega, by omega⟩ rfl (fun A2 x hx _ => by cases hx) ?_
     intro va Aa s19 h19 oa
     obtain ⟨Ava, cva, rfl, _, _⟩ := Own.slice oa
     simp only [List.cons_append, List.nil_append]
     refine JA_q 9 rfl (by kernel_rfl) (by kernel_rfl) (by kernel_rfl) trivial (QE_faB rfl rfl rfl rfl) rfl ?_
     refine JA_1 10 (by kernel_rfl) ?_
     refine JB_st rfl trivial 0 [_, _, _, _] rfl rfl rfl rfl rfl rfl rfl rfl rfl (fun x hx => by cases hx) ?_
     refine JA_done (by kernel_rfl) ?_
     refine blockQ_n ?_
     refine thenQ_n ?_
     refine JC_region ?_
     refine JO_q (QE_mv rfl) rfl ?_
     refine JO_q (QE_add' rfl rfl (w64 (by omega) (by omega))) rfl ?_
     refine JO_q (QE_as rfl) rfl ?_
     refine JO_nil ?_
     refine thenQ_n ⟨(k + 1, .slice Ava (k + 1) cva, Aa), [], (Keeps.cons rfl (Keeps.cons rfl (Keeps.cons rfl (Keeps.cons rfl (Keeps.cons rfl (Keeps.cons rfl (Keeps.cons rfl (Keeps.nil _)))))))), rfl, ⟨(Le.trans (Le.trans (Le.trans (Le.trans I9.1 h11) h15) h18) h19), ⟨by simp only; omega, by simp only; rw [acts_take (sub_at hwk), acv_snoc]; exact oa⟩⟩, (by simp only; omega)⟩
  ·
   have hkE : ((splitB 32 ln).drop 2).take k = (splitB 32 ln).drop 2 := List.take_of_length_le (by simp; omega)
   rw [hkE] at hOa
   obtain ⟨Aac, cac, rfl, _, _⟩ := Own.slice hOa
   refine JC_exit ?_
   refine thenQ_x ?_
   refine thenQ_x ?_
   refine blockQ_x ?_
   refine thenQ_n ?_
   refine JC_pubX [_, _, _] Ma _ ?_
   intro s20 h20 hpub20
   simp only [List.cons_append, List.nil_append]
   have hAcs : Acs s20 Aac k cac (((splitB 32 ln).drop 2).map actL) := Own.acs hOa (fun a ha => by obtain ⟨w, _, rfl⟩ := List.mem_map.1 ha; exact actL_u w) hpub20 (by simp; omega)
   refine JC_region ?_
   refine JO_q (QE_faB rfl rfl rfl rfl) rfl ?_
   refine JO_q (QE_ld1 1 rfl rfl rfl rfl rfl) rfl ?_
   refine JO_q (QE_ldA 0 [_, _, _, _] rfl rfl rfl rfl rfl) rfl ?_
   refine JO_bs [(_, _)] [_, _, _, _] rfl rfl rfl rfl rfl rfl rfl rfl rfl ?_
   intro βn s21 h21 hcb
   refine JO_app (sz := 4) [_, _, _] Mj L rfl rfl rfl rfl rfl rfl rfl hOj (Row.of_cells (hcb.le (Le.refl (D := D) _)) rfl rfl) ⟨by simp [ti60]; omega, by omega⟩ rfl ?_
   intro vj Aj s22 h22 oj
   obtain ⟨Avj, cvj, rfl, _, _⟩ := Own.slice oj
   simp only [List.cons_append, List.nil_append]
   refine JO_q (QE_faB rfl rfl rfl rfl) rfl ?_
   refine JO_st 1 [_, _] rfl rfl rfl rfl rfl rfl rfl rfl rfl ?_
   refine JO_nil ?_
   refine blockQ_n ?_
   refine thenQ_n ?_
   refine JC_region ?_
   refine JO_q (QE_mv rfl) rfl ?_
   refine JO_q (QE_add' rfl rfl (w64 (by omega) (by omega))) rfl ?_
   refine JO_q (QE_as rfl) rfl ?_
   refine JO_nil ?_
   refine thenQ_n ⟨(j + 1, .slice Avj (j + 1) cvj, Aj, css ++ [_]), [_], (Keeps.cons rfl (Keeps.cons rfl (Keeps.cons rfl (Keeps.cons rfl (Keeps.nil _))))), rfl, ⟨(Le.trans (Le.trans (Le.trans (Le.trans (Le.trans (Le.trans (Le.trans I4.1 h6) h7) h8) I9.1) h20) h21) h22), ⟨by simp only; omega, by simp only; rw [flat_snoc2]; exact oj, by simp only; rw [std_take hY]; exact All2.snoc (hAj.mono fun a b h => ⟨h.1, h.2.le (Le.trans (Le.trans (Le.trans (Le.trans (Le.trans (Le.trans h6 h7) h8) I9.1) h20) h21) h22)⟩) ⟨rfl, _, _, _, rfl, hAcs.le (Le.trans h21 h22), hw0l, ⟨by simp only [insL]; omega, by simp only [insL]; omega⟩⟩⟩⟩, (by simp only; omega)⟩
 ·
  have hjn : j = 32 := by omega
  obtain ⟨Au, cu, rfl, ku1, ku2⟩ := Own.slice hOj
  refine JC_exit ?_
  refine thenQ_x ?_
  refine thenQ_x ?_
  refine blockQ_x ?_
  refine thenQ_n ?_
  refine JC_seq ?_
  refine JC_region ?_
  refine JO_q (QE_ldA 0 [_, _] rfl rfl rfl rfl rfl) rfl ?_
  refine JO_st 1 [_, _] rfl rfl rfl rfl rfl rfl rfl rfl rfl ?_
  refine JO_nil ?_
  refine thenQ_n ?_
  refine JC_ret ?_
  refine retQ_mk [_, _] _ (.inr rfl) (.agg (us := [_, _]) 1 rfl rfl rfl rfl rfl (.nil)) rfl (Le.trans (Le.trans (Le.trans h1 h2) h3) I4.1) (fun sR hS2 => ?_)
  refine ⟨Mj, rfl, fun s2 hs2 hp => ⟨_, _, _, rfl, ?_⟩⟩
  have hA2 := hAj.mono (R' := fun x cs => cs.length = 4 ∧ InsR s2 x cs) fun a b h => ⟨h.1, h.2.le (Le.trans (Le.refl (D := D) _) (Le.trans hS2 hs2))⟩
  subst hjn
  rw [List.take_of_length_le (by simp [stdT, std_len, stdLines])] at hA2
  exact Own.rows hOj hp hA2 (by simp [stdT, std_len, stdLines])
end Go.Proofs.Ytpjnphonanbopaa
