/- The machine: opening it, its result, runs. -/
import Derived.Test.YtpjnphonanbopaaV7
namespace Go.Proofs.Ytpjnphonanbopaa
open Go.FL
attribute [local irreducible] JC JO JA JB thenQ blockQ retQ AC fill CellsAt QE Ev Mid

set_option maxHeartbeats 1000000 in
set_option maxRecDepth 100000 in
theorem result_ac (D : Nat) (L : Hl) (s : World) (m : Mst) (op : Int) (bm bc bq : Nat) (Ai Ao Ax : Option Addr) (nc cc ni ci no co nx cx : Nat) (sm : List Int) (hsm : sm.length = 256) (hI : Bts s Ai ni ci m.input) (hni : ni ≤ 1000000) : AC Try.prog D 39 [.pointer (some ⟨bm, 0, none⟩)] ([(bm, cb (.slice (some ⟨bc, 0, none⟩) nc cc :: .int .u32 m.r0 :: .int .u32 m.r1 :: .int .u32 m.r2 :: .int .u32 m.r3 :: .int .u32 m.r4 :: .slice Ai ni ci :: .slice Ao no co :: .int .i64 m.stop :: .int .u32 m.code :: .slice Ax nx cx :: (iv sm ++ [.map (some bq), .int .u32 op])) 78)] ++ L) s fun v L' s' => ∃ M', L' = M' ++ L ∧ M' = [(bm, cb (.slice (some ⟨bc, 0, none⟩) nc cc :: .int .u32 m.r0 :: .int .u32 m.r1 :: .int .u32 m.r2 :: .int .u32 m.r3 :: .int .u32 m.r4 :: .slice Ai ni ci :: .slice Ao no co :: .int .i64 m.stop :: .int .u32 m.code :: .slice Ax nx cx :: (iv sm ++ [.map (some bq), .int .u32 op])) 78)] ∧ ∃ Ad c', v = .agg #[.slice (some ⟨bc, 0, none⟩) nc cc, .int .u32 m.r0, .int .u32 m.r1, .int .u32 m.r2, .int .u32 m.r3, .int .u32 m.r4, .slice Ad ni c', .slice Ao no co, .int .i64 m.stop, .int .u32 m.code] ∧ Bts s' Ad ni c' m.input := by
 refine AC_enter (TT := TT) (fn := Try.f39) TT_ok Try.func39 (by kernel_rfl) rfl Try.ntmps39 rfl (rs := [.cell 2 30]) rfl [(0, _)] rfl ?_
 refine JC_seq ?_
 refine JC_region ?_
 refine JO_allocZ rfl [_, _, _, _, _, _, _, _, _, _] rfl rfl ?_
 intro β1 s1 h1
 refine JO_nil ?_
 refine thenQ_n ?_
 refine JC_seq ?_
 refine JC_region ?_
 refine JO_q (QE_mv rfl) rfl ?_
 refine JO_q (QE_nil rfl) rfl ?_
 refine JO_q (QE_fa0 rfl rfl rfl rfl) rfl ?_
 refine JO_q (QE_ldA 1 [_, _, _, _, _, _, _, _, _, _] rfl rfl rfl rfl rfl) rfl ?_
 refine JO_allocZ rfl [_, _, _, _, _, _, _, _, _, _] rfl rfl ?_
 intro β2 s2 h2
 refine JO_st 0 [_, _, _, _, _, _, _, _, _, _] rfl rfl rfl rfl rfl rfl rfl rfl rfl ?_
 refine JO_nil ?_
 refine thenQ_n ?_
 refine JC_seq ?_
 refine JC_region ?_
 refine JO_q (QE_faB rfl rfl rfl rfl) rfl ?_
 refine JO_q (QE_ld1 0 rfl rfl rfl rfl rfl) rfl ?_
 refine JO_call (first := []) (captured := []) rfl rfl rfl (AC.pub (cloneB_ac D _ _ _ _ _ _ (hI.le (Le.trans h1 h2)) hni)) ?_
 rintro _ _ s3 h3 ⟨rfl, M1, sw, ⟨Ad, c1, rfl, _, _, hOw⟩, hsw, hcw⟩
 have hB1 := Own.bts hOw hcw
 refine JO_q (QE_faB rfl rfl rfl rfl) rfl ?_
 refine JO_st 0 [_, _, _, _, _, _, _, _, _, _] rfl rfl rfl rfl rfl rfl rfl rfl rfl ?_
 refine JO_nil ?_
 refine thenQ_n ?_
 refine JC_seq ?_
 refine JC_region ?_
 refine JO_q (QE_ldA 0 [_, _, _, _, _, _, _, _, _, _] rfl rfl rfl rfl rfl) rfl ?_
 refine JO_st 1 [_, _, _, _, _, _, _, _, _, _] rfl rfl rfl rfl rfl rfl rfl rfl rfl ?_
 refine JO_nil ?_
 refine thenQ_n ?_
 refine JC_ret ?_
 refine retQ_mk [_, _] _ (.inr rfl) (.agg (us := [_, _, _, _, _, _, _, _, _, _]) 1 rfl rfl rfl rfl rfl (.nil)) rfl (Le.trans (Le.trans h1 h2) h3) (fun sR hS2 => ?_)
 exact ⟨[_], rfl, rfl, Ad, c1, rfl, hB1.le (Le.trans (Le.refl (D := D) _) hS2)⟩

theorem posn_succ {ins : List Ins} {k : Nat} {x : Ins} (h : ins[k]? = some x) (c : Int) : posn ins c (k + 1) = if x.code = c then k + 1 else posn ins c k := by simp [posn, h]
theorem small_set {ins : List Ins} {k : Nat} {x : Ins} {sm : List Int} (h : ins[k]? = some x) (hx : U32 x.code) (hlt : x.code < 256) (hl : sm.length = 256) (hS : ∀ c : Int, 0 ≤ c → c < 256 → sm[c.toNat]? = some (posn ins c k : Int)) :
    (sm.set x.code.toNat ((k : Int) + 1)).length = 256 ∧ ∀ c : Int, 0 ≤ c → c < 256 → (sm.set x.code.toNat ((k : Int) + 1))[c.toNat]? = some (posn ins c (k + 1) : Int) := by
  refine ⟨by simpa using hl, fun c h1 h2 => ?_⟩
  have hx0 := hx.1
  rw [posn_succ h]
  by_cases e : x.code = c
  · subst e
    rw [if_pos rfl, List.getElem?_set_self (by omega)]; simp
  · rw [if_neg e, List.getElem?_set_ne (by omega)]; exact hS c h1 h2
theorem small_big {ins : List Ins} {k : Nat} {x : Ins} {es : List (Int × Value × Nat)} (h : ins[k]? = some x) (hlt : x.code < 256) (hB : ∀ c : Int, 256 ≤ c → (assoc es c).getD (.int .i64 0) = .int .i64 (posn ins c k : Int)) :
    ∀ c : Int, 256 ≤ c → (assoc es c).getD (.int .i64 0) = .int .i64 (posn ins c (k + 1) : Int) := fun c hc => by
  rw [posn_succ h, if_neg (by omega)]; exact hB c hc
theorem big_small {ins : List Ins} {k : Nat} {x : Ins} {sm : List Int} (h : ins[k]? = some x) (hge : ¬ x.code < 256) (hS : ∀ c : Int, 0 ≤ c → c < 256 → sm[c.toNat]? = some (posn ins c k : Int)) :
    ∀ c : Int, 0 ≤ c → c < 256 → sm[c.toNat]? = some (posn ins c (k + 1) : Int) := fun c h1 h2 => by
  rw [posn_succ h, if_neg (by omega)]; exact hS c h1 h2
theorem big_set {ins : List Ins} {k : Nat} {x : Ins} {es : List (Int × Value × Nat)} {ck : Nat} (h : ins[k]? = some x) (hB : ∀ c : Int, 256 ≤ c → (assoc es c).getD (.int .i64 0) = .int .i64 (posn ins c k : Int)) :
    ∀ c : Int, 256 ≤ c → (assoc (mset es x.code (.int .i64 ((k : Int) + 1)) ck) c).getD (.int .i64 0) = .int .i64 (posn ins c (k + 1) : Int) := fun c hc => by
  rw [assoc_mset, posn_succ h]
  by_cases e : c = x.code
  · rw [if_pos e, if_pos e.symm]; simp
  · rw [if_neg e, if_neg (fun h => e h.symm)]; exact hB c hc

set_option maxHeartbeats 4000000 in
set_option maxRecDepth 100000 in
theorem open_ac (D : Nat) (L : Hl) (s : World) (t : Tab) (A : Option Addr) (n c : Nat) (hA : Inss s A n c t.ins) (m : Mst) (Ax Bx Ox : Option Addr) (nAx cAx nBx cBx nOx cOx : Nat) (hAx : Wds s Ax nAx cAx m.cells) (hBx : Bts s Bx nBx cBx m.input) (hOx : Bts s Ox nOx cOx m.output) (hok : MOK m) (hc0 : 0 < m.cells.length) : AC Try.prog D 37 [.agg #[.int .i64 t.cells, .slice A n c], .agg #[.slice Ax nAx cAx, .int .u32 m.r0, .int .u32 m.r1, .int .u32 m.r2, .int .u32 m.r3, .int .u32 m.r4, .slice Bx nBx cBx, .slice Ox nOx cOx, .int .i64 m.stop, .int .u32 m.code]] L s fun v L' s' => ∃ M', L' = M' ++ L ∧ ∃ bm sm bq es ck, v = .pointer (some ⟨bm, 0, none⟩) ∧ sm.length = 256 ∧ (∀ c : Int, 0 ≤ c → c < 256 → sm[c.toNat]? = some (posn t.ins c n : Int)) ∧ (∀ c : Int, 256 ≤ c → (assoc es c).getD (.int .i64 0) = .int .i64 (posn t.ins c n : Int)) ∧ MaMem bm (.slice A n c) sm bq es ck 0 m M' s' := by
 obtain rfl := hAx.1
 obtain rfl := hOx.1
 have hnB := hBx.1
 have hb1 := hok.cells
 have hb2 := hok.input
 have hb3 := hok.output
 have hn := hA.1
 have hcn := hA.2.1
 have hcm := hA.2.2.1
 refine AC_enter (TT := TT) (fn := Try.f37) TT_ok Try.func37 (by kernel_rfl) rfl Try.ntmps37 rfl (rs := [.tmp 4]) rfl [(0, _), (1, _)] rfl ?_
 refine JC_seq ?_
 refine JC_region ?_
 refine JO_boxA rfl rfl ?_
 intro β1 s1 h1
 refine JO_boxA rfl rfl ?_
 intro β2 s2 h2
 refine JO_q (QE_as rfl) rfl ?_
 refine JO_nil ?_
 refine thenQ_n ?_
 refine JC_cut (γ := Nat × Nat × List Value × Hl × Option Addr × Nat × Option Addr × Nat) (fun g => [(2, .pointer (some ⟨β1, 0, none⟩)), (3, .pointer (some ⟨β2, 0, none⟩)), (4, .pointer none)]) (fun g => (β2, cb [.slice (some ⟨g.1, 0, none⟩) m.cells.length g.2.1, .int .u32 m.r0, .int .u32 m.r1, .int .u32 m.r2, .int .u32 m.r3, .int .u32 m.r4, .slice g.2.2.2.2.2.2.1 nBx g.2.2.2.2.2.2.2, .slice g.2.2.2.2.1 m.output.length g.2.2.2.2.2.1, .int .i64 m.stop, .int .u32 m.code] 30) :: (β1, cb [.int .i64 t.cells, .slice A n c] 24) :: (g.1, cb (wv m.cells ++ g.2.2.1) 26) :: (g.2.2.2.1 ++ L)) (fun g tw => Le D s2 tw ∧ (Own 5 1 g.2.2.2.1 (.slice g.2.2.2.2.1 m.output.length g.2.2.2.2.2.1) m.output.length (bv m.output) ∧ Bts tw g.2.2.2.2.2.2.1 nBx g.2.2.2.2.2.2.2 m.input ∧ m.cells.length + g.2.2.1.length = g.2.1 ∧ g.2.1 ≤ 9223372036854775807)) (fun _ _ _ h hl => ⟨h.1.trans hl, by obtain ⟨_, k1, k2, k3⟩ := h; exact ⟨k1, k2.le hl, k3⟩⟩) ?_ ?_
 ·
  refine JC_drawT drawsMixed 15 rfl 0 ?_
  intro s4 h4
  refine JA_q 0 rfl (by kernel_rfl) (by kernel_rfl) (by kernel_rfl) trivial (QE_fa0 rfl rfl rfl rfl) rfl ?_
  refine JA_q 3 rfl (by kernel_rfl) (by kernel_rfl) (by kernel_rfl) trivial (QE_faB rfl rfl rfl rfl) rfl ?_
  refine JA_q 6 rfl (by kernel_rfl) (by kernel_rfl) (by kernel_rfl) trivial (QE_faB rfl rfl rfl rfl) rfl ?_
  refine JA_3 1 4 7 (by kernel_rfl) ?_ ?_ ?_
  ·
   refine JB_q rfl trivial (QE_ld1 0 rfl rfl rfl rfl rfl) rfl ?_
   refine JA_3 2 4 7 (by kernel_rfl) ?_ ?_ ?_
   ·
    refine JB_call rfl trivial (first := []) (captured := []) rfl rfl rfl (AC.mid [_, _] [] _ (cloneW_ac D _ _ _ _ _ _ (hAx.le (Le.trans (Le.trans h1 h2) h4)) (by omega))) ?_
    rintro _ _ s5 h5 ⟨M1, rfl, Ad, c1, rfl, _, _, hO1⟩
    refine ⟨(fun x h _ => by cases h), ?_⟩
    obtain ⟨bc, yc, rfl, rfl, hcy, hcy2⟩ := Own.blk_of hO1 hc0
    simp only [List.cons_append, List.nil_append]
    refine JA_2 4 7 (by kernel_rfl) ?_ ?_
    ·
     refine JB_q rfl trivial (QE_ld1 0 rfl rfl rfl rfl rfl) rfl ?_
     refine JA_2 5 7 (by kernel_rfl) ?_ ?_
     ·
      refine JB_call rfl trivial (first := []) (captured := []) rfl rfl rfl (AC.pub (cloneB_ac D _ _ _ _ _ _ (hBx.le (Le.trans (Le.trans (Le.trans h1 h2) h4) h5)) (by omega))) ?_
      rintro _ _ s6 h6 ⟨rfl, Mi, swi, ⟨Ai1, ci1, rfl, _, _, hOi⟩, hswi, hcwi⟩
      refine ⟨fun _ _ h => h, ?_⟩
      have hBi := Own.bts hOi hcwi
      refine JA_1 7 (by kernel_rfl) ?_
      refine JB_q rfl trivial (QE_ld1 0 rfl rfl rfl rfl rfl) rfl ?_
      refine JA_q 9 rfl (by kernel_rfl) (by kernel_rfl) (by kernel_rfl) trivial (QE_fa0 rfl rfl rfl rfl) rfl ?_
      refine JA_1 8 (by kernel_rfl) ?_
      refine JB_call rfl trivial (first := []) (captured := []) rfl rfl rfl (AC.mid [_, _, _] [] _ (cloneB_ac D _ _ _ _ _ _ (hOx.le (Le.trans (Le.trans (Le.trans (Le.trans h1 h2) h4) h5) h6)) (by omega))) ?_
      rintro _ _ s7 h7 ⟨O, rfl, Ao1, co1, rfl, _, _, hOo⟩
      refine ⟨(fun x h _ => by cases h), ?_⟩
      simp only [List.cons_append, List.nil_append]
      refine JA_1 10 (by kernel_rfl) ?_
      refine JB_st rfl trivial 0 [_, _, _, _, _, _, _, _, _, _] rfl rfl rfl rfl rfl rfl rfl rfl rfl (fun x hx => by cases hx) ?_
      refine JA_q 11 rfl (by kernel_rfl) (by kernel_rfl) (by kernel_rfl) trivial (QE_faB rfl rfl rfl rfl) rfl ?_
      refine JA_1 12 (by kernel_rfl) ?_
      refine JB_st rfl trivial 0 [_, _, _, _, _, _, _, _, _, _] rfl rfl rfl rfl rfl rfl rfl rfl rfl (fun x hx => by cases hx) ?_
      refine JA_q 13 rfl (by kernel_rfl) (by kernel_rfl) (by kernel_rfl) trivial (QE_faB rfl rfl rfl rfl) rfl ?_
      refine JA_1 14 (by kernel_rfl) ?_
      refine JB_st rfl trivial 0 [_, _, _, _, _, _, _, _, _, _] rfl rfl rfl rfl rfl rfl rfl rfl rfl (fun x hx => by cases hx) ?_
      refine JA_done (by kernel_rfl) ?_
      refine thenQ_n (Mid.mk (bc, c1, yc, O, Ao1, co1, Ai1, ci1) [] (Keeps.cons rfl (Keeps.cons rfl (Keeps.cons rfl (Keeps.nil _)))) (List.Perm.refl _) ⟨(Le.trans (Le.trans (Le.trans h4 h5) h6) h7), ⟨hOo, hBi.le h7, by rw [← hcy, wv_len], hcy2⟩⟩)
     ·
      refine JB_q rfl trivial (QE_ld1 0 rfl rfl rfl rfl rfl) rfl ?_
      refine JA_q 9 rfl (by kernel_rfl) (by kernel_rfl) (by kernel_rfl) trivial (QE_fa0 rfl rfl rfl rfl) rfl ?_
      refine JA_1 5 (by kernel_rfl) ?_
      refine JB_call rfl trivial (first := []) (captured := []) rfl rfl rfl (AC.pub (cloneB_ac D _ _ _ _ _ _ (hBx.le (Le.trans (Le.trans (Le.trans h1 h2) h4) h5)) (by omega))) ?_
      rintro _ _ s8 h8 ⟨rfl, Mi, swi, ⟨Ai1, ci1, rfl, _, _, hOi⟩, hswi, hcwi⟩
      refine ⟨fun _ _ h => h, ?_⟩
      have hBi := Own.bts hOi hcwi
      refine JA_1 8 (by kernel_rfl) ?_
      refine JB_call rfl trivial (first := []) (captured := []) rfl rfl rfl (AC.mid [_, _, _] [] _ (cloneB_ac D _ _ _ _ _ _ (hOx.le (Le.trans (Le.trans (Le.trans (Le.trans h1 h2) h4) h5) h8)) (by omega))) ?_
      rintro _ _ s9 h9 ⟨O, rfl, Ao1, co1, rfl, _, _, hOo⟩
      refine ⟨(fun x h _ => by cases h), ?_⟩
      simp only [List.cons_append, List.nil_append]
      refine JA_1 10 (by kernel_rfl) ?_
      refine JB_st rfl trivial 0 [_, _, _, _, _, _, _, _, _, _] rfl rfl rfl rfl rfl rfl rfl rfl rfl (fun x hx => by cases hx) ?_
      refine JA_q 11 rfl (by kernel_rfl) (by kernel_rfl) (by kernel_rfl) trivial (QE_faB rfl rfl rfl rfl) rfl ?_
      refine JA_1 12 (by kernel_rfl) ?_
      refine JB_st rfl trivial 0 [_, _, _, _, _, _, _, _, _, _] rfl rfl rfl rfl rfl rfl rfl rfl rfl (fun x hx => by cases hx) ?_
      refine JA_q 13 rfl (by kernel_rfl) (by kernel_rfl) (by kernel_rfl) trivial (QE_faB rfl rfl rfl rfl) rfl ?_
      refine JA_1 14 (by kernel_rfl) ?_
      refine JB_st rfl trivial 0 [_, _, _, _, _, _, _, _, _, _] rfl rfl rfl rfl rfl rfl rfl rfl rfl (fun x hx => by cases hx) ?_
      refine JA_done (by kernel_rfl) ?_
      refine thenQ_n (Mid.mk (bc, c1, yc, O, Ao1, co1, Ai1, ci1) [] (Keeps.cons rfl (Keeps.cons rfl (Keeps.cons rfl (Keeps.nil _)))) (List.Perm.refl _) ⟨(Le.trans (Le.trans (Le.trans h4 h5) h8) h9), ⟨hOo, hBi.le h9, by rw [← hcy, wv_len], hcy2⟩⟩)
    ·
     refine JB_q rfl trivial (QE_ld1 0 rfl rfl rfl rfl rfl) rfl ?_
     refine JA_1 4 (by kernel_rfl) ?_
     refine JB_q rfl trivial (QE_ld1 0 rfl rfl rfl rfl rfl) rfl ?_
     refine JA_q 9 rfl (by kernel_rfl) (by kernel_rfl) (by kernel_rfl) trivial (QE_fa0 rfl rfl rfl rfl) rfl ?_
     refine JA_1 5 (by kernel_rfl) ?_
     refine JB_call rfl trivial (first := []) (captured := []) rfl rfl rfl (AC.pub (cloneB_ac D _ _ _ _ _ _ (hBx.le (Le.trans (Le.trans (Le.trans h1 h2) h4) h5)) (by omega))) ?_
     rintro _ _ s10 h10 ⟨rfl, Mi, swi, ⟨Ai1, ci1, rfl, _, _, hOi⟩, hswi, hcwi⟩
     refine ⟨fun _ _ h => h, ?_⟩
     have hBi := Own.bts hOi hcwi
     refine JA_1 8 (by kernel_rfl) ?_
     refine JB_call rfl trivial (first := []) (captured := []) rfl rfl rfl (AC.mid [_, _, _] [] _ (cloneB_ac D _ _ _ _ _ _ (hOx.le (Le.trans (Le.trans (Le.trans (Le.trans h1 h2) h4) h5) h10)) (by omega))) ?_
     rintro _ _ s11 h11 ⟨O, rfl, Ao1, co1, rfl, _, _, hOo⟩
     refine ⟨(fun x h _ => by cases h), ?_⟩
     simp only [List.cons_append, List.nil_append]
     refine JA_1 10 (by kernel_rfl) ?_
     refine JB_st rfl trivial 0 [_, _, _, _, _, _, _, _, _, _] rfl rfl rfl rfl rfl rfl rfl rfl rfl (fun x hx => by cases hx) ?_
     refine JA_q 11 rfl (by kernel_rfl) (by kernel_rfl) (by kernel_rfl) trivial (QE_faB rfl rfl rfl rfl) rfl ?_
     refine JA_1 12 (by kernel_rfl) ?_
     refine JB_st rfl trivial 0 [_, _, _, _, _, _, _, _, _, _] rfl rfl rfl rfl rfl rfl rfl rfl rfl (fun x hx => by cases hx) ?_
     refine JA_q 13 rfl (by kernel_rfl) (by kernel_rfl) (by kernel_rfl) trivial (QE_faB rfl rfl rfl rfl) rfl ?_
     refine JA_1 14 (by kernel_rfl) ?_
     refine JB_st rfl trivial 0 [_, _, _, _, _, _, _, _, _, _] rfl rfl rfl rfl rfl rfl rfl rfl rfl (fun x hx => by cases hx) ?_
     refine JA_done (by kernel_rfl) ?_
     refine thenQ_n (Mid.mk (bc, c1, yc, O, Ao1, co1, Ai1, ci1) [] (Keeps.cons rfl (Keeps.cons rfl (Keeps.cons rfl (Keeps.nil _)))) (List.Perm.refl _) ⟨(Le.trans (Le.trans (Le.trans h4 h5) h10) h11), ⟨hOo, hBi.le h11, by rw [← hcy, wv_len], hcy2⟩⟩)
   ·
    refine JB_q rfl trivial (QE_ld1 0 rfl rfl rfl rfl rfl) rfl ?_
    refine JA_2 2 7 (by kernel_rfl) ?_ ?_
    ·
     refine JB_call rfl trivial (first := []) (captured := []) rfl rfl rfl (AC.mid [_, _] [] _ (cloneW_ac D _ _ _ _ _ _ (hAx.le (Le.trans (Le.trans h1 h2) h4)) (by omega))) ?_
     rintro _ _ s12 h12 ⟨M1, rfl, Ad, c1, rfl, _, _, hO1⟩
     refine ⟨(fun x h _ => by cases h), ?_⟩
     obtain ⟨bc, yc, rfl, rfl, hcy, hcy2⟩ := Own.blk_of hO1 hc0
     simp only [List.cons_append, List.nil_append]
     refine JA_2 5 7 (by kernel_rfl) ?_ ?_
     ·
      refine JB_call rfl trivial (first := []) (captured := []) rfl rfl rfl (AC.pub (cloneB_ac D _ _ _ _ _ _ (hBx.le (Le.trans (Le.trans (Le.trans h1 h2) h4) h12)) (by omega))) ?_
      rintro _ _ s13 h13 ⟨rfl, Mi, swi, ⟨Ai1, ci1, rfl, _, _, hOi⟩, hswi, hcwi⟩
      refine ⟨fun _ _ h => h, ?_⟩
      have hBi := Own.bts hOi hcwi
      refine JA_1 7 (by kernel_rfl) ?_
      refine JB_q rfl trivial (QE_ld1 0 rfl rfl rfl rfl rfl) rfl ?_
      refine JA_q 9 rfl (by kernel_rfl) (by kernel_rfl) (by kernel_rfl) trivial (QE_fa0 rfl rfl rfl rfl) rfl ?_
      refine JA_1 8 (by kernel_rfl) ?_
      refine JB_call rfl trivial (first := []) (captured := []) rfl rfl rfl (AC.mid [_, _, _] [] _ (cloneB_ac D _ _ _ _ _ _ (hOx.le (Le.trans (Le.trans (Le.trans (Le.trans h1 h2) h4) h12) h13)) (by omega))) ?_
      rintro _ _ s14 h14 ⟨O, rfl, Ao1, co1, rfl, _, _, hOo⟩
      refine ⟨(fun x h _ => by cases h), ?_⟩
      simp only [List.cons_append, List.nil_append]
      refine JA_1 10 (by kernel_rfl) ?_
      refine JB_st rfl trivial 0 [_, _, _, _, _, _, _, _, _, _] rfl rfl rfl rfl rfl rfl rfl rfl rfl (fun x hx => by cases hx) ?_
      refine JA_q 11 rfl (by kernel_rfl) (by kernel_rfl) (by kernel_rfl) trivial (QE_faB rfl rfl rfl rfl) rfl ?_
      refine JA_1 12 (by kernel_rfl) ?_
      refine JB_st rfl trivial 0 [_, _, _, _, _, _, _, _, _, _] rfl rfl rfl rfl rfl rfl rfl rfl rfl (fun x hx => by cases hx) ?_
      refine JA_q 13 rfl (by kernel_rfl) (by kernel_rfl) (by kernel_rfl) trivial (QE_faB rfl rfl rfl rfl) rfl ?_
      refine JA_1 14 (by kernel_rfl) ?_
      refine JB_st rfl trivial 0 [_, _, _, _, _, _, _, _, _, _] rfl rfl rfl rfl rfl rfl rfl rfl rfl (fun x hx => by cases hx) ?_
      refine JA_done (by kernel_rfl) ?_
      refine thenQ_n (Mid.mk (bc, c1, yc, O, Ao1, co1, Ai1, ci1) [] (Keeps.cons rfl (Keeps.cons rfl (Keeps.cons rfl (Keeps.nil _)))) (List.Perm.refl _) ⟨(Le.trans (Le.trans (Le.trans h4 h12) h13) h14), ⟨hOo, hBi.le h14, by rw [← hcy, wv_len], hcy2⟩⟩)
     ·
      refine JB_q rfl trivial (QE_ld1 0 rfl rfl rfl rfl rfl) rfl ?_
      refine JA_q 9 rfl (by kernel_rfl) (by kernel_rfl) (by kernel_rfl) trivial (QE_fa0 rfl rfl rfl rfl) rfl ?_
      refine JA_1 5 (by kernel_rfl) ?_
      refine JB_call rfl trivial (first := []) (captured := []) rfl rfl rfl (AC.pub (cloneB_ac D _ _ _ _ _ _ (hBx.le (Le.trans (Le.trans (Le.trans h1 h2) h4) h12)) (by omega))) ?_
      rintro _ _ s15 h15 ⟨rfl, Mi, swi, ⟨Ai1, ci1, rfl, _, _, hOi⟩, hswi, hcwi⟩
      refine ⟨fun _ _ h => h, ?_⟩
      have hBi := Own.bts hOi hcwi
      refine JA_1 8 (by kernel_rfl) ?_
      refine JB_call rfl trivial (first := []) (captured := []) rfl rfl rfl (AC.mid [_, _, _] [] _ (cloneB_ac D _ _ _ _ _ _ (hOx.le (Le.trans (Le.trans (Le.trans (Le.trans h1 h2) h4) h12) h15)) (by omega))) ?_
      rintro _ _ s16 h16 ⟨O, rfl, Ao1, co1, rfl, _, _, hOo⟩
      refine ⟨(fun x h _ => by cases h), ?_⟩
      simp only [List.cons_append, List.nil_append]
      refine JA_1 10 (by kernel_rfl) ?_
      refine JB_st rfl trivial 0 [_, _, _, _, _, _, _, _, _, _] rfl rfl rfl rfl rfl rfl rfl rfl rfl (fun x hx => by cases hx) ?_
      refine JA_q 11 rfl (by kernel_rfl) (by kernel_rfl) (by kernel_rfl) trivial (QE_faB rfl rfl rfl rfl) rfl ?_
      refine JA_1 12 (by kernel_rfl) ?_
      refine JB_st rfl trivial 0 [_, _, _, _, _, _, _, _, _, _] rfl rfl rfl rfl rfl rfl rfl rfl rfl (fun x hx => by cases hx) ?_
      refine JA_q 13 rfl (by kernel_rfl) (by kernel_rfl) (by kernel_rfl) trivial (QE_faB rfl rfl rfl rfl) rfl ?_
      refine JA_1 14 (by kernel_rfl) ?_
      refine JB_st rfl trivial 0 [_, _, _, _, _, _, _, _, _, _] rfl rfl rfl rfl rfl rfl rfl rfl rfl (fun x hx => by cases hx) ?_
      refine JA_done (by kernel_rfl) ?_
      refine thenQ_n (Mid.mk (bc, c1, yc, O, Ao1, co1, Ai1, ci1) [] (Keeps.cons rfl (Keeps.cons rfl (Keeps.cons rfl (Keeps.nil _)))) (List.Perm.refl _) ⟨(Le.trans (Le.trans (Le.trans h4 h12) h15) h16), ⟨hOo, hBi.le h16, by rw [← hcy, wv_len], hcy2⟩⟩)
    ·
     refine JB_q rfl trivial (QE_ld1 0 rfl rfl rfl rfl rfl) rfl ?_
     refine JA_1 2 (by kernel_rfl) ?_
     refine JB_call rfl trivial (first := []) (captured := []) rfl rfl rfl (AC.mid [_, _] [] _ (cloneW_ac D _ _ _ _ _ _ (hAx.le (Le.trans (Le.trans h1 h2) h4)) (by omega))) ?_
     rintro _ _ s17 h17 ⟨M1, rfl, Ad, c1, rfl, _, _, hO1⟩
     refine ⟨(fun x h _ => by cases h), ?_⟩
     obtain ⟨bc, yc, rfl, rfl, hcy, hcy2⟩ := Own.blk_of hO1 hc0
     simp only [List.cons_append, List.nil_append]
     refine JA_q 9 rfl (by kernel_rfl) (by kernel_rfl) (by kernel_rfl) trivial (QE_fa0 rfl rfl rfl rfl) rfl ?_
     refine JA_1 5 (by kernel_rfl) ?_
     refine JB_call rfl trivial (first := []) (captured := []) rfl rfl rfl (AC.pub (cloneB_ac D _ _ _ _ _ _ (hBx.le (Le.trans (Le.trans (Le.trans h1 h2) h4) h17)) (by omega))) ?_
     rintro _ _ s18 h18 ⟨rfl, Mi, swi, ⟨Ai1, ci1, rfl, _, _, hOi⟩, hswi, hcwi⟩
     refine ⟨fun _ _ h => h, ?_⟩
     have hBi := Own.bts hOi hcwi
     refine JA_1 8 (by kernel_rfl) ?_
     refine JB_call rfl trivial (first := []) (captured := []) rfl rfl rfl (AC.mid [_, _, _] [] _ (cloneB_ac D _ _ _ _ _ _ (hOx.le (Le.trans (Le.trans (Le.trans (Le.trans h1 h2) h4) h17) h18)) (by omega))) ?_
     rintro _ _ s19 h19 ⟨O, rfl, Ao1, co1, rfl, _, _, hOo⟩
     refine ⟨(fun x h _ => by cases h), ?_⟩
     simp only [List.cons_append, List.nil_append]
     refine JA_1 10 (by kernel_rfl) ?_
     refine JB_st rfl trivial 0 [_, _, _, _, _, _, _, _, _, _] rfl rfl rfl rfl rfl rfl rfl rfl rfl (fun x hx => by cases hx) ?_
     refine JA_q 11 rfl (by kernel_rfl) (by kernel_rfl) (by kernel_rfl) trivial (QE_faB rfl rfl rfl rfl) rfl ?_
     refine JA_1 12 (by kernel_rfl) ?_
     refine JB_st rfl trivial 0 [_, _, _, _, _, _, _, _, _, _] rfl rfl rfl rfl rfl rfl rfl rfl rfl (fun x hx => by cases hx) ?_
     refine JA_q 13 rfl (by kernel_rfl) (by kernel_rfl) (by kernel_rfl) trivial (QE_faB rfl rfl rfl rfl) rfl ?_
     refine JA_1 14 (by kernel_rfl) ?_
     refine JB_st rfl trivial 0 [_, _, _, _, _, _, _, _, _, _] rfl rfl rfl rfl rfl rfl rfl rfl rfl (fun x hx => by cases hx) ?_
     refine JA_done (by kernel_rfl) ?_
     refine thenQ_n (Mid.mk (bc, c1, yc, O, Ao1, co1, Ai1, ci1) [] (Keeps.cons rfl (Keeps.cons rfl (Keeps.cons rfl (Keeps.nil _)))) (List.Perm.refl _) ⟨(Le.trans (Le.trans (Le.trans h4 h17) h18) h19), ⟨hOo, hBi.le h19, by rw [← hcy, wv_len], hcy2⟩⟩)
   ·
    refine JB_q rfl trivial (QE_ld1 0 rfl rfl rfl rfl rfl) rfl ?_
    refine JA_2 2 4 (by kernel_rfl) ?_ ?_
    ·
     refine JB_call rfl trivial (first := []) (captured := []) rfl rfl rfl (AC.mid [_, _] [] _ (cloneW_ac D _ _ _ _ _ _ (hAx.le (Le.trans (Le.trans h1 h2) h4)) (by omega))) ?_
     rintro _ _ s20 h20 ⟨M1, rfl, Ad, c1, rfl, _, _, hO1⟩
     refine ⟨(fun x h _ => by cases h), ?_⟩
     obtain ⟨bc, yc, rfl, rfl, hcy, hcy2⟩ := Own.blk_of hO1 hc0
     simp only [List.cons_append, List.nil_append]
     refine JA_1 4 (by kernel_rfl) ?_
     refine JB_q rfl trivial (QE_ld1 0 rfl rfl rfl rfl rfl) rfl ?_
     refine JA_q 9 rfl (by kernel_rfl) (by kernel_rfl) (by kernel_rfl) trivial (QE_fa0 rfl rfl rfl rfl) rfl ?_
     refine JA_1 5 (by kernel_rfl) ?_
     refine JB_call rfl trivial (first := []) (captured := []) rfl rfl rfl (AC.pub (cloneB_ac D _ _ _ _ _ _ (hBx.le (Le.trans (Le.trans (Le.trans h1 h2) h4) h20)) (by omega))) ?_
     rintro _ _ s21 h21 ⟨rfl, Mi, swi, ⟨Ai1, ci1, rfl, _, _, hOi⟩, hswi, hcwi⟩
     refine ⟨fun _ _ h => h, ?_⟩
     have hBi := Own.bts hOi hcwi
     refine JA_1 8 (by kernel_rfl) ?_
     refine JB_call rfl trivial (first := []) (captured := []) rfl rfl rfl (AC.mid [_, _, _] [] _ (cloneB_ac D _ _ _ _ _ _ (hOx.le (Le.trans (Le.trans (Le.trans (Le.trans h1 h2) h4) h20) h21)) (by omega))) ?_
     rintro _ _ s22 h22 ⟨O, rfl, Ao1, co1, rfl, _, _, hOo⟩
     refine ⟨(fun x h _ => by cases h), ?_⟩
     simp only [List.cons_append, List.nil_append]
     refine JA_1 10 (by kernel_rfl) ?_
     refine JB_st rfl trivial 0 [_, _, _, _, _, _, _, _, _, _] rfl rfl rfl rfl rfl rfl rfl rfl rfl (fun x hx => by cases hx) ?_
     refine JA_q 11 rfl (by kernel_rfl) (by kernel_rfl) (by kernel_rfl) trivial (QE_faB rfl rfl rfl rfl) rfl ?_
     refine JA_1 12 (by kernel_rfl) ?_
     refine JB_st rfl trivial 0 [_, _, _, _, _, _, _, _, _, _] rfl rfl rfl rfl rfl rfl rfl rfl rfl (fun x hx => by cases hx) ?_
     refine JA_q 13 rfl (by kernel_rfl) (by kernel_rfl) (by kernel_rfl) trivial (QE_faB rfl rfl rfl rfl) rfl ?_
     refine JA_1 14 (by kernel_rfl) ?_
     refine JB_st rfl trivial 0 [_, _, _, _, _, _, _, _, _, _] rfl rfl rfl rfl rfl rfl rfl rfl rfl (fun x hx => by cases hx) ?_
     refine JA_done (by kernel_rfl) ?_
     refine thenQ_n (Mid.mk (bc, c1, yc, O, Ao1, co1, Ai1, ci1) [] (Keeps.cons rfl (Keeps.cons rfl (Keeps.cons rfl (Keeps.nil _)))) (List.Perm.refl _) ⟨(Le.trans (Le.trans (Le.trans h4 h20) h21) h22), ⟨hOo, hBi.le h22, by rw [← hcy, wv_len], hcy2⟩⟩)
    ·
     refine JB_q rfl trivial (QE_ld1 0 rfl rfl rfl rfl rfl) rfl ?_
     refine JA_1 2 (by kernel_rfl) ?_
     refine JB_call rfl trivial (first := []) (captured := []) rfl rfl rfl (AC.mid [_, _] [] _ (cloneW_ac D _ _ _ _ _ _ (hAx.le (Le.trans (Le.trans h1 h2) h4)) (by omega))) ?_
     rintro _ _ s23 h23 ⟨M1, rfl, Ad, c1, rfl, _, _, hO1⟩
     refine ⟨(fun x h _ => by cases h), ?_⟩
     obtain ⟨bc, yc, rfl, rfl, hcy, hcy2⟩ := Own.blk_of hO1 hc0
     simp only [List.cons_append, List.nil_append]
     refine JA_q 9 rfl (by kernel_rfl) (by kernel_rfl) (by kernel_rfl) trivial (QE_fa0 rfl rfl rfl rfl) rfl ?_
     refine JA_1 5 (by kernel_rfl) ?_
     refine JB_call rfl trivial (first := []) (captured := []) rfl rfl rfl (AC.pub (cloneB_ac D _ _ _ _ _ _ (hBx.le (Le.trans (Le.trans (Le.trans h1 h2) h4) h23)) (by omega))) ?_
     rintro _ _ s24 h24 ⟨rfl, Mi, swi, ⟨Ai1, ci1, rfl, _, _, hOi⟩, hswi, hcwi⟩
     refine ⟨fun _ _ h => h, ?_⟩
     have hBi := Own.bts hOi hcwi
     refine JA_1 8 (by kernel_rfl) ?_
     refine JB_call rfl trivial (first := []) (captured := []) rfl rfl rfl (AC.mid [_, _, _] [] _ (cloneB_ac D _ _ _ _ _ _ (hOx.le (Le.trans (Le.trans (Le.trans (Le.trans h1 h2) h4) h23) h24)) (by omega))) ?_
     rintro _ _ s25 h25 ⟨O, rfl, Ao1, co1, rfl, _, _, hOo⟩
     refine ⟨(fun x h _ => by cases h), ?_⟩
     simp only [List.cons_append, List.nil_append]
     refine JA_1 10 (by kernel_rfl) ?_
     refine JB_st rfl trivial 0 [_, _, _, _, _, _, _, _, _, _] rfl rfl rfl rfl rfl rfl rfl rfl rfl (fun x hx => by cases hx) ?_
     refine JA_q 11 rfl (by kernel_rfl) (by kernel_rfl) (by kernel_rfl) trivial (QE_faB rfl rfl rfl rfl) rfl ?_
     refine JA_1 12 (by kernel_rfl) ?_
     refine JB_st rfl trivial 0 [_, _, _, _, _, _, _, _, _, _] rfl rfl rfl rfl rfl rfl rfl rfl rfl (fun x hx => by cases hx) ?_
     refine JA_q 13 rfl (by kernel_rfl) (by kernel_rfl) (by kernel_rfl) trivial (QE_faB rfl rfl rfl rfl) rfl ?_
     refine JA_1 14 (by kernel_rfl) ?_
     refine JB_st rfl trivial 0 [_, _, _, _, _, _, _, _, _, _] rfl rfl rfl rfl rfl rfl rfl rfl rfl (fun x hx => by cases hx) ?_
     refine JA_done (by kernel_rfl) ?_
     refine thenQ_n (Mid.mk (bc, c1, yc, O, Ao1, co1, Ai1, ci1) [] (Keeps.cons rfl (Keeps.cons rfl (Keeps.cons rfl (Keeps.nil _)))) (List.Perm.refl _) ⟨(Le.trans (Le.trans (Le.trans h4 h23) h24) h25), ⟨hOo, hBi.le h25, by rw [← hcy, wv_len], hcy2⟩⟩)
  ·
   refine JB_q rfl trivial (QE_ld1 0 rfl rfl rfl rfl rfl) rfl ?_
   refine JA_2 1 7 (by kernel_rfl) ?_ ?_
   ·
    refine JB_q rfl trivial (QE_ld1 0 rfl rfl rfl rfl rfl) rfl ?_
    refine JA_2 2 7 (by kernel_rfl) ?_ ?_
    ·
     refine JB_call rfl trivial (first := []) (captured := []) rfl rfl rfl (AC.mid [_, _] [] _ (cloneW_ac D _ _ _ _ _ _ (hAx.le (Le.trans (Le.trans h1 h2) h4)) (by omega))) ?_
     rintro _ _ s26 h26 ⟨M1, rfl, Ad, c1, rfl, _, _, hO1⟩
     refine ⟨(fun x h _ => by cases h), ?_⟩
     obtain ⟨bc, yc, rfl, rfl, hcy, hcy2⟩ := Own.blk_of hO1 hc0
     simp only [List.cons_append, List.nil_append]
     refine JA_2 5 7 (by kernel_rfl) ?_ ?_
     ·
      refine JB_call rfl trivial (first := []) (captured := []) rfl rfl rfl (AC.pub (cloneB_ac D _ _ _ _ _ _ (hBx.le (Le.trans (Le.trans (Le.trans h1 h2) h4) h26)) (by omega))) ?_
      rintro _ _ s27 h27 ⟨rfl, Mi, swi, ⟨Ai1, ci1, rfl, _, _, hOi⟩, hswi, hcwi⟩
      refine ⟨fun _ _ h => h, ?_⟩
      have hBi := Own.bts hOi hcwi
      refine JA_1 7 (by kernel_rfl) ?_
      refine JB_q rfl trivial (QE_ld1 0 rfl rfl rfl rfl rfl) rfl ?_
      refine JA_q 9 rfl (by kernel_rfl) (by kernel_rfl) (by kernel_rfl) trivial (QE_fa0 rfl rfl rfl rfl) rfl ?_
      refine JA_1 8 (by kernel_rfl) ?_
      refine JB_call rfl trivial (first := []) (captured := []) rfl rfl rfl (AC.mid [_, _, _] [] _ (cloneB_ac D _ _ _ _ _ _ (hOx.le (Le.trans (Le.trans (Le.trans (Le.trans h1 h2) h4) h26) h27)) (by omega))) ?_
      rintro _ _ s28 h28 ⟨O, rfl, Ao1, co1, rfl, _, _, hOo⟩
      refine ⟨(fun x h _ => by cases h), ?_⟩
      simp only [List.cons_append, List.nil_append]
      refine JA_1 10 (by kernel_rfl) ?_
      refine JB_st rfl trivial 0 [_, _, _, _, _, _, _, _, _, _] rfl rfl rfl rfl rfl rfl rfl rfl rfl (fun x hx => by cases hx) ?_
      refine JA_q 11 rfl (by kernel_rfl) (by kernel_rfl) (by kernel_rfl) trivial (QE_faB rfl rfl rfl rfl) rfl ?_
      refine JA_1 12 (by kernel_rfl) ?_
      refine JB_st rfl trivial 0 [_, _, _, _, _, _, _, _, _, _] rfl rfl rfl rfl rfl rfl rfl rfl rfl (fun x hx => by cases hx) ?_
      refine JA_q 13 rfl (by kernel_rfl) (by kernel_rfl) (by kernel_rfl) trivial (QE_faB rfl rfl rfl rfl) rfl ?_
      refine JA_1 14 (by kernel_rfl) ?_
      refine JB_st rfl trivial 0 [_, _, _, _, _, _, _, _, _, _] rfl rfl rfl rfl rfl rfl rfl rfl rfl (fun x hx => by cases hx) ?_
      refine JA_done (by kernel_rfl) ?_
      refine thenQ_n (Mid.mk (bc, c1, yc, O, Ao1, co1, Ai1, ci1) [] (Keeps.cons rfl (Keeps.cons rfl (Keeps.cons rfl (Keeps.nil _)))) (List.Perm.refl _) ⟨(Le.trans (Le.trans (Le.trans h4 h26) h27) h28), ⟨hOo, hBi.le h28, by rw [← hcy, wv_len], hcy2⟩⟩)
     ·
      refine JB_q rfl trivial (QE_ld1 0 rfl rfl rfl rfl rfl) rfl ?_
      refine JA_q 9 rfl (by kernel_rfl) (by kernel_rfl) (by kernel_rfl) trivial (QE_fa0 rfl rfl rfl rfl) rfl ?_
      refine JA_1 5 (by kernel_rfl) ?_
      refine JB_call rfl trivial (first := []) (captured := []) rfl rfl rfl (AC.pub (cloneB_ac D _ _ _ _ _ _ (hBx.le (Le.trans (Le.trans (Le.trans h1 h2) h4) h26)) (by omega))) ?_
      rintro _ _ s29 h29 ⟨rfl, Mi, swi, ⟨Ai1, ci1, rfl, _, _, hOi⟩, hswi, hcwi⟩
      refine ⟨fun _ _ h => h, ?_⟩
      have hBi := Own.bts hOi hcwi
      refine JA_1 8 (by kernel_rfl) ?_
      refine JB_call rfl trivial (first := []) (captured := []) rfl rfl rfl (AC.mid [_, _, _] [] _ (cloneB_ac D _ _ _ _ _ _ (hOx.le (Le.trans (Le.trans (Le.trans (Le.trans h1 h2) h4) h26) h29)) (by omega))) ?_
      rintro _ _ s30 h30 ⟨O, rfl, Ao1, co1, rfl, _, _, hOo⟩
      refine ⟨(fun x h _ => by cases h), ?_⟩
      simp only [List.cons_append, List.nil_append]
      refine JA_1 10 (by kernel_rfl) ?_
      refine JB_st rfl trivial 0 [_, _, _, _, _, _, _, _, _, _] rfl rfl rfl rfl rfl rfl rfl rfl rfl (fun x hx => by cases hx) ?_
      refine JA_q 11 rfl (by kernel_rfl) (by kernel_rfl) (by kernel_rfl) trivial (QE_faB rfl rfl rfl rfl) rfl ?_
      refine JA_1 12 (by kernel_rfl) ?_
      refine JB_st rfl trivial 0 [_, _, _, _, _, _, _, _, _, _] rfl rfl rfl rfl rfl rfl rfl rfl rfl (fun x hx => by cases hx) ?_
      refine JA_q 13 rfl (by kernel_rfl) (by kernel_rfl) (by kernel_rfl) trivial (QE_faB rfl rfl rfl rfl) rfl ?_
      refine JA_1 14 (by kernel_rfl) ?_
      refine JB_st rfl trivial 0 [_, _, _, _, _, _, _, _, _, _] rfl rfl rfl rfl rfl rfl rfl rfl rfl (fun x hx => by cases hx) ?_
      refine JA_done (by kernel_rfl) ?_
      refine thenQ_n (Mid.mk (bc, c1, yc, O, Ao1, co1, Ai1, ci1) [] (Keeps.cons rfl (Keeps.cons rfl (Keeps.cons rfl (Keeps.nil _)))) (List.Perm.refl _) ⟨(Le.trans (Le.trans (Le.trans h4 h26) h29) h30), ⟨hOo, hBi.le h30, by rw [← hcy, wv_len], hcy2⟩⟩)
    ·
     refine JB_q rfl trivial (QE_ld1 0 rfl rfl rfl rfl rfl) rfl ?_
     refine JA_1 2 (by kernel_rfl) ?_
     refine JB_call rfl trivial (first := []) (captured := []) rfl rfl rfl (AC.mid [_, _] [] _ (cloneW_ac D _ _ _ _ _ _ (hAx.le (Le.trans (Le.trans h1 h2) h4)) (by omega))) ?_
     rintro _ _ s31 h31 ⟨M1, rfl, Ad, c1, rfl, _, _, hO1⟩
     refine ⟨(fun x h _ => by cases h), ?_⟩
     obtain ⟨bc, yc, rfl, rfl, hcy, hcy2⟩ := Own.blk_of hO1 hc0
     simp only [List.cons_append, List.nil_append]
     refine JA_q 9 rfl (by kernel_rfl) (by kernel_rfl) (by kernel_rfl) trivial (QE_fa0 rfl rfl rfl rfl) rfl ?_
     refine JA_1 5 (by kernel_rfl) ?_
     refine JB_call rfl trivial (first := []) (captured := []) rfl rfl rfl (AC.pub (cloneB_ac D _ _ _ _ _ _ (hBx.le (Le.trans (Le.trans (Le.trans h1 h2) h4) h31)) (by omega))) ?_
     rintro _ _ s32 h32 ⟨rfl, Mi, swi, ⟨Ai1, ci1, rfl, _, _, hOi⟩, hswi, hcwi⟩
     refine ⟨fun _ _ h => h, ?_⟩
     have hBi := Own.bts hOi hcwi
     refine JA_1 8 (by kernel_rfl) ?_
     refine JB_call rfl trivial (first := []) (captured := []) rfl rfl rfl (AC.mid [_, _, _] [] _ (cloneB_ac D _ _ _ _ _ _ (hOx.le (Le.trans (Le.trans (Le.trans (Le.trans h1 h2) h4) h31) h32)) (by omega))) ?_
     rintro _ _ s33 h33 ⟨O, rfl, Ao1, co1, rfl, _, _, hOo⟩
     refine ⟨(fun x h _ => by cases h), ?_⟩
     simp only [List.cons_append, List.nil_append]
     refine JA_1 10 (by kernel_rfl) ?_
     refine JB_st rfl trivial 0 [_, _, _, _, _, _, _, _, _, _] rfl rfl rfl rfl rfl rfl rfl rfl rfl (fun x hx => by cases hx) ?_
     refine JA_q 11 rfl (by kernel_rfl) (by kernel_rfl) (by kernel_rfl) trivial (QE_faB rfl rfl rfl rfl) rfl ?_
     refine JA_1 12 (by kernel_rfl) ?_
     refine JB_st rfl trivial 0 [_, _, _, _, _, _, _, _, _, _] rfl rfl rfl rfl rfl rfl rfl rfl rfl (fun x hx => by cases hx) ?_
     refine JA_q 13 rfl (by kernel_rfl) (by kernel_rfl) (by kernel_rfl) trivial (QE_faB rfl rfl rfl rfl) rfl ?_
     refine JA_1 14 (by kernel_rfl) ?_
     refine JB_st rfl trivial 0 [_, _, _, _, _, _, _, _, _, _] rfl rfl rfl rfl rfl rfl rfl rfl rfl (fun x hx => by cases hx) ?_
     refine JA_done (by kernel_rfl) ?_
     refine thenQ_n (Mid.mk (bc, c1, yc, O, Ao1, co1, Ai1, ci1) [] (Keeps.cons rfl (Keeps.cons rfl (Keeps.cons rfl (Keeps.nil _)))) (List.Perm.refl _) ⟨(Le.trans (Le.trans (Le.trans h4 h31) h32) h33), ⟨hOo, hBi.le h33, by rw [← hcy, wv_len], hcy2⟩⟩)
   ·
    refine JB_q rfl trivial (QE_ld1 0 rfl rfl rfl rfl rfl) rfl ?_
    refine JA_1 1 (by kernel_rfl) ?_
    refine JB_q rfl trivial (QE_ld1 0 rfl rfl rfl rfl rfl) rfl ?_
    refine JA_1 2 (by kernel_rfl) ?_
    refine JB_call rfl trivial (first := []) (captured := []) rfl rfl rfl (AC.mid [_, _] [] _ (cloneW_ac D _ _ _ _ _ _ (hAx.le (Le.trans (Le.trans h1 h2) h4)) (by omega))) ?_
    rintro _ _ s34 h34 ⟨M1, rfl, Ad, c1, rfl, _, _, hO1⟩
    refine ⟨(fun x h _ => by cases h), ?_⟩
    obtain ⟨bc, yc, rfl, rfl, hcy, hcy2⟩ := Own.blk_of hO1 hc0
    simp only [List.cons_append, List.nil_append]
    refine JA_q 9 rfl (by kernel_rfl) (by kernel_rfl) (by kernel_rfl) trivial (QE_fa0 rfl rfl rfl rfl) rfl ?_
    refine JA_1 5 (by kernel_rfl) ?_
    refine JB_call rfl trivial (first := []) (captured := []) rfl rfl rfl (AC.pub (cloneB_ac D _ _ _ _ _ _ (hBx.le (Le.trans (Le.trans (Le.trans h1 h2) h4) h34)) (by omega))) ?_
    rintro _ _ s35 h35 ⟨rfl, Mi, swi, ⟨Ai1, ci1, rfl, _, _, hOi⟩, hswi, hcwi⟩
    refine ⟨fun _ _ h => h, ?_⟩
    have hBi := Own.bts hOi hcwi
    refine JA_1 8 (by kernel_rfl) ?_
    refine JB_call rfl trivial (first := []) (captured := []) rfl rfl rfl (AC.mid [_, _, _] [] _ (cloneB_ac D _ _ _ _ _ _ (hOx.le (Le.trans (Le.trans (Le.trans (Le.trans h1 h2) h4) h34) h35)) (by omega))) ?_
    rintro _ _ s36 h36 ⟨O, rfl, Ao1, co1, rfl, _, _, hOo⟩
    refine ⟨(fun x h _ => by cases h), ?_⟩
    simp only [List.cons_append, List.nil_append]
    refine JA_1 10 (by kernel_rfl) ?_
    refine JB_st rfl trivial 0 [_, _, _, _, _, _, _, _, _, _] rfl rfl rfl rfl rfl rfl rfl rfl rfl (fun x hx => by cases hx) ?_
    refine JA_q 11 rfl (by kernel_rfl) (by kernel_rfl) (by kernel_rfl) trivial (QE_faB rfl rfl rfl rfl) rfl ?_
    refine JA_1 12 (by kernel_rfl) ?_
    refine JB_st rfl trivial 0 [_, _, _, _, _, _, _, _, _, _] rfl rfl rfl rfl rfl rfl rfl rfl rfl (fun x hx => by cases hx) ?_
    refine JA_q 13 rfl (by kernel_rfl) (by kernel_rfl) (by kernel_rfl) trivial (QE_faB rfl rfl rfl rfl) rfl ?_
    refine JA_1 14 (by kernel_rfl) ?_
    refine JB_st rfl trivial 0 [_, _, _, _, _, _, _, _, _, _] rfl rfl rfl rfl rfl rfl rfl rfl rfl (fun x hx => by cases hx) ?_
    refine JA_done (by kernel_rfl) ?_
    refine thenQ_n (Mid.mk (bc, c1, yc, O, Ao1, co1, Ai1, ci1) [] (Keeps.cons rfl (Keeps.cons rfl (Keeps.cons rfl (Keeps.nil _)))) (List.Perm.refl _) ⟨(Le.trans (Le.trans (Le.trans h4 h34) h35) h36), ⟨hOo, hBi.le h36, by rw [← hcy, wv_len], hcy2⟩⟩)
  ·
   refine JB_q rfl trivial (QE_ld1 0 rfl rfl rfl rfl rfl) rfl ?_
   refine JA_2 1 4 (by kernel_rfl) ?_ ?_
   ·
    refine JB_q rfl trivial (QE_ld1 0 rfl rfl rfl rfl rfl) rfl ?_
    refine JA_2 2 4 (by kernel_rfl) ?_ ?_
    ·
     refine JB_call rfl trivial (first := []) (captured := []) rfl rfl rfl (AC.mid [_, _] [] _ (cloneW_ac D _ _ _ _ _ _ (hAx.le (Le.trans (Le.trans h1 h2) h4)) (by omega))) ?_
     rintro _ _ s37 h37 ⟨M1, rfl, Ad, c1, rfl, _, _, hO1⟩
     refine ⟨(fun x h _ => by cases h), ?_⟩
     obtain ⟨bc, yc, rfl, rfl, hcy, hcy2⟩ := Own.blk_of hO1 hc0
     simp only [List.cons_append, List.nil_append]
     refine JA_1 4 (by kernel_rfl) ?_
     refine JB_q rfl trivial (QE_ld1 0 rfl rfl rfl rfl rfl) rfl ?_
     refine JA_q 9 rfl (by kernel_rfl) (by kernel_rfl) (by kernel_rfl) trivial (QE_fa0 rfl rfl rfl rfl) rfl ?_
     refine JA_1 5 (by kernel_rfl) ?_
     refine JB_call rfl trivial (first := []) (captured := []) rfl rfl rfl (AC.pub (cloneB_ac D _ _ _ _ _ _ (hBx.le (Le.trans (Le.trans (Le.trans h1 h2) h4) h37)) (by omega))) ?_
     rintro _ _ s38 h38 ⟨rfl, Mi, swi, ⟨Ai1, ci1, rfl, _, _, hOi⟩, hswi, hcwi⟩
     refine ⟨fun _ _ h => h, ?_⟩
     have hBi := Own.bts hOi hcwi
     refine JA_1 8 (by kernel_rfl) ?_
     refine JB_call rfl trivial (first := []) (captured := []) rfl rfl rfl (AC.mid [_, _, _] [] _ (cloneB_ac D _ _ _ _ _ _ (hOx.le (Le.trans (Le.trans (Le.trans (Le.trans h1 h2) h4) h37) h38)) (by omega))) ?_
     rintro _ _ s39 h39 ⟨O, rfl, Ao1, co1, rfl, _, _, hOo⟩
     refine ⟨(fun x h _ => by cases h), ?_⟩
     simp only [List.cons_append, List.nil_append]
     refine JA_1 10 (by kernel_rfl) ?_
     refine JB_st rfl trivial 0 [_, _, _, _, _, _, _, _, _, _] rfl rfl rfl rfl rfl rfl rfl rfl rfl (fun x hx => by cases hx) ?_
     refine JA_q 11 rfl (by kernel_rfl) (by kernel_rfl) (by kernel_rfl) trivial (QE_faB rfl rfl rfl rfl) rfl ?_
     refine JA_1 12 (by kernel_rfl) ?_
     refine JB_st rfl trivial 0 [_, _, _, _, _, _, _, _, _, _] rfl rfl rfl rfl rfl rfl rfl rfl rfl (fun x hx => by cases hx) ?_
     refine JA_q 13 rfl (by kernel_rfl) (by kernel_rfl) (by kernel_rfl) trivial (QE_faB rfl rfl rfl rfl) rfl ?_
     refine JA_1 14 (by kernel_rfl) ?_
     refine JB_st rfl trivial 0 [_, _, _, _, _, _, _, _, _, _] rfl rfl rfl rfl rfl rfl rfl rfl rfl (fun x hx => by cases hx) ?_
     refine JA_done (by kernel_rfl) ?_
     refine thenQ_n (Mid.mk (bc, c1, yc, O, Ao1, co1, Ai1, ci1) [] (Keeps.cons rfl (Keeps.cons rfl (Keeps.cons rfl (Keeps.nil _)))) (List.Perm.refl _) ⟨(Le.trans (Le.trans (Le.trans h4 h37) h38) h39), ⟨hOo, hBi.le h39, by rw [← hcy, wv_len], hcy2⟩⟩)
    ·
     refine JB_q rfl trivial (QE_ld1 0 rfl rfl rfl rfl rfl) rfl ?_
     refine JA_1 2 (by kernel_rfl) ?_
     refine JB_call rfl trivial (first := []) (captured := []) rfl rfl rfl (AC.mid [_, _] [] _ (cloneW_ac D _ _ _ _ _ _ (hAx.le (Le.trans (Le.trans h1 h2) h4)) (by omega))) ?_
     rintro _ _ s40 h40 ⟨M1, rfl, Ad, c1, rfl, _, _, hO1⟩
     refine ⟨(fun x h _ => by cases h), ?_⟩
     obtain ⟨bc, yc, rfl, rfl, hcy, hcy2⟩ := Own.blk_of hO1 hc0
     simp only [List.cons_append, List.nil_append]
     refine JA_q 9 rfl (by kernel_rfl) (by kernel_rfl) (by kernel_rfl) trivial (QE_fa0 rfl rfl rfl rfl) rfl ?_
     refine JA_1 5 (by kernel_rfl) ?_
     refine JB_call rfl trivial (first := []) (captured := []) rfl rfl rfl (AC.pub (cloneB_ac D _ _ _ _ _ _ (hBx.le (Le.trans (Le.trans (Le.trans h1 h2) h4) h40)) (by omega))) ?_
     rintro _ _ s41 h41 ⟨rfl, Mi, swi, ⟨Ai1, ci1, rfl, _, _, hOi⟩, hswi, hcwi⟩
     refine ⟨fun _ _ h => h, ?_⟩
     have hBi := Own.bts hOi hcwi
     refine JA_1 8 (by kernel_rfl) ?_
     refine JB_call rfl trivial (first := []) (captured := []) rfl rfl rfl (AC.mid [_, _, _] [] _ (cloneB_ac D _ _ _ _ _ _ (hOx.le (Le.trans (Le.trans (Le.trans (Le.trans h1 h2) h4) h40) h41)) (by omega))) ?_
     rintro _ _ s42 h42 ⟨O, rfl, Ao1, co1, rfl, _, _, hOo⟩
     refine ⟨(fun x h _ => by cases h), ?_⟩
     simp only [List.cons_append, List.nil_append]
     refine JA_1 10 (by kernel_rfl) ?_
     refine JB_st rfl trivial 0 [_, _, _, _, _, _, _, _, _, _] rfl rfl rfl rfl rfl rfl rfl rfl rfl (fun x hx => by cases hx) ?_
     refine JA_q 11 rfl (by kernel_rfl) (by kernel_rfl) (by kernel_rfl) trivial (QE_faB rfl rfl rfl rfl) rfl ?_
     refine JA_1 12 (by kernel_rfl) ?_
     refine JB_st rfl trivial 0 [_, _, _, _, _, _, _, _, _, _] rfl rfl rfl rfl rfl rfl rfl rfl rfl (fun x hx => by cases hx) ?_
     refine JA_q 13 rfl (by kernel_rfl) (by kernel_rfl) (by kernel_rfl) trivial (QE_faB rfl rfl rfl rfl) rfl ?_
     refine JA_1 14 (by kernel_rfl) ?_
     refine JB_st rfl trivial 0 [_, _, _, _, _, _, _, _, _, _] rfl rfl rfl rfl rfl rfl rfl rfl rfl (fun x hx => by cases hx) ?_
     refine JA_done (by kernel_rfl) ?_
     refine thenQ_n (Mid.mk (bc, c1, yc, O, Ao1, co1, Ai1, ci1) [] (Keeps.cons rfl (Keeps.cons rfl (Keeps.cons rfl (Keeps.nil _)))) (List.Perm.refl _) ⟨(Le.trans (Le.trans (Le.trans h4 h40) h41) h42), ⟨hOo, hBi.le h42, by rw [← hcy, wv_len], hcy2⟩⟩)
   ·
    refine JB_q rfl trivial (QE_ld1 0 rfl rfl rfl rfl rfl) rfl ?_
    refine JA_1 1 (by kernel_rfl) ?_
    refine JB_q rfl trivial (QE_ld1 0 rfl rfl rfl rfl rfl) rfl ?_
    refine JA_1 2 (by kernel_rfl) ?_
    refine JB_call rfl trivial (first := []) (captured := []) rfl rfl rfl (AC.mid [_, _] [] _ (cloneW_ac D _ _ _ _ _ _ (hAx.le (Le.trans (Le.trans h1 h2) h4)) (by omega))) ?_
    rintro _ _ s43 h43 ⟨M1, rfl, Ad, c1, rfl, _, _, hO1⟩
    refine ⟨(fun x h _ => by cases h), ?_⟩
    obtain ⟨bc, yc, rfl, rfl, hcy, hcy2⟩ := Own.blk_of hO1 hc0
    simp only [List.cons_append, List.nil_append]
    refine JA_q 9 rfl (by kernel_rfl) (by kernel_rfl) (by kernel_rfl) trivial (QE_fa0 rfl rfl rfl rfl) rfl ?_
    refine JA_1 5 (by kernel_rfl) ?_
    refine JB_call rfl trivial (first := []) (captured := []) rfl rfl rfl (AC.pub (cloneB_ac D _ _ _ _ _ _ (hBx.le (Le.trans (Le.trans (Le.trans h1 h2) h4) h43)) (by omega))) ?_
    rintro _ _ s44 h44 ⟨rfl, Mi, swi, ⟨Ai1, ci1, rfl, _, _, hOi⟩, hswi, hcwi⟩
    refine ⟨fun _ _ h => h, ?_⟩
    have hBi := Own.bts hOi hcwi
    refine JA_1 8 (by kernel_rfl) ?_
    refine JB_call rfl trivial (first := []) (captured := []) rfl rfl rfl (AC.mid [_, _, _] [] _ (cloneB_ac D _ _ _ _ _ _ (hOx.le (Le.trans (Le.trans (Le.trans (Le.trans h1 h2) h4) h43) h44)) (by omega))) ?_
    rintro _ _ s45 h45 ⟨O, rfl, Ao1, co1, rfl, _, _, hOo⟩
    refine ⟨(fun x h _ => by cases h), ?_⟩
    simp only [List.cons_append, List.nil_append]
    refine JA_1 10 (by kernel_rfl) ?_
    refine JB_st rfl trivial 0 [_, _, _, _, _, _, _, _, _, _] rfl rfl rfl rfl rfl rfl rfl rfl rfl (fun x hx => by cases hx) ?_
    refine JA_q 11 rfl (by kernel_rfl) (by kernel_rfl) (by kernel_rfl) trivial (QE_faB rfl rfl rfl rfl) rfl ?_
    refine JA_1 12 (by kernel_rfl) ?_
    refine JB_st rfl trivial 0 [_, _, _, _, _, _, _, _, _, _] rfl rfl rfl rfl rfl rfl rfl rfl rfl (fun x hx => by cases hx) ?_
    refine JA_q 13 rfl (by kernel_rfl) (by kernel_rfl) (by kernel_rfl) trivial (QE_faB rfl rfl rfl rfl) rfl ?_
    refine JA_1 14 (by kernel_rfl) ?_
    refine JB_st rfl trivial 0 [_, _, _, _, _, _, _, _, _, _] rfl rfl rfl rfl rfl rfl rfl rfl rfl (fun x hx => by cases hx) ?_
    refine JA_done (by kernel_rfl) ?_
    refine thenQ_n (Mid.mk (bc, c1, yc, O, Ao1, co1, Ai1, ci1) [] (Keeps.cons rfl (Keeps.cons rfl (Keeps.cons rfl (Keeps.nil _)))) (List.Perm.refl _) ⟨(Le.trans (Le.trans (Le.trans h4 h43) h44) h45), ⟨hOo, hBi.le h45, by rw [← hcy, wv_len], hcy2⟩⟩)
 ·
  intro g s3 I3
  obtain ⟨bc, c1, yc, O, Ao1, co1, Ai1, ci1⟩ := g
  obtain ⟨hOo, hBi, hcc, hcc2⟩ := I3.2
  dsimp only at hOo hBi hcc hcc2
  dsimp only
  refine JC_seq ?_
  refine JC_region ?_
  refine JO_q (QE_ldA 0 [_, _, _, _, _, _, _, _, _, _] rfl rfl rfl rfl rfl) rfl ?_
  refine JO_q (QE_faB rfl rfl rfl rfl) rfl ?_
  refine JO_q (QE_ld1 1 rfl rfl rfl rfl rfl) rfl ?_
  refine JO_mkmap (Value.int .u32) rfl ?_
  intro bq s46 h46
  refine JO_q (QE_build [(_, _), (_, _), (_, _)] (_ :: _ :: _ :: _ :: _ :: _ :: _ :: _ :: _ :: _ :: _ :: (iv (List.replicate 256 0) ++ [_, _])) rfl rfl rfl rfl rfl (by rfl)) rfl ?_
  refine JO_boxA rfl rfl ?_
  intro bm s47 h47
  refine JO_q (QE_as rfl) rfl ?_
  refine JO_nil ?_
  refine thenQ_n ?_
  refine JC_seq ?_
  refine JC_seq ?_
  refine JC_region ?_
  refine JO_q (QE_faB rfl rfl rfl rfl) rfl ?_
  refine JO_q (QE_ld1 3 rfl rfl rfl rfl rfl) rfl ?_
  refine JO_q (QE_lenS rfl rfl rfl) rfl ?_
  refine JO_q (QE_mv rfl) rfl ?_
  refine JO_nil ?_
  refine thenQ_n ?_
  refine JC_block ?_
  refine JC_loop (γ := Nat × List Int × List (Int × Value × Nat) × Nat) (fun g => [(4, _), (5, _), (27, _), (28, _), (29, .int .i64 (g.1 : Int))]) (fun g => (bm, cb (.slice (some ⟨bc, 0, none⟩) m.cells.length c1 :: .int .u32 m.r0 :: .int .u32 m.r1 :: .int .u32 m.r2 :: .int .u32 m.r3 :: .int .u32 m.r4 :: .slice Ai1 nBx ci1 :: .slice Ao1 m.output.length co1 :: .int .i64 m.stop :: .int .u32 m.code :: .slice A n c :: (iv g.2.1 ++ [.map (some bq), .int .u32 0])) 78) :: (bq, mp (Value.int .u32) g.2.2.1 g.2.2.2) :: (β2, cb [.slice (some ⟨bc, 0, none⟩) m.cells.length c1, .int .u32 m.r0, .int .u32 m.r1, .int .u32 m.r2, .int .u32 m.r3, .int .u32 m.r4, .slice Ai1 nBx ci1, .slice Ao1 m.output.length co1, .int .i64 m.stop, .int .u32 m.code] 30) :: (β1, cb [.int .i64 t.cells, .slice A n c] 24) :: (bc, cb (wv m.cells ++ yc) 26) :: (O ++ L)) (fun g tw => Le D s47 tw ∧ (g.1 ≤ n ∧ g.2.1.length = 256 ∧ (∀ c : Int, 0 ≤ c → c < 256 → g.2.1[c.toNat]? = some (posn t.ins c g.1 : Int)) ∧ (∀ c : Int, 256 ≤ c → (assoc g.2.2.1 c).getD (.int .i64 0) = .int .i64 (posn t.ins c g.1 : Int)))) (fun g => n - g.1) (fun _ _ _ h hl => ⟨h.1.trans hl, h.2⟩) (0, List.replicate 256 0, [], 0) (Keeps.cons rfl (Keeps.cons rfl (Keeps.cons rfl (Keeps.cons rfl (Keeps.cons rfl (Keeps.nil _)))))) rfl ⟨Le.refl _, ⟨Nat.zero_le _, by simp, fun c h1 h2 => by rw [List.getElem?_replicate, if_pos (by omega)]; rfl, fun c _ => rfl⟩⟩ ?_
  intro g s48 I48
  obtain ⟨k, sm, es, ck⟩ := g
  obtain ⟨hk0, hsm, hS, hB⟩ := I48.2
  simp only at hk0 hsm hS hB
  dsimp only
  refine JC_seq ?_
  refine JC_region ?_
  refine JO_q (QE_lt rfl rfl) rfl ?_
  refine JO_nil ?_
  refine thenQ_n ?_
  refine JC_seq ?_
  refine JC_ifD rfl (fun c49 => ?_) (fun c49 => ?_)
  ·
   have hk : k < n := by omega
   obtain ⟨b, off, x, A', n', c', rfl, hx, hcx, hax, hnl, hcd⟩ := Inss.at_ (hA.le (Le.trans (Le.trans (Le.trans (Le.trans (Le.trans h1 h2) I3.1) h46) h47) I48.1)) hk
   refine JC_skip ?_
   refine thenQ_n ?_
   refine JC_seq ?_
   refine JC_block ?_
   refine JC_seq ?_
   refine JC_region ?_
   refine JO_q (QE_mv rfl) rfl ?_
   refine JO_q (QE_iaN rfl rfl rfl rfl rfl rfl hk) rfl ?_
   refine JO_q (QE_ldsA rfl rfl rfl hcx rfl) rfl ?_
   refine JO_allocZ rfl [_, _, _, _] rfl rfl ?_
   intro β50 s50 h50
   refine JO_q (QE_as rfl) rfl ?_
   refine JO_st 0 [_, _, _, _] rfl rfl rfl rfl rfl rfl rfl rfl rfl ?_
   refine JO_nil ?_
   refine thenQ_n ?_
   refine JC_seq ?_
   refine JC_region ?_
   refine JO_q (QE_faB rfl rfl rfl rfl) rfl ?_
   refine JO_q (QE_ld1 0 rfl rfl rfl rfl rfl) rfl ?_
   refine JO_q (QE_lt rfl rfl) rfl ?_
   refine JO_nil ?_
   refine thenQ_n ?_
   refine JC_ifD rfl (fun c51 => ?_) (fun c51 => ?_)
   ·
    have hlt := c51
    refine JC_drawE drawsMixed 9 rfl [1] (by intro x hx; exact eraseAll_mem hx) ?_
    intro s52 h52
    refine JA_q 0 rfl (by kernel_rfl) (by kernel_rfl) (by kernel_rfl) trivial (QE_mv rfl) rfl ?_
    refine JA_q 1 rfl (by kernel_rfl) (by kernel_rfl) (by kernel_rfl) trivial (QE_faB rfl rfl rfl rfl) rfl ?_
    refine JA_q 2 rfl (by kernel_rfl) (by kernel_rfl) (by kernel_rfl) trivial (QE_ld1 0 rfl rfl rfl rfl rfl) rfl ?_
    refine JA_q 3 rfl (by kernel_rfl) (by kernel_rfl) (by kernel_rfl) trivial (QE_mv rfl) rfl ?_
    refine JA_q 4 rfl (by kernel_rfl) (by kernel_rfl) (by kernel_rfl) trivial (QE_add' rfl rfl (w64 (by omega) (by omega))) rfl ?_
    refine JA_q 5 rfl (by kernel_rfl) (by kernel_rfl) (by kernel_rfl) trivial (QE_nil rfl) rfl ?_
    refine JA_q 6 rfl (by kernel_rfl) (by kernel_rfl) (by kernel_rfl) trivial (QE_faB rfl rfl rfl rfl) rfl ?_
    refine JA_q 7 rfl (by kernel_rfl) (by kernel_rfl) (by kernel_rfl) trivial (QE_iaI rfl rfl rfl rfl rfl rfl hcd.1 (by omega)) rfl ?_
    refine JA_1 8 (by kernel_rfl) ?_
    refine JB_st rfl trivial 1 _ rfl rfl rfl rfl rfl (ble_small _ _ _ _ _ _ _ _ _ _ _ _ _ hsm (by omega)) rfl (spl_small _ _ _ _ _ _ _ _ _ _ _ _ _ _ (by omega)) rfl (fun x hx => hx) ?_
    refine JA_done (by kernel_rfl) ?_
    refine blockQ_n ?_
    refine thenQ_n ?_
    refine JC_region ?_
    refine JO_q (QE_add' rfl rfl (w64 (by omega) (by omega))) rfl ?_
    refine JO_q (QE_mv rfl) rfl ?_
    refine JO_nil ?_
    refine thenQ_n ⟨(k + 1, sm.set x.code.toNat ((k : Int) + 1), es, ck), [_], (Keeps.cons rfl (Keeps.cons rfl (Keeps.cons rfl (Keeps.cons rfl (Keeps.cons rfl (Keeps.nil _)))))), rfl, ⟨(Le.trans (Le.trans I48.1 h50) h52), by first | exact ⟨by omega, (small_set hx hcd hlt hsm hS).1, (small_set hx hcd hlt hsm hS).2, small_big hx hlt hB⟩ | exact ⟨by omega, hsm, big_small hx hlt hS, big_set hx hB⟩⟩, (by simp only; omega)⟩
   ·
    have hlt := c51
    refine JC_drawE drawsMixed 9 rfl [2] (by intro x hx; exact eraseAll_mem hx) ?_
    intro s54 h54
    refine JA_q 0 rfl (by kernel_rfl) (by kernel_rfl) (by kernel_rfl) trivial (QE_mv rfl) rfl ?_
    refine JA_q 1 rfl (by kernel_rfl) (by kernel_rfl) (by kernel_rfl) trivial (QE_nil rfl) rfl ?_
    refine JA_q 2 rfl (by kernel_rfl) (by kernel_rfl) (by kernel_rfl) trivial (QE_faB rfl rfl rfl rfl) rfl ?_
    refine JA_q 3 rfl (by kernel_rfl) (by kernel_rfl) (by kernel_rfl) trivial (QE_ld1 1 rfl rfl rfl rfl (nth_map _ _ _ _ _ _ _ _ _ _ _ _ _ hsm)) rfl ?_
    refine JA_q 4 rfl (by kernel_rfl) (by kernel_rfl) (by kernel_rfl) trivial (QE_faB rfl rfl rfl rfl) rfl ?_
    refine JA_q 5 rfl (by kernel_rfl) (by kernel_rfl) (by kernel_rfl) trivial (QE_ld1 0 rfl rfl rfl rfl rfl) rfl ?_
    refine JA_q 6 rfl (by kernel_rfl) (by kernel_rfl) (by kernel_rfl) trivial (QE_mv rfl) rfl ?_
    refine JA_q 7 rfl (by kernel_rfl) (by kernel_rfl) (by kernel_rfl) trivial (QE_add' rfl rfl (w64 (by omega) (by omega))) rfl ?_
    refine JA_1 8 (by kernel_rfl) ?_
    refine JB_mupd (KeyK.int .u32) rfl trivial 2 (mapTy default) rfl rfl rfl rfl (fun x hx => hx) ?_
    intro ck1
    refine JA_done (by kernel_rfl) ?_
    refine blockQ_n ?_
    refine thenQ_n ?_
    refine JC_region ?_
    refine JO_q (QE_add' rfl rfl (w64 (by omega) (by omega))) rfl ?_
    refine JO_q (QE_mv rfl) rfl ?_
    refine JO_nil ?_
    refine thenQ_n ⟨(k + 1, sm, mset es x.code (.int .i64 ((k : Int) + 1)) ck, ck1), [_], (Keeps.cons rfl (Keeps.cons rfl (Keeps.cons rfl (Keeps.cons rfl (Keeps.cons rfl (Keeps.nil _)))))), rfl, ⟨(Le.trans (Le.trans I48.1 h50) h54), by first | exact ⟨by omega, (small_set hx hcd hlt hsm hS).1, (small_set hx hcd hlt hsm hS).2, small_big hx hlt hB⟩ | exact ⟨by omega, hsm, big_small hx hlt hS, big_set hx hB⟩⟩, (by simp only; omega)⟩
  ·
   refine JC_exit ?_
   refine thenQ_x ?_
   refine thenQ_x ?_
   refine blockQ_x ?_
   refine thenQ_n ?_
   refine JC_seq ?_
   refine JC_front 1 ?_
   refine JC_front 4 ?_
   refine JC_front 2 ?_
   refine JC_front 4 ?_
   refine JC_front 4 ?_
   refine JC_region ?_
   refine JO_q (QE_mv rfl) rfl ?_
   refine JO_q (QE_as rfl) rfl ?_
   refine JO_nil ?_
   refine thenQ_n ?_
   refine JC_ret ?_
   refine retQ_mk [_, _] _ (.inr rfl) (.tmp rfl (.nil)) rfl (Le.trans (Le.trans (Le.trans (Le.trans (Le.trans h1 h2) I3.1) h46) h47) I48.1) (fun sR hS2 => ?_)
   have hkn : k = n := by omega
   subst hkn
   exact ⟨_ :: _ :: _ :: O, rfl, bm, sm, bq, es, ck, rfl, hsm, hS, hB, bc, c1, yc, O, Ao1, co1, Ai1, nBx, ci1, rfl, hOo, hBi.le (Le.trans (Le.trans (Le.trans h46 h47) I48.1) hS2), hcc, hcc2⟩
end Go.Proofs.Ytpjnphonanbopaa
