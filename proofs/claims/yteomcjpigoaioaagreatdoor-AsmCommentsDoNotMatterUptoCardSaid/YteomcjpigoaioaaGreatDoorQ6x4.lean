/- Part 4 of the proof of asmCommentsDoNotMatter_holds: texts W6, W7, At, W8, W9, FlQ, Lt, W10. -/
import Derived.Test.YteomcjpigoaioaaGreatDoorQ6x3
import Derived.Lib.Builder
import Derived.Lib.UnsafeStr
import Derived.Laws.Externs
set_option linter.unusedVariables false
set_option linter.unusedSimpArgs false
set_option linter.unnecessarySimpa false
namespace Go.Proofs.YteomcjpigoaioaaGreatDoor
open Go.FL
attribute [local irreducible] JC JO JA JB thenQ blockQ retQ AC fill CellsAt QE Ev Mid
theorem ag_word {g : AG} {vw : Value} {M : Hl} {x : Int} (hg : AGok g) (o : Own 52 1 M vw (g.w.length + 1) (wv g.w ++ [.int .u32 x])) (hx : U32 x) : AGok ⟨vw, M, g.vl, g.Ml, g.vr, g.Mr, g.es, g.ck, g.w ++ [x], g.l, g.r⟩ :=
  ⟨by simp only [List.length_append, List.length_cons, List.length_nil, wv_snoc]; exact o, hg.hl, hg.hr, hg.he, fun y hy => by
    rcases List.mem_append.1 hy with h | h
    · exact hg.uw y h
    · rw [List.mem_singleton.1 h]; exact hx, hg.ul, hg.ur⟩
theorem ag_ref {g : AG} {vr : Value} {M : Hl} {i : Int} {p : Nat} {k : List UInt8} {x : Int} (hg : AGok g) (o : Own 142 4 M vr (g.r.length + 1) (rfv g.r ++ [.int .i64 i, .int .i64 (p : Int), St k, .int .u32 x])) (hx : U32 x) : AGok ⟨g.vw, g.Mw, g.vl, g.Ml, vr, M, g.es, g.ck, g.w, g.l, g.r ++ [(i, p, k, x)]⟩ :=
  ⟨hg.hw, hg.hl, by simp only [List.length_append, List.length_cons, List.length_nil, rfv_snoc]; exact o, hg.he, hg.uw, hg.ul, fun y hy => by
    rcases List.mem_append.1 hy with h | h
    · exact hg.ur y h
    · rw [List.mem_singleton.1 h]; exact hx⟩
theorem ag_zeros {g : AG} {vw : Value} {M : Hl} {m : Nat} (hg : AGok g) (o : Own 52 1 M vw (g.w.length + m) (wv g.w ++ List.replicate m (.int .u32 0))) : AGok ⟨vw, M, g.vl, g.Ml, g.vr, g.Mr, g.es, g.ck, g.w ++ List.replicate m 0, g.l, g.r⟩ :=
  ⟨by simp only [List.length_append, List.length_replicate, wv_zeros]; exact o, hg.hl, hg.hr, hg.he, fun y hy => by
    rcases List.mem_append.1 hy with h | h
    · exact hg.uw y h
    · rw [(List.mem_replicate.1 h).2]; exact U32_zero, hg.ul, hg.ur⟩
theorem em_has {w w1 : List Int} {xl xo xn : List UInt8} {xh own : Bool} {xk yc : Int} (h : w1 = if own = true then w else w ++ [yc]) (hs : ¬ xo = spaceB) (hh : xh = true) : w1 ++ [xk] = emitW w ⟨xl, xo, xh, xn, xk⟩ yc own := by
  subst h; subst hh; simp [emitW, hs]
theorem em_no {w w1 : List Int} {xl xo xn : List UInt8} {xh own : Bool} {xk yc : Int} (h : w1 = if own = true then w else w ++ [yc]) (hs : ¬ xo = spaceB) (hh : xh = false) : w1 = emitW w ⟨xl, xo, xh, xn, xk⟩ yc own := by
  subst h; subst hh; simp [emitW, hs]
theorem em_ref {r : List (Int × Nat × List UInt8 × Int)} {w w1 : List Int} {i : Int} {xl xo xn : List UInt8} {xh own : Bool} {xk yc : Int} (h : w1 = if own = true then w else w ++ [yc]) (hs : ¬ xo = spaceB) (hh : xh = true) (hn : ¬ xn = []) : r ++ [(i, w1.length, xn, xk)] = emitR r w i ⟨xl, xo, xh, xn, xk⟩ yc own := by
  subst h; subst hh; simp [emitR, hs, hn]
theorem em_noref {r : List (Int × Nat × List UInt8 × Int)} {w : List Int} {i : Int} {xl xo xn : List UInt8} {xh own : Bool} {xk yc : Int} (hn : xn = []) : r = emitR r w i ⟨xl, xo, xh, xn, xk⟩ yc own := by
  subst hn; simp [emitR]
theorem em_nohas {r : List (Int × Nat × List UInt8 × Int)} {w : List Int} {i : Int} {xl xo xn : List UInt8} {xh own : Bool} {xk yc : Int} (hh : xh = false) : r = emitR r w i ⟨xl, xo, xh, xn, xk⟩ yc own := by
  subst hh; simp [emitR]
theorem assoc4 {x1 x2 x3 x4 : Nat × Obj} {M1 M2 R : Hl} : x1 :: x2 :: x3 :: x4 :: (M1 ++ (M2 ++ R)) = (x1 :: x2 :: x3 :: x4 :: (M1 ++ M2)) ++ R := by simp
theorem memK2 {x a b : Nat × Obj} {R R' : Hl} (hx : x ∈ (a :: b :: R).take 2) : x ∈ a :: b :: R' := by
  simp only [List.take_succ_cons, List.take_zero, List.mem_cons, List.not_mem_nil, or_false] at hx
  rcases hx with rfl | rfl
  · exact List.mem_cons_self ..
  · exact List.mem_cons_of_mem _ (List.mem_cons_self ..)
theorem u32N {k : Nat} (h : k < 4294967296) : U32 (k : Int) := ⟨by omega, by omega⟩
set_option maxHeartbeats 4000000 in
set_option maxRecDepth 100000 in
theorem emit_ac (D : Nat) (L : Hl) (s : World) (ba bm : Nat) (tc : Int) (A : Option Addr) (n c : Nat) (g : AG) (hg : AGok g) (num : Int) (xl xo : List UInt8) (xh : Bool) (xn : List UInt8) (xk : Nat) (hxk : xk < 4294967296) (yn : List UInt8) (yc : Int) (yo : Bool) (Ay : Option Addr) (ny cy : Nat) (hyc : U32 yc) (own : Bool) (htc : 0 ≤ tc ∧ tc ≤ 65536) (hwl : (g.w.length : Int) ≤ tc) (hrl : g.r.length ≤ 1000000) : AC Tryz.prog D 102 [.pointer (some ⟨ba, 0, none⟩), .int .i64 num, .agg #[St xl, St xo, .bool xh, St xn, .int .u32 (xk : Int)], .agg #[St yn, .int .u32 yc, .bool yo, .slice Ay ny cy], .bool own] (HA ba bm tc A n c g L) s fun v L' _ => ∃ g', L' = HA ba bm tc A n c g' L ∧ ∃ e, v = .int .i64 e ∧ ((e = 14 ∧ tc < ((emitW g.w ⟨xl, xo, xh, xn, (xk : Int)⟩ yc own).length : Int)) ∨ (e = 0 ∧ ((emitW g.w ⟨xl, xo, xh, xn, (xk : Int)⟩ yc own).length : Int) ≤ tc ∧ AGok g' ∧ g'.w = emitW g.w ⟨xl, xo, xh, xn, (xk : Int)⟩ yc own ∧ g'.l = g.l ∧ g'.es = g.es ∧ g'.r = emitR g.r g.w num ⟨xl, xo, xh, xn, (xk : Int)⟩ yc own)) := by
 have hg0 := hg
 obtain ⟨vw, Mw, vl, Ml, vr, Mr, es, ck, w, l, r⟩ := g
 obtain ⟨hOw, hOl, hOr, hE, huw, hul, hur⟩ := hg
 simp only at hOw hOl hOr hE huw hul hur
 obtain ⟨Aw, cw, rfl, kw, kx⟩ := Own.slice hOw
 obtain ⟨Al, cl, rfl, kl, km⟩ := Own.slice hOl
 obtain ⟨Ar, cr, rfl, kr, ks⟩ := Own.slice hOr
 simp only [HA]
 simp only at hwl hrl
 refine AC_enter (TT := TT) (fn := Tryz.f102) TT_ok Tryz.func102 (by kernel_rfl) rfl Tryz.ntmps102 rfl (rs := [.tmp 10]) rfl [(0, _), (1, _), (2, _), (3, _), (4, _)] rfl ?_
 refine JC_seq ?_
 refine JC_region ?_
 refine JO_boxA rfl rfl ?_
 intro β1 s1 h1
 refine JO_boxA rfl rfl ?_
 intro β2 s2 h2
 refine JO_q (QE_as rfl) rfl ?_
 refine JO_nil ?_
 refine thenQ_n ?_
 refine JC_seq ?_
 refine JC_draw drawsMixed 12 rfl _ (fun _ h => h) ?_
 intro s3 h3
 refine JA_q 0 rfl (by kernel_rfl) (by kernel_rfl) (by kernel_rfl) trivial (QE_mv rfl) rfl ?_
 refine JA_q 1 rfl (by kernel_rfl) (by kernel_rfl) (by kernel_rfl) trivial (QE_nil rfl) rfl ?_
 refine JA_q 2 rfl (by kernel_rfl) (by kernel_rfl) (by kernel_rfl) trivial (QE_fa0 rfl rfl rfl rfl) rfl ?_
 refine JA_q 3 rfl (by kernel_rfl) (by kernel_rfl) (by kernel_rfl) trivial (QE_fa0 rfl rfl rfl rfl) rfl ?_
 refine JA_q 4 rfl (by kernel_rfl) (by kernel_rfl) (by kernel_rfl) trivial (QE_ld1 2 rfl rfl rfl rfl rfl) rfl ?_
 refine JA_q 5 rfl (by kernel_rfl) (by kernel_rfl) (by kernel_rfl) trivial (QE_mv rfl) rfl ?_
 refine JA_q 6 rfl (by kernel_rfl) (by kernel_rfl) (by kernel_rfl) trivial (QE_nil rfl) rfl ?_
 refine JA_q 7 rfl (by kernel_rfl) (by kernel_rfl) (by kernel_rfl) trivial (QE_faB rfl rfl rfl rfl) rfl ?_
 refine JA_q 8 rfl (by kernel_rfl) (by kernel_rfl) (by kernel_rfl) trivial (QE_ld1 2 rfl rfl rfl rfl rfl) rfl ?_
 refine JA_q 9 rfl (by kernel_rfl) (by kernel_rfl) (by kernel_rfl) trivial (QE_lenS rfl rfl rfl) rfl ?_
 refine JA_q 10 rfl (by kernel_rfl) (by kernel_rfl) (by kernel_rfl) trivial (QE_sub' rfl rfl (w64 (by omega) (by omega))) rfl ?_
 refine JA_q 11 rfl (by kernel_rfl) (by kernel_rfl) (by kernel_rfl) trivial (QE_as rfl) rfl ?_
 refine JA_done (by kernel_rfl) ?_
 refine thenQ_n ?_
 refine JC_seq ?_
 refine JC_seq ?_
 refine JC_region ?_
 refine JO_q (QE_faB rfl rfl rfl rfl) rfl ?_
 refine JO_q (QE_ld1 1 rfl rfl rfl rfl rfl) rfl ?_
 refine JO_q (QE_seq rfl rfl) rfl ?_
 refine JO_nil ?_
 refine thenQ_n ?_
 refine JC_ifD rfl (fun c4 => ?_) (fun c4 => ?_)
 ·
  have hsp : xo = spaceB := c4
  refine JC_seq ?_
  refine JC_seq ?_
  refine JC_region ?_
  refine JO_q (QE_faB rfl rfl rfl rfl) rfl ?_
  refine JO_q (QE_fa rfl rfl rfl rfl) rfl ?_
  refine JO_q (QE_ld1 1 rfl rfl rfl rfl rfl) rfl ?_
  refine JO_q (QE_conv' rfl rfl rfl rfl rfl (w64 (by omega) (by omega))) rfl ?_
  refine JO_q (QE_mv rfl) rfl ?_
  refine JO_q (QE_gt rfl rfl) rfl ?_
  refine JO_nil ?_
  refine thenQ_n ?_
  refine JC_ifD rfl (fun c5 => ?_) (fun c5 => ?_)
  ·
   refine JC_seq ?_
   refine JC_region ?_
   refine JO_q (QE_as rfl) rfl ?_
   refine JO_nil ?_
   refine thenQ_n ?_
   refine JC_ret ?_
   refine thenQ_r ?_
   refine thenQ_r ?_
   refine retQ_mk [_, _] _ (.inr rfl) (.tmp rfl (.nil)) rfl (Le.trans (Le.trans h1 h2) h3) (fun sR hS2 => ?_)
   first
     | (refine ⟨(⟨.slice Aw w.length cw, Mw, .slice Al l.length cl, Ml, .slice Ar r.length cr, Mr, es, ck, w, l, r⟩ : AG), rfl, 14, rfl, .inl ⟨rfl, ?_⟩⟩
        simp only [emitW_space (x := ⟨xl, xo, xh, xn, (xk : Int)⟩) hsp, List.length_append, List.length_replicate, Int.toNat_natCast]; omega)
     | (refine ⟨⟨_, M1, _, Ml, _, Mr, es, ck, w ++ List.replicate xk 0, l, r⟩, rfl, 0, rfl, .inr ⟨rfl, ?_, ag_zeros hg0 o1, ?_, rfl, rfl, ?_⟩⟩
        · simp only [emitW_space (x := ⟨xl, xo, xh, xn, (xk : Int)⟩) hsp, List.length_append, List.length_replicate, Int.toNat_natCast]; omega
        · simp only [emitW_space (x := ⟨xl, xo, xh, xn, (xk : Int)⟩) hsp, Int.toNat_natCast]
        · exact (emitR_space (x := ⟨xl, xo, xh, xn, (xk : Int)⟩) hsp).symm)
     | (refine ⟨g, rfl, 14, rfl, .inl ⟨rfl, ?_⟩⟩
        rw [← ew3]; omega)
     | (refine ⟨g, rfl, 0, rfl, .inr ⟨rfl, ?_, hg3, ew3, el3, ee3, er3⟩⟩
        rw [← ew3]; omega)
  ·
   refine JC_skip ?_
   refine thenQ_n ?_
   refine JC_seq ?_
   refine JC_drawT drawsMixed 12 rfl 2 ?_
   intro s6 h6
   refine JA_q 0 rfl (by kernel_rfl) (by kernel_rfl) (by kernel_rfl) trivial (QE_mv rfl) rfl ?_
   refine JA_q 1 rfl (by kernel_rfl) (by kernel_rfl) (by kernel_rfl) trivial (QE_mv rfl) rfl ?_
   refine JA_q 2 rfl (by kernel_rfl) (by kernel_rfl) (by kernel_rfl) trivial (QE_nil rfl) rfl ?_
   refine JA_q 3 rfl (by kernel_rfl) (by kernel_rfl) (by kernel_rfl) trivial (QE_faB rfl rfl rfl rfl) rfl ?_
   refine JA_q 5 rfl (by kernel_rfl) (by kernel_rfl) (by kernel_rfl) trivial (QE_faB rfl rfl rfl rfl) rfl ?_
   refine JA_q 6 rfl (by kernel_rfl) (by kernel_rfl) (by kernel_rfl) trivial (QE_fa rfl rfl rfl rfl) rfl ?_
   refine JA_q 7 rfl (by kernel_rfl) (by kernel_rfl) (by kernel_rfl) trivial (QE_ld1 1 rfl rfl rfl rfl rfl) rfl ?_
   refine JA_1 4 (by kernel_rfl) ?_
   refine JB_q rfl trivial (QE_ld1 2 rfl rfl rfl rfl rfl) rfl ?_
   refine JA_1 8 (by kernel_rfl) ?_
   refine JB_appG (sz := 1) (m := xk) (news := List.replicate xk (.int .u32 0)) rfl trivial [_, _, _, _] Mw _ rfl rfl rfl rfl rfl rfl rfl hOw (by simp) (fun hT w i k1 i1 i2 i3 i4 => apps_zero xk k1 Tryz.underlying52 i1 i2 i4 rfl rfl (by omega) (by rw [i3]; simp [ti52]; omega)) ⟨by simp [ti52]; omega, by omega⟩ rfl (fun A2 x hx _ => memK2 hx) ?_
   intro v1 M1 s7 h7 o1
   obtain ⟨Av1, cv1, rfl, kv1, kv2⟩ := Own.slice o1
   simp only [List.cons_append, List.nil_append, List.append_assoc]
   refine JA_q 9 rfl (by kernel_rfl) (by kernel_rfl) (by kernel_rfl) trivial (QE_nil rfl) rfl ?_
   refine JA_q 10 rfl (by kernel_rfl) (by kernel_rfl) (by kernel_rfl) trivial (QE_faB rfl rfl rfl rfl) rfl ?_
   refine JA_1 11 (by kernel_rfl) ?_
   refine JB_st rfl trivial 2 [_, _, _, _, _, _] rfl rfl rfl rfl rfl rfl rfl rfl rfl (fun _ hx => sub_mem (sbY (sbY (sb0 _))) hx) ?_
   refine JA_done (by kernel_rfl) ?_
   refine thenQ_n ?_
   refine JC_seq ?_
   refine JC_region ?_
   refine JO_q (QE_as rfl) rfl ?_
   refine JO_nil ?_
   refine thenQ_n ?_
   refine JC_ret ?_
   refine thenQ_r ?_
   refine retQ_mk [_, _] _ (.inr rfl) (.tmp rfl (.nil)) rfl (Le.trans (Le.trans (Le.trans (Le.trans h1 h2) h3) h6) h7) (fun sR hS2 => ?_)
   first
     | (refine ⟨(⟨.slice Aw w.length cw, Mw, .slice Al l.length cl, Ml, .slice Ar r.length cr, Mr, es, ck, w, l, r⟩ : AG), rfl, 14, rfl, .inl ⟨rfl, ?_⟩⟩
        simp only [emitW_space (x := ⟨xl, xo, xh, xn, (xk : Int)⟩) hsp, List.length_append, List.length_replicate, Int.toNat_natCast]; omega)
     | (refine ⟨⟨_, M1, _, Ml, _, Mr, es, ck, w ++ List.replicate xk 0, l, r⟩, rfl, 0, rfl, .inr ⟨rfl, ?_, ag_zeros hg0 o1, ?_, rfl, rfl, ?_⟩⟩
        · simp only [emitW_space (x := ⟨xl, xo, xh, xn, (xk : Int)⟩) hsp, List.length_append, List.length_replicate, Int.toNat_natCast]; omega
        · simp only [emitW_space (x := ⟨xl, xo, xh, xn, (xk : Int)⟩) hsp, Int.toNat_natCast]
        · exact (emitR_space (x := ⟨xl, xo, xh, xn, (xk : Int)⟩) hsp).symm)
     | (refine ⟨g, rfl, 14, rfl, .inl ⟨rfl, ?_⟩⟩
        rw [← ew3]; omega)
     | (refine ⟨g, rfl, 0, rfl, .inr ⟨rfl, ?_, hg3, ew3, el3, ee3, er3⟩⟩
        rw [← ew3]; omega)
 ·
  have hsp : ¬ xo = spaceB := c4
  refine JC_skip ?_
  refine thenQ_n ?_
  refine JC_cutG (γ := AG) (fun g => [(11, .int .i64 (tc - (g.w.length : Int)))]) [_, _] rfl (fun g => HA ba bm tc A n c g L) (fun g tw => AGok g ∧ g.w = (if own = true then w else w ++ [yc]) ∧ g.l = l ∧ g.r = r ∧ g.es = es) (fun _ _ _ h hl => h) ?_ ?_
  ·
   refine JC_seq ?_
   refine JC_region ?_
   refine JO_q (QE_mv rfl) rfl ?_
   refine JO_q (QE_not rfl) rfl ?_
   refine JO_nil ?_
   refine thenQ_n ?_
   refine JC_ifM rfl (fun c9 => ?_) (fun c9 => ?_)
   ·
    have hown := c9
    refine JC_seq ?_
    refine JC_drawT drawsMixed 12 rfl 2 ?_
    intro s10 h10
    refine JA_q 0 rfl (by kernel_rfl) (by kernel_rfl) (by kernel_rfl) trivial (QE_mv rfl) rfl ?_
    refine JA_q 1 rfl (by kernel_rfl) (by kernel_rfl) (by kernel_rfl) trivial (QE_mv rfl) rfl ?_
    refine JA_q 2 rfl (by kernel_rfl) (by kernel_rfl) (by kernel_rfl) trivial (QE_nil rfl) rfl ?_
    refine JA_q 3 rfl (by kernel_rfl) (by kernel_rfl) (by kernel_rfl) trivial (QE_faB rfl rfl rfl rfl) rfl ?_
    refine JA_q 5 rfl (by kernel_rfl) (by kernel_rfl) (by kernel_rfl) trivial (QE_faB rfl rfl rfl rfl) rfl ?_
    refine JA_q 6 rfl (by kernel_rfl) (by kernel_rfl) (by kernel_rfl) trivial (QE_ld1 0 rfl rfl rfl rfl rfl) rfl ?_
    refine JA_2 4 7 (by kernel_rfl) ?_ ?_
    ·
     refine JB_q rfl trivial (QE_ld1 2 rfl rfl rfl rfl rfl) rfl ?_
     refine JA_1 7 (by kernel_rfl) ?_
     refine JB_bs rfl trivial [(_, _)] [_] rfl rfl rfl rfl rfl rfl rfl rfl rfl ?_
     intro βn s11 h11 hcb
     refine JA_1 8 (by kernel_rfl) ?_
     refine JB_app (sz := 1) rfl trivial [_, _, _, _] Mw _ rfl rfl rfl rfl rfl rfl rfl hOw (Row.of_cells (hcb.le (Le.refl (D := D) _)) rfl rfl) ⟨by simp [ti52]; omega, by omega⟩ rfl (fun A2 x hx _ => memK2 hx) ?_
     intro v1 M1 s12 h12 o1
     obtain ⟨Av1, cv1, rfl, kv1, kv12⟩ := Own.slice o1
     simp only [List.cons_append, List.nil_append, List.append_assoc]
     refine JA_q 9 rfl (by kernel_rfl) (by kernel_rfl) (by kernel_rfl) trivial (QE_nil rfl) rfl ?_
     refine JA_q 10 rfl (by kernel_rfl) (by kernel_rfl) (by kernel_rfl) trivial (QE_faB rfl rfl rfl rfl) rfl ?_
     refine JA_1 11 (by kernel_rfl) ?_
     refine JB_st rfl trivial 2 [_, _, _, _, _, _] rfl rfl rfl rfl rfl rfl rfl rfl rfl (fun _ hx => sub_mem (sbY (sbY (sb0 _))) hx) ?_
     refine JA_done (by kernel_rfl) ?_
     refine thenQ_n ?_
     refine JC_region ?_
     refine JO_q (QE_mv rfl) rfl ?_
     refine JO_q (QE_sub' rfl rfl (w64 (by omega) (by omega))) rfl ?_
     refine JO_q (QE_as rfl) rfl ?_
     refine JO_nil ?_
     refine thenQ_n (MidG.mk ⟨_, M1, _, Ml, _, Mr, es, ck, w ++ [yc], l, r⟩ [] (Le.trans (Le.trans h10 h11) h12) (Keeps.cons (by first | rfl | (simp only [List.length_append, List.length_cons, List.length_nil]; refine congrArg some (congrArg (Value.int .i64) ?_); omega)) (Keeps.nil _)) (by repeat (first | exact SufO.refl | refine SufO.push rfl ?_)) (List.Perm.refl _) (by first | exact ⟨ag_word hg0 o1 hyc, by simp [hown], rfl, rfl, rfl⟩ | exact ⟨hg0, by simp [hown], rfl, rfl, rfl⟩))
    ·
     refine JB_bs rfl trivial [(_, _)] [_] rfl rfl rfl rfl rfl rfl rfl rfl rfl ?_
     intro βn s13 h13 hcb
     refine JA_1 4 (by kernel_rfl) ?_
     refine JB_q rfl trivial (QE_ld1 2 rfl rfl rfl rfl rfl) rfl ?_
     refine JA_1 8 (by kernel_rfl) ?_
     refine JB_app (sz := 1) rfl trivial [_, _, _, _] Mw _ rfl rfl rfl rfl rfl rfl rfl hOw (Row.of_cells (hcb.le (Le.refl (D := D) _)) rfl rfl) ⟨by simp [ti52]; omega, by omega⟩ rfl (fun A2 x hx _ => memK2 hx) ?_
     intro v1 M1 s14 h14 o1
     obtain ⟨Av1, cv1, rfl, kv1, kv12⟩ := Own.slice o1
     simp only [List.cons_append, List.nil_append, List.append_assoc]
     refine JA_q 9 rfl (by kernel_rfl) (by kernel_rfl) (by kernel_rfl) trivial (QE_nil rfl) rfl ?_
     refine JA_q 10 rfl (by kernel_rfl) (by kernel_rfl) (by kernel_rfl) trivial (QE_faB rfl rfl rfl rfl) rfl ?_
     refine JA_1 11 (by kernel_rfl) ?_
     refine JB_st rfl trivial 2 [_, _, _, _, _, _] rfl rfl rfl rfl rfl rfl rfl rfl rfl (fun _ hx => sub_mem (sbY (sbY (sb0 _))) hx) ?_
     refine JA_done (by kernel_rfl) ?_
     refine thenQ_n ?_
     refine JC_region ?_
     refine JO_q (QE_mv rfl) rfl ?_
     refine JO_q (QE_sub' rfl rfl (w64 (by omega) (by omega))) rfl ?_
     refine JO_q (QE_as rfl) rfl ?_
     refine JO_nil ?_
     refine thenQ_n (MidG.mk ⟨_, M1, _, Ml, _, Mr, es, ck, w ++ [yc], l, r⟩ [] (Le.trans (Le.trans h10 h13) h14) (Keeps.cons (by first | rfl | (simp only [List.length_append, List.length_cons, List.length_nil]; refine congrArg some (congrArg (Value.int .i64) ?_); omega)) (Keeps.nil _)) (by repeat (first | exact SufO.refl | refine SufO.push rfl ?_)) (List.Perm.refl _) (by first | exact ⟨ag_word hg0 o1 hyc, by simp [hown], rfl, rfl, rfl⟩ | exact ⟨hg0, by simp [hown], rfl, rfl, rfl⟩))
   ·
    have hown := c9
    refine JC_skip ?_
    refine thenQ_n (MidG.mk ⟨_, Mw, _, Ml, _, Mr, es, ck, w, l, r⟩ [] (Le.refl (D := D) _) (Keeps.cons (by first | rfl | (simp only [List.length_append, List.length_cons, List.length_nil]; refine congrArg some (congrArg (Value.int .i64) ?_); omega)) (Keeps.nil _)) (by repeat (first | exact SufO.refl | refine SufO.push rfl ?_)) (List.Perm.refl _) (by first | exact ⟨ag_word hg0 o1 hyc, by simp [hown], rfl, rfl, rfl⟩ | exact ⟨hg0, by simp [hown], rfl, rfl, rfl⟩))
  intro g s8 h8 I8
  simp only [List.cons_append, List.nil_append]
  obtain ⟨hg1, ew1, el1, er1, ee1⟩ := I8
  have hg2 := hg1
  obtain ⟨vw1, Mw1, vl1, Ml1, vr1, Mr1, es1, ck1, w1, l1, r1⟩ := g
  obtain ⟨hOw1, hOl1, hOr1, hE1, huw1, hul1, hur1⟩ := hg1
  simp only at hOw1 hOl1 hOr1 hE1 huw1 hul1 hur1
  obtain ⟨Aw1, cw1, rfl, kw1, kx1⟩ := Own.slice hOw1
  obtain ⟨Al1, cl1, rfl, kl1, km1⟩ := Own.slice hOl1
  obtain ⟨Ar1, cr1, rfl, kr1, ks1⟩ := Own.slice hOr1
  simp only [HA]
  simp only at ew1 el1 er1 ee1
  subst el1
  subst er1
  subst ee1
  have hw1l : (w1.length : Int) ≤ tc + 1 := by rw [ew1]; split <;> (try simp only [List.length_append, List.length_cons, List.length_nil]) <;> omega
  refine JC_cutG (γ := AG) (fun g => [(11, .int .i64 (tc - (g.w.length : Int)))]) [_, _] rfl (fun g => HA ba bm tc A n c g L) (fun g tw => AGok g ∧ g.w = emitW w ⟨xl, xo, xh, xn, (xk : Int)⟩ yc own ∧ g.l = l1 ∧ g.r = emitR r1 w num ⟨xl, xo, xh, xn, (xk : Int)⟩ yc own ∧ g.es = es1) (fun _ _ _ h hl => h) ?_ ?_
  ·
   refine JC_seq ?_
   refine JC_region ?_
   refine JO_q (QE_faB rfl rfl rfl rfl) rfl ?_
   refine JO_q (QE_ld1 1 rfl rfl rfl rfl rfl) rfl ?_
   refine JO_nil ?_
   refine thenQ_n ?_
   refine JC_if rfl (fun c16 => ?_) (fun c16 => ?_)
   ·
    have hhas := c16
    refine JC_seq ?_
    refine JC_seq ?_
    refine JC_region ?_
    refine JO_q (QE_faB rfl rfl rfl rfl) rfl ?_
    refine JO_q (QE_fa0 rfl rfl rfl rfl) rfl ?_
    refine JO_q (QE_ld1 1 rfl rfl rfl rfl rfl) rfl ?_
    refine JO_q (QE_sne rfl rfl) rfl ?_
    refine JO_nil ?_
    refine thenQ_n ?_
    refine JC_ifN rfl (fun c17 => ?_) (fun c17 => ?_)
    ·
     have hnm := c17
     refine JC_drawT drawsMixed 19 rfl 2 ?_
     intro s18 h18
     refine JA_q 0 rfl (by kernel_rfl) (by kernel_rfl) (by kernel_rfl) trivial (QE_mv rfl) rfl ?_
     refine JA_q 1 rfl (by kernel_rfl) (by kernel_rfl) (by kernel_rfl) trivial (QE_mv rfl) rfl ?_
     refine JA_q 2 rfl (by kernel_rfl) (by kernel_rfl) (by kernel_rfl) trivial (QE_nil rfl) rfl ?_
     refine JA_q 3 rfl (by kernel_rfl) (by kernel_rfl) (by kernel_rfl) trivial (QE_faB rfl rfl rfl rfl) rfl ?_
     refine JA_q 5 rfl (by kernel_rfl) (by kernel_rfl) (by kernel_rfl) trivial (QE_mv rfl) rfl ?_
     refine JA_q 6 rfl (by kernel_rfl) (by kernel_rfl) (by kernel_rfl) trivial (QE_mv rfl) rfl ?_
     refine JA_q 7 rfl (by kernel_rfl) (by kernel_rfl) (by kernel_rfl) trivial (QE_nil rfl) rfl ?_
     refine JA_q 8 rfl (by kernel_rfl) (by kernel_rfl) (by kernel_rfl) trivial (QE_faB rfl rfl rfl rfl) rfl ?_
     refine JA_q 11 rfl (by kernel_rfl) (by kernel_rfl) (by kernel_rfl) trivial (QE_faB rfl rfl rfl rfl) rfl ?_
     refine JA_q 12 rfl (by kernel_rfl) (by kernel_rfl) (by kernel_rfl) trivial (QE_ldA 1 [_, _] rfl rfl rfl rfl rfl) rfl ?_
     refine JA_2 4 9 (by kernel_rfl) ?_ ?_
     ·
      refine JB_q rfl trivial (QE_ld1 2 rfl rfl rfl rfl rfl) rfl ?_
      refine JA_1 9 (by kernel_rfl) ?_
      refine JB_q rfl trivial (QE_ld1 2 rfl rfl rfl rfl rfl) rfl ?_
      refine JA_q 10 rfl (by kernel_rfl) (by kernel_rfl) (by kernel_rfl) trivial (QE_lenS rfl rfl rfl) rfl ?_
      refine JA_q 13 rfl (by kernel_rfl) (by kernel_rfl) (by kernel_rfl) trivial (QE_build [(_, _), (_, _), (_, _)] [_, _, _, _] rfl rfl rfl rfl rfl rfl) rfl ?_
      refine JA_1 14 (by kernel_rfl) ?_
      refine JB_bs rfl trivial [(_, _)] [_, _, _, _] rfl rfl rfl rfl rfl rfl rfl rfl rfl ?_
      intro βn s19 h19 hcb
      refine JA_1 15 (by kernel_rfl) ?_
      refine JB_app (sz := 4) rfl trivial (_ :: _ :: _ :: _ :: (Mw1 ++ Ml1)) Mr1 _ assoc4 rfl rfl rfl rfl rfl rfl hOr1 (Row.of_cells (hcb.le (Le.refl (D := D) _)) rfl rfl) ⟨by simp [ti142]; omega, by omega⟩ rfl (fun A2 x hx _ => memK2 hx) ?_
      intro v2 M2 s20 h20 o2
      obtain ⟨Av2, cv2, rfl, kv2, kv22⟩ := Own.slice o2
      simp only [List.cons_append, List.nil_append, List.append_assoc]
      refine JA_q 16 rfl (by kernel_rfl) (by kernel_rfl) (by kernel_rfl) trivial (QE_nil rfl) rfl ?_
      refine JA_q 17 rfl (by kernel_rfl) (by kernel_rfl) (by kernel_rfl) trivial (QE_faB rfl rfl rfl rfl) rfl ?_
      refine JA_1 18 (by kernel_rfl) ?_
      refine JB_st rfl trivial 2 [_, _, _, _, _, _] rfl rfl rfl rfl rfl rfl rfl rfl rfl (fun _ hx => sub_mem (sbY (sbY (sb0 _))) hx) ?_
      refine JA_done (by kernel_rfl) ?_
      refine thenQ_n ?_
      refine JC_seq ?_
      refine JC_drawT drawsMixed 13 rfl 2 ?_
      intro s21 h21
      refine JA_q 0 rfl (by kernel_rfl) (by kernel_rfl) (by kernel_rfl) trivial (QE_mv rfl) rfl ?_
      refine JA_q 1 rfl (by kernel_rfl) (by kernel_rfl) (by kernel_rfl) trivial (QE_mv rfl) rfl ?_
      refine JA_q 2 rfl (by kernel_rfl) (by kernel_rfl) (by kernel_rfl) trivial (QE_nil rfl) rfl ?_
      refine JA_q 3 rfl (by kernel_rfl) (by kernel_rfl) (by kernel_rfl) trivial (QE_faB rfl rfl rfl rfl) rfl ?_
      refine JA_q 5 rfl (by kernel_rfl) (by kernel_rfl) (by kernel_rfl) trivial (QE_faB rfl rfl rfl rfl) rfl ?_
      refine JA_q 6 rfl (by kernel_rfl) (by kernel_rfl) (by kernel_rfl) trivial (QE_fa rfl rfl rfl rfl) rfl ?_
      refine JA_q 7 rfl (by kernel_rfl) (by kernel_rfl) (by kernel_rfl) trivial (QE_ld1 1 rfl rfl rfl rfl rfl) rfl ?_
      refine JA_2 4 8 (by kernel_rfl) ?_ ?_
      ·
       refine JB_q rfl trivial (QE_ld1 2 rfl rfl rfl rfl rfl) rfl ?_
       refine JA_1 8 (by kernel_rfl) ?_
       refine JB_bs rfl trivial [(_, _)] [_] rfl rfl rfl rfl rfl rfl rfl rfl rfl ?_
       intro βn s22 h22 hcb
       refine JA_1 9 (by kernel_rfl) ?_
       refine JB_app (sz := 1) rfl trivial [_, _, _, _] Mw1 _ rfl rfl rfl rfl rfl rfl rfl hOw1 (Row.of_cells (hcb.le (Le.refl (D := D) _)) rfl rfl) ⟨by simp [ti52]; omega, by omega⟩ rfl (fun A2 x hx _ => memK2 hx) ?_
       intro v3 M3 s23 h23 o3
       obtain ⟨Av3, cv3, rfl, kv3, kv32⟩ := Own.slice o3
       simp only [List.cons_append, List.nil_append, List.append_assoc]
       refine JA_q 10 rfl (by kernel_rfl) (by kernel_rfl) (by kernel_rfl) trivial (QE_nil rfl) rfl ?_
       refine JA_q 11 rfl (by kernel_rfl) (by kernel_rfl) (by kernel_rfl) trivial (QE_faB rfl rfl rfl rfl) rfl ?_
       refine JA_1 12 (by kernel_rfl) ?_
       refine JB_st rfl trivial 2 [_, _, _, _, _, _] rfl rfl rfl rfl rfl rfl rfl rfl rfl (fun _ hx => sub_mem (sbY (sbY (sb0 _))) hx) ?_
       refine JA_done (by kernel_rfl) ?_
       refine thenQ_n ?_
       refine JC_region ?_
       refine JO_q (QE_mv rfl) rfl ?_
       refine JO_q (QE_sub' rfl rfl (w64 (by omega) (by omega))) rfl ?_
       refine JO_q (QE_as rfl) rfl ?_
       refine JO_nil ?_
       refine thenQ_n (MidG.mk ⟨_, M3, _, Ml1, _, M2, es1, ck1, w1 ++ [(xk : Int)], l1, r1 ++ [(num, w1.length, xn, (xk : Int))]⟩ [] (Le.trans (Le.trans (Le.trans (Le.trans (Le.trans h18 h19) h20) h21) h22) h23) (Keeps.cons (by first | rfl | (simp only [List.length_append, List.length_cons, List.length_nil]; refine congrArg some (congrArg (Value.int .i64) ?_); omega)) (Keeps.nil _)) (by repeat (first | exact SufO.refl | refine SufO.push rfl ?_)) (List.Perm.refl _) (by first | exact ⟨ag_word (ag_ref hg2 o2 (u32N hxk)) o3 (u32N hxk), em_has ew1 hsp hhas, rfl, em_ref ew1 hsp hhas hnm, rfl⟩ | exact ⟨ag_word hg2 o3 (u32N hxk), em_has ew1 hsp hhas, rfl, em_noref hnm, rfl⟩ | exact ⟨hg2, em_no ew1 hsp hhas, rfl, em_nohas hhas, rfl⟩))
      ·
       refine JB_bs rfl trivial [(_, _)] [_] rfl rfl rfl rfl rfl rfl rfl rfl rfl ?_
       intro βn s24 h24 hcb
       refine JA_1 4 (by kernel_rfl) ?_
       refine JB_q rfl trivial (QE_ld1 2 rfl rfl rfl rfl rfl) rfl ?_
       refine JA_1 9 (by kernel_rfl) ?_
       refine JB_app (sz := 1) rfl trivial [_, _, _, _] Mw1 _ rfl rfl rfl rfl rfl rfl rfl hOw1 (Row.of_cells (hcb.le (Le.refl (D := D) _)) rfl rfl) ⟨by simp [ti52]; omega, by omega⟩ rfl (fun A2 x hx _ => memK2 hx) ?_
       intro v3 M3 s25 h25 o3
       obtain ⟨Av3, cv3, rfl, kv3, kv32⟩ := Own.slice o3
       simp only [List.cons_append, List.nil_append, List.append_assoc]
       refine JA_q 10 rfl (by kernel_rfl) (by kernel_rfl) (by kernel_rfl) trivial (QE_nil rfl) rfl ?_
       refine JA_q 11 rfl (by kernel_rfl) (by kernel_rfl) (by kernel_rfl) trivial (QE_faB rfl rfl rfl rfl) rfl ?_
       refine JA_1 12 (by kernel_rfl) ?_
       refine JB_st rfl trivial 2 [_, _, _, _, _, _] rfl rfl rfl rfl rfl rfl rfl rfl rfl (fun _ hx => sub_mem (sbY (sbY (sb0 _))) hx) ?_
       refine JA_done (by kernel_rfl) ?_
       refine thenQ_n ?_
       refine JC_region ?_
       refine JO_q (QE_mv rfl) rfl ?_
       refine JO_q (QE_sub' rfl rfl (w64 (by omega) (by omega))) rfl ?_
       refine JO_q (QE_as rfl) rfl ?_
       refine JO_nil ?_
       refine thenQ_n (MidG.mk ⟨_, M3, _, Ml1, _, M2, es1, ck1, w1 ++ [(xk : Int)], l1, r1 ++ [(num, w1.length, xn, (xk : Int))]⟩ [] (Le.trans (Le.trans (Le.trans (Le.trans (Le.trans h18 h19) h20) h21) h24) h25) (Keeps.cons (by first | rfl | (simp only [List.length_append, List.length_cons, List.length_nil]; refine congrArg some (congrArg (Value.int .i64) ?_); omega)) (Keeps.nil _)) (by repeat (first | exact SufO.refl | refine SufO.push rfl ?_)) (List.Perm.refl _) (by first | exact ⟨ag_word (ag_ref hg2 o2 (u32N hxk)) o3 (u32N hxk), em_has ew1 hsp hhas, rfl, em_ref ew1 hsp hhas hnm, rfl⟩ | exact ⟨ag_word hg2 o3 (u32N hxk), em_has ew1 hsp hhas, rfl, em_noref hnm, rfl⟩ | exact ⟨hg2, em_no ew1 hsp hhas, rfl, em_nohas hhas, rfl⟩))
     ·
      refine JB_q rfl trivial (QE_ld1 2 rfl rfl rfl rfl rfl) rfl ?_
      refine JA_q 10 rfl (by kernel_rfl) (by kernel_rfl) (by kernel_rfl) trivial (QE_lenS rfl rfl rfl) rfl ?_
      refine JA_q 13 rfl (by kernel_rfl) (by kernel_rfl) (by kernel_rfl) trivial (QE_build [(_, _), (_, _), (_, _)] [_, _, _, _] rfl rfl rfl rfl rfl rfl) rfl ?_
      refine JA_2 4 14 (by kernel_rfl) ?_ ?_
      ·
       refine JB_q rfl trivial (QE_ld1 2 rfl rfl rfl rfl rfl) rfl ?_
       refine JA_1 14 (by kernel_rfl) ?_
       refine JB_bs rfl trivial [(_, _)] [_, _, _, _] rfl rfl rfl rfl rfl rfl rfl rfl rfl ?_
       intro βn s26 h26 hcb
       refine JA_1 15 (by kernel_rfl) ?_
       refine JB_app (sz := 4) rfl trivial (_ :: _ :: _ :: _ :: (Mw1 ++ Ml1)) Mr1 _ assoc4 rfl rfl rfl rfl rfl rfl hOr1 (Row.of_cells (hcb.le (Le.refl (D := D) _)) rfl rfl) ⟨by simp [ti142]; omega, by omega⟩ rfl (fun A2 x hx _ => memK2 hx) ?_
       intro v2 M2 s27 h27 o2
       obtain ⟨Av2, cv2, rfl, kv2, kv22⟩ := Own.slice o2
       simp only [List.cons_append, List.nil_append, List.append_assoc]
       refine JA_q 16 rfl (by kernel_rfl) (by kernel_rfl) (by kernel_rfl) trivial (QE_nil rfl) rfl ?_
       refine JA_q 17 rfl (by kernel_rfl) (by kernel_rfl) (by kernel_rfl) trivial (QE_faB rfl rfl rfl rfl) rfl ?_
       refine JA_1 18 (by kernel_rfl) ?_
       refine JB_st rfl trivial 2 [_, _, _, _, _, _] rfl rfl rfl rfl rfl rfl rfl rfl rfl (fun _ hx => sub_mem (sbY (sbY (sb0 _))) hx) ?_
       refine JA_done (by kernel_rfl) ?_
       refine thenQ_n ?_
       refine JC_seq ?_
       refine JC_drawT drawsMixed 13 rfl 2 ?_
       intro s28 h28
       refine JA_q 0 rfl (by kernel_rfl) (by kernel_rfl) (by kernel_rfl) trivial (QE_mv rfl) rfl ?_
       refine JA_q 1 rfl (by kernel_rfl) (by kernel_rfl) (by kernel_rfl) trivial (QE_mv rfl) rfl ?_
       refine JA_q 2 rfl (by kernel_rfl) (by kernel_rfl) (by kernel_rfl) trivial (QE_nil rfl) rfl ?_
       refine JA_q 3 rfl (by kernel_rfl) (by kernel_rfl) (by kernel_rfl) trivial (QE_faB rfl rfl rfl rfl) rfl ?_
       refine JA_q 5 rfl (by kernel_rfl) (by kernel_rfl) (by kernel_rfl) trivial (QE_faB rfl rfl rfl rfl) rfl ?_
       refine JA_q 6 rfl (by kernel_rfl) (by kernel_rfl) (by kernel_rfl) trivial (QE_fa rfl rfl rfl rfl) rfl ?_
       refine JA_q 7 rfl (by kernel_rfl) (by kernel_rfl) (by kernel_rfl) trivial (QE_ld1 1 rfl rfl rfl rfl rfl) rfl ?_
       refine JA_2 4 8 (by kernel_rfl) ?_ ?_
       ·
        refine JB_q rfl trivial (QE_ld1 2 rfl rfl rfl rfl rfl) rfl ?_
        refine JA_1 8 (by kernel_rfl) ?_
        refine JB_bs rfl trivial [(_, _)] [_] rfl rfl rfl rfl rfl rfl rfl rfl rfl ?_
        intro βn s29 h29 hcb
        refine JA_1 9 (by kernel_rfl) ?_
        refine JB_app (sz := 1) rfl trivial [_, _, _, _] Mw1 _ rfl rfl rfl rfl rfl rfl rfl hOw1 (Row.of_cells (hcb.le (Le.refl (D := D) _)) rfl rfl) ⟨by simp [ti52]; omega, by omega⟩ rfl (fun A2 x hx _ => memK2 hx) ?_
        intro v3 M3 s30 h30 o3
        obtain ⟨Av3, cv3, rfl, kv3, kv32⟩ := Own.slice o3
        simp only [List.cons_append, List.nil_append, List.append_assoc]
        refine JA_q 10 rfl (by kernel_rfl) (by kernel_rfl) (by kernel_rfl) trivial (QE_nil rfl) rfl ?_
        refine JA_q 11 rfl (by kernel_rfl) (by kernel_rfl) (by kernel_rfl) trivial (QE_faB rfl rfl rfl rfl) rfl ?_
        refine JA_1 12 (by kernel_rfl) ?_
        refine JB_st rfl trivial 2 [_, _, _, _, _, _] rfl rfl rfl rfl rfl rfl rfl rfl rfl (fun _ hx => sub_mem (sbY (sbY (sb0 _))) hx) ?_
        refine JA_done (by kernel_rfl) ?_
        refine thenQ_n ?_
        refine JC_region ?_
        refine JO_q (QE_mv rfl) rfl ?_
        refine JO_q (QE_sub' rfl rfl (w64 (by omega) (by omega))) rfl ?_
        refine JO_q (QE_as rfl) rfl ?_
        refine JO_nil ?_
        refine thenQ_n (MidG.mk ⟨_, M3, _, Ml1, _, M2, es1, ck1, w1 ++ [(xk : Int)], l1, r1 ++ [(num, w1.length, xn, (xk : Int))]⟩ [] (Le.trans (Le.trans (Le.trans (Le.trans (Le.trans h18 h26) h27) h28) h29) h30) (Keeps.cons (by first | rfl | (simp only [List.length_append, List.length_cons, List.length_nil]; refine congrArg some (congrArg (Value.int .i64) ?_); omega)) (Keeps.nil _)) (by repeat (first | exact SufO.refl | refine SufO.push rfl ?_)) (List.Perm.refl _) (by first | exact ⟨ag_word (ag_ref hg2 o2 (u32N hxk)) o3 (u32N hxk), em_has ew1 hsp hhas, rfl, em_ref ew1 hsp hhas hnm, rfl⟩ | exact ⟨ag_word hg2 o3 (u32N hxk), em_has ew1 hsp hhas, rfl, em_noref hnm, rfl⟩ | exact ⟨hg2, em_no ew1 hsp hhas, rfl, em_nohas hhas, rfl⟩))
       ·
        refine JB_bs rfl trivial [(_, _)] [_] rfl rfl rfl rfl rfl rfl rfl rfl rfl ?_
        intro βn s31 h31 hcb
        refine JA_1 4 (by kernel_rfl) ?_
        refine JB_q rfl trivial (QE_ld1 2 rfl rfl rfl rfl rfl) rfl ?_
        refine JA_1 9 (by kernel_rfl) ?_
        refine JB_app (sz := 1) rfl trivial [_, _, _, _] Mw1 _ rfl rfl rfl rfl rfl rfl rfl hOw1 (Row.of_cells (hcb.le (Le.refl (D := D) _)) rfl rfl) ⟨by simp [ti52]; omega, by omega⟩ rfl (fun A2 x hx _ => memK2 hx) ?_
        intro v3 M3 s32 h32 o3
        obtain ⟨Av3, cv3, rfl, kv3, kv32⟩ := Own.slice o3
        simp only [List.cons_append, List.nil_append, List.append_assoc]
        refine JA_q 10 rfl (by kernel_rfl) (by kernel_rfl) (by kernel_rfl) trivial (QE_nil rfl) rfl ?_
        refine JA_q 11 rfl (by kernel_rfl) (by kernel_rfl) (by kernel_rfl) trivial (QE_faB rfl rfl rfl rfl) rfl ?_
        refine JA_1 12 (by kernel_rfl) ?_
        refine JB_st rfl trivial 2 [_, _, _, _, _, _] rfl rfl rfl rfl rfl rfl rfl rfl rfl (fun _ hx => sub_mem (sbY (sbY (sb0 _))) hx) ?_
        refine JA_done (by kernel_rfl) ?_
        refine thenQ_n ?_
        refine JC_region ?_
        refine JO_q (QE_mv rfl) rfl ?_
        refine JO_q (QE_sub' rfl rfl (w64 (by omega) (by omega))) rfl ?_
        refine JO_q (QE_as rfl) rfl ?_
        refine JO_nil ?_
        refine thenQ_n (MidG.mk ⟨_, M3, _, Ml1, _, M2, es1, ck1, w1 ++ [(xk : Int)], l1, r1 ++ [(num, w1.length, xn, (xk : Int))]⟩ [] (Le.trans (Le.trans (Le.trans (Le.trans (Le.trans h18 h26) h27) h28) h31) h32) (Keeps.cons (by first | rfl | (simp only [List.length_append, List.length_cons, List.length_nil]; refine congrArg some (congrArg (Value.int .i64) ?_); omega)) (Keeps.nil _)) (by repeat (first | exact SufO.refl | refine SufO.push rfl ?_)) (List.Perm.refl _) (by first | exact ⟨ag_word (ag_ref hg2 o2 (u32N hxk)) o3 (u32N hxk), em_has ew1 hsp hhas, rfl, em_ref ew1 hsp hhas hnm, rfl⟩ | exact ⟨ag_word hg2 o3 (u32N hxk), em_has ew1 hsp hhas, rfl, em_noref hnm, rfl⟩ | exact ⟨hg2, em_no ew1 hsp hhas, rfl, em_nohas hhas, rfl⟩))
      ·
       refine JB_bs rfl trivial [(_, _)] [_, _, _, _] rfl rfl rfl rfl rfl rfl rfl rfl rfl ?_
       intro βn s33 h33 hcb
       refine JA_1 4 (by kernel_rfl) ?_
       refine JB_q rfl trivial (QE_ld1 2 rfl rfl rfl rfl rfl) rfl ?_
       refine JA_1 15 (by kernel_rfl) ?_
       refine JB_app (sz := 4) rfl trivial (_ :: _ :: _ :: _ :: (Mw1 ++ Ml1)) Mr1 _ assoc4 rfl rfl rfl rfl rfl rfl hOr1 (Row.of_cells (hcb.le (Le.refl (D := D) _)) rfl rfl) ⟨by simp [ti142]; omega, by omega⟩ rfl (fun A2 x hx _ => memK2 hx) ?_
       intro v2 M2 s34 h34 o2
       obtain ⟨Av2, cv2, rfl, kv2, kv22⟩ := Own.slice o2
       simp only [List.cons_append, List.nil_append, List.append_assoc]
       refine JA_q 16 rfl (by kernel_rfl) (by kernel_rfl) (by kernel_rfl) trivial (QE_nil rfl) rfl ?_
       refine JA_q 17 rfl (by kernel_rfl) (by kernel_rfl) (by kernel_rfl) trivial (QE_faB rfl rfl rfl rfl) rfl ?_
       refine JA_1 18 (by kernel_rfl) ?_
       refine JB_st rfl trivial 2 [_, _, _, _, _, _] rfl rfl rfl rfl rfl rfl rfl rfl rfl (fun _ hx => sub_mem (sbY (sbY (sb0 _))) hx) ?_
       refine JA_done (by kernel_rfl) ?_
       refine thenQ_n ?_
       refine JC_seq ?_
       refine JC_drawT drawsMixed 13 rfl 2 ?_
       intro s35 h35
       refine JA_q 0 rfl (by kernel_rfl) (by kernel_rfl) (by kernel_rfl) trivial (QE_mv rfl) rfl ?_
       refine JA_q 1 rfl (by kernel_rfl) (by kernel_rfl) (by kernel_rfl) trivial (QE_mv rfl) rfl ?_
       refine JA_q 2 rfl (by kernel_rfl) (by kernel_rfl) (by kernel_rfl) trivial (QE_nil rfl) rfl ?_
       refine JA_q 3 rfl (by kernel_rfl) (by kernel_rfl) (by kernel_rfl) trivial (QE_faB rfl rfl rfl rfl) rfl ?_
       refine JA_q 5 rfl (by kernel_rfl) (by kernel_rfl) (by kernel_rfl) trivial (QE_faB rfl rfl rfl rfl) rfl ?_
       refine JA_q 6 rfl (by kernel_rfl) (by kernel_rfl) (by kernel_rfl) trivial (QE_fa rfl rfl rfl rfl) rfl ?_
       refine JA_q 7 rfl (by kernel_rfl) (by kernel_rfl) (by kernel_rfl) trivial (QE_ld1 1 rfl rfl rfl rfl rfl) rfl ?_
       refine JA_2 4 8 (by kernel_rfl) ?_ ?_
       ·
        refine JB_q rfl trivial (QE_ld1 2 rfl rfl rfl rfl rfl) rfl ?_
        refine JA_1 8 (by kernel_rfl) ?_
        refine JB_bs rfl trivial [(_, _)] [_] rfl rfl rfl rfl rfl rfl rfl rfl rfl ?_
        intro βn s36 h36 hcb
        refine JA_1 9 (by kernel_rfl) ?_
        refine JB_app (sz := 1) rfl trivial [_, _, _, _] Mw1 _ rfl rfl rfl rfl rfl rfl rfl hOw1 (Row.of_cells (hcb.le (Le.refl (D := D) _)) rfl rfl) ⟨by simp [ti52]; omega, by omega⟩ rfl (fun A2 x hx _ => memK2 hx) ?_
        intro v3 M3 s37 h37 o3
        obtain ⟨Av3, cv3, rfl, kv3, kv32⟩ := Own.slice o3
        simp only [List.cons_append, List.nil_append, List.append_assoc]
        refine JA_q 10 rfl (by kernel_rfl) (by kernel_rfl) (by kernel_rfl) trivial (QE_nil rfl) rfl ?_
        refine JA_q 11 rfl (by kernel_rfl) (by kernel_rfl) (by kernel_rfl) trivial (QE_faB rfl rfl rfl rfl) rfl ?_
        refine JA_1 12 (by kernel_rfl) ?_
        refine JB_st rfl trivial 2 [_, _, _, _, _, _] rfl rfl rfl rfl rfl rfl rfl rfl rfl (fun _ hx => sub_mem (sbY (sbY (sb0 _))) hx) ?_
        refine JA_done (by kernel_rfl) ?_
        refine thenQ_n ?_
        refine JC_region ?_
        refine JO_q (QE_mv rfl) rfl ?_
        refine JO_q (QE_sub' rfl rfl (w64 (by omega) (by omega))) rfl ?_
        refine JO_q (QE_as rfl) rfl ?_
        refine JO_nil ?_
        refine thenQ_n (MidG.mk ⟨_, M3, _, Ml1, _, M2, es1, ck1, w1 ++ [(xk : Int)], l1, r1 ++ [(num, w1.length, xn, (xk : Int))]⟩ [] (Le.trans (Le.trans (Le.trans (Le.trans (Le.trans h18 h33) h34) h35) h36) h37) (Keeps.cons (by first | rfl | (simp only [List.length_append, List.length_cons, List.length_nil]; refine congrArg some (congrArg (Value.int .i64) ?_); omega)) (Keeps.nil _)) (by repeat (first | exact SufO.refl | refine SufO.push rfl ?_)) (List.Perm.refl _) (by first | exact ⟨ag_word (ag_ref hg2 o2 (u32N hxk)) o3 (u32N hxk), em_has ew1 hsp hhas, rfl, em_ref ew1 hsp hhas hnm, rfl⟩ | exact ⟨ag_word hg2 o3 (u32N hxk), em_has ew1 hsp hhas, rfl, em_noref hnm, rfl⟩ | exact ⟨hg2, em_no ew1 hsp hhas, rfl, em_nohas hhas, rfl⟩))
       ·
        refine JB_bs rfl trivial [(_, _)] [_] rfl rfl rfl rfl rfl rfl rfl rfl rfl ?_
        intro βn s38 h38 hcb
        refine JA_1 4 (by kernel_rfl) ?_
        refine JB_q rfl trivial (QE_ld1 2 rfl rfl rfl rfl rfl) rfl ?_
        refine JA_1 9 (by kernel_rfl) ?_
        refine JB_app (sz := 1) rfl trivial [_, _, _, _] Mw1 _ rfl rfl rfl rfl rfl rfl rfl hOw1 (Row.of_cells (hcb.le (Le.refl (D := D) _)) rfl rfl) ⟨by simp [ti52]; omega, by omega⟩ rfl (fun A2 x hx _ => memK2 hx) ?_
        intro v3 M3 s39 h39 o3
        obtain ⟨Av3, cv3, rfl, kv3, kv32⟩ := Own.slice o3
        simp only [List.cons_append, List.nil_append, List.append_assoc]
        refine JA_q 10 rfl (by kernel_rfl) (by kernel_rfl) (by kernel_rfl) trivial (QE_nil rfl) rfl ?_
        refine JA_q 11 rfl (by kernel_rfl) (by kernel_rfl) (by kernel_rfl) trivial (QE_faB rfl rfl rfl rfl) rfl ?_
        refine JA_1 12 (by kernel_rfl) ?_
        refine JB_st rfl trivial 2 [_, _, _, _, _, _] rfl rfl rfl rfl rfl rfl rfl rfl rfl (fun _ hx => sub_mem (sbY (sbY (sb0 _))) hx) ?_
        refine JA_done (by kernel_rfl) ?_
        refine thenQ_n ?_
        refine JC_region ?_
        refine JO_q (QE_mv rfl) rfl ?_
        refine JO_q (QE_sub' rfl rfl (w64 (by omega) (by omega))) rfl ?_
        refine JO_q (QE_as rfl) rfl ?_
        refine JO_nil ?_
        refine thenQ_n (MidG.mk ⟨_, M3, _, Ml1, _, M2, es1, ck1, w1 ++ [(xk : Int)], l1, r1 ++ [(num, w1.length, xn, (xk : Int))]⟩ [] (Le.trans (Le.trans (Le.trans (Le.trans (Le.trans h18 h33) h34) h35) h38) h39) (Keeps.cons (by first | rfl | (simp only [List.length_append, List.length_cons, List.length_nil]; refine congrArg some (congrArg (Value.int .i64) ?_); omega)) (Keeps.nil _)) (by repeat (first | exact SufO.refl | refine SufO.push rfl ?_)) (List.Perm.refl _) (by first | exact ⟨ag_word (ag_ref hg2 o2 (u32N hxk)) o3 (u32N hxk), em_has ew1 hsp hhas, rfl, em_ref ew1 hsp hhas hnm, rfl⟩ | exact ⟨ag_word hg2 o3 (u32N hxk), em_has ew1 hsp hhas, rfl, em_noref hnm, rfl⟩ | exact ⟨hg2, em_no ew1 hsp hhas, rfl, em_nohas hhas, rfl⟩))
    ·
     have hnm := c17
     refine JC_skip ?_
     refine thenQ_n ?_
     refine JC_seq ?_
     refine JC_drawT drawsMixed 13 rfl 2 ?_
     intro s40 h40
     refine JA_q 0 rfl (by kernel_rfl) (by kernel_rfl) (by kernel_rfl) trivial (QE_mv rfl) rfl ?_
     refine JA_q 1 rfl (by kernel_rfl) (by kernel_rfl) (by kernel_rfl) trivial (QE_mv rfl) rfl ?_
     refine JA_q 2 rfl (by kernel_rfl) (by kernel_rfl) (by kernel_rfl) trivial (QE_nil rfl) rfl ?_
     refine JA_q 3 rfl (by kernel_rfl) (by kernel_rfl) (by kernel_rfl) trivial (QE_faB rfl rfl rfl rfl) rfl ?_
     refine JA_q 5 rfl (by kernel_rfl) (by kernel_rfl) (by kernel_rfl) trivial (QE_faB rfl rfl rfl rfl) rfl ?_
     refine JA_q 6 rfl (by kernel_rfl) (by kernel_rfl) (by kernel_rfl) trivial (QE_fa rfl rfl rfl rfl) rfl ?_
     refine JA_q 7 rfl (by kernel_rfl) (by kernel_rfl) (by kernel_rfl) trivial (QE_ld1 1 rfl rfl rfl rfl rfl) rfl ?_
     refine JA_2 4 8 (by kernel_rfl) ?_ ?_
     ·
      refine JB_q rfl trivial (QE_ld1 2 rfl rfl rfl rfl rfl) rfl ?_
      refine JA_1 8 (by kernel_rfl) ?_
      refine JB_bs rfl trivial [(_, _)] [_] rfl rfl rfl rfl rfl rfl rfl rfl rfl ?_
      intro βn s41 h41 hcb
      refine JA_1 9 (by kernel_rfl) ?_
      refine JB_app (sz := 1) rfl trivial [_, _, _, _] Mw1 _ rfl rfl rfl rfl rfl rfl rfl hOw1 (Row.of_cells (hcb.le (Le.refl (D := D) _)) rfl rfl) ⟨by simp [ti52]; omega, by omega⟩ rfl (fun A2 x hx _ => memK2 hx) ?_
      intro v3 M3 s42 h42 o3
      obtain ⟨Av3, cv3, rfl, kv3, kv32⟩ := Own.slice o3
      simp only [List.cons_append, List.nil_append, List.append_assoc]
      refine JA_q 10 rfl (by kernel_rfl) (by kernel_rfl) (by kernel_rfl) trivial (QE_nil rfl) rfl ?_
      refine JA_q 11 rfl (by kernel_rfl) (by kernel_rfl) (by kernel_rfl) trivial (QE_faB rfl rfl rfl rfl) rfl ?_
      refine JA_1 12 (by kernel_rfl) ?_
      refine JB_st rfl trivial 2 [_, _, _, _, _, _] rfl rfl rfl rfl rfl rfl rfl rfl rfl (fun _ hx => sub_mem (sbY (sbY (sb0 _))) hx) ?_
      refine JA_done (by kernel_rfl) ?_
      refine thenQ_n ?_
      refine JC_region ?_
      refine JO_q (QE_mv rfl) rfl ?_
      refine JO_q (QE_sub' rfl rfl (w64 (by omega) (by omega))) rfl ?_
      refine JO_q (QE_as rfl) rfl ?_
      refine JO_nil ?_
      refine thenQ_n (MidG.mk ⟨_, M3, _, Ml1, _, Mr1, es1, ck1, w1 ++ [(xk : Int)], l1, r1⟩ [] (Le.trans (Le.trans h40 h41) h42) (Keeps.cons (by first | rfl | (simp only [List.length_append, List.length_cons, List.length_nil]; refine congrArg some (congrArg (Value.int .i64) ?_); omega)) (Keeps.nil _)) (by repeat (first | exact SufO.refl | refine SufO.push rfl ?_)) (List.Perm.refl _) (by first | exact ⟨ag_word (ag_ref hg2 o2 (u32N hxk)) o3 (u32N hxk), em_has ew1 hsp hhas, rfl, em_ref ew1 hsp hhas hnm, rfl⟩ | exact ⟨ag_word hg2 o3 (u32N hxk), em_has ew1 hsp hhas, rfl, em_noref hnm, rfl⟩ | exact ⟨hg2, em_no ew1 hsp hhas, rfl, em_nohas hhas, rfl⟩))
     ·
      refine JB_bs rfl trivial [(_, _)] [_] rfl rfl rfl rfl rfl rfl rfl rfl rfl ?_
      intro βn s43 h43 hcb
      refine JA_1 4 (by kernel_rfl) ?_
      refine JB_q rfl trivial (QE_ld1 2 rfl rfl rfl rfl rfl) rfl ?_
      refine JA_1 9 (by kernel_rfl) ?_
      refine JB_app (sz := 1) rfl trivial [_, _, _, _] Mw1 _ rfl rfl rfl rfl rfl rfl rfl hOw1 (Row.of_cells (hcb.le (Le.refl (D := D) _)) rfl rfl) ⟨by simp [ti52]; omega, by omega⟩ rfl (fun A2 x hx _ => memK2 hx) ?_
      intro v3 M3 s44 h44 o3
      obtain ⟨Av3, cv3, rfl, kv3, kv32⟩ := Own.slice o3
      simp only [List.cons_append, List.nil_append, List.append_assoc]
      refine JA_q 10 rfl (by kernel_rfl) (by kernel_rfl) (by kernel_rfl) trivial (QE_nil rfl) rfl ?_
      refine JA_q 11 rfl (by kernel_rfl) (by kernel_rfl) (by kernel_rfl) trivial (QE_faB rfl rfl rfl rfl) rfl ?_
      refine JA_1 12 (by kernel_rfl) ?_
      refine JB_st rfl trivial 2 [_, _, _, _, _, _] rfl rfl rfl rfl rfl rfl rfl rfl rfl (fun _ hx => sub_mem (sbY (sbY (sb0 _))) hx) ?_
      refine JA_done (by kernel_rfl) ?_
      refine thenQ_n ?_
      refine JC_region ?_
      refine JO_q (QE_mv rfl) rfl ?_
      refine JO_q (QE_sub' rfl rfl (w64 (by omega) (by omega))) rfl ?_
      refine JO_q (QE_as rfl) rfl ?_
      refine JO_nil ?_
      refine thenQ_n (MidG.mk ⟨_, M3, _, Ml1, _, Mr1, es1, ck1, w1 ++ [(xk : Int)], l1, r1⟩ [] (Le.trans (Le.trans h40 h43) h44) (Keeps.cons (by first | rfl | (simp only [List.length_append, List.length_cons, List.length_nil]; refine congrArg some (congrArg (Value.int .i64) ?_); omega)) (Keeps.nil _)) (by repeat (first | exact SufO.refl | refine SufO.push rfl ?_)) (List.Perm.refl _) (by first | exact ⟨ag_word (ag_ref hg2 o2 (u32N hxk)) o3 (u32N hxk), em_has ew1 hsp hhas, rfl, em_ref ew1 hsp hhas hnm, rfl⟩ | exact ⟨ag_word hg2 o3 (u32N hxk), em_has ew1 hsp hhas, rfl, em_noref hnm, rfl⟩ | exact ⟨hg2, em_no ew1 hsp hhas, rfl, em_nohas hhas, rfl⟩))
   ·
    have hhas := c16
    refine JC_skip ?_
    refine thenQ_n (MidG.mk ⟨_, Mw1, _, Ml1, _, Mr1, es1, ck1, w1, l1, r1⟩ [] (Le.refl (D := D) _) (Keeps.cons (by first | rfl | (simp only [List.length_append, List.length_cons, List.length_nil]; refine congrArg some (congrArg (Value.int .i64) ?_); omega)) (Keeps.nil _)) (by repeat (first | exact SufO.refl | refine SufO.push rfl ?_)) (List.Perm.refl _) (by first | exact ⟨ag_word (ag_ref hg2 o2 (u32N hxk)) o3 (u32N hxk), em_has ew1 hsp hhas, rfl, em_ref ew1 hsp hhas hnm, rfl⟩ | exact ⟨ag_word hg2 o3 (u32N hxk), em_has ew1 hsp hhas, rfl, em_noref hnm, rfl⟩ | exact ⟨hg2, em_no ew1 hsp hhas, rfl, em_nohas hhas, rfl⟩))
  intro g s15 h15 I15
  simp only [List.cons_append, List.nil_append]
  obtain ⟨hg3, ew3, el3, er3, ee3⟩ := I15
  refine JC_seq ?_
  refine JC_seq ?_
  refine JC_region ?_
  refine JO_q (QE_mv rfl) rfl ?_
  refine JO_q (QE_lt rfl rfl) rfl ?_
  refine JO_nil ?_
  refine thenQ_n ?_
  refine JC_ifD rfl (fun c45 => ?_) (fun c45 => ?_)
  ·
   refine JC_seq ?_
   refine JC_region ?_
   refine JO_q (QE_as rfl) rfl ?_
   refine JO_nil ?_
   refine thenQ_n ?_
   refine JC_ret ?_
   refine thenQ_r ?_
   refine retQ_mk [_, _] _ (.inr rfl) (.tmp rfl (.nil)) rfl (Le.trans (Le.trans (Le.trans (Le.trans h1 h2) h3) h8) h15) (fun sR hS2 => ?_)
   first
     | (refine ⟨(⟨.slice Aw w.length cw, Mw, .slice Al l.length cl, Ml, .slice Ar r.length cr, Mr, es, ck, w, l, r⟩ : AG), rfl, 14, rfl, .inl ⟨rfl, ?_⟩⟩
        simp only [emitW_space (x := ⟨xl, xo, xh, xn, (xk : Int)⟩) hsp, List.length_append, List.length_replicate, Int.toNat_natCast]; omega)
     | (refine ⟨⟨_, M1, _, Ml, _, Mr, es, ck, w ++ List.replicate xk 0, l, r⟩, rfl, 0, rfl, .inr ⟨rfl, ?_, ag_zeros hg0 o1, ?_, rfl, rfl, ?_⟩⟩
        · simp only [emitW_space (x := ⟨xl, xo, xh, xn, (xk : Int)⟩) hsp, List.length_append, List.length_replicate, Int.toNat_natCast]; omega
        · simp only [emitW_space (x := ⟨xl, xo, xh, xn, (xk : Int)⟩) hsp, Int.toNat_natCast]
        · exact (emitR_space (x := ⟨xl, xo, xh, xn, (xk : Int)⟩) hsp).symm)
     | (refine ⟨g, rfl, 14, rfl, .inl ⟨rfl, ?_⟩⟩
        rw [← ew3]; omega)
     | (refine ⟨g, rfl, 0, rfl, .inr ⟨rfl, ?_, hg3, ew3, el3, ee3, er3⟩⟩
        rw [← ew3]; omega)
  ·
   refine JC_skip ?_
   refine thenQ_n ?_
   refine JC_seq ?_
   refine JC_region ?_
   refine JO_q (QE_as rfl) rfl ?_
   refine JO_nil ?_
   refine thenQ_n ?_
   refine JC_ret ?_
   refine retQ_mk [_, _] _ (.inr rfl) (.tmp rfl (.nil)) rfl (Le.trans (Le.trans (Le.trans (Le.trans h1 h2) h3) h8) h15) (fun sR hS2 => ?_)
   first
     | (refine ⟨(⟨.slice Aw w.length cw, Mw, .slice Al l.length cl, Ml, .slice Ar r.length cr, Mr, es, ck, w, l, r⟩ : AG), rfl, 14, rfl, .inl ⟨rfl, ?_⟩⟩
        simp only [emitW_space (x := ⟨xl, xo, xh, xn, (xk : Int)⟩) hsp, List.length_append, List.length_replicate, Int.toNat_natCast]; omega)
     | (refine ⟨⟨_, M1, _, Ml, _, Mr, es, ck, w ++ List.replicate xk 0, l, r⟩, rfl, 0, rfl, .inr ⟨rfl, ?_, ag_zeros hg0 o1, ?_, rfl, rfl, ?_⟩⟩
        · simp only [emitW_space (x := ⟨xl, xo, xh, xn, (xk : Int)⟩) hsp, List.length_append, List.length_replicate, Int.toNat_natCast]; omega
        · simp only [emitW_space (x := ⟨xl, xo, xh, xn, (xk : Int)⟩) hsp, Int.toNat_natCast]
        · exact (emitR_space (x := ⟨xl, xo, xh, xn, (xk : Int)⟩) hsp).symm)
     | (refine ⟨g, rfl, 14, rfl, .inl ⟨rfl, ?_⟩⟩
        rw [← ew3]; omega)
     | (refine ⟨g, rfl, 0, rfl, .inr ⟨rfl, ?_, hg3, ew3, el3, ee3, er3⟩⟩
        rw [← ew3]; omega)
end Go.Proofs.YteomcjpigoaioaaGreatDoor
namespace Go.Proofs.YteomcjpigoaioaaGreatDoor
open Go.FL
attribute [local irreducible] JC JO JA JB thenQ blockQ retQ AC fill CellsAt QE Ev Mid
theorem mapTyS : MapTy Tryz.prog 83 .string (.int .u32 0) := ⟨_, _, Tryz.underlying83, Tryz.underlying9, fun w => by rw [run_zero' ti52_ok]; rfl⟩
theorem findB_ac (D : Nat) (L : Hl) (s : World) (x0 : Nat × Obj) (ba bm : Nat) (t : Tab) (A : Option Addr) (n c : Nat) (hA : Inss s A n c t.ins) (g : AG) (nm : List UInt8) : AC Tryz.prog D 101 [.pointer (some ⟨ba, 0, none⟩), St nm] (x0 :: HA ba bm t.cells A n c g L) s fun v L' _ => L' = x0 :: HA ba bm t.cells A n c g L ∧ ∃ (y : Ins) (Ay : Option Addr) (ny cy : Nat), v = .tuple #[.agg #[St y.name, .int .u32 y.code, .bool y.operand, .slice Ay ny cy], .bool (findN t.ins nm).isSome] ∧ U32 y.code ∧ (∀ z, findN t.ins nm = some z → y = z) ∧ (findN t.ins nm = none → y.operand = false) :=
  AC.perm (HA_one ..).symm (findA_ac D (x0 :: L) s ba bm t A n c hA g nm) fun v L1 s1 ⟨h1, h2⟩ => ⟨_, by rw [h1]; exact HA_one .., rfl, h2⟩
theorem emitB_ac (D : Nat) (L : Hl) (s : World) (x0 x1 : Nat × Obj) (ba bm : Nat) (tc : Int) (A : Option Addr) (n c : Nat) (g : AG) (hg : AGok g) (num : Int) (xl xo : List UInt8) (xh : Bool) (xn : List UInt8) (xk : Nat) (hxk : xk < 4294967296) (yn : List UInt8) (yc : Int) (yo : Bool) (Ay : Option Addr) (ny cy : Nat) (hyc : U32 yc) (own : Bool) (htc : 0 ≤ tc ∧ tc ≤ 65536) (hwl : (g.w.length : Int) ≤ tc) (hrl : g.r.length ≤ 1000000) : AC Tryz.prog D 102 [.pointer (some ⟨ba, 0, none⟩), .int .i64 num, .agg #[St xl, St xo, .bool xh, St xn, .int .u32 (xk : Int)], .agg #[St yn, .int .u32 yc, .bool yo, .slice Ay ny cy], .bool own] (x0 :: x1 :: HA ba bm tc A n c g L) s fun v L' _ => ∃ g', L' = x0 :: x1 :: HA ba bm tc A n c g' L ∧ ∃ e, v = .int .i64 e ∧ ((e = 14 ∧ tc < ((emitW g.w ⟨xl, xo, xh, xn, (xk : Int)⟩ yc own).length : Int)) ∨ (e = 0 ∧ ((emitW g.w ⟨xl, xo, xh, xn, (xk : Int)⟩ yc own).length : Int) ≤ tc ∧ AGok g' ∧ g'.w = emitW g.w ⟨xl, xo, xh, xn, (xk : Int)⟩ yc own ∧ g'.l = g.l ∧ g'.es = g.es ∧ g'.r = emitR g.r g.w num ⟨xl, xo, xh, xn, (xk : Int)⟩ yc own)) :=
  AC.perm (HA_two ..).symm (emit_ac D (x0 :: x1 :: L) s ba bm tc A n c g hg num xl xo xh xn xk hxk yn yc yo Ay ny cy hyc own htc hwl hrl) fun v L1 s1 ⟨g', h1, h2⟩ => ⟨_, by rw [h1]; exact HA_two .., g', rfl, h2⟩
theorem add_new {l : List (List UInt8 × Int)} {x : Ln} (h : ¬ x.label = [] → labAt l x.label = none) : ¬ (x.label ≠ [] ∧ (labAt l x.label).isSome = true) := fun hh => by rw [h hh.1] at hh; cases hh.2
theorem op_of {t : Tab} {xo : List UInt8} {y : Ins} (h1 : ∀ z, findN t.ins xo = some z → y = z) (h2 : findN t.ins xo = none → y.operand = false) : opOf t xo = y.operand := by
  unfold opOf
  cases h : findN t.ins xo with
  | none => exact (h2 h).symm
  | some z => rw [h1 z h]
theorem code_of {t : Tab} {w : List Int} {r : List (Int × Nat × List UInt8 × Int)} {i : Int} {x : Ln} {y : Ins} (h1 : ∀ z, findN t.ins x.op = some z → y = z) (h2 : ¬ ((findN t.ins x.op).isSome = false ∧ ¬ (x.op = [119, 111, 114, 100] ∨ x.op = [115, 112, 97, 99, 101]))) (h3 : ¬ x.op = []) :
    emitW w x y.code (decide (x.op = [119, 111, 114, 100] ∨ x.op = [115, 112, 97, 99, 101])) = addW t w x ∧ emitR r w i x y.code (decide (x.op = [119, 111, 114, 100] ∨ x.op = [115, 112, 97, 99, 101])) = addR t w r i x := by
  unfold addW addR isOwn
  rw [if_neg h3, if_neg h3]
  cases h : findN t.ins x.op with
  | some z =>
    have hc : codeOf t x.op = y.code := by unfold codeOf; rw [h, h1 z h]
    rw [hc]; exact ⟨rfl, rfl⟩
  | none =>
    rw [h] at h2
    have ho : x.op = [119, 111, 114, 100] ∨ x.op = [115, 112, 97, 99, 101] := by
      by_cases ho : x.op = [119, 111, 114, 100] ∨ x.op = [115, 112, 97, 99, 101]
      · exact ho
      · exact absurd ⟨rfl, ho⟩ h2
    rw [decide_eq_true ho]
    exact ⟨emitW_own .., emitR_own ..⟩
theorem memK1 {x a : Nat × Obj} {R R' : Hl} (hx : x ∈ (a :: R).take 1) : x ∈ a :: R' := by
  simp only [List.take_succ_cons, List.take_zero, List.mem_cons, List.not_mem_nil, or_false] at hx
  rw [hx]; exact List.mem_cons_self ..
theorem ag_lab {g : AG} {vl : Value} {M : Hl} {k : List UInt8} {a : Int} {ck : Nat} (hg : AGok g) (o : Own 94 2 M vl (g.l.length + 1) (lbv g.l ++ [St k, .int .u32 a])) (ha : U32 a) (hk : labAt g.l k = none) : AGok ⟨g.vw, g.Mw, vl, M, g.vr, g.Mr, mset g.es k (.int .u32 a) g.ck, ck, g.w, g.l ++ [(k, a)], g.r⟩ :=
  ⟨hg.hw, by simp only [List.length_append, List.length_cons, List.length_nil, lbv_snoc]; exact o, hg.hr, fun j => by
    simp only [assoc_mset, labAt_snoc _ _ _ _ hk, hg.he j]; split <;> rfl, hg.uw, fun y hy => by
    rcases List.mem_append.1 hy with h | h
    · exact hg.ul y h
    · rw [List.mem_singleton.1 h]; exact ha, hg.ur⟩
set_option maxHeartbeats 4000000 in
set_option maxRecDepth 100000 in
theorem add7_ac (D : Nat) (L : Hl) (s : World) (hG : GW s) (ba bm : Nat) (t : Tab) (A : Option Addr) (n c : Nat) (hA : Inss s A n c t.ins) (g : AG) (hg : AGok g) (num : Int) (tx : List UInt8) (htx : tx.length ≤ 400000) (htc : 0 ≤ t.cells ∧ t.cells ≤ 65536) (hwl : (g.w.length : Int) ≤ t.cells) (hrl : g.r.length ≤ 1000000) (hll : g.l.length ≤ 1000000) : AC Tryz.prog D 73 [.pointer (some ⟨ba, 0, none⟩), .int .i64 num, St tx] (HA ba bm t.cells A n c g L) s fun v L' _ => ∃ g', L' = HA ba bm t.cells A n c g' L ∧ v = .int .i64 (addE t g.w g.l (lineL tx)) ∧ ∀ x, lineL tx = some x → addE t g.w g.l (some x) = 0 → AGok g' ∧ g'.w = addW t g.w x ∧ g'.l = addL g.w g.l x ∧ g'.r = addR t g.w g.r num x := by
 have hg0 := hg
 obtain ⟨vw, Mw, vl, Ml, vr, Mr, es, ck, w, l, r⟩ := g
 obtain ⟨hOw, hOl, hOr, hE, huw, hul, hur⟩ := hg
 simp only at hOw hOl hOr hE huw hul hur
 obtain ⟨Aw, cw, rfl, kw, kx⟩ := Own.slice hOw
 obtain ⟨Al, cl, rfl, kl, km⟩ := Own.slice hOl
 obtain ⟨Ar, cr, rfl, kr, ks⟩ := Own.slice hOr
 simp only [HA]
 simp only at hwl hrl hll
 refine AC_enter (TT := TT) (fn := Tryz.f73) TT_ok Tryz.func73 (by kernel_rfl) rfl Tryz.ntmps73 rfl (rs := [.tmp 6]) rfl [(0, _), (1, _), (2, _)] rfl ?_
 refine JC_seq ?_
 refine JC_region ?_
 refine JO_q (QE_as rfl) rfl ?_
 refine JO_nil ?_
 refine thenQ_n ?_
 refine JC_seq ?_
 refine JC_region ?_
 refine JO_q (QE_mv rfl) rfl ?_
 refine JO_call (first := []) (captured := []) rfl rfl rfl (readLine_ac D _ _ (hG.le (Le.refl (D := D) _)) tx htx) ?_
 rintro _ _ s1 h1 ⟨rfl, ⟨xl, xo, xh, xn, xk⟩, rfl, hxu, hxe⟩
 simp only at hxu
 obtain ⟨xk, rfl⟩ := Int.eq_ofNat_of_zero_le hxu.1
 have hxk : xk < 4294967296 := by have := hxu.2; omega
 simp only [Ln.cs]
 refine JO_q (QE_mv rfl) rfl ?_
 refine JO_q (QE_ext rfl rfl) rfl ?_
 refine JO_q (QE_ext rfl rfl) rfl ?_
 refine JO_allocZ rfl [_, _, _, _, _] rfl rfl ?_
 intro β2 s2 h2
 refine JO_st 0 [_, _, _, _, _] rfl rfl rfl rfl rfl rfl rfl rfl rfl ?_
 refine JO_q (QE_as rfl) rfl ?_
 refine JO_nil ?_
 refine thenQ_n ?_
 refine JC_seq ?_
 refine JC_seq ?_
 refine JC_region ?_
 refine JO_q (QE_mv rfl) rfl ?_
 refine JO_q (QE_not rfl) rfl ?_
 refine JO_nil ?_
 refine thenQ_n ?_
 refine JC_ifM rfl (fun c3 => ?_) (fun c3 => ?_)
 ·
  have hno : lineL tx = none := by simpa using c3
  refine JC_seq ?_
  refine JC_region ?_
  refine JO_q (QE_as rfl) rfl ?_
  refine JO_nil ?_
  refine thenQ_n ?_
  refine JC_ret ?_
  refine thenQ_r ?_
  refine retQ_mk [_] _ (.inr rfl) (.tmp rfl (.nil)) rfl (Le.trans h1 h2) (fun sR hS2 => ?_)
  first
    | (refine ⟨(⟨.slice Aw w.length cw, Mw, .slice Al l.length cl, Ml, .slice Ar r.length cr, Mr, es, ck, w, l, r⟩ : AG), rfl, ?_, fun x hx => ?_⟩
       · rw [hno]; rfl
       · rw [hno] at hx; cases hx)
    | (refine ⟨(⟨.slice Aw w.length cw, Mw, .slice Al l.length cl, Ml, .slice Ar r.length cr, Mr, es, ck, w, l, r⟩ : AG), rfl, ?_, fun x hx he => ?_⟩
       · rw [hy, addE, if_pos ⟨hxl, hrep⟩]; rfl
       · rw [hy] at hx; injection hx with hx; subst hx; rw [addE, if_pos ⟨hxl, hrep⟩] at he; cases he)
    | (have hE8 := add_new (l := l) (x := ⟨xl, xo, xh, xn, (xk : Int)⟩) hnew
       refine ⟨g, rfl, ?_, fun x hx he => ?_⟩
       · rw [hy, addE, if_neg hE8, if_pos hxo]; rfl
       · rw [hy] at hx; injection hx with hx; subst hx
         refine ⟨hg1, ?_, ?_, ?_⟩
         · rw [ew1, addW, if_pos hxo]
         · rw [el1]
         · rw [er1, addR, if_pos hxo])
    | (have hE8 := add_new (l := l) (x := ⟨xl, xo, xh, xn, (xk : Int)⟩) hnew
       have hEE : addE t w l (some ⟨xl, xo, xh, xn, (xk : Int)⟩) = 12 := addE_12 hE8 hxo h83
       refine ⟨g, rfl, ?_, fun x hx he => ?_⟩
       · rw [hy, hEE]; rfl
       · rw [hy] at hx; injection hx with hx; subst hx; rw [hEE] at he; cases he)
    | (have hE8 := add_new (l := l) (x := ⟨xl, xo, xh, xn, (xk : Int)⟩) hnew
       have hoo := op_of (t := t) hye hyn
       have hEE : addE t w l (some ⟨xl, xo, xh, xn, (xk : Int)⟩) = 9 := addE_9 hE8 hxo h83 hoo h90
       refine ⟨g, rfl, ?_, fun x hx he => ?_⟩
       · rw [hy, hEE]; rfl
       · rw [hy] at hx; injection hx with hx; subst hx; rw [hEE] at he; cases he)
    | (have hE8 := add_new (l := l) (x := ⟨xl, xo, xh, xn, (xk : Int)⟩) hnew
       have hoo := op_of (t := t) hye hyn
       have hEE : addE t w l (some ⟨xl, xo, xh, xn, (xk : Int)⟩) = 6 := addE_6 hE8 hxo h83 hoo h90 h99
       refine ⟨g, rfl, ?_, fun x hx he => ?_⟩
       · rw [hy, hEE]; rfl
       · rw [hy] at hx; injection hx with hx; subst hx; rw [hEE] at he; cases he)
    | (have hE8 := add_new (l := l) (x := ⟨xl, xo, xh, xn, (xk : Int)⟩) hnew
       have hoo := op_of (t := t) hye hyn
       have hcc := code_of (t := t) (w := w) (r := r) (i := num) (x := ⟨xl, xo, xh, xn, (xk : Int)⟩) hye h83 hxo
       have hEE : addE t w l (some ⟨xl, xo, xh, xn, (xk : Int)⟩) = if t.cells < ((addW t w ⟨xl, xo, xh, xn, (xk : Int)⟩).length : Int) then 14 else 0 := addE_0 hE8 hxo h83 hoo h90 h99
       rw [ew1, er1, hcc.1] at hem
       rw [hcc.2] at hem
       refine ⟨g', rfl, ?_, fun x hx he => ?_⟩
       · rw [hy, hEE]
         rcases hem with ⟨rfl, h14⟩ | ⟨rfl, h0, _⟩
         · rw [if_pos h14]; rfl
         · rw [if_neg (by omega)]; rfl
       · rw [hy] at hx; injection hx with hx; subst hx; rw [hEE] at he
         rcases hem with ⟨rfl, h14⟩ | ⟨rfl, h0, q1, q2, q3, _, q5⟩
         · rw [if_pos h14] at he; cases he
         · exact ⟨q1, q2, by rw [q3, el1], q5⟩)
 ·
  obtain ⟨y, hy⟩ := Option.isSome_iff_exists.1 c3
  have hln := hxe y hy
  subst hln
  refine JC_skip ?_
  refine thenQ_n ?_
  refine JC_cutG (γ := AG) (fun _ => []) [_] rfl (fun g => HA ba bm t.cells A n c g L) (fun g tw => AGok g ∧ g.w = w ∧ g.r = r ∧ g.l = addL w l ⟨xl, xo, xh, xn, (xk : Int)⟩ ∧ (¬ xl = [] → labAt l xl = none)) (fun _ _ _ h hl => h) ?_ ?_
  ·
   refine JC_seq ?_
   refine JC_region ?_
   refine JO_q (QE_fa0 rfl rfl rfl rfl) rfl ?_
   refine JO_q (QE_ld1 0 rfl rfl rfl rfl rfl) rfl ?_
   refine JO_q (QE_sne rfl rfl) rfl ?_
   refine JO_nil ?_
   refine thenQ_n ?_
   refine JC_ifN rfl (fun c5 => ?_) (fun c5 => ?_)
   ·
    have hxl := c5
    refine JC_seq ?_
    refine JC_seq ?_
    refine JC_draw drawsMixed 12 rfl _ (fun _ h => h) ?_
    intro s6 h6
    refine JA_q 0 rfl (by kernel_rfl) (by kernel_rfl) (by kernel_rfl) trivial (QE_mv rfl) rfl ?_
    refine JA_q 1 rfl (by kernel_rfl) (by kernel_rfl) (by kernel_rfl) trivial (QE_nil rfl) rfl ?_
    refine JA_q 2 rfl (by kernel_rfl) (by kernel_rfl) (by kernel_rfl) trivial (QE_faB rfl rfl rfl rfl) rfl ?_
    refine JA_q 3 rfl (by kernel_rfl) (by kernel_rfl) (by kernel_rfl) trivial (QE_ld1 1 rfl rfl rfl rfl rfl) rfl ?_
    refine JA_q 4 rfl (by kernel_rfl) (by kernel_rfl) (by kernel_rfl) trivial (QE_fa0 rfl rfl rfl rfl) rfl ?_
    refine JA_q 5 rfl (by kernel_rfl) (by kernel_rfl) (by kernel_rfl) trivial (QE_ld1 0 rfl rfl rfl rfl rfl) rfl ?_
    refine JA_q 6 rfl (by kernel_rfl) (by kernel_rfl) (by kernel_rfl) trivial (QE_cast (QE_lookup2 KeyK.str 2 mapTyS rfl rfl rfl) (show Value.tuple #[(assoc es xl).getD (.int .u32 0), .bool (assoc es xl).isSome] = .tuple #[(assoc es xl).getD (.int .u32 0), .bool (labAt l xl).isSome] by rw [hE xl, Option.isSome_map])) rfl ?_
    refine JA_q 7 rfl (by kernel_rfl) (by kernel_rfl) (by kernel_rfl) trivial (QE_mv rfl) rfl ?_
    refine JA_q 8 rfl (by kernel_rfl) (by kernel_rfl) (by kernel_rfl) trivial (QE_ext rfl rfl) rfl ?_
    refine JA_q 9 rfl (by kernel_rfl) (by kernel_rfl) (by kernel_rfl) trivial (QE_ext rfl rfl) rfl ?_
    refine JA_q 10 rfl (by kernel_rfl) (by kernel_rfl) (by kernel_rfl) trivial (QE_as rfl) rfl ?_
    refine JA_q 11 rfl (by kernel_rfl) (by kernel_rfl) (by kernel_rfl) trivial (QE_as rfl) rfl ?_
    refine JA_done (by kernel_rfl) ?_
    refine thenQ_n ?_
    refine JC_seq ?_
    refine JC_region ?_
    refine JO_q (QE_mv rfl) rfl ?_
    refine JO_nil ?_
    refine thenQ_n ?_
    refine JC_if rfl (fun c7 => ?_) (fun c7 => ?_)
    ·
     have hrep := c7
     refine JC_seq ?_
     refine JC_region ?_
     refine JO_q (QE_as rfl) rfl ?_
     refine JO_nil ?_
     refine thenQ_n ?_
     refine JC_ret ?_
     refine thenQ_r ?_
     refine thenQ_r ?_
     refine retQ_mk [_] _ (.inr rfl) (.tmp rfl (.nil)) rfl (Le.trans (Le.trans h1 h2) h6) (fun sR hS2 => ?_)
     first
       | (refine ⟨(⟨.slice Aw w.length cw, Mw, .slice Al l.length cl, Ml, .slice Ar r.length cr, Mr, es, ck, w, l, r⟩ : AG), rfl, ?_, fun x hx => ?_⟩
          · rw [hno]; rfl
          · rw [hno] at hx; cases hx)
       | (refine ⟨(⟨.slice Aw w.length cw, Mw, .slice Al l.length cl, Ml, .slice Ar r.length cr, Mr, es, ck, w, l, r⟩ : AG), rfl, ?_, fun x hx he => ?_⟩
          · rw [hy, addE, if_pos ⟨hxl, hrep⟩]; rfl
          · rw [hy] at hx; injection hx with hx; subst hx; rw [addE, if_pos ⟨hxl, hrep⟩] at he; cases he)
       | (have hE8 := add_new (l := l) (x := ⟨xl, xo, xh, xn, (xk : Int)⟩) hnew
          refine ⟨g, rfl, ?_, fun x hx he => ?_⟩
          · rw [hy, addE, if_neg hE8, if_pos hxo]; rfl
          · rw [hy] at hx; injection hx with hx; subst hx
            refine ⟨hg1, ?_, ?_, ?_⟩
            · rw [ew1, addW, if_pos hxo]
            · rw [el1]
            · rw [er1, addR, if_pos hxo])
       | (have hE8 := add_new (l := l) (x := ⟨xl, xo, xh, xn, (xk : Int)⟩) hnew
          have hEE : addE t w l (some ⟨xl, xo, xh, xn, (xk : Int)⟩) = 12 := addE_12 hE8 hxo h83
          refine ⟨g, rfl, ?_, fun x hx he => ?_⟩
          · rw [hy, hEE]; rfl
          · rw [hy] at hx; injection hx with hx; subst hx; rw [hEE] at he; cases he)
       | (have hE8 := add_new (l := l) (x := ⟨xl, xo, xh, xn, (xk : Int)⟩) hnew
          have hoo := op_of (t := t) hye hyn
          have hEE : addE t w l (some ⟨xl, xo, xh, xn, (xk : Int)⟩) = 9 := addE_9 hE8 hxo h83 hoo h90
          refine ⟨g, rfl, ?_, fun x hx he => ?_⟩
          · rw [hy, hEE]; rfl
          · rw [hy] at hx; injection hx with hx; subst hx; rw [hEE] at he; cases he)
       | (have hE8 := add_new (l := l) (x := ⟨xl, xo, xh, xn, (xk : Int)⟩) hnew
          have hoo := op_of (t := t) hye hyn
          have hEE : addE t w l (some ⟨xl, xo, xh, xn, (xk : Int)⟩) = 6 := addE_6 hE8 hxo h83 hoo h90 h99
          refine ⟨g, rfl, ?_, fun x hx he => ?_⟩
          · rw [hy, hEE]; rfl
          · rw [hy] at hx; injection hx with hx; subst hx; rw [hEE] at he; cases he)
       | (have hE8 := add_new (l := l) (x := ⟨xl, xo, xh, xn, (xk : Int)⟩) hnew
          have hoo := op_of (t := t) hye hyn
          have hcc := code_of (t := t) (w := w) (r := r) (i := num) (x := ⟨xl, xo, xh, xn, (xk : Int)⟩) hye h83 hxo
          have hEE : addE t w l (some ⟨xl, xo, xh, xn, (xk : Int)⟩) = if t.cells < ((addW t w ⟨xl, xo, xh, xn, (xk : Int)⟩).length : Int) then 14 else 0 := addE_0 hE8 hxo h83 hoo h90 h99
          rw [ew1, er1, hcc.1] at hem
          rw [hcc.2] at hem
          refine ⟨g', rfl, ?_, fun x hx he => ?_⟩
          · rw [hy, hEE]
            rcases hem with ⟨rfl, h14⟩ | ⟨rfl, h0, _⟩
            · rw [if_pos h14]; rfl
            · rw [if_neg (by omega)]; rfl
          · rw [hy] at hx; injection hx with hx; subst hx; rw [hEE] at he
            rcases hem with ⟨rfl, h14⟩ | ⟨rfl, h0, q1, q2, q3, _, q5⟩
            · rw [if_pos h14] at he; cases he
            · exact ⟨q1, q2, by rw [q3, el1], q5⟩)
    ·
     have hrep : labAt l xl = none := by simpa using c7
     refine JC_skip ?_
     refine thenQ_n ?_
     refine JC_seq ?_
     refine JC_drawE drawsMixed 13 rfl [2] (by intro x hx; exact eraseAll_mem hx) ?_
     intro s8 h8
     refine JA_q 0 rfl (by kernel_rfl) (by kernel_rfl) (by kernel_rfl) trivial (QE_mv rfl) rfl ?_
     refine JA_q 1 rfl (by kernel_rfl) (by kernel_rfl) (by kernel_rfl) trivial (QE_nil rfl) rfl ?_
     refine JA_q 2 rfl (by kernel_rfl) (by kernel_rfl) (by kernel_rfl) trivial (QE_faB rfl rfl rfl rfl) rfl ?_
     refine JA_q 3 rfl (by kernel_rfl) (by kernel_rfl) (by kernel_rfl) trivial (QE_ld1 1 rfl rfl rfl rfl rfl) rfl ?_
     refine JA_q 4 rfl (by kernel_rfl) (by kernel_rfl) (by kernel_rfl) trivial (QE_fa0 rfl rfl rfl rfl) rfl ?_
     refine JA_q 5 rfl (by kernel_rfl) (by kernel_rfl) (by kernel_rfl) trivial (QE_ld1 0 rfl rfl rfl rfl rfl) rfl ?_
     refine JA_q 6 rfl (by kernel_rfl) (by kernel_rfl) (by kernel_rfl) trivial (QE_mv rfl) rfl ?_
     refine JA_q 7 rfl (by kernel_rfl) (by kernel_rfl) (by kernel_rfl) trivial (QE_nil rfl) rfl ?_
     refine JA_q 8 rfl (by kernel_rfl) (by kernel_rfl) (by kernel_rfl) trivial (QE_faB rfl rfl rfl rfl) rfl ?_
     refine JA_q 9 rfl (by kernel_rfl) (by kernel_rfl) (by kernel_rfl) trivial (QE_ld1 1 rfl rfl rfl rfl rfl) rfl ?_
     refine JA_q 10 rfl (by kernel_rfl) (by kernel_rfl) (by kernel_rfl) trivial (QE_lenS rfl rfl rfl) rfl ?_
     refine JA_q 11 rfl (by kernel_rfl) (by kernel_rfl) (by kernel_rfl) trivial (QE_conv' rfl rfl rfl rfl rfl (wrap_small (by omega))) rfl ?_
     refine JA_1 12 (by kernel_rfl) ?_
     refine JB_mupd KeyK.str rfl trivial 2 mapTyS rfl rfl rfl rfl (fun x hx => hx) ?_
     intro ck1
     simp only [setL]
     refine JA_done (by kernel_rfl) ?_
     refine thenQ_n ?_
     refine JC_drawT drawsMixed 19 rfl 1 ?_
     intro s10 h10
     refine JA_q 0 rfl (by kernel_rfl) (by kernel_rfl) (by kernel_rfl) trivial (QE_mv rfl) rfl ?_
     refine JA_q 1 rfl (by kernel_rfl) (by kernel_rfl) (by kernel_rfl) trivial (QE_mv rfl) rfl ?_
     refine JA_q 2 rfl (by kernel_rfl) (by kernel_rfl) (by kernel_rfl) trivial (QE_nil rfl) rfl ?_
     refine JA_q 3 rfl (by kernel_rfl) (by kernel_rfl) (by kernel_rfl) trivial (QE_faB rfl rfl rfl rfl) rfl ?_
     refine JA_q 5 rfl (by kernel_rfl) (by kernel_rfl) (by kernel_rfl) trivial (QE_fa0 rfl rfl rfl rfl) rfl ?_
     refine JA_q 6 rfl (by kernel_rfl) (by kernel_rfl) (by kernel_rfl) trivial (QE_ld1 0 rfl rfl rfl rfl rfl) rfl ?_
     refine JA_q 7 rfl (by kernel_rfl) (by kernel_rfl) (by kernel_rfl) trivial (QE_mv rfl) rfl ?_
     refine JA_q 8 rfl (by kernel_rfl) (by kernel_rfl) (by kernel_rfl) trivial (QE_nil rfl) rfl ?_
     refine JA_q 9 rfl (by kernel_rfl) (by kernel_rfl) (by kernel_rfl) trivial (QE_faB rfl rfl rfl rfl) rfl ?_
     refine JA_2 4 10 (by kernel_rfl) ?_ ?_
     ·
      refine JB_q rfl trivial (QE_ld1 1 rfl rfl rfl rfl rfl) rfl ?_
      refine JA_1 10 (by kernel_rfl) ?_
      refine JB_q rfl trivial (QE_ld1 1 rfl rfl rfl rfl rfl) rfl ?_
      refine JA_q 11 rfl (by kernel_rfl) (by kernel_rfl) (by kernel_rfl) trivial (QE_lenS rfl rfl rfl) rfl ?_
      refine JA_q 12 rfl (by kernel_rfl) (by kernel_rfl) (by kernel_rfl) trivial (QE_conv' rfl rfl rfl rfl rfl (wrap_small (by omega))) rfl ?_
      refine JA_q 13 rfl (by kernel_rfl) (by kernel_rfl) (by kernel_rfl) trivial (QE_build [(_, _), (_, _)] [_, _] rfl rfl rfl rfl rfl rfl) rfl ?_
      refine JA_1 14 (by kernel_rfl) ?_
      refine JB_bs rfl trivial [(_, _)] [_, _] rfl rfl rfl rfl rfl rfl rfl rfl rfl ?_
      intro βn s11 h11 hcb
      refine JA_1 15 (by kernel_rfl) ?_
      refine JB_app (sz := 2) rfl trivial (_ :: _ :: _ :: Mw) Ml _ rfl rfl rfl rfl rfl rfl rfl hOl (Row.of_cells (hcb.le (Le.refl (D := D) _)) rfl rfl) ⟨by simp [ti94]; omega, by omega⟩ rfl (fun A2 x hx _ => memK1 hx) ?_
      intro v1 M1 s12 h12 o1
      obtain ⟨Av1, cv1, rfl, kv1, kv12⟩ := Own.slice o1
      simp only [List.cons_append, List.nil_append, List.append_assoc]
      refine JA_q 16 rfl (by kernel_rfl) (by kernel_rfl) (by kernel_rfl) trivial (QE_nil rfl) rfl ?_
      refine JA_q 17 rfl (by kernel_rfl) (by kernel_rfl) (by kernel_rfl) trivial (QE_faB rfl rfl rfl rfl) rfl ?_
      refine JA_1 18 (by kernel_rfl) ?_
      refine JB_st rfl trivial 1 [_, _, _, _, _, _] rfl rfl rfl rfl rfl rfl rfl rfl rfl (fun _ hx => sub_mem (sbY (sb0 _)) hx) ?_
      refine JA_done (by kernel_rfl) ?_
      refine thenQ_n (MidG.mk ⟨_, Mw, _, M1, _, Mr, mset es xl (.int .u32 (w.length : Int)) ck, ck1, w, l ++ [(xl, (w.length : Int))], r⟩ [] (Le.trans (Le.trans (Le.trans (Le.trans h6 h8) h10) h11) h12) (Keeps.nil _) (by repeat (first | exact SufO.refl | refine SufO.push rfl ?_)) (List.Perm.refl _) (by first | exact ⟨ag_lab (ck := ck1) hg0 o1 (u32N (by omega)) hrep, rfl, rfl, (if_neg hxl).symm, fun _ => hrep⟩ | exact ⟨hg0, rfl, rfl, (if_pos hxl).symm, fun h => absurd hxl h⟩))
     ·
      refine JB_q rfl trivial (QE_ld1 1 rfl rfl rfl rfl rfl) rfl ?_
      refine JA_q 11 rfl (by kernel_rfl) (by kernel_rfl) (by kernel_rfl) trivial (QE_lenS rfl rfl rfl) rfl ?_
      refine JA_q 12 rfl (by kernel_rfl) (by kernel_rfl) (by kernel_rfl) trivial (QE_conv' rfl rfl rfl rfl rfl (wrap_small (by omega))) rfl ?_
      refine JA_q 13 rfl (by kernel_rfl) (by kernel_rfl) (by kernel_rfl) trivial (QE_build [(_, _), (_, _)] [_, _] rfl rfl rfl rfl rfl rfl) rfl ?_
      refine JA_2 4 14 (by kernel_rfl) ?_ ?_
      ·
       refine JB_q rfl trivial (QE_ld1 1 rfl rfl rfl rfl rfl) rfl ?_
       refine JA_1 14 (by kernel_rfl) ?_
       refine JB_bs rfl trivial [(_, _)] [_, _] rfl rfl rfl rfl rfl rfl rfl rfl rfl ?_
       intro βn s13 h13 hcb
       refine JA_1 15 (by kernel_rfl) ?_
       refine JB_app (sz := 2) rfl trivial (_ :: _ :: _ :: Mw) Ml _ rfl rfl rfl rfl rfl rfl rfl hOl (Row.of_cells (hcb.le (Le.refl (D := D) _)) rfl rfl) ⟨by simp [ti94]; omega, by omega⟩ rfl (fun A2 x hx _ => memK1 hx) ?_
       intro v1 M1 s14 h14 o1
       obtain ⟨Av1, cv1, rfl, kv1, kv12⟩ := Own.slice o1
       simp only [List.cons_append, List.nil_append, List.append_assoc]
       refine JA_q 16 rfl (by kernel_rfl) (by kernel_rfl) (by kernel_rfl) trivial (QE_nil rfl) rfl ?_
       refine JA_q 17 rfl (by kernel_rfl) (by kernel_rfl) (by kernel_rfl) trivial (QE_faB rfl rfl rfl rfl) rfl ?_
       refine JA_1 18 (by kernel_rfl) ?_
       refine JB_st rfl trivial 1 [_, _, _, _, _, _] rfl rfl rfl rfl rfl rfl rfl rfl rfl (fun _ hx => sub_mem (sbY (sb0 _)) hx) ?_
       refine JA_done (by kernel_rfl) ?_
       refine thenQ_n (MidG.mk ⟨_, Mw, _, M1, _, Mr, mset es xl (.int .u32 (w.length : Int)) ck, ck1, w, l ++ [(xl, (w.length : Int))], r⟩ [] (Le.trans (Le.trans (Le.trans (Le.trans h6 h8) h10) h13) h14) (Keeps.nil _) (by repeat (first | exact SufO.refl | refine SufO.push rfl ?_)) (List.Perm.refl _) (by first | exact ⟨ag_lab (ck := ck1) hg0 o1 (u32N (by omega)) hrep, rfl, rfl, (if_neg hxl).symm, fun _ => hrep⟩ | exact ⟨hg0, rfl, rfl, (if_pos hxl).symm, fun h => absurd hxl h⟩))
      ·
       refine JB_bs rfl trivial [(_, _)] [_, _] rfl rfl rfl rfl rfl rfl rfl rfl rfl ?_
       intro βn s15 h15 hcb
       refine JA_1 4 (by kernel_rfl) ?_
       refine JB_q rfl trivial (QE_ld1 1 rfl rfl rfl rfl rfl) rfl ?_
       refine JA_1 15 (by kernel_rfl) ?_
       refine JB_app (sz := 2) rfl trivial (_ :: _ :: _ :: Mw) Ml _ rfl rfl rfl rfl rfl rfl rfl hOl (Row.of_cells (hcb.le (Le.refl (D := D) _)) rfl rfl) ⟨by simp [ti94]; omega, by omega⟩ rfl (fun A2 x hx _ => memK1 hx) ?_
       intro v1 M1 s16 h16 o1
       obtain ⟨Av1, cv1, rfl, kv1, kv12⟩ := Own.slice o1
       simp only [List.cons_append, List.nil_append, List.append_assoc]
       refine JA_q 16 rfl (by kernel_rfl) (by kernel_rfl) (by kernel_rfl) trivial (QE_nil rfl) rfl ?_
       refine JA_q 17 rfl (by kernel_rfl) (by kernel_rfl) (by kernel_rfl) trivial (QE_faB rfl rfl rfl rfl) rfl ?_
       refine JA_1 18 (by kernel_rfl) ?_
       refine JB_st rfl trivial 1 [_, _, _, _, _, _] rfl rfl rfl rfl rfl rfl rfl rfl rfl (fun _ hx => sub_mem (sbY (sb0 _)) hx) ?_
       refine JA_done (by kernel_rfl) ?_
       refine thenQ_n (MidG.mk ⟨_, Mw, _, M1, _, Mr, mset es xl (.int .u32 (w.length : Int)) ck, ck1, w, l ++ [(xl, (w.length : Int))], r⟩ [] (Le.trans (Le.trans (Le.trans (Le.trans h6 h8) h10) h15) h16) (Keeps.nil _) (by repeat (first | exact SufO.refl | refine SufO.push rfl ?_)) (List.Perm.refl _) (by first | exact ⟨ag_lab (ck := ck1) hg0 o1 (u32N (by omega)) hrep, rfl, rfl, (if_neg hxl).symm, fun _ => hrep⟩ | exact ⟨hg0, rfl, rfl, (if_pos hxl).symm, fun h => absurd hxl h⟩))
   ·
    have hxl := c5
    refine JC_skip ?_
    refine thenQ_n (MidG.mk ⟨_, Mw, _, Ml, _, Mr, es, ck, w, l, r⟩ [] (Le.refl (D := D) _) (Keeps.nil _) (by repeat (first | exact SufO.refl | refine SufO.push rfl ?_)) (List.Perm.refl _) (by first | exact ⟨ag_lab (ck := ck1) hg0 o1 (u32N (by omega)) hrep, rfl, rfl, (if_neg hxl).symm, fun _ => hrep⟩ | exact ⟨hg0, rfl, rfl, (if_pos hxl).symm, fun h => absurd hxl h⟩))
  intro g s4 h4 I4
  simp only [List.cons_append, List.nil_append]
  obtain ⟨hg1, ew1, er1, el1, hnew⟩ := I4
  refine JC_seq ?_
  refine JC_seq ?_
  refine JC_region ?_
  refine JO_q (QE_faB rfl rfl rfl rfl) rfl ?_
  refine JO_q (QE_ld1 0 rfl rfl rfl rfl rfl) rfl ?_
  refine JO_q (QE_seq rfl rfl) rfl ?_
  refine JO_nil ?_
  refine thenQ_n ?_
  refine JC_ifD rfl (fun c17 => ?_) (fun c17 => ?_)
  ·
   have hxo := c17
   refine JC_seq ?_
   refine JC_region ?_
   refine JO_q (QE_as rfl) rfl ?_
   refine JO_nil ?_
   refine thenQ_n ?_
   refine JC_ret ?_
   refine thenQ_r ?_
   refine retQ_mk [_] _ (.inr rfl) (.tmp rfl (.nil)) rfl (Le.trans (Le.trans h1 h2) h4) (fun sR hS2 => ?_)
   first
     | (refine ⟨(⟨.slice Aw w.length cw, Mw, .slice Al l.length cl, Ml, .slice Ar r.length cr, Mr, es, ck, w, l, r⟩ : AG), rfl, ?_, fun x hx => ?_⟩
        · rw [hno]; rfl
        · rw [hno] at hx; cases hx)
     | (refine ⟨(⟨.slice Aw w.length cw, Mw, .slice Al l.length cl, Ml, .slice Ar r.length cr, Mr, es, ck, w, l, r⟩ : AG), rfl, ?_, fun x hx he => ?_⟩
        · rw [hy, addE, if_pos ⟨hxl, hrep⟩]; rfl
        · rw [hy] at hx; injection hx with hx; subst hx; rw [addE, if_pos ⟨hxl, hrep⟩] at he; cases he)
     | (have hE8 := add_new (l := l) (x := ⟨xl, xo, xh, xn, (xk : Int)⟩) hnew
        refine ⟨g, rfl, ?_, fun x hx he => ?_⟩
        · rw [hy, addE, if_neg hE8, if_pos hxo]; rfl
        · rw [hy] at hx; injection hx with hx; subst hx
          refine ⟨hg1, ?_, ?_, ?_⟩
          · rw [ew1, addW, if_pos hxo]
          · rw [el1]
          · rw [er1, addR, if_pos hxo])
     | (have hE8 := add_new (l := l) (x := ⟨xl, xo, xh, xn, (xk : Int)⟩) hnew
        have hEE : addE t w l (some ⟨xl, xo, xh, xn, (xk : Int)⟩) = 12 := addE_12 hE8 hxo h83
        refine ⟨g, rfl, ?_, fun x hx he => ?_⟩
        · rw [hy, hEE]; rfl
        · rw [hy] at hx; injection hx with hx; subst hx; rw [hEE] at he; cases he)
     | (have hE8 := add_new (l := l) (x := ⟨xl, xo, xh, xn, (xk : Int)⟩) hnew
        have hoo := op_of (t := t) hye hyn
        have hEE : addE t w l (some ⟨xl, xo, xh, xn, (xk : Int)⟩) = 9 := addE_9 hE8 hxo h83 hoo h90
        refine ⟨g, rfl, ?_, fun x hx he => ?_⟩
        · rw [hy, hEE]; rfl
        · rw [hy] at hx; injection hx with hx; subst hx; rw [hEE] at he; cases he)
     | (have hE8 := add_new (l := l) (x := ⟨xl, xo, xh, xn, (xk : Int)⟩) hnew
        have hoo := op_of (t := t) hye hyn
        have hEE : addE t w l (some ⟨xl, xo, xh, xn, (xk : Int)⟩) = 6 := addE_6 hE8 hxo h83 hoo h90 h99
        refine ⟨g, rfl, ?_, fun x hx he => ?_⟩
        · rw [hy, hEE]; rfl
        · rw [hy] at hx; injection hx with hx; subst hx; rw [hEE] at he; cases he)
     | (have hE8 := add_new (l := l) (x := ⟨xl, xo, xh, xn, (xk : Int)⟩) hnew
        have hoo := op_of (t := t) hye hyn
        have hcc := code_of (t := t) (w := w) (r := r) (i := num) (x := ⟨xl, xo, xh, xn, (xk : Int)⟩) hye h83 hxo
        have hEE : addE t w l (some ⟨xl, xo, xh, xn, (xk : Int)⟩) = if t.cells < ((addW t w ⟨xl, xo, xh, xn, (xk : Int)⟩).length : Int) then 14 else 0 := addE_0 hE8 hxo h83 hoo h90 h99
        rw [ew1, er1, hcc.1] at hem
        rw [hcc.2] at hem
        refine ⟨g', rfl, ?_, fun x hx he => ?_⟩
        · rw [hy, hEE]
          rcases hem with ⟨rfl, h14⟩ | ⟨rfl, h0, _⟩
          · rw [if_pos h14]; rfl
          · rw [if_neg (by omega)]; rfl
        · rw [hy] at hx; injection hx with hx; subst hx; rw [hEE] at he
          rcases hem with ⟨rfl, h14⟩ | ⟨rfl, h0, q1, q2, q3, _, q5⟩
          · rw [if_pos h14] at he; cases he
          · exact ⟨q1, q2, by rw [q3, el1], q5⟩)
  ·
   have hxo := c17
   refine JC_skip ?_
   refine thenQ_n ?_
   refine JC_cutB 11 ((xo = [119, 111, 114, 100] ∨ xo = [115, 112, 97, 99, 101])) ?_ ?_
   ·
    refine JC_region ?_
    refine JO_q (QE_faB rfl rfl rfl rfl) rfl ?_
    refine JO_q (QE_ld1 0 rfl rfl rfl rfl rfl) rfl ?_
    refine JO_q (QE_seq rfl rfl) rfl ?_
    refine JO_q (QE_mv rfl) rfl ?_
    refine JO_caseD (t := 71) rfl (fun c19 => ?_) (fun c19 => ?_)
    ·
     refine JO_gF rfl rfl rfl rfl ?_
     refine JO_gF rfl rfl rfl rfl ?_
     refine JO_gF rfl rfl rfl rfl ?_
     refine JO_q (QE_pickT rfl rfl) rfl ?_
     refine JO_q (QE_as rfl) rfl ?_
     refine JO_nil ?_
     refine thenQ_n (MidB.mk (Le.refl (D := D) _) (by repeat (first | exact Suf.refl | refine Suf.push rfl ?_)) rfl ((decide_eq_true (by first | exact .inl (by assumption) | exact .inr (by assumption))).symm))
    ·
     refine JO_gT rfl rfl ?_
     refine JO_q (QE_faB rfl rfl rfl rfl) rfl ?_
     refine JO_gT rfl rfl ?_
     refine JO_q (QE_ld1 0 rfl rfl rfl rfl rfl) rfl ?_
     refine JO_gT rfl rfl ?_
     refine JO_q (QE_seq rfl rfl) rfl ?_
     refine JO_q (QE_pickF rfl rfl) rfl ?_
     refine JO_q (QE_as rfl) rfl ?_
     refine JO_nil ?_
     refine thenQ_n (MidB.mk (Le.refl (D := D) _) (by repeat (first | exact Suf.refl | refine Suf.push rfl ?_)) rfl (decide_eq_decide.2 (⟨fun h => .inr h, fun h => h.resolve_left (by assumption)⟩)))
   ·
    intro s18 h18
    refine JC_seq ?_
    refine JC_region ?_
    refine JO_q (QE_mv rfl) rfl ?_
    refine JO_q (QE_faB rfl rfl rfl rfl) rfl ?_
    refine JO_q (QE_ld1 0 rfl rfl rfl rfl rfl) rfl ?_
    refine JO_call (first := []) (captured := []) rfl rfl rfl (findB_ac D L _ _ ba bm t A n c (hA.le (Le.trans (Le.trans (Le.trans h1 h2) h4) h18)) g xo) ?_
    rintro _ _ s20 h20 ⟨rfl, ⟨yn, yc, yo, ya⟩, Ay, ny, cy, rfl, hyu, hye, hyn⟩
    refine JO_q (QE_mv rfl) rfl ?_
    refine JO_q (QE_ext rfl rfl) rfl ?_
    refine JO_q (QE_ext rfl rfl) rfl ?_
    refine JO_allocZ rfl [_, _, _, _] rfl rfl ?_
    intro β21 s21 h21
    refine JO_st 0 [_, _, _, _] rfl rfl rfl rfl rfl rfl rfl rfl rfl ?_
    refine JO_q (QE_as rfl) rfl ?_
    refine JO_nil ?_
    refine thenQ_n ?_
    refine JC_seq ?_
    refine JC_block ?_
    refine JC_cutB 83 ((findN t.ins xo).isSome = false ∧ ¬ (xo = [119, 111, 114, 100] ∨ xo = [115, 112, 97, 99, 101])) ?_ ?_
    ·
     refine JC_region ?_
     refine JO_q (QE_mv rfl) rfl ?_
     refine JO_q (QE_not rfl) rfl ?_
     refine JO_q (QE_mv rfl) rfl ?_
     refine JO_caseM (t := 86) rfl (fun c23 => ?_) (fun c23 => ?_)
     ·
      refine JO_gT rfl rfl ?_
      refine JO_q (QE_mv rfl) rfl ?_
      refine JO_gT rfl rfl ?_
      refine JO_q (QE_not rfl) rfl ?_
      refine JO_q (QE_pickT rfl rfl) rfl ?_
      refine JO_q (QE_as rfl) rfl ?_
      refine JO_nil ?_
      refine thenQ_n (MidB.mk (Le.refl (D := D) _) (by repeat (first | exact Suf.refl | refine Suf.push rfl ?_)) rfl (ndec_eq ((by first | exact fun h => absurd h.1 (by rw [show (findN t.ins xo).isSome = true by assumption]; decide) | exact ⟨fun h => h.2, fun h => ⟨by assumption, h⟩⟩))))
     ·
      refine JO_gF rfl rfl rfl rfl ?_
      refine JO_gF rfl rfl rfl rfl ?_
      refine JO_q (QE_pickF rfl rfl) rfl ?_
      refine JO_q (QE_as rfl) rfl ?_
      refine JO_nil ?_
      refine thenQ_n (MidB.mk (Le.refl (D := D) _) (by repeat (first | exact Suf.refl | refine Suf.push rfl ?_)) rfl ((decide_eq_false ((by first | exact fun h => absurd h.1 (by rw [show (findN t.ins xo).isSome = true by assumption]; decide) | exact ⟨fun h => h.2, fun h => ⟨by assumption, h⟩⟩))).symm))
    ·
     intro s22 h22
     refine JC_ifD rfl (fun c24 => ?_) (fun c24 => ?_)
     ·
      have h83 := c24
      refine JC_seq ?_
      refine JC_region ?_
      refine JO_q (QE_as rfl) rfl ?_
      refine JO_nil ?_
      refine thenQ_n ?_
      refine JC_ret ?_
      refine blockQ_r ?_
      refine thenQ_r ?_
      refine retQ_mk [_, _] _ (.inr rfl) (.tmp rfl (.nil)) rfl (Le.trans (Le.trans (Le.trans (Le.trans (Le.trans (Le.trans h1 h2) h4) h18) h20) h21) h22) (fun sR hS2 => ?_)
      first
        | (refine ⟨(⟨.slice Aw w.length cw, Mw, .slice Al l.length cl, Ml, .slice Ar r.length cr, Mr, es, ck, w, l, r⟩ : AG), rfl, ?_, fun x hx => ?_⟩
           · rw [hno]; rfl
           · rw [hno] at hx; cases hx)
        | (refine ⟨(⟨.slice Aw w.length cw, Mw, .slice Al l.length cl, Ml, .slice Ar r.length cr, Mr, es, ck, w, l, r⟩ : AG), rfl, ?_, fun x hx he => ?_⟩
           · rw [hy, addE, if_pos ⟨hxl, hrep⟩]; rfl
           · rw [hy] at hx; injection hx with hx; subst hx; rw [addE, if_pos ⟨hxl, hrep⟩] at he; cases he)
        | (have hE8 := add_new (l := l) (x := ⟨xl, xo, xh, xn, (xk : Int)⟩) hnew
           refine ⟨g, rfl, ?_, fun x hx he => ?_⟩
           · rw [hy, addE, if_neg hE8, if_pos hxo]; rfl
           · rw [hy] at hx; injection hx with hx; subst hx
             refine ⟨hg1, ?_, ?_, ?_⟩
             · rw [ew1, addW, if_pos hxo]
             · rw [el1]
             · rw [er1, addR, if_pos hxo])
        | (have hE8 := add_new (l := l) (x := ⟨xl, xo, xh, xn, (xk : Int)⟩) hnew
           have hEE : addE t w l (some ⟨xl, xo, xh, xn, (xk : Int)⟩) = 12 := addE_12 hE8 hxo h83
           refine ⟨g, rfl, ?_, fun x hx he => ?_⟩
           · rw [hy, hEE]; rfl
           · rw [hy] at hx; injection hx with hx; subst hx; rw [hEE] at he; cases he)
        | (have hE8 := add_new (l := l) (x := ⟨xl, xo, xh, xn, (xk : Int)⟩) hnew
           have hoo := op_of (t := t) hye hyn
           have hEE : addE t w l (some ⟨xl, xo, xh, xn, (xk : Int)⟩) = 9 := addE_9 hE8 hxo h83 hoo h90
           refine ⟨g, rfl, ?_, fun x hx he => ?_⟩
           · rw [hy, hEE]; rfl
           · rw [hy] at hx; injection hx with hx; subst hx; rw [hEE] at he; cases he)
        | (have hE8 := add_new (l := l) (x := ⟨xl, xo, xh, xn, (xk : Int)⟩) hnew
           have hoo := op_of (t := t) hye hyn
           have hEE : addE t w l (some ⟨xl, xo, xh, xn, (xk : Int)⟩) = 6 := addE_6 hE8 hxo h83 hoo h90 h99
           refine ⟨g, rfl, ?_, fun x hx he => ?_⟩
           · rw [hy, hEE]; rfl
           · rw [hy] at hx; injection hx with hx; subst hx; rw [hEE] at he; cases he)
        | (have hE8 := add_new (l := l) (x := ⟨xl, xo, xh, xn, (xk : Int)⟩) hnew
           have hoo := op_of (t := t) hye hyn
           have hcc := code_of (t := t) (w := w) (r := r) (i := num) (x := ⟨xl, xo, xh, xn, (xk : Int)⟩) hye h83 hxo
           have hEE : addE t w l (some ⟨xl, xo, xh, xn, (xk : Int)⟩) = if t.cells < ((addW t w ⟨xl, xo, xh, xn, (xk : Int)⟩).length : Int) then 14 else 0 := addE_0 hE8 hxo h83 hoo h90 h99
           rw [ew1, er1, hcc.1] at hem
           rw [hcc.2] at hem
           refine ⟨g', rfl, ?_, fun x hx he => ?_⟩
           · rw [hy, hEE]
             rcases hem with ⟨rfl, h14⟩ | ⟨rfl, h0, _⟩
             · rw [if_pos h14]; rfl
             · rw [if_neg (by omega)]; rfl
           · rw [hy] at hx; injection hx with hx; subst hx; rw [hEE] at he
             rcases hem with ⟨rfl, h14⟩ | ⟨rfl, h0, q1, q2, q3, _, q5⟩
             · rw [if_pos h14] at he; cases he
             · exact ⟨q1, q2, by rw [q3, el1], q5⟩)
     ·
      have h83 := c24
      refine JC_cutB 90 (¬ xh = (decide (xo = [119, 111, 114, 100] ∨ xo = [115, 112, 97, 99, 101]) || yo)) ?_ ?_
      ·
       refine JC_region ?_
       refine JO_q (QE_faB rfl rfl rfl rfl) rfl ?_
       refine JO_q (QE_ld1 1 rfl rfl rfl rfl rfl) rfl ?_
       refine JO_q (QE_mv rfl) rfl ?_
       refine JO_q (QE_mv rfl) rfl ?_
       refine JO_caseD (t := 94) rfl (fun c26 => ?_) (fun c26 => ?_)
       ·
        refine JO_gF rfl rfl rfl rfl ?_
        refine JO_gF rfl rfl rfl rfl ?_
        refine JO_q (QE_pickT rfl rfl) rfl ?_
        refine JO_q (QE_bne rfl rfl rfl rfl) rfl ?_
        refine JO_q (QE_as rfl) rfl ?_
        refine JO_nil ?_
        refine thenQ_n (MidB.mk (Le.refl (D := D) _) (by repeat (first | exact Suf.refl | refine Suf.push rfl ?_)) rfl (ndec_eq ((by first | rw [decide_eq_true (show (xo = [119, 111, 114, 100] ∨ xo = [115, 112, 97, 99, 101]) by assumption), Bool.true_or] | rw [decide_eq_false (show ¬ (xo = [119, 111, 114, 100] ∨ xo = [115, 112, 97, 99, 101]) by assumption), Bool.false_or]))))
       ·
        refine JO_gT rfl rfl ?_
        refine JO_q (QE_faB rfl rfl rfl rfl) rfl ?_
        refine JO_gT rfl rfl ?_
        refine JO_q (QE_ld1 0 rfl rfl rfl rfl rfl) rfl ?_
        refine JO_q (QE_pickF rfl rfl) rfl ?_
        refine JO_q (QE_bne rfl rfl rfl rfl) rfl ?_
        refine JO_q (QE_as rfl) rfl ?_
        refine JO_nil ?_
        refine thenQ_n (MidB.mk (Le.refl (D := D) _) (by repeat (first | exact Suf.refl | refine Suf.push rfl ?_)) rfl (ndec_eq ((by first | rw [decide_eq_true (show (xo = [119, 111, 114, 100] ∨ xo = [115, 112, 97, 99, 101]) by assumption), Bool.true_or] | rw [decide_eq_false (show ¬ (xo = [119, 111, 114, 100] ∨ xo = [115, 112, 97, 99, 101]) by assumption), Bool.false_or]))))
      ·
       intro s25 h25
       refine JC_ifD rfl (fun c27 => ?_) (fun c27 => ?_)
       ·
        have h90 := c27
        refine JC_seq ?_
        refine JC_region ?_
        refine JO_q (QE_as rfl) rfl ?_
        refine JO_nil ?_
        refine thenQ_n ?_
        refine JC_ret ?_
        refine blockQ_r ?_
        refine thenQ_r ?_
        refine retQ_mk [_, _] _ (.inr rfl) (.tmp rfl (.nil)) rfl (Le.trans (Le.trans (Le.trans (Le.trans (Le.trans (Le.trans (Le.trans h1 h2) h4) h18) h20) h21) h22) h25) (fun sR hS2 => ?_)
        first
          | (refine ⟨(⟨.slice Aw w.length cw, Mw, .slice Al l.length cl, Ml, .slice Ar r.length cr, Mr, es, ck, w, l, r⟩ : AG), rfl, ?_, fun x hx => ?_⟩
             · rw [hno]; rfl
             · rw [hno] at hx; cases hx)
          | (refine ⟨(⟨.slice Aw w.length cw, Mw, .slice Al l.length cl, Ml, .slice Ar r.length cr, Mr, es, ck, w, l, r⟩ : AG), rfl, ?_, fun x hx he => ?_⟩
             · rw [hy, addE, if_pos ⟨hxl, hrep⟩]; rfl
             · rw [hy] at hx; injection hx with hx; subst hx; rw [addE, if_pos ⟨hxl, hrep⟩] at he; cases he)
          | (have hE8 := add_new (l := l) (x := ⟨xl, xo, xh, xn, (xk : Int)⟩) hnew
             refine ⟨g, rfl, ?_, fun x hx he => ?_⟩
             · rw [hy, addE, if_neg hE8, if_pos hxo]; rfl
             · rw [hy] at hx; injection hx with hx; subst hx
               refine ⟨hg1, ?_, ?_, ?_⟩
               · rw [ew1, addW, if_pos hxo]
               · rw [el1]
               · rw [er1, addR, if_pos hxo])
          | (have hE8 := add_new (l := l) (x := ⟨xl, xo, xh, xn, (xk : Int)⟩) hnew
             have hEE : addE t w l (some ⟨xl, xo, xh, xn, (xk : Int)⟩) = 12 := addE_12 hE8 hxo h83
             refine ⟨g, rfl, ?_, fun x hx he => ?_⟩
             · rw [hy, hEE]; rfl
             · rw [hy] at hx; injection hx with hx; subst hx; rw [hEE] at he; cases he)
          | (have hE8 := add_new (l := l) (x := ⟨xl, xo, xh, xn, (xk : Int)⟩) hnew
             have hoo := op_of (t := t) hye hyn
             have hEE : addE t w l (some ⟨xl, xo, xh, xn, (xk : Int)⟩) = 9 := addE_9 hE8 hxo h83 hoo h90
             refine ⟨g, rfl, ?_, fun x hx he => ?_⟩
             · rw [hy, hEE]; rfl
             · rw [hy] at hx; injection hx with hx; subst hx; rw [hEE] at he; cases he)
          | (have hE8 := add_new (l := l) (x := ⟨xl, xo, xh, xn, (xk : Int)⟩) hnew
             have hoo := op_of (t := t) hye hyn
             have hEE : addE t w l (some ⟨xl, xo, xh, xn, (xk : Int)⟩) = 6 := addE_6 hE8 hxo h83 hoo h90 h99
             refine ⟨g, rfl, ?_, fun x hx he => ?_⟩
             · rw [hy, hEE]; rfl
             · rw [hy] at hx; injection hx with hx; subst hx; rw [hEE] at he; cases he)
          | (have hE8 := add_new (l := l) (x := ⟨xl, xo, xh, xn, (xk : Int)⟩) hnew
             have hoo := op_of (t := t) hye hyn
             have hcc := code_of (t := t) (w := w) (r := r) (i := num) (x := ⟨xl, xo, xh, xn, (xk : Int)⟩) hye h83 hxo
             have hEE : addE t w l (some ⟨xl, xo, xh, xn, (xk : Int)⟩) = if t.cells < ((addW t w ⟨xl, xo, xh, xn, (xk : Int)⟩).length : Int) then 14 else 0 := addE_0 hE8 hxo h83 hoo h90 h99
             rw [ew1, er1, hcc.1] at hem
             rw [hcc.2] at hem
             refine ⟨g', rfl, ?_, fun x hx he => ?_⟩
             · rw [hy, hEE]
               rcases hem with ⟨rfl, h14⟩ | ⟨rfl, h0, _⟩
               · rw [if_pos h14]; rfl
               · rw [if_neg (by omega)]; rfl
             · rw [hy] at hx; injection hx with hx; subst hx; rw [hEE] at he
               rcases hem with ⟨rfl, h14⟩ | ⟨rfl, h0, q1, q2, q3, _, q5⟩
               · rw [if_pos h14] at he; cases he
               · exact ⟨q1, q2, by rw [q3, el1], q5⟩)
       ·
        have h90 := c27
        refine JC_cutB 99 (xo = [115, 112, 97, 99, 101] ∧ ¬ xn = []) ?_ ?_
        ·
         refine JC_region ?_
         refine JO_q (QE_faB rfl rfl rfl rfl) rfl ?_
         refine JO_q (QE_ld1 1 rfl rfl rfl rfl rfl) rfl ?_
         refine JO_q (QE_seq rfl rfl) rfl ?_
         refine JO_q (QE_mv rfl) rfl ?_
         refine JO_caseD (t := 103) rfl (fun c29 => ?_) (fun c29 => ?_)
         ·
          refine JO_gT rfl rfl ?_
          refine JO_q (QE_faB rfl rfl rfl rfl) rfl ?_
          refine JO_gT rfl rfl ?_
          refine JO_q (QE_fa0 rfl rfl rfl rfl) rfl ?_
          refine JO_gT rfl rfl ?_
          refine JO_q (QE_ld1 1 rfl rfl rfl rfl rfl) rfl ?_
          refine JO_gT rfl rfl ?_
          refine JO_q (QE_sne rfl rfl) rfl ?_
          refine JO_q (QE_pickT rfl rfl) rfl ?_
          refine JO_q (QE_as rfl) rfl ?_
          refine JO_nil ?_
          refine thenQ_n (MidB.mk (Le.refl (D := D) _) (by repeat (first | exact Suf.refl | refine Suf.push rfl ?_)) rfl (ndec_eq ((by first | exact fun h => absurd h.1 (by assumption) | exact ⟨fun h => h.2, fun h => ⟨by assumption, h⟩⟩))))
         ·
          refine JO_gF rfl rfl rfl rfl ?_
          refine JO_gF rfl rfl rfl rfl ?_
          refine JO_gF rfl rfl rfl rfl ?_
          refine JO_gF rfl rfl rfl rfl ?_
          refine JO_q (QE_pickF rfl rfl) rfl ?_
          refine JO_q (QE_as rfl) rfl ?_
          refine JO_nil ?_
          refine thenQ_n (MidB.mk (Le.refl (D := D) _) (by repeat (first | exact Suf.refl | refine Suf.push rfl ?_)) rfl ((decide_eq_false ((by first | exact fun h => absurd h.1 (by assumption) | exact ⟨fun h => h.2, fun h => ⟨by assumption, h⟩⟩))).symm))
        ·
         intro s28 h28
         refine JC_ifD rfl (fun c30 => ?_) (fun c30 => ?_)
         ·
          have h99 := c30
          refine JC_seq ?_
          refine JC_region ?_
          refine JO_q (QE_as rfl) rfl ?_
          refine JO_nil ?_
          refine thenQ_n ?_
          refine JC_ret ?_
          refine blockQ_r ?_
          refine thenQ_r ?_
          refine retQ_mk [_, _] _ (.inr rfl) (.tmp rfl (.nil)) rfl (Le.trans (Le.trans (Le.trans (Le.trans (Le.trans (Le.trans (Le.trans (Le.trans h1 h2) h4) h18) h20) h21) h22) h25) h28) (fun sR hS2 => ?_)
          first
            | (refine ⟨(⟨.slice Aw w.length cw, Mw, .slice Al l.length cl, Ml, .slice Ar r.length cr, Mr, es, ck, w, l, r⟩ : AG), rfl, ?_, fun x hx => ?_⟩
               · rw [hno]; rfl
               · rw [hno] at hx; cases hx)
            | (refine ⟨(⟨.slice Aw w.length cw, Mw, .slice Al l.length cl, Ml, .slice Ar r.length cr, Mr, es, ck, w, l, r⟩ : AG), rfl, ?_, fun x hx he => ?_⟩
               · rw [hy, addE, if_pos ⟨hxl, hrep⟩]; rfl
               · rw [hy] at hx; injection hx with hx; subst hx; rw [addE, if_pos ⟨hxl, hrep⟩] at he; cases he)
            | (have hE8 := add_new (l := l) (x := ⟨xl, xo, xh, xn, (xk : Int)⟩) hnew
               refine ⟨g, rfl, ?_, fun x hx he => ?_⟩
               · rw [hy, addE, if_neg hE8, if_pos hxo]; rfl
               · rw [hy] at hx; injection hx with hx; subst hx
                 refine ⟨hg1, ?_, ?_, ?_⟩
                 · rw [ew1, addW, if_pos hxo]
                 · rw [el1]
                 · rw [er1, addR, if_pos hxo])
            | (have hE8 := add_new (l := l) (x := ⟨xl, xo, xh, xn, (xk : Int)⟩) hnew
               have hEE : addE t w l (some ⟨xl, xo, xh, xn, (xk : Int)⟩) = 12 := addE_12 hE8 hxo h83
               refine ⟨g, rfl, ?_, fun x hx he => ?_⟩
               · rw [hy, hEE]; rfl
               · rw [hy] at hx; injection hx with hx; subst hx; rw [hEE] at he; cases he)
            | (have hE8 := add_new (l := l) (x := ⟨xl, xo, xh, xn, (xk : Int)⟩) hnew
               have hoo := op_of (t := t) hye hyn
               have hEE : addE t w l (some ⟨xl, xo, xh, xn, (xk : Int)⟩) = 9 := addE_9 hE8 hxo h83 hoo h90
               refine ⟨g, rfl, ?_, fun x hx he => ?_⟩
               · rw [hy, hEE]; rfl
               · rw [hy] at hx; injection hx with hx; subst hx; rw [hEE] at he; cases he)
            | (have hE8 := add_new (l := l) (x := ⟨xl, xo, xh, xn, (xk : Int)⟩) hnew
               have hoo := op_of (t := t) hye hyn
               have hEE : addE t w l (some ⟨xl, xo, xh, xn, (xk : Int)⟩) = 6 := addE_6 hE8 hxo h83 hoo h90 h99
               refine ⟨g, rfl, ?_, fun x hx he => ?_⟩
               · rw [hy, hEE]; rfl
               · rw [hy] at hx; injection hx with hx; subst hx; rw [hEE] at he; cases he)
            | (have hE8 := add_new (l := l) (x := ⟨xl, xo, xh, xn, (xk : Int)⟩) hnew
               have hoo := op_of (t := t) hye hyn
               have hcc := code_of (t := t) (w := w) (r := r) (i := num) (x := ⟨xl, xo, xh, xn, (xk : Int)⟩) hye h83 hxo
               have hEE : addE t w l (some ⟨xl, xo, xh, xn, (xk : Int)⟩) = if t.cells < ((addW t w ⟨xl, xo, xh, xn, (xk : Int)⟩).length : Int) then 14 else 0 := addE_0 hE8 hxo h83 hoo h90 h99
               rw [ew1, er1, hcc.1] at hem
               rw [hcc.2] at hem
               refine ⟨g', rfl, ?_, fun x hx he => ?_⟩
               · rw [hy, hEE]
                 rcases hem with ⟨rfl, h14⟩ | ⟨rfl, h0, _⟩
                 · rw [if_pos h14]; rfl
                 · rw [if_neg (by omega)]; rfl
               · rw [hy] at hx; injection hx with hx; subst hx; rw [hEE] at he
                 rcases hem with ⟨rfl, h14⟩ | ⟨rfl, h0, q1, q2, q3, _, q5⟩
                 · rw [if_pos h14] at he; cases he
                 · exact ⟨q1, q2, by rw [q3, el1], q5⟩)
         ·
          have h99 := c30
          refine JC_skip ?_
          refine blockQ_n ?_
          refine thenQ_n ?_
          refine JC_seq ?_
          refine JC_region ?_
          refine JO_q (QE_mv rfl) rfl ?_
          refine JO_q (QE_mv rfl) rfl ?_
          refine JO_q (QE_ldA 1 [_, _, _, _, _] rfl rfl rfl rfl rfl) rfl ?_
          refine JO_q (QE_ldA 0 [_, _, _, _] rfl rfl rfl rfl rfl) rfl ?_
          refine JO_q (QE_mv rfl) rfl ?_
          refine JO_call (first := []) (captured := []) rfl rfl rfl (emitB_ac D L _ _ _ ba bm t.cells A n c g hg1 num xl xo xh xn xk hxk yn yc yo Ay ny cy hyu (decide (xo = [119, 111, 114, 100] ∨ xo = [115, 112, 97, 99, 101])) htc (by rw [ew1]; exact hwl) (by rw [er1]; exact hrl)) ?_
          rintro _ _ s31 h31 ⟨g', rfl, e, rfl, hem⟩
          refine JO_q (QE_as rfl) rfl ?_
          refine JO_nil ?_
          refine thenQ_n ?_
          refine JC_ret ?_
          refine retQ_mk [_, _] _ (.inr rfl) (.tmp rfl (.nil)) rfl (Le.trans (Le.trans (Le.trans (Le.trans (Le.trans (Le.trans (Le.trans (Le.trans (Le.trans h1 h2) h4) h18) h20) h21) h22) h25) h28) h31) (fun sR hS2 => ?_)
          first
            | (refine ⟨(⟨.slice Aw w.length cw, Mw, .slice Al l.length cl, Ml, .slice Ar r.length cr, Mr, es, ck, w, l, r⟩ : AG), rfl, ?_, fun x hx => ?_⟩
               · rw [hno]; rfl
               · rw [hno] at hx; cases hx)
            | (refine ⟨(⟨.slice Aw w.length cw, Mw, .slice Al l.length cl, Ml, .slice Ar r.length cr, Mr, es, ck, w, l, r⟩ : AG), rfl, ?_, fun x hx he => ?_⟩
               · rw [hy, addE, if_pos ⟨hxl, hrep⟩]; rfl
               · rw [hy] at hx; injection hx with hx; subst hx; rw [addE, if_pos ⟨hxl, hrep⟩] at he; cases he)
            | (have hE8 := add_new (l := l) (x := ⟨xl, xo, xh, xn, (xk : Int)⟩) hnew
               refine ⟨g, rfl, ?_, fun x hx he => ?_⟩
               · rw [hy, addE, if_neg hE8, if_pos hxo]; rfl
               · rw [hy] at hx; injection hx with hx; subst hx
                 refine ⟨hg1, ?_, ?_, ?_⟩
                 · rw [ew1, addW, if_pos hxo]
                 · rw [el1]
                 · rw [er1, addR, if_pos hxo])
            | (have hE8 := add_new (l := l) (x := ⟨xl, xo, xh, xn, (xk : Int)⟩) hnew
               have hEE : addE t w l (some ⟨xl, xo, xh, xn, (xk : Int)⟩) = 12 := addE_12 hE8 hxo h83
               refine ⟨g, rfl, ?_, fun x hx he => ?_⟩
               · rw [hy, hEE]; rfl
               · rw [hy] at hx; injection hx with hx; subst hx; rw [hEE] at he; cases he)
            | (have hE8 := add_new (l := l) (x := ⟨xl, xo, xh, xn, (xk : Int)⟩) hnew
               have hoo := op_of (t := t) hye hyn
               have hEE : addE t w l (some ⟨xl, xo, xh, xn, (xk : Int)⟩) = 9 := addE_9 hE8 hxo h83 hoo h90
               refine ⟨g, rfl, ?_, fun x hx he => ?_⟩
               · rw [hy, hEE]; rfl
               · rw [hy] at hx; injection hx with hx; subst hx; rw [hEE] at he; cases he)
            | (have hE8 := add_new (l := l) (x := ⟨xl, xo, xh, xn, (xk : Int)⟩) hnew
               have hoo := op_of (t := t) hye hyn
               have hEE : addE t w l (some ⟨xl, xo, xh, xn, (xk : Int)⟩) = 6 := addE_6 hE8 hxo h83 hoo h90 h99
               refine ⟨g, rfl, ?_, fun x hx he => ?_⟩
               · rw [hy, hEE]; rfl
               · rw [hy] at hx; injection hx with hx; subst hx; rw [hEE] at he; cases he)
            | (have hE8 := add_new (l := l) (x := ⟨xl, xo, xh, xn, (xk : Int)⟩) hnew
               have hoo := op_of (t := t) hye hyn
               have hcc := code_of (t := t) (w := w) (r := r) (i := num) (x := ⟨xl, xo, xh, xn, (xk : Int)⟩) hye h83 hxo
               have hEE : addE t w l (some ⟨xl, xo, xh, xn, (xk : Int)⟩) = if t.cells < ((addW t w ⟨xl, xo, xh, xn, (xk : Int)⟩).length : Int) then 14 else 0 := addE_0 hE8 hxo h83 hoo h90 h99
               rw [ew1, er1, hcc.1] at hem
               rw [hcc.2] at hem
               refine ⟨g', rfl, ?_, fun x hx he => ?_⟩
               · rw [hy, hEE]
                 rcases hem with ⟨rfl, h14⟩ | ⟨rfl, h0, _⟩
                 · rw [if_pos h14]; rfl
                 · rw [if_neg (by omega)]; rfl
               · rw [hy] at hx; injection hx with hx; subst hx; rw [hEE] at he
                 rcases hem with ⟨rfl, h14⟩ | ⟨rfl, h0, q1, q2, q3, _, q5⟩
                 · rw [if_pos h14] at he; cases he
                 · exact ⟨q1, q2, by rw [q3, el1], q5⟩)
end Go.Proofs.YteomcjpigoaioaaGreatDoor
namespace Go.Proofs.YteomcjpigoaioaaGreatDoor
open Go Go.FL Go.RowKit
def asmF (t : Tab) : Nat → List Int → List (List UInt8 × Int) → List (Int × Nat × List UInt8 × Int) → List (List UInt8) → (Int × Int) ⊕ (List Int × List (List UInt8 × Int) × List (Int × Nat × List UInt8 × Int))
  | _, w, l, r, [] => .inr (w, l, r)
  | i, w, l, r, tx :: rest => match lineL tx with
    | none => .inl (1, (i : Int))
    | some x => if addE t w l (some x) ≠ 0 then .inl (addE t w l (some x), (i : Int)) else asmF t (i + 1) (addW t w x) (addL w l x) (addR t w r (i : Int) x) rest
def refF (l : List (List UInt8 × Int)) : List (Int × Nat × List UInt8 × Int) → List Int → (Int × Int) ⊕ List Int
  | [], w => .inr w
  | x :: rest, w => match labAt l x.2.2.1 with
    | none => .inl (27, x.1)
    | some a => refF l rest (w.set x.2.1 (w32 (w.getD x.2.1 0 + a)))
def asmR (t : Tab) (tx : List UInt8) : (Int × Int) ⊕ (List Int × List (List UInt8 × Int)) :=
  if (tabFault t).1 ≠ 0 then .inl (tabFault t) else if 400000 < tx.length then .inl (3, -2)
  else match asmF t 0 [] [] [] (splitB 10 tx) with
    | .inl f => .inl f
    | .inr x => match refF x.2.1 x.2.2 x.1 with
      | .inl f => .inl f
      | .inr w => .inr (w, x.2.1)
theorem asmF_none {t : Tab} {i : Nat} {w : List Int} {l : List (List UInt8 × Int)} {r : List (Int × Nat × List UInt8 × Int)} {tx : List UInt8} {rest : List (List UInt8)} (h : addE t w l (lineL tx) ≠ 0) : asmF t i w l r (tx :: rest) = .inl (addE t w l (lineL tx), (i : Int)) := by
  simp only [asmF]
  cases hx : lineL tx with
  | none => rfl
  | some x => rw [hx] at h; simp only [ne_eq, h, not_false_eq_true, if_true]
theorem asmF_some {t : Tab} {i : Nat} {w : List Int} {l : List (List UInt8 × Int)} {r : List (Int × Nat × List UInt8 × Int)} {tx : List UInt8} {rest : List (List UInt8)} {x : Ln} (hx : lineL tx = some x) (h : addE t w l (some x) = 0) : asmF t i w l r (tx :: rest) = asmF t (i + 1) (addW t w x) (addL w l x) (addR t w r (i : Int) x) rest := by
  simp only [asmF, hx, h, ne_eq, not_true_eq_false, if_false]
theorem line_some {t : Tab} {w : List Int} {l : List (List UInt8 × Int)} {tx : List UInt8} (h : addE t w l (lineL tx) = 0) : ∃ x, lineL tx = some x ∧ addE t w l (some x) = 0 := by
  cases hx : lineL tx with
  | none => rw [hx] at h; cases h
  | some x => rw [hx] at h; exact ⟨x, rfl, h⟩
theorem addE_fit {t : Tab} {w : List Int} {l : List (List UInt8 × Int)} {x : Ln} (hw : (w.length : Int) ≤ t.cells) (h : addE t w l (some x) = 0) : ((addW t w x).length : Int) ≤ t.cells := by
  simp only [addE] at h
  split at h
  · cases h
  split at h
  · rename_i ho; rw [addW, if_pos ho]; exact hw
  split at h
  · cases h
  split at h
  · cases h
  split at h
  · cases h
  split at h
  · cases h
  · omega
theorem emitW_len (w : List Int) (x : Ln) (c : Int) (o : Bool) : w.length ≤ (emitW w x c o).length := by
  unfold emitW
  repeat' split
  all_goals (try simp only [List.length_append, List.length_cons, List.length_nil, List.length_replicate])
  all_goals omega
theorem emitR_lt {r : List (Int × Nat × List UInt8 × Int)} {w : List Int} {i : Int} {x : Ln} {c : Int} {o : Bool} (h : ∀ y ∈ r, y.2.1 < w.length) : ∀ y ∈ emitR r w i x c o, y.2.1 < (emitW w x c o).length := by
  have hl := emitW_len w x c o
  intro y hy
  unfold emitR at hy
  split at hy
  · exact Nat.lt_of_lt_of_le (h y hy) hl
  · rename_i hs
    split at hy
    · rename_i hh
      rcases List.mem_append.1 hy with h1 | h1
      · exact Nat.lt_of_lt_of_le (h y h1) hl
      · rw [List.mem_singleton.1 h1]
        simp only [emitW, hs, if_false, hh.1, if_true, List.length_append, List.length_cons, List.length_nil]
        omega
    · exact Nat.lt_of_lt_of_le (h y hy) hl
theorem addR_lt {t : Tab} {r : List (Int × Nat × List UInt8 × Int)} {w : List Int} {i : Int} {x : Ln} (h : ∀ y ∈ r, y.2.1 < w.length) : ∀ y ∈ addR t w r i x, y.2.1 < (addW t w x).length := by
  unfold addR addW
  split
  · exact h
  · exact emitR_lt h
theorem addL_len {w : List Int} {l : List (List UInt8 × Int)} {x : Ln} : (addL w l x).length ≤ l.length + 1 := by unfold addL; split <;> simp
theorem addR_len {t : Tab} {r : List (Int × Nat × List UInt8 × Int)} {w : List Int} {i : Int} {x : Ln} : (addR t w r i x).length ≤ r.length + 1 := by
  unfold addR emitR
  repeat' split
  all_goals simp
theorem HA_three (ba bm : Nat) (tc : Int) (A : Option Addr) (n c : Nat) (g : AG) (x y z : Nat × Obj) (L : Hl) : (HA ba bm tc A n c g (x :: y :: z :: L)).Perm (x :: y :: z :: HA ba bm tc A n c g L) :=
  (HA_one ..).trans (List.Perm.cons _ (HA_two ..))
theorem HA_app (ba bm : Nat) (tc : Int) (A : Option Addr) (n c : Nat) (g : AG) (L : Hl) : HA ba bm tc A n c g L = HA ba bm tc A n c g [] ++ L := by simp [HA]
def Labs (s : World) (A : Option Addr) (n c : Nat) (l : List (List UInt8 × Int)) : Prop := Sl 2 (fun _ x cs => cs = [St x.1, .int .u32 x.2] ∧ U32 x.2) s A n c l
theorem Labs.le {D : Nat} {s s' : World} {A : Option Addr} {n c : Nat} {l : List (List UInt8 × Int)} (h : Labs s A n c l) (hl : Le D s s') : Labs s' A n c l := Sl.le (fun _ _ h => h) h hl
def Refs (s : World) (A : Option Addr) (n c : Nat) (l : List (Int × Nat × List UInt8 × Int)) : Prop := Sl 4 (fun _ x cs => cs = [Value.int .i64 x.1, Value.int .i64 (x.2.1 : Int), St x.2.2.1, Value.int .u32 x.2.2.2]) s A n c l
theorem Refs.le {D : Nat} {s s' : World} {A : Option Addr} {n c : Nat} {l : List (Int × Nat × List UInt8 × Int)} (h : Refs s A n c l) (hl : Le D s s') : Refs s' A n c l := Sl.le (fun _ _ h => h) h hl
theorem all2_map {α β : Type} {R : α → β → Prop} (f : α → β) (l : List α) (h : ∀ x ∈ l, R x (f x)) : All2 R l (l.map f) := by
  induction l with
  | nil => exact All2.nil
  | cons x l ih => exact All2.cons (h x (List.mem_cons_self ..)) (ih fun y hy => h y (List.mem_cons_of_mem _ hy))
theorem Own.labs {e : Nat} {A : Hl} {Ad : Option Addr} {n c : Nat} {l : List (List UInt8 × Int)} {s : World} (h : Own e 2 A (.slice Ad n c) n (lbv l)) (hu : ∀ x ∈ l, U32 x.2) (hp : Pub A s) (hn : n = l.length) : Labs s Ad n c l :=
  Own.rows (R := fun _ (x : List UInt8 × Int) cs => cs = [St x.1, .int .u32 x.2] ∧ U32 x.2) h hp (all2_map (fun (x : List UInt8 × Int) => [St x.1, Value.int .u32 x.2]) l fun x hx => ⟨rfl, rfl, hu x hx⟩) hn
theorem Own.refs {e : Nat} {A : Hl} {Ad : Option Addr} {n c : Nat} {l : List (Int × Nat × List UInt8 × Int)} {s : World} (h : Own e 4 A (.slice Ad n c) n (rfv l)) (hp : Pub A s) (hn : n = l.length) : Refs s Ad n c l :=
  Own.rows (R := fun _ (x : Int × Nat × List UInt8 × Int) cs => cs = [Value.int .i64 x.1, Value.int .i64 (x.2.1 : Int), St x.2.2.1, Value.int .u32 x.2.2.2]) h hp (all2_map (fun (x : Int × Nat × List UInt8 × Int) => [Value.int .i64 x.1, Value.int .i64 (x.2.1 : Int), St x.2.2.1, Value.int .u32 x.2.2.2]) l fun x hx => ⟨rfl, rfl⟩) hn
theorem Refs.at_ {s : World} {A : Option Addr} {n c k : Nat} {l : List (Int × Nat × List UInt8 × Int)} (h : Refs s A n c l) (hk : k < n) : ∃ b off x, A = some ⟨b, off, none⟩ ∧ l[k]? = some x ∧ CellsAt s b (off + k * 4) [Value.int .i64 x.1, Value.int .i64 (x.2.1 : Int), St x.2.2.1, Value.int .u32 x.2.2.2] := by
  have hx : k < l.length := by rw [← h.1]; exact hk
  obtain ⟨b, off, cs, h1, h2, h3, h4⟩ := h.2.2.2 k l[k] (List.getElem?_eq_getElem hx)
  exact ⟨b, off, l[k], h1, List.getElem?_eq_getElem hx, by rw [← h4]; exact h2⟩
theorem Labs.at_ {s : World} {A : Option Addr} {n c k : Nat} {l : List (List UInt8 × Int)} (h : Labs s A n c l) (hk : k < n) : ∃ b off x, A = some ⟨b, off, none⟩ ∧ l[k]? = some x ∧ CellsAt s b (off + k * 2) [St x.1, Value.int .u32 x.2] ∧ U32 x.2 := by
  have hx : k < l.length := by rw [← h.1]; exact hk
  obtain ⟨b, off, cs, h1, h2, h3, h4, h5⟩ := h.2.2.2 k l[k] (List.getElem?_eq_getElem hx)
  exact ⟨b, off, l[k], h1, List.getElem?_eq_getElem hx, by rw [← h4]; exact h2, h5⟩
theorem own_blk {e : Nat} {M : Hl} {Ad : Option Addr} {n c : Nat} {xs : List Value} (h : Own e 1 M (.slice Ad n c) n xs) (hn : 0 < n) : ∃ b ys, Ad = some ⟨b, 0, none⟩ ∧ M = [(b, cb (xs ++ ys) e)] ∧ xs.length = n ∧ xs.length + ys.length = c ∧ n ≤ c ∧ c ≤ 9223372036854775807 := by
  cases h with
  | nil => omega
  | blk b cap _ _ ys h1 h2 h3 h4 => exact ⟨b, ys, rfl, rfl, by simpa using h1, by simpa using h2, h3, h4⟩
theorem own_back {e b c n : Nat} {xs ys : List Value} (h1 : xs.length = n) (h2 : xs.length + ys.length = c) (h3 : n ≤ c) (h4 : c ≤ 9223372036854775807) : Own e 1 [(b, cb (xs ++ ys) e)] (.slice (some ⟨b, 0, none⟩) n c) n xs :=
  .blk b c n xs ys (by simpa using h1) (by simpa using h2) h3 h4
theorem refF_hit {l : List (List UInt8 × Int)} {r : List (Int × Nat × List UInt8 × Int)} {w : List Int} {k : Nat} {x : Int × Nat × List UInt8 × Int} {a : Int} (hx : r[k]? = some x) (ha : labAt l x.2.2.1 = some a) : refF l (r.drop k) w = refF l (r.drop (k + 1)) (w.set x.2.1 (w32 (w.getD x.2.1 0 + a))) := by
  obtain ⟨hk, rfl⟩ := List.getElem?_eq_some_iff.1 hx
  rw [List.drop_eq_getElem_cons hk, refF, ha]
theorem refF_miss {l : List (List UInt8 × Int)} {r : List (Int × Nat × List UInt8 × Int)} {w : List Int} {k : Nat} {x : Int × Nat × List UInt8 × Int} (hx : r[k]? = some x) (ha : labAt l x.2.2.1 = none) : refF l (r.drop k) w = .inl (27, x.1) := by
  obtain ⟨hk, rfl⟩ := List.getElem?_eq_some_iff.1 hx
  rw [List.drop_eq_getElem_cons hk, refF, ha]
theorem setU {w : List Int} (h : ∀ x ∈ w, U32 x) (p : Nat) (v : Int) (hv : U32 v) : ∀ x ∈ w.set p v, U32 x := fun x hx => by
  rcases List.mem_or_eq_of_mem_set hx with h1 | h1
  · exact h x h1
  · rw [h1]; exact hv
theorem nth_wvp {l : List Int} {y : List Value} {p : Nat} (h : p < l.length) : nth (wv l ++ y) (0 + p) = some (.int .u32 (l.getD p 0)) := by
  have := nth_wv0 (l := l) (y := y) (i := (p : Int)) (by omega) (by omega); simpa using this
theorem spl_wvp {l : List Int} {y : List Value} {p : Nat} (v : Int) (h : p < l.length) : splice (wv l ++ y) (0 + p) [.int .u32 v] = wv (l.set p v) ++ y := by
  have := spl_wv0 (l := l) (y := y) (i := (p : Int)) v (by omega) (by omega); simpa using this
theorem ble_wvp {l : List Int} {y : List Value} {p : Nat} (h : p < l.length) : Nat.ble (0 + p + 1) (wv l ++ y).length = true := by
  have := ble_wv0 (l := l) (y := y) (i := (p : Int)) (by omega) (by omega); simpa using this
end Go.Proofs.YteomcjpigoaioaaGreatDoor
namespace Go.Proofs.YteomcjpigoaioaaGreatDoor
open Go.FL
attribute [local irreducible] JC JO JA JB thenQ blockQ retQ AC fill CellsAt QE Ev Mid
theorem add8_ac (D : Nat) (L : Hl) (s : World) (x0 x1 x2 : Nat × Obj) (hG : GW s) (ba bm : Nat) (t : Tab) (A : Option Addr) (n c : Nat) (hA : Inss s A n c t.ins) (g : AG) (hg : AGok g) (num : Int) (tx : List UInt8) (htx : tx.length ≤ 400000) (htc : 0 ≤ t.cells ∧ t.cells ≤ 65536) (hwl : (g.w.length : Int) ≤ t.cells) (hrl : g.r.length ≤ 1000000) (hll : g.l.length ≤ 1000000) : AC Tryz.prog D 73 [.pointer (some ⟨ba, 0, none⟩), .int .i64 num, St tx] (x0 :: x1 :: x2 :: HA ba bm t.cells A n c g L) s fun v L' _ => ∃ g', L' = x0 :: x1 :: x2 :: HA ba bm t.cells A n c g' L ∧ v = .int .i64 (addE t g.w g.l (lineL tx)) ∧ ∀ x, lineL tx = some x → addE t g.w g.l (some x) = 0 → AGok g' ∧ g'.w = addW t g.w x ∧ g'.l = addL g.w g.l x ∧ g'.r = addR t g.w g.r num x :=
  AC.perm (HA_three ..).symm (add7_ac D (x0 :: x1 :: x2 :: L) s hG ba bm t A n c hA g hg num tx htx htc hwl hrl hll) fun v L1 s1 ⟨g', h1, h2⟩ => ⟨_, by rw [h1]; exact HA_three .., g', rfl, h2⟩
theorem asm_bad {t : Tab} {tx : List UInt8} (h : (tabFault t).1 ≠ 0) : asmR t tx = .inl (tabFault t) := by rw [asmR, if_pos h]
theorem asm_long {t : Tab} {tx : List UInt8} (h : (tabFault t).1 = 0) (h2 : 400000 < tx.length) : asmR t tx = .inl (3, -2) := by rw [asmR, if_neg (by simpa using h), if_pos h2]
theorem asm_line {t : Tab} {tx : List UInt8} {f : Int × Int} (h : (tabFault t).1 = 0) (h2 : ¬ 400000 < tx.length) (h3 : asmF t 0 [] [] [] (splitB 10 tx) = .inl f) : asmR t tx = .inl f := by rw [asmR, if_neg (by simpa using h), if_neg h2, h3]
theorem asm_ref {t : Tab} {tx : List UInt8} {f : Int × Int} {w : List Int} {l : List (List UInt8 × Int)} {r : List (Int × Nat × List UInt8 × Int)} (h : (tabFault t).1 = 0) (h2 : ¬ 400000 < tx.length) (h3 : asmF t 0 [] [] [] (splitB 10 tx) = .inr (w, l, r)) (h4 : refF l r w = .inl f) : asmR t tx = .inl f := by rw [asmR, if_neg (by simpa using h), if_neg h2, h3]; simp only [h4]
theorem asm_ok {t : Tab} {tx : List UInt8} {w w2 : List Int} {l : List (List UInt8 × Int)} {r : List (Int × Nat × List UInt8 × Int)} (h : (tabFault t).1 = 0) (h2 : ¬ 400000 < tx.length) (h3 : asmF t 0 [] [] [] (splitB 10 tx) = .inr (w, l, r)) (h4 : refF l r w = .inr w2) : asmR t tx = .inr (w2, l) := by rw [asmR, if_neg (by simpa using h), if_neg h2, h3]; simp only [h4]
theorem ag_nil : AGok ⟨.slice none 0 0, [], .slice none 0 0, [], .slice none 0 0, [], [], 0, [], [], []⟩ := ⟨Own.nil, Own.nil, Own.nil, fun _ => rfl, (fun _ h => by cases h), (fun _ h => by cases h), (fun _ h => by cases h)⟩
set_option maxHeartbeats 4000000 in
set_option maxRecDepth 100000 in
theorem assemble_ac (D : Nat) (L : Hl) (s : World) (hG : GW s) (t : Tab) (A : Option Addr) (n c : Nat) (hA : Inss s A n c t.ins) (tx : List UInt8) : AC Tryz.prog D 42 [.agg #[.int .i64 t.cells, .slice A n c], St tx] L s fun v L' s' => ∃ M', L' = M' ++ L ∧ ∃ p f1 f2, v = .tuple #[p, .agg #[.int .i64 f1, .int .i64 f2]] ∧ ((f1 ≠ 0 ∧ asmR t tx = .inl (f1, f2)) ∨ (f1 = 0 ∧ f2 = 0 ∧ ∃ ba bm Aw nw cw Al nl cl vr es ck Mw w l, p = .pointer (some ⟨ba, 0, none⟩) ∧ M' = (ba, cb [.int .i64 t.cells, .slice A n c, .slice Aw nw cw, .slice Al nl cl, .map (some bm), vr] 86) :: (bm, mp (fun l => St l) es ck) :: Mw ∧ Own 52 1 Mw (.slice Aw nw cw) nw (wv w) ∧ (∀ x ∈ w, U32 x) ∧ Labs s' Al nl cl l ∧ asmR t tx = .inr (w, l))) := by
 have hF := tab_zero t
 refine AC_enter (TT := TT) (fn := Tryz.f42) TT_ok Tryz.func42 (by kernel_rfl) rfl Tryz.ntmps42 rfl (rs := [.tmp 4, .cell 5 27]) rfl [(0, _), (1, _)] rfl ?_
 refine JC_seq ?_
 refine JC_region ?_
 refine JO_boxA rfl rfl ?_
 intro β1 s1 h1
 refine JO_q (QE_as rfl) rfl ?_
 refine JO_allocZ rfl [_, _] rfl rfl ?_
 intro β2 s2 h2
 refine JO_nil ?_
 refine thenQ_n ?_
 refine JC_seq ?_
 refine JC_seq ?_
 refine JC_region ?_
 refine JO_q (QE_ldA 1 [_, _] rfl rfl rfl rfl rfl) rfl ?_
 refine JO_call (first := []) (captured := []) rfl rfl rfl (validate_ac D _ _ _ _ _ _ (hA.le (Le.trans h1 h2))) ?_
 rintro _ _ s3 h3 ⟨rfl, rfl⟩
 refine JO_allocZ rfl [_, _] rfl rfl ?_
 intro β4 s4 h4
 refine JO_st 0 [_, _] rfl rfl rfl rfl rfl rfl rfl rfl rfl ?_
 refine JO_nil ?_
 refine thenQ_n ?_
 refine JC_seq ?_
 refine JC_region ?_
 refine JO_q (QE_ldA 0 [_, _] rfl rfl rfl rfl rfl) rfl ?_
 refine JO_q (QE_build [] [_, _] rfl rfl rfl rfl rfl rfl) rfl ?_
 refine JO_q (QE_ane rfl rfl (eqFault _ _ _ _)) rfl ?_
 refine JO_nil ?_
 refine thenQ_n ?_
 refine JC_ifN rfl (fun c5 => ?_) (fun c5 => ?_)
 ·
  have hbad : (tabFault t).1 ≠ 0 := fun h => c5 ⟨h, hF h⟩
  refine JC_seq ?_
  refine JC_drawE drawsMixed 3 rfl [1] (by intro x hx; exact eraseAll_mem hx) ?_
  intro s6 h6
  refine JA_q 0 rfl (by kernel_rfl) (by kernel_rfl) (by kernel_rfl) trivial (QE_ldA 0 [_, _] rfl rfl rfl rfl rfl) rfl ?_
  refine JA_q 1 rfl (by kernel_rfl) (by kernel_rfl) (by kernel_rfl) trivial (QE_as rfl) rfl ?_
  refine JA_1 2 (by kernel_rfl) ?_
  refine JB_st rfl trivial 1 [_, _] rfl rfl rfl rfl rfl rfl rfl rfl rfl (fun _ hx => sub_mem (sbY (sbY (sbE _))) hx) ?_
  refine JA_done (by kernel_rfl) ?_
  refine thenQ_n ?_
  refine JC_ret ?_
  refine thenQ_r ?_
  refine retQ_mk [_, _, _] _ (.inr rfl) (.tmp rfl (.agg (us := [_, _]) 1 rfl rfl rfl rfl rfl (.nil))) rfl (Le.trans (Le.trans (Le.trans (Le.trans h1 h2) h3) h4) h6) (fun sR hS2 => ?_)
  first
    | (refine ⟨[], rfl, .pointer none, _, _, rfl, .inl ⟨hbad, asm_bad hbad⟩⟩)
    | (refine ⟨[], rfl, .pointer none, 3, -2, rfl, .inl ⟨by decide, asm_long ht0 hlong⟩⟩)
    | (exact ⟨_, HA_app .., .pointer none, _, _, rfl, .inl ⟨hcode, asm_line ht0 hlong (by rw [hS, hdr]; exact asmF_none hcode)⟩⟩)
    | (exact ⟨[_, _, _], rfl, .pointer none, _, _, rfl, .inl ⟨by decide, asm_ref ht0 hlong hS (by rw [hR]; exact refF_miss hxr hmiss)⟩⟩)
    | (exact ⟨_, rfl, _, 0, 0, rfl, .inr ⟨rfl, rfl, ba, bm, Aw, w.length, cw, Al, l.length, cl, _, es, ck, Mj, wj, l, rfl, rfl, hOj, huj, hLb.le (Le.trans (noSuchMark) hS2), asm_ok ht0 hlong hS hR⟩⟩)
 ·
  have ht0 : (tabFault t).1 = 0 := c5.1
  have hcells := (tabG hA ht0).cells
  refine JC_skip ?_
  refine thenQ_n ?_
  refine JC_seq ?_
  refine JC_seq ?_
  refine JC_region ?_
  refine JO_q (QE_mv rfl) rfl ?_
  refine JO_q (QE_lenT rfl rfl rfl) rfl ?_
  refine JO_q (QE_gt rfl rfl) rfl ?_
  refine JO_nil ?_
  refine thenQ_n ?_
  refine JC_ifD rfl (fun c7 => ?_) (fun c7 => ?_)
  ·
   have hlong : 400000 < tx.length := by omega
   refine JC_seq ?_
   refine JC_region ?_
   refine JO_call (first := []) (captured := []) rfl rfl rfl (afault_ac D _ _ _ _) ?_
   rintro _ _ s8 h8 ⟨rfl, rfl⟩
   refine JO_q (QE_as rfl) rfl ?_
   refine JO_st 1 [_, _] rfl rfl rfl rfl rfl rfl rfl rfl rfl ?_
   refine JO_nil ?_
   refine thenQ_n ?_
   refine JC_ret ?_
   refine thenQ_r ?_
   refine retQ_mk [_, _, _] _ (.inr rfl) (.tmp rfl (.agg (us := [_, _]) 1 rfl rfl rfl rfl rfl (.nil))) rfl (Le.trans (Le.trans (Le.trans (Le.trans h1 h2) h3) h4) h8) (fun sR hS2 => ?_)
   first
     | (refine ⟨[], rfl, .pointer none, _, _, rfl, .inl ⟨hbad, asm_bad hbad⟩⟩)
     | (refine ⟨[], rfl, .pointer none, 3, -2, rfl, .inl ⟨by decide, asm_long ht0 hlong⟩⟩)
     | (exact ⟨_, HA_app .., .pointer none, _, _, rfl, .inl ⟨hcode, asm_line ht0 hlong (by rw [hS, hdr]; exact asmF_none hcode)⟩⟩)
     | (exact ⟨[_, _, _], rfl, .pointer none, _, _, rfl, .inl ⟨by decide, asm_ref ht0 hlong hS (by rw [hR]; exact refF_miss hxr hmiss)⟩⟩)
     | (exact ⟨_, rfl, _, 0, 0, rfl, .inr ⟨rfl, rfl, ba, bm, Aw, w.length, cw, Al, l.length, cl, _, es, ck, Mj, wj, l, rfl, rfl, hOj, huj, hLb.le (Le.trans (noSuchMark) hS2), asm_ok ht0 hlong hS hR⟩⟩)
  ·
   have hlong : ¬ 400000 < tx.length := by omega
   refine JC_skip ?_
   refine thenQ_n ?_
   refine JC_seq ?_
   refine JC_region ?_
   refine JO_q (QE_ldA 2 [_, _] rfl rfl rfl rfl rfl) rfl ?_
   refine JO_mkmap (fun l => St l) rfl ?_
   intro bm s9 h9
   refine JO_q (QE_build [(_, _), (_, _)] [_, _, _, _, _, _] rfl rfl rfl rfl rfl rfl) rfl ?_
   refine JO_boxA rfl rfl ?_
   intro ba s10 h10
   refine JO_q (QE_as rfl) rfl ?_
   refine JO_nil ?_
   refine thenQ_n ?_
   refine JC_seq ?_
   refine JC_seq ?_
   refine JC_front 4 ?_
   refine JC_front 4 ?_
   refine JC_front 4 ?_
   refine JC_region ?_
   refine JO_q (QE_mv rfl) rfl ?_
   refine JO_call (first := []) (captured := []) rfl rfl rfl (asplit_ac D _ _ tx 10 (by omega)) ?_
   rintro _ _ s11 h11 ⟨rfl, At, nt, ct, rfl, hTx⟩
   have hnt := hTx.1
   have hct := split_count 10 tx
   have hcl : tx.count 10 ≤ tx.length := List.count_le_length
   simp only [show ((10 : UInt8).toNat : Int) = 10 from rfl] at hnt hct hTx
   refine JO_q (QE_lenS rfl rfl rfl) rfl ?_
   refine JO_q (QE_mv rfl) rfl ?_
   refine JO_nil ?_
   refine thenQ_n ?_
   refine JC_block ?_
   
   refine JC_loopX [_, _, _] (γ := Nat × AG) (fun g => [(4, _), (5, _), (7, _), (30, _), (31, _), (32, .int .i64 (g.1 : Int))]) (fun g => HA ba bm t.cells A n c g.2 L) (fun g tw => Le D s11 tw ∧ (g.1 ≤ nt ∧ AGok g.2 ∧ (g.2.w.length : Int) ≤ t.cells ∧ g.2.l.length ≤ g.1 ∧ g.2.r.length ≤ g.1 ∧ (∀ y ∈ g.2.r, y.2.1 < g.2.w.length) ∧ asmF t 0 [] [] [] (splitB 10 tx) = asmF t g.1 g.2.w g.2.l g.2.r ((splitB 10 tx).drop g.1))) (fun g => nt - g.1) (fun _ _ _ h hl => ⟨h.1.trans hl, h.2⟩) (0, ⟨.slice none 0 0, [], .slice none 0 0, [], .slice none 0 0, [], [], 0, [], [], []⟩) (Keeps.cons rfl (Keeps.cons rfl (Keeps.cons rfl (Keeps.cons rfl (Keeps.cons rfl (Keeps.cons rfl (Keeps.nil _))))))) rfl ⟨Le.refl _, ⟨Nat.zero_le _, ag_nil, by simp only [List.length_nil]; omega, Nat.le_refl _, Nat.le_refl _, (fun _ h => by cases h), rfl⟩⟩ ?_
   intro g s12 I12
   simp only [List.cons_append, List.nil_append]
   obtain ⟨k, g⟩ := g
   obtain ⟨hk0, hg, hwl, hll, hrl, hlt, hS⟩ := I12.2
   simp only at hk0 hg hwl hll hrl hlt hS
   dsimp only
   refine JC_seq ?_
   refine JC_region ?_
   refine JO_q (QE_lt rfl rfl) rfl ?_
   refine JO_nil ?_
   refine thenQ_n ?_
   refine JC_seq ?_
   refine JC_ifD rfl (fun c13 => ?_) (fun c13 => ?_)
   ·
    have hk : k < nt := by omega
    obtain ⟨b, off, tx1, rfl, htxk, hctx, _⟩ := Strs.at_ (hTx.le I12.1) hk
    have htx1 : tx1.length ≤ 400000 := by have := splitF_short 10 [] tx tx1 (List.mem_of_getElem? htxk); simp only [List.length_nil, Nat.zero_add] at this; omega
    have hdr : (splitB 10 tx).drop k = tx1 :: (splitB 10 tx).drop (k + 1) := by
      obtain ⟨hk2, rfl⟩ := List.getElem?_eq_some_iff.1 htxk
      exact List.drop_eq_getElem_cons hk2
    refine JC_skip ?_
    refine thenQ_n ?_
    refine JC_seq ?_
    refine JC_block ?_
    refine JC_seq ?_
    refine JC_region ?_
    refine JO_q (QE_mv rfl) rfl ?_
    refine JO_q (QE_ia1 rfl rfl rfl rfl rfl rfl hk) rfl ?_
    refine JO_q (QE_ldsR0 rfl rfl rfl (hctx.le (Le.refl (D := D) _)) rfl) rfl ?_
    refine JO_q (QE_as rfl) rfl ?_
    refine JO_q (QE_as rfl) rfl ?_
    refine JO_nil ?_
    refine thenQ_n ?_
    refine JC_seq ?_
    refine JC_region ?_
    refine JO_q (QE_mv rfl) rfl ?_
    refine JO_q (QE_mv rfl) rfl ?_
    refine JO_q (QE_mv rfl) rfl ?_
    refine JO_call (first := []) (captured := []) rfl rfl rfl (add8_ac D L _ _ _ _ (hG.le (Le.trans (Le.trans (Le.trans (Le.trans (Le.trans (Le.trans (Le.trans h1 h2) h3) h4) h9) h10) h11) I12.1)) ba bm t A n c (hA.le (Le.trans (Le.trans (Le.trans (Le.trans (Le.trans (Le.trans (Le.trans h1 h2) h3) h4) h9) h10) h11) I12.1)) g hg _ tx1 htx1 (by omega) hwl (by omega) (by omega)) ?_
    rintro _ _ s14 h14 ⟨g', rfl, rfl, hadd⟩
    refine JO_q (QE_as rfl) rfl ?_
    refine JO_nil ?_
    refine thenQ_n ?_
    refine JC_seq ?_
    refine JC_region ?_
    refine JO_q (QE_mv rfl) rfl ?_
    refine JO_q (QE_ne rfl rfl) rfl ?_
    refine JO_nil ?_
    refine thenQ_n ?_
    refine JC_ifN rfl (fun c15 => ?_) (fun c15 => ?_)
    ·
     have hcode := c15
     refine JC_seq ?_
     refine JC_region ?_
     refine JO_q (QE_mv rfl) rfl ?_
     refine JO_q (QE_mv rfl) rfl ?_
     refine JO_call (first := []) (captured := []) rfl rfl rfl (afault_ac D _ _ _ _) ?_
     rintro _ _ s16 h16 ⟨rfl, rfl⟩
     refine JO_q (QE_as rfl) rfl ?_
     refine JO_st 1 [_, _] rfl rfl rfl rfl rfl rfl rfl rfl rfl ?_
     refine JO_nil ?_
     refine thenQ_n ?_
     refine JC_ret ?_
     refine blockQ_r ?_
     refine thenQ_r ?_
     refine thenQ_r ?_
     refine blockQ_r ?_
     refine thenQ_r ?_
     refine retQ_mk [_, _, _] _ (.inr rfl) (.tmp rfl (.agg (us := [_, _]) 1 rfl rfl rfl rfl rfl (.nil))) rfl (Le.trans (Le.trans (Le.trans (Le.trans (Le.trans (Le.trans (Le.trans (Le.trans (Le.trans h1 h2) h3) h4) h9) h10) h11) I12.1) h14) h16) (fun sR hS2 => ?_)
     first
       | (refine ⟨[], rfl, .pointer none, _, _, rfl, .inl ⟨hbad, asm_bad hbad⟩⟩)
       | (refine ⟨[], rfl, .pointer none, 3, -2, rfl, .inl ⟨by decide, asm_long ht0 hlong⟩⟩)
       | (exact ⟨_, HA_app .., .pointer none, _, _, rfl, .inl ⟨hcode, asm_line ht0 hlong (by rw [hS, hdr]; exact asmF_none hcode)⟩⟩)
       | (exact ⟨[_, _, _], rfl, .pointer none, _, _, rfl, .inl ⟨by decide, asm_ref ht0 hlong hS (by rw [hR]; exact refF_miss hxr hmiss)⟩⟩)
       | (exact ⟨_, rfl, _, 0, 0, rfl, .inr ⟨rfl, rfl, ba, bm, Aw, w.length, cw, Al, l.length, cl, _, es, ck, Mj, wj, l, rfl, rfl, hOj, huj, hLb.le (Le.trans (noSuchMark) hS2), asm_ok ht0 hlong hS hR⟩⟩)
    ·
     have hcode : addE t g.w g.l (lineL tx1) = 0 := by simpa using c15
     obtain ⟨x, hx, he0⟩ := line_some hcode
     obtain ⟨hg2, ew, el, er⟩ := hadd x hx he0
     refine JC_skip ?_
     refine blockQ_n ?_
     refine thenQ_n ?_
     refine JC_region ?_
     refine JO_q (QE_add' rfl rfl (w64 (by omega) (by omega))) rfl ?_
     refine JO_q (QE_mv rfl) rfl ?_
     refine JO_nil ?_
     refine thenQ_n ⟨(k + 1, g'), [], (Keeps.cons rfl (Keeps.cons rfl (Keeps.cons rfl (Keeps.cons rfl (Keeps.cons rfl (Keeps.cons rfl (Keeps.nil _))))))), rfl, ⟨(Le.trans I12.1 h14), ⟨by simp only; omega, hg2, by simp only [ew]; exact addE_fit hwl he0, by simp only [el]; have := addL_len (w := g.w) (l := g.l) (x := x); omega, by simp only [er]; have := addR_len (t := t) (w := g.w) (r := g.r) (i := (k : Int)) (x := x); omega, by simp only [er, ew]; exact addR_lt hlt, by simp only [ew, el, er]; rw [hS, hdr, asmF_some hx he0]⟩⟩, (by simp only; omega)⟩
   ·
    have hdr : (splitB 10 tx).drop k = [] := List.drop_eq_nil_of_le (by omega)
    rw [hdr, asmF] at hS
    have hgu := hg
    obtain ⟨vw, Mw, vl, Ml, vr, Mr, es, ck, w, l, r⟩ := g
    obtain ⟨hOw, hOl, hOr, hE, huw, hul, hur⟩ := hg
    simp only at hOw hOl hOr hE huw hul hur
    obtain ⟨Aw, cw, rfl, kw, kx⟩ := Own.slice hOw
    obtain ⟨Al, cl, rfl, kl, km⟩ := Own.slice hOl
    obtain ⟨Ar, cr, rfl, kr, ks⟩ := Own.slice hOr
    simp only [HA]
    simp only at hS hlt hwl hll hrl
    refine JC_exit ?_
    refine thenQ_x ?_
    refine thenQ_x ?_
    refine blockQ_x ?_
    refine thenQ_n ?_
    refine JC_seq ?_
    refine JC_seq ?_
    refine JC_pubX (_ :: _ :: _ :: _ :: _ :: Mw) Ml _ ?_
    intro s17 h17 hpub17
    simp only [List.cons_append, List.nil_append]
    have hLb := Own.labs hOl hul hpub17 rfl
    refine JC_pubX (_ :: _ :: _ :: _ :: _ :: Mw) Mr _ ?_
    intro s18 h18 hpub18
    simp only [List.cons_append, List.nil_append]
    have hRf := Own.refs hOr hpub18 rfl
    refine JC_region ?_
    refine JO_q (QE_mv rfl) rfl ?_
    refine JO_q (QE_nil rfl) rfl ?_
    refine JO_q (QE_faB rfl rfl rfl rfl) rfl ?_
    refine JO_q (QE_ld1 3 rfl rfl rfl rfl rfl) rfl ?_
    refine JO_q (QE_lenS rfl rfl rfl) rfl ?_
    refine JO_q (QE_mv rfl) rfl ?_
    refine JO_nil ?_
    refine thenQ_n ?_
    refine JC_block ?_
    refine JC_loopX [_, _, _] (γ := Nat × Hl × List Int) (fun g => [(4, _), (5, _), (7, _), (50, _), (51, _), (52, .int .i64 (g.1 : Int))]) (fun g => (ba, cb [.int .i64 t.cells, .slice A n c, .slice Aw w.length cw, .slice Al l.length cl, .map (some bm), .slice Ar r.length cr] 86) :: (bm, mp (fun l => St l) es ck) :: (g.2.1 ++ L)) (fun g tw => Le D s18 tw ∧ (g.1 ≤ r.length ∧ Own 52 1 g.2.1 (.slice Aw w.length cw) w.length (wv g.2.2) ∧ g.2.2.length = w.length ∧ (∀ x ∈ g.2.2, U32 x) ∧ refF l r w = refF l (r.drop g.1) g.2.2)) (fun g => r.length - g.1) (fun _ _ _ h hl => ⟨h.1.trans hl, h.2⟩) (0, Mw, w) (Keeps.cons rfl (Keeps.cons rfl (Keeps.cons rfl (Keeps.cons rfl (Keeps.cons rfl (Keeps.cons rfl (Keeps.nil _))))))) rfl ⟨Le.refl _, ⟨Nat.zero_le _, hOw, rfl, huw, rfl⟩⟩ ?_
    intro g s19 I19
    simp only [List.cons_append, List.nil_append]
    obtain ⟨j, Mj, wj⟩ := g
    obtain ⟨hj0, hOj, hwj, huj, hR⟩ := I19.2
    simp only at hj0 hOj hwj huj hR
    dsimp only
    refine JC_seq ?_
    refine JC_region ?_
    refine JO_q (QE_lt rfl rfl) rfl ?_
    refine JO_nil ?_
    refine thenQ_n ?_
    refine JC_seq ?_
    refine JC_ifD rfl (fun c20 => ?_) (fun c20 => ?_)
    ·
     have hk : j < r.length := by omega
     obtain ⟨br, ofr, x, hAr, hxr, hcr⟩ := Refs.at_ (hRf.le I19.1) hk
     subst hAr
     have hpl := hlt x (List.mem_of_getElem? hxr)
     obtain ⟨bw, yw, hAw, hMw, g1, g2, g3, g4⟩ := own_blk hOj (by omega)
     subst hMw
     subst hAw
     simp only [List.cons_append, List.nil_append]
     refine JC_skip ?_
     refine thenQ_n ?_
     refine JC_seq ?_
     refine JC_block ?_
     refine JC_seq ?_
     refine JC_region ?_
     refine JO_q (QE_iaN rfl rfl rfl rfl rfl rfl hk) rfl ?_
     refine JO_q (QE_ldsA rfl rfl rfl (hcr.le (Le.refl (D := D) _)) rfl) rfl ?_
     refine JO_allocZ rfl [_, _, _, _] rfl rfl ?_
     intro β21 s21 h21
     refine JO_st 0 [_, _, _, _] rfl rfl rfl rfl rfl rfl rfl rfl rfl ?_
     refine JO_nil ?_
     refine thenQ_n ?_
     refine JC_seq ?_
     refine JC_draw drawsMixed 13 rfl _ (fun _ h => h) ?_
     intro s22 h22
     refine JA_q 0 rfl (by kernel_rfl) (by kernel_rfl) (by kernel_rfl) trivial (QE_mv rfl) rfl ?_
     refine JA_q 1 rfl (by kernel_rfl) (by kernel_rfl) (by kernel_rfl) trivial (QE_nil rfl) rfl ?_
     refine JA_q 2 rfl (by kernel_rfl) (by kernel_rfl) (by kernel_rfl) trivial (QE_faB rfl rfl rfl rfl) rfl ?_
     refine JA_q 3 rfl (by kernel_rfl) (by kernel_rfl) (by kernel_rfl) trivial (QE_ld1 4 rfl rfl rfl rfl rfl) rfl ?_
     refine JA_q 4 rfl (by kernel_rfl) (by kernel_rfl) (by kernel_rfl) trivial (QE_faB rfl rfl rfl rfl) rfl ?_
     refine JA_q 5 rfl (by kernel_rfl) (by kernel_rfl) (by kernel_rfl) trivial (QE_fa0 rfl rfl rfl rfl) rfl ?_
     refine JA_q 6 rfl (by kernel_rfl) (by kernel_rfl) (by kernel_rfl) trivial (QE_ld1 0 rfl rfl rfl rfl rfl) rfl ?_
     refine JA_q 7 rfl (by kernel_rfl) (by kernel_rfl) (by kernel_rfl) trivial (QE_cast (QE_lookup2 KeyK.str 5 mapTyS rfl rfl rfl) (show Value.tuple #[(assoc es x.2.2.1).getD (.int .u32 0), .bool (assoc es x.2.2.1).isSome] = .tuple #[(assoc es x.2.2.1).getD (.int .u32 0), .bool (labAt l x.2.2.1).isSome] by rw [hE, Option.isSome_map])) rfl ?_
     refine JA_q 8 rfl (by kernel_rfl) (by kernel_rfl) (by kernel_rfl) trivial (QE_mv rfl) rfl ?_
     refine JA_q 9 rfl (by kernel_rfl) (by kernel_rfl) (by kernel_rfl) trivial (QE_ext rfl rfl) rfl ?_
     refine JA_q 10 rfl (by kernel_rfl) (by kernel_rfl) (by kernel_rfl) trivial (QE_ext rfl rfl) rfl ?_
     refine JA_q 11 rfl (by kernel_rfl) (by kernel_rfl) (by kernel_rfl) trivial (QE_as rfl) rfl ?_
     refine JA_q 12 rfl (by kernel_rfl) (by kernel_rfl) (by kernel_rfl) trivial (QE_as rfl) rfl ?_
     refine JA_done (by kernel_rfl) ?_
     refine thenQ_n ?_
     refine JC_seq ?_
     refine JC_seq ?_
     refine JC_region ?_
     refine JO_q (QE_mv rfl) rfl ?_
     refine JO_q (QE_not rfl) rfl ?_
     refine JO_nil ?_
     refine thenQ_n ?_
     refine JC_ifM rfl (fun c23 => ?_) (fun c23 => ?_)
     ·
      have hmiss : labAt l x.2.2.1 = none := by simpa using c23
      refine JC_seq ?_
      refine JC_region ?_
      refine JO_q (QE_fa0 rfl rfl rfl rfl) rfl ?_
      refine JO_q (QE_ld1 0 rfl rfl rfl rfl rfl) rfl ?_
      refine JO_call (first := []) (captured := []) rfl rfl rfl (afault_ac D _ _ _ _) ?_
      rintro _ _ s24 h24 ⟨rfl, rfl⟩
      refine JO_q (QE_as rfl) rfl ?_
      refine JO_st 2 [_, _] rfl rfl rfl rfl rfl rfl rfl rfl rfl ?_
      refine JO_nil ?_
      refine thenQ_n ?_
      refine JC_ret ?_
      refine thenQ_r ?_
      refine blockQ_r ?_
      refine thenQ_r ?_
      refine thenQ_r ?_
      refine blockQ_r ?_
      refine thenQ_r ?_
      refine retQ_mk [_, _, _, _] _ (.inr rfl) (.tmp rfl (.agg (us := [_, _]) 2 rfl rfl rfl rfl rfl (.nil))) rfl (Le.trans (Le.trans (Le.trans (Le.trans (Le.trans (Le.trans (Le.trans (Le.trans (Le.trans (Le.trans (Le.trans (Le.trans (Le.trans h1 h2) h3) h4) h9) h10) h11) I12.1) h17) h18) I19.1) h21) h22) h24) (fun sR hS2 => ?_)
      first
        | (refine ⟨[], rfl, .pointer none, _, _, rfl, .inl ⟨hbad, asm_bad hbad⟩⟩)
        | (refine ⟨[], rfl, .pointer none, 3, -2, rfl, .inl ⟨by decide, asm_long ht0 hlong⟩⟩)
        | (exact ⟨_, HA_app .., .pointer none, _, _, rfl, .inl ⟨hcode, asm_line ht0 hlong (by rw [hS, hdr]; exact asmF_none hcode)⟩⟩)
        | (exact ⟨[_, _, _], rfl, .pointer none, _, _, rfl, .inl ⟨by decide, asm_ref ht0 hlong hS (by rw [hR]; exact refF_miss hxr hmiss)⟩⟩)
        | (exact ⟨_, rfl, _, 0, 0, rfl, .inr ⟨rfl, rfl, ba, bm, Aw, w.length, cw, Al, l.length, cl, _, es, ck, Mj, wj, l, rfl, rfl, hOj, huj, hLb.le (Le.trans (Le.trans (Le.trans (Le.trans (Le.trans h18 I19.1) h21) h22) h24) hS2), asm_ok ht0 hlong hS hR⟩⟩)
     ·
      obtain ⟨a, ha⟩ := Option.isSome_iff_exists.1 c23
      rw [show (assoc es x.2.2.1).getD (Value.int .u32 0) = .int .u32 a by rw [hE, ha]; rfl]
      refine JC_skip ?_
      refine thenQ_n ?_
      refine JC_drawE drawsMixed 12 rfl [6] (by intro x hx; exact eraseAll_mem hx) ?_
      intro s25 h25
      refine JA_q 0 rfl (by kernel_rfl) (by kernel_rfl) (by kernel_rfl) trivial (QE_mv rfl) rfl ?_
      refine JA_q 1 rfl (by kernel_rfl) (by kernel_rfl) (by kernel_rfl) trivial (QE_nil rfl) rfl ?_
      refine JA_q 2 rfl (by kernel_rfl) (by kernel_rfl) (by kernel_rfl) trivial (QE_faB rfl rfl rfl rfl) rfl ?_
      refine JA_q 3 rfl (by kernel_rfl) (by kernel_rfl) (by kernel_rfl) trivial (QE_ld1 4 rfl rfl rfl rfl rfl) rfl ?_
      refine JA_q 4 rfl (by kernel_rfl) (by kernel_rfl) (by kernel_rfl) trivial (QE_faB rfl rfl rfl rfl) rfl ?_
      refine JA_q 5 rfl (by kernel_rfl) (by kernel_rfl) (by kernel_rfl) trivial (QE_ld1 0 rfl rfl rfl rfl rfl) rfl ?_
      refine JA_q 6 rfl (by kernel_rfl) (by kernel_rfl) (by kernel_rfl) trivial (QE_ia1 rfl rfl rfl rfl rfl rfl (by omega)) rfl ?_
      refine JA_q 8 rfl (by kernel_rfl) (by kernel_rfl) (by kernel_rfl) trivial (QE_mv rfl) rfl ?_
      refine JA_1 7 (by kernel_rfl) ?_
      refine JB_q rfl trivial (QE_ld1 6 rfl rfl rfl rfl (nth_wvp (by omega))) rfl ?_
      refine JA_q 9 rfl (by kernel_rfl) (by kernel_rfl) (by kernel_rfl) trivial (QE_cast (QE_add rfl rfl) (congrArg (Value.int .u32) (wrapW _))) rfl ?_
      refine JA_q 10 rfl (by kernel_rfl) (by kernel_rfl) (by kernel_rfl) trivial (QE_ia1 rfl rfl rfl rfl rfl rfl (by omega)) rfl ?_
      refine JA_1 11 (by kernel_rfl) ?_
      refine JB_st rfl trivial 6 _ rfl rfl rfl rfl rfl (ble_wvp (by omega)) rfl (spl_wvp _ (by omega)) rfl (fun x hx => hx) ?_
      refine JA_done (by kernel_rfl) ?_
      refine blockQ_n ?_
      refine thenQ_n ?_
      refine JC_region ?_
      refine JO_q (QE_add' rfl rfl (w64 (by omega) (by omega))) rfl ?_
      refine JO_q (QE_mv rfl) rfl ?_
      refine JO_nil ?_
      refine thenQ_n ⟨(j + 1, [(bw, cb (wv (wj.set x.2.1 (w32 (wj.getD x.2.1 0 + a))) ++ yw) 52)], wj.set x.2.1 (w32 (wj.getD x.2.1 0 + a))), [_], (Keeps.cons rfl (Keeps.cons rfl (Keeps.cons rfl (Keeps.cons rfl (Keeps.cons rfl (Keeps.cons rfl (Keeps.nil _))))))), rfl, ⟨(Le.trans (Le.trans (Le.trans I19.1 h21) h22) h25), ⟨by simp only; omega, own_back (by simp only [wv_len, List.length_set]; exact hwj) (by simp only [wv_len, List.length_set]; rw [wv_len] at g2; exact g2) g3 g4, by simp only [List.length_set]; exact hwj, setU huj _ _ (w32_u _), by simp only; rw [hR, refF_hit hxr ha]⟩⟩, (by simp only; omega)⟩
    ·
     have hdr2 : r.drop j = [] := List.drop_eq_nil_of_le (by omega)
     rw [hdr2, refF] at hR
     refine JC_exit ?_
     refine thenQ_x ?_
     refine thenQ_x ?_
     refine blockQ_x ?_
     refine thenQ_n ?_
     refine JC_seq ?_
     refine JC_region ?_
     refine JO_q (QE_mv rfl) rfl ?_
     refine JO_q (QE_build [] [_, _] rfl rfl rfl rfl rfl rfl) rfl ?_
     refine JO_q (QE_as rfl) rfl ?_
     refine JO_st 1 [_, _] rfl rfl rfl rfl rfl rfl rfl rfl rfl ?_
     refine JO_nil ?_
     refine thenQ_n ?_
     refine JC_ret ?_
     refine retQ_mk [_, _, _] _ (.inr rfl) (.tmp rfl (.agg (us := [_, _]) 1 rfl rfl rfl rfl rfl (.nil))) rfl (Le.trans (Le.trans (Le.trans (Le.trans (Le.trans (Le.trans (Le.trans (Le.trans (Le.trans (Le.trans h1 h2) h3) h4) h9) h10) h11) I12.1) h17) h18) I19.1) (fun sR hS2 => ?_)
     first
       | (refine ⟨[], rfl, .pointer none, _, _, rfl, .inl ⟨hbad, asm_bad hbad⟩⟩)
       | (refine ⟨[], rfl, .pointer none, 3, -2, rfl, .inl ⟨by decide, asm_long ht0 hlong⟩⟩)
       | (exact ⟨_, HA_app .., .pointer none, _, _, rfl, .inl ⟨hcode, asm_line ht0 hlong (by rw [hS, hdr]; exact asmF_none hcode)⟩⟩)
       | (exact ⟨[_, _, _], rfl, .pointer none, _, _, rfl, .inl ⟨by decide, asm_ref ht0 hlong hS (by rw [hR]; exact refF_miss hxr hmiss)⟩⟩)
       | (exact ⟨_, rfl, _, 0, 0, rfl, .inr ⟨rfl, rfl, ba, bm, Aw, w.length, cw, Al, l.length, cl, _, es, ck, Mj, wj, l, rfl, rfl, hOj, huj, hLb.le (Le.trans (Le.trans h18 I19.1) hS2), asm_ok ht0 hlong hS hR⟩⟩)
end Go.Proofs.YteomcjpigoaioaaGreatDoor
namespace Go.Proofs.YteomcjpigoaioaaGreatDoor
open Go.FL
attribute [local irreducible] JC JO JA JB thenQ blockQ retQ AC fill CellsAt QE Ev Mid
def asmW (t : Tab) (tx : List UInt8) : List Int := match asmR t tx with
  | .inl _ => []
  | .inr x => x.1
def asmL (t : Tab) (tx : List UInt8) : List (List UInt8 × Int) := match asmR t tx with
  | .inl _ => []
  | .inr x => x.2
def asmFt (t : Tab) (tx : List UInt8) : Int × Int := match asmR t tx with
  | .inl f => f
  | .inr _ => (0, 0)
theorem asmW_l {t : Tab} {tx : List UInt8} {f : Int × Int} (h : asmR t tx = .inl f) : asmW t tx = [] ∧ asmL t tx = [] ∧ asmFt t tx = f := by simp [asmW, asmL, asmFt, h]
theorem asmW_r {t : Tab} {tx : List UInt8} {w : List Int} {l : List (List UInt8 × Int)} (h : asmR t tx = .inr (w, l)) : asmW t tx = w ∧ asmL t tx = l ∧ asmFt t tx = (0, 0) := by simp [asmW, asmL, asmFt, h]
theorem Labs.nil (s : World) : Labs s none 0 0 [] := ⟨rfl, Nat.le_refl _, by omega, fun i x h => by cases h⟩
set_option maxHeartbeats 2000000 in
set_option maxRecDepth 100000 in
theorem assembleO_ac (D : Nat) (L : Hl) (s : World) (hG : GW s) (t : Tab) (A : Option Addr) (n c : Nat) (hA : Inss s A n c t.ins) (tx : List UInt8) : AC Tryz.prog D 11 [.agg #[.int .i64 t.cells, .slice A n c], St tx] L s fun v L' s' => ∃ M', L' = M' ++ L ∧ ∀ s2, Le D s' s2 → Pub M' s2 → ∃ A1 n1 c1, v = .tuple #[.slice A1 n1 c1, .agg #[.int .i64 (asmFt t tx).1, .int .i64 (asmFt t tx).2]] ∧ Wds s2 A1 n1 c1 (asmW t tx) := by
 refine AC_enter (TT := TT) (fn := Tryz.f11) TT_ok Tryz.func11 (by kernel_rfl) rfl Tryz.ntmps11 rfl (rs := [.tmp 4, .cell 5 27]) rfl [(0, _), (1, _)] rfl ?_
 refine JC_seq ?_
 refine JC_region ?_
 refine JO_boxA rfl rfl ?_
 intro β1 s1 h1
 refine JO_q (QE_as rfl) rfl ?_
 refine JO_allocZ rfl [_, _] rfl rfl ?_
 intro β2 s2 h2
 refine JO_nil ?_
 refine thenQ_n ?_
 refine JC_seq ?_
 refine JC_region ?_
 refine JO_q (QE_ldA 1 [_, _] rfl rfl rfl rfl rfl) rfl ?_
 refine JO_q (QE_mv rfl) rfl ?_
 refine JO_call (first := []) (captured := []) rfl rfl rfl (AC.mid [_, _] [] _ (assemble_ac D _ _ (hG.le (Le.trans h1 h2)) _ _ _ _ (hA.le (Le.trans h1 h2)) tx)) ?_
 rintro _ _ s3 h3 ⟨Mx, rfl, p, f1, f2, rfl, hR⟩
 simp only [List.cons_append, List.nil_append]
 refine JO_q (QE_mv rfl) rfl ?_
 refine JO_q (QE_ext rfl rfl) rfl ?_
 refine JO_q (QE_ext rfl rfl) rfl ?_
 refine JO_allocZ rfl [_, _] rfl rfl ?_
 intro β4 s4 h4
 refine JO_q (QE_as rfl) rfl ?_
 refine JO_st 0 [_, _] rfl rfl rfl rfl rfl rfl rfl rfl rfl ?_
 refine JO_nil ?_
 refine thenQ_n ?_
 refine JC_seq ?_
 refine JC_seq ?_
 refine JC_region ?_
 refine JO_q (QE_ldA 0 [_, _] rfl rfl rfl rfl rfl) rfl ?_
 refine JO_q (QE_build [] [_, _] rfl rfl rfl rfl rfl rfl) rfl ?_
 refine JO_q (QE_ane rfl rfl (eqFault _ _ _ _)) rfl ?_
 refine JO_nil ?_
 refine thenQ_n ?_
 refine JC_ifN rfl (fun c5 => ?_) (fun c5 => ?_)
 ·
  obtain ⟨hne, hbad⟩ | ⟨hz1, hz2, _⟩ := hR
  rotate_left
  · exact absurd ⟨hz1, hz2⟩ c5
  obtain ⟨e1, e2, e3⟩ := asmW_l hbad
  refine JC_seq ?_
  refine JC_drawE drawsMixed 3 rfl [1] (by intro x hx; exact eraseAll_mem hx) ?_
  intro s6 h6
  refine JA_q 0 rfl (by kernel_rfl) (by kernel_rfl) (by kernel_rfl) trivial (QE_ldA 0 [_, _] rfl rfl rfl rfl rfl) rfl ?_
  refine JA_q 1 rfl (by kernel_rfl) (by kernel_rfl) (by kernel_rfl) trivial (QE_as rfl) rfl ?_
  refine JA_1 2 (by kernel_rfl) ?_
  refine JB_st rfl trivial 1 [_, _] rfl rfl rfl rfl rfl rfl rfl rfl rfl (fun _ hx => sub_mem (sbY (sbY (sbE _))) hx) ?_
  refine JA_done (by kernel_rfl) ?_
  refine thenQ_n ?_
  refine JC_ret ?_
  refine thenQ_r ?_
  refine retQ_mk [_, _, _] _ (.inr rfl) (.tmp rfl (.agg (us := [_, _]) 1 rfl rfl rfl rfl rfl (.nil))) rfl (Le.trans (Le.trans (Le.trans (Le.trans h1 h2) h3) h4) h6) (fun sR hS2 => ?_)
  first
    | (exact ⟨_, rfl, fun s2 hs2 hp => ⟨Aw, nw, cw, by rw [e3]; rfl, by rw [e1]; exact Own.wds hOw huw hp⟩⟩)
    | (exact ⟨_, rfl, fun s2 hs2 hp => ⟨none, 0, 0, by rw [e3]; rfl, by first | (rw [e1]; exact Wds.nil _ _ _ (by omega)) | (rw [e2]; exact Labs.nil _)⟩⟩)
 ·
  obtain ⟨hne, hbad⟩ | ⟨hz1, hz2, ba, bm, Aw, nw, cw, Al, nl, cl, vr, es, ck, Mw, w, l, hp, hM, hOw, huw, hLb, hok⟩ := hR
  · exact absurd c5.1 hne
  subst hp
  subst hM
  have hnw := hLb.1
  simp only [List.cons_append]
  obtain ⟨e1, e2, e3⟩ := asmW_r hok
  refine JC_skip ?_
  refine thenQ_n ?_
  refine JC_seq ?_
  refine JC_region ?_
  refine JO_q (QE_mv rfl) rfl ?_
  refine JO_q (QE_nil rfl) rfl ?_
  refine JO_q (QE_faB rfl rfl rfl rfl) rfl ?_
  refine JO_q (QE_ld1 3 rfl rfl rfl rfl rfl) rfl ?_
  refine JO_q (QE_build [] [_, _] rfl rfl rfl rfl rfl rfl) rfl ?_
  refine JO_q (QE_as rfl) rfl ?_
  refine JO_st 1 [_, _] rfl rfl rfl rfl rfl rfl rfl rfl rfl ?_
  refine JO_nil ?_
  refine thenQ_n ?_
  refine JC_ret ?_
  refine retQ_mk [_, _, _, _, _] _ (.inr rfl) (.tmp rfl (.agg (us := [_, _]) 1 rfl rfl rfl rfl rfl (.nil))) rfl (Le.trans (Le.trans (Le.trans h1 h2) h3) h4) (fun sR hS2 => ?_)
  first
    | (exact ⟨_, rfl, fun s2 hs2 hp => ⟨Aw, nw, cw, by rw [e3]; rfl, by rw [e1]; exact Own.wds hOw huw hp⟩⟩)
    | (exact ⟨_, rfl, fun s2 hs2 hp => ⟨none, 0, 0, by rw [e3]; rfl, by first | (rw [e1]; exact Wds.nil _ _ _ (by omega)) | (rw [e2]; exact Labs.nil _)⟩⟩)
set_option maxHeartbeats 2000000 in
set_option maxRecDepth 100000 in
theorem labelsO_ac (D : Nat) (L : Hl) (s : World) (hG : GW s) (t : Tab) (A : Option Addr) (n c : Nat) (hA : Inss s A n c t.ins) (tx : List UInt8) : AC Tryz.prog D 12 [.agg #[.int .i64 t.cells, .slice A n c], St tx] L s fun v L' s' => ∃ M', L' = M' ++ L ∧ ∀ s2, Le D s' s2 → Pub M' s2 → ∃ A1 n1 c1, v = .tuple #[.slice A1 n1 c1, .agg #[.int .i64 (asmFt t tx).1, .int .i64 (asmFt t tx).2]] ∧ Labs s2 A1 n1 c1 (asmL t tx) := by
 refine AC_enter (TT := TT) (fn := Tryz.f12) TT_ok Tryz.func12 (by kernel_rfl) rfl Tryz.ntmps12 rfl (rs := [.tmp 4, .cell 5 27]) rfl [(0, _), (1, _)] rfl ?_
 refine JC_seq ?_
 refine JC_region ?_
 refine JO_boxA rfl rfl ?_
 intro β1 s1 h1
 refine JO_q (QE_as rfl) rfl ?_
 refine JO_allocZ rfl [_, _] rfl rfl ?_
 intro β2 s2 h2
 refine JO_nil ?_
 refine thenQ_n ?_
 refine JC_seq ?_
 refine JC_region ?_
 refine JO_q (QE_ldA 1 [_, _] rfl rfl rfl rfl rfl) rfl ?_
 refine JO_q (QE_mv rfl) rfl ?_
 refine JO_call (first := []) (captured := []) rfl rfl rfl (AC.mid [_, _] [] _ (assemble_ac D _ _ (hG.le (Le.trans h1 h2)) _ _ _ _ (hA.le (Le.trans h1 h2)) tx)) ?_
 rintro _ _ s3 h3 ⟨Mx, rfl, p, f1, f2, rfl, hR⟩
 simp only [List.cons_append, List.nil_append]
 refine JO_q (QE_mv rfl) rfl ?_
 refine JO_q (QE_ext rfl rfl) rfl ?_
 refine JO_q (QE_ext rfl rfl) rfl ?_
 refine JO_allocZ rfl [_, _] rfl rfl ?_
 intro β4 s4 h4
 refine JO_q (QE_as rfl) rfl ?_
 refine JO_st 0 [_, _] rfl rfl rfl rfl rfl rfl rfl rfl rfl ?_
 refine JO_nil ?_
 refine thenQ_n ?_
 refine JC_seq ?_
 refine JC_seq ?_
 refine JC_region ?_
 refine JO_q (QE_ldA 0 [_, _] rfl rfl rfl rfl rfl) rfl ?_
 refine JO_q (QE_build [] [_, _] rfl rfl rfl rfl rfl rfl) rfl ?_
 refine JO_q (QE_ane rfl rfl (eqFault _ _ _ _)) rfl ?_
 refine JO_nil ?_
 refine thenQ_n ?_
 refine JC_ifN rfl (fun c5 => ?_) (fun c5 => ?_)
 ·
  obtain ⟨hne, hbad⟩ | ⟨hz1, hz2, _⟩ := hR
  rotate_left
  · exact absurd ⟨hz1, hz2⟩ c5
  obtain ⟨e1, e2, e3⟩ := asmW_l hbad
  refine JC_seq ?_
  refine JC_drawE drawsMixed 3 rfl [1] (by intro x hx; exact eraseAll_mem hx) ?_
  intro s6 h6
  refine JA_q 0 rfl (by kernel_rfl) (by kernel_rfl) (by kernel_rfl) trivial (QE_ldA 0 [_, _] rfl rfl rfl rfl rfl) rfl ?_
  refine JA_q 1 rfl (by kernel_rfl) (by kernel_rfl) (by kernel_rfl) trivial (QE_as rfl) rfl ?_
  refine JA_1 2 (by kernel_rfl) ?_
  refine JB_st rfl trivial 1 [_, _] rfl rfl rfl rfl rfl rfl rfl rfl rfl (fun _ hx => sub_mem (sbY (sbY (sbE _))) hx) ?_
  refine JA_done (by kernel_rfl) ?_
  refine thenQ_n ?_
  refine JC_ret ?_
  refine thenQ_r ?_
  refine retQ_mk [_, _, _] _ (.inr rfl) (.tmp rfl (.agg (us := [_, _]) 1 rfl rfl rfl rfl rfl (.nil))) rfl (Le.trans (Le.trans (Le.trans (Le.trans h1 h2) h3) h4) h6) (fun sR hS2 => ?_)
  first
    | (exact ⟨_, rfl, fun s2 hs2 hp => ⟨Al, nl, cl, by rw [e3]; rfl, by rw [e2]; exact hLb.le (Le.trans (Le.trans h4 h6) (Le.trans hS2 hs2))⟩⟩)
    | (exact ⟨_, rfl, fun s2 hs2 hp => ⟨none, 0, 0, by rw [e3]; rfl, by first | (rw [e1]; exact Wds.nil _ _ _ (by omega)) | (rw [e2]; exact Labs.nil _)⟩⟩)
 ·
  obtain ⟨hne, hbad⟩ | ⟨hz1, hz2, ba, bm, Aw, nw, cw, Al, nl, cl, vr, es, ck, Mw, w, l, hp, hM, hOw, huw, hLb, hok⟩ := hR
  · exact absurd c5.1 hne
  subst hp
  subst hM
  have hnw := hLb.1
  simp only [List.cons_append]
  obtain ⟨e1, e2, e3⟩ := asmW_r hok
  refine JC_skip ?_
  refine thenQ_n ?_
  refine JC_seq ?_
  refine JC_region ?_
  refine JO_q (QE_mv rfl) rfl ?_
  refine JO_q (QE_nil rfl) rfl ?_
  refine JO_q (QE_faB rfl rfl rfl rfl) rfl ?_
  refine JO_q (QE_ld1 3 rfl rfl rfl rfl rfl) rfl ?_
  refine JO_q (QE_build [] [_, _] rfl rfl rfl rfl rfl rfl) rfl ?_
  refine JO_q (QE_as rfl) rfl ?_
  refine JO_st 1 [_, _] rfl rfl rfl rfl rfl rfl rfl rfl rfl ?_
  refine JO_nil ?_
  refine thenQ_n ?_
  refine JC_ret ?_
  refine retQ_mk [_, _, _, _, _] _ (.inr rfl) (.tmp rfl (.agg (us := [_, _]) 1 rfl rfl rfl rfl rfl (.nil))) rfl (Le.trans (Le.trans (Le.trans h1 h2) h3) h4) (fun sR hS2 => ?_)
  first
    | (exact ⟨_, rfl, fun s2 hs2 hp => ⟨Al, nl, cl, by rw [e3]; rfl, by rw [e2]; exact hLb.le (Le.trans h4 (Le.trans hS2 hs2))⟩⟩)
    | (exact ⟨_, rfl, fun s2 hs2 hp => ⟨none, 0, 0, by rw [e3]; rfl, by first | (rw [e1]; exact Wds.nil _ _ _ (by omega)) | (rw [e2]; exact Labs.nil _)⟩⟩)
theorem assembleP_ac (D : Nat) (L : Hl) (s : World) (hG : GW s) (t : Tab) (A : Option Addr) (n c : Nat) (hA : Inss s A n c t.ins) (tx : List UInt8) : AC Tryz.prog D 11 [.agg #[.int .i64 t.cells, .slice A n c], St tx] L s fun v L' s' => L = L' ∧ ∃ A1 n1 c1, v = .tuple #[.slice A1 n1 c1, .agg #[.int .i64 (asmFt t tx).1, .int .i64 (asmFt t tx).2]] ∧ Wds s' A1 n1 c1 (asmW t tx) := AC.pubW (assembleO_ac D L s hG t A n c hA tx)
theorem labelsP_ac (D : Nat) (L : Hl) (s : World) (hG : GW s) (t : Tab) (A : Option Addr) (n c : Nat) (hA : Inss s A n c t.ins) (tx : List UInt8) : AC Tryz.prog D 12 [.agg #[.int .i64 t.cells, .slice A n c], St tx] L s fun v L' s' => L = L' ∧ ∃ A1 n1 c1, v = .tuple #[.slice A1 n1 c1, .agg #[.int .i64 (asmFt t tx).1, .int .i64 (asmFt t tx).2]] ∧ Labs s' A1 n1 c1 (asmL t tx) := AC.pubW (labelsO_ac D L s hG t A n c hA tx)
end Go.Proofs.YteomcjpigoaioaaGreatDoor
namespace Go.FL
open Go Go.RowKit
section
variable {P : Program} {TT : TyTab} {D n : Nat} {Q : APost} {fr : Fr} {L L' K : Hl} {s s' s0 : World} {ops : Array Oper} {rest : List Oper} {d ty : Nat} {op : Op} {pos : String} {af : Array Edge} {v : Value}
theorem QE_peq {x : Operand} {p : Option Addr} {t t' te : Nat} (hp : P.underlying t = some (.pointer te)) (hx : lk fr x = some (.pointer p)) : QE P TT D fr (.binOp .eql t x (.const (.pointer none)) t') ty K s0 (.bool p.isNone) :=
  QE.pure fun _ dst pos af g ρ hρ w => by
    have hc := hρ (.const (.pointer none)) _ rfl
    have h : ∀ k : Nat, (Op.equalIn (k + 1) t (.pointer p) (.pointer none)).run P w = .ok p.isNone w := fun k => by cases p <;> simp [Op.equalIn, run_underlying hp]
    have h2 : (binOp .eql t (.pointer p) (.pointer none)).run P w = .ok (.bool p.isNone) w := by simp only [binOp]; simp [Op.equal, Op.maxDepth, h 9999]
    simp [execOp, hρ x _ hx, hc, eqGuard, h2]
theorem QE_pne {x : Operand} {p : Option Addr} {t t' te : Nat} (hp : P.underlying t = some (.pointer te)) (hx : lk fr x = some (.pointer p)) : QE P TT D fr (.binOp .neq t x (.const (.pointer none)) t') ty K s0 (.bool p.isSome) :=
  QE.pure fun _ dst pos af g ρ hρ w => by
    have hc := hρ (.const (.pointer none)) _ rfl
    have h : ∀ k : Nat, (Op.equalIn (k + 1) t (.pointer p) (.pointer none)).run P w = .ok p.isNone w := fun k => by cases p <;> simp [Op.equalIn, run_underlying hp]
    have h2 : (binOp .neq t (.pointer p) (.pointer none)).run P w = .ok (.bool p.isSome) w := by simp only [binOp]; cases p <;> simp [Op.equal, Op.maxDepth, h 9999]
    simp [execOp, hρ x _ hx, hc, eqGuard, h2]
theorem QE_pns {x y : Operand} {a : Addr} {t t' te : Nat} {ti : TI} (hp : P.underlying t = some (.pointer te)) (hte : tlook TT te = some ti) (hx : lk fr x = some (.pointer (some a))) (hy : lk fr y = some (.pointer (some a))) : QE P TT D fr (.binOp .neq t x y t') ty K s0 (.bool false) :=
  QE.pure fun hT dst pos af g ρ hρ w => by
    obtain ⟨i, i1, _⟩ := info_of (hT.at_ hte)
    simp [execOp, hρ x _ hx, hρ y _ hy, eqGuard, Lib.run_neq_ptr_same w a hp i1]
theorem shape_mem {zs : List Value} {b e : Nat} (ho : OKL D L s) (hi : (b, cb zs e) ∈ L) : (fill L s).shape? b = some (e, zs.length) := by
  have := fill_mem ho hi
  unfold World.shape?
  rw [this]
  simp [cb]
theorem QE_toU {t t' te b e : Nat} {x : Operand} {ti : TI} {zs : List Value} (i : Nat) (hs : P.underlying t = some (.pointer te)) (hd : P.underlying t' = some .unsafePointer) (hte : tlook TT te = some ti) (hx : lk fr x = some (.pointer (some ⟨b, 0, none⟩))) (hi : K[i]? = some (b, cb zs e)) (hz : Nat.blt 0 zs.length = true) : QE P TT D fr (.convert t t' x) ty K s0 (.pointer (some ⟨b, 0, none⟩)) :=
  fun hT dst pos af g ρ hρ L s ho hl hK => by
    obtain ⟨i0, i1, i2, _⟩ := info_of (hT.at_ hte)
    have hpos : 0 < ti.size := (hT.at_ hte).2.2.2.2.2.1
    have hr := Lib.run_to_unsafe (P := P) (fill L s) ⟨b, 0, none⟩ hs hd i1 (by rw [i2]; omega) (shape_mem ho (hK _ (List.mem_of_getElem? hi))) (by simpa using hz)
    simp only [execOp, hρ x _ hx, Sem.run_bind, hr, Result.andThen_ok, Sem.run_pure]
theorem QE_fromU {t t' te b e : Nat} {x : Operand} {ti : TI} {zs : List Value} (i : Nat) (hs : P.underlying t = some .unsafePointer) (hd : P.underlying t' = some (.pointer te)) (hte : tlook TT te = some ti) (hx : lk fr x = some (.pointer (some ⟨b, 0, none⟩))) (hi : K[i]? = some (b, cb zs e)) (hlies : liesAt P P.depth e (zs.length / P.cellsOf e) 0 te 1 = true) : QE P TT D fr (.convert t t' x) ty K s0 (.pointer (some ⟨b, 0, none⟩)) :=
  fun hT dst pos af g ρ hρ L s ho hl hK => by
    obtain ⟨i0, i1, i2, _⟩ := info_of (hT.at_ hte)
    have hr := Lib.run_from_unsafe (P := P) (fill L s) ⟨b, 0, none⟩ hs hd i1 (shape_mem ho (hK _ (List.mem_of_getElem? hi))) hlies
    simp only [execOp, hρ x _ hx, Sem.run_bind, hr, Result.andThen_ok, Sem.run_pure]
theorem QE_same {f : FuncId} {fn : Func} {x y : Operand} {ts : Array TypeId} (hf : P.funcs[f]? = some fn) (hname : (fn.name == "runtime.NumGoroutine") = false) (hb : fn.body.isNone = true) (hn : Extern.findNext fn = none) (he : Extern.find fn = some Extern.AbiNoEscape.same) (hx : lk fr x = some (.func (.func f) #[] #[])) (hy : lk fr y = some v) :
    QE P TT D fr (.call { callee := .value x, args := #[y], argTypes := ts }) ty K s0 v :=
  QE.pure fun hT dst pos af g ρ hρ w => by
    have hr := run_callFunc_extern hf hname hb hn he #[v] w
    rw [Lib.run_noEscape] at hr
    simp [execOp, resolve, Deferred.ofValue, invoke, hρ x _ hx, hρ y _ hy, hr]
theorem QE_usd {x : Operand} {ts : Array TypeId} {A : Option Addr} {m c : Nat} (hx : lk fr x = some (.slice A m c)) (hc : A = none ∨ c ≠ 0) : QE P TT D fr (.call { callee := .builtin .unsafeSliceData, args := #[x], argTypes := ts }) ty K s0 (.pointer A) :=
  QE.pure fun hT dst pos af g ρ hρ w => by
    rcases hc with rfl | hc
    · simp [execOp, resolve, invoke, builtin, hρ x _ hx, Lib.run_unsafeSliceData_nil]
    · cases A with
      | none => simp [execOp, resolve, invoke, builtin, hρ x _ hx, Lib.run_unsafeSliceData_nil]
      | some a => simp [execOp, resolve, invoke, builtin, hρ x _ hx, Lib.run_unsafeSliceData_row _ _ _ _ _ _ hc]
theorem freeze_set (w : World) (g e k : Nat) (cs : Array Value) (hk : k ≠ 0) (hg : g < w.heap.size) : (setBlk w g (.cells cs e (0, 0))).freeze ⟨g, 0, none⟩ k = setBlk w g (.cells cs e (0, k)) := by
  unfold World.freeze
  rw [if_neg hk]
  refine world_eq (heap_ext fun j => ?_) rfl rfl rfl rfl
  show ((w.heap.setIfInBounds g _).modify g _)[j]? = (w.heap.setIfInBounds g _)[j]?
  rw [Array.getElem?_modify]
  by_cases hj : g = j
  · subst hj
    rw [if_pos rfl, Array.getElem?_setIfInBounds_self, Array.getElem?_setIfInBounds_self]
    simp [hg]
  · rw [if_neg hj, Array.getElem?_setIfInBounds_ne hj, Array.getElem?_setIfInBounds_ne hj]
end
end Go.FL
namespace Go.FL
open Go Go.RowKit Go.Proofs.YteomcjpigoaioaaGreatDoor
section
variable {P : Program} {TT : TyTab} {D n : Nat} {Q : APost} {fr : Fr} {L L' K : Hl} {s s' s0 : World} {ops : Array Oper} {rest : List Oper} {d ty : Nat} {op : Op} {pos : String} {af : Array Edge} {v : Value}
theorem Ev_ustr {tp ti0 e : Nat} {x y : Operand} {A : Option Addr} {l : List UInt8} {c : Nat} (X M L0 : Hl) (hp : P.underlying tp = some (.pointer e)) (hce : P.cellsOf e = 1) (hx : lk fr x = some (.pointer A)) (hy : lk fr y = some (.int .i64 (l.length : Int))) (hO : Own e 1 M (.slice A l.length c) l.length (bv l)) (hn : l = [] → M = []) (ho : OKL D (X ++ (M ++ L0)) s) :
    ∃ s', Ev P TT D fr (.call { callee := .builtin .unsafeString, args := #[x, y], argTypes := #[tp, ti0] }) ty (X ++ (M ++ L0)) s (.value (St l)) (X ++ L0) s' ∧ Le D s s' := by
  by_cases h0 : l = []
  · subst h0
    have hM := hn rfl
    subst hM
    refine ⟨s, fun hT ho dst pos af g ρ hρ => ⟨?_, by simpa using ho⟩, Le.refl _⟩
    simp only [List.length_nil] at hy
    have hr := Lib.run_unsafeString_none (P := P) (fill (X ++ ([] ++ L0)) s) tp ti0 ty A
    simp [execOp, resolve, invoke, builtin, hρ x _ hx, hρ y _ hy]
    simp at hr
    rw [hr]
    rfl
  · have hl0 : l.length ≠ 0 := by simpa using h0
    obtain ⟨g, ys, hA, hM, g1, g2, g3, g4⟩ : ∃ g ys, A = some ⟨g, 0, none⟩ ∧ M = [(g, cb (bv l ++ ys) e)] ∧ (bv l).length = l.length ∧ (bv l).length + ys.length = c ∧ l.length ≤ c ∧ c ≤ 9223372036854775807 := own_blk hO (by omega)
    subst hA
    subst hM
    have hperm : (X ++ ([(g, cb (bv l ++ ys) e)] ++ L0)).Perm ((g, cb (bv l ++ ys) e) :: (X ++ L0)) := by simpa using List.perm_middle
    have ho2 := ho.perm hperm
    have hgs : g < s.heap.size := ho2.lt (List.mem_cons_self ..)
    have hgs2 : g < (fill (X ++ L0) s).heap.size := by rw [fill_size]; exact hgs
    have ho3 : OKL D ([(g, Obj.cells (bv l ++ ys).toArray e (0, l.length))] ++ (X ++ L0)) s := ⟨by simpa using ho2.nd, fun x hx => by
      rcases List.mem_cons.1 hx with rfl | hx
      · exact ho2.dm (g, cb (bv l ++ ys) e) (List.mem_cons_self ..)
      · exact ho2.dm x (List.mem_cons_of_mem _ hx)⟩
    obtain ⟨d1, d2, d3⟩ := drop_own ho3
    have hbl : (bv l).length = l.length := g1
    have hus := Lib.run_unsafeString_row (P := P) (fill (X ++ ([(g, cb (bv l ++ ys) e)] ++ L0)) s) tp ti0 ty e hp hce g ((bv l ++ ys).length) (shape_mem ho (by simp)) l h0 (by simp [hbl]) (by omega) (fun j x hx => by
      rw [add_lit, Nat.zero_add, mem_cell ho (zs := bv l ++ ys) (t := e) (by simp), List.getElem?_append_left (by rw [hbl]; exact (List.getElem?_eq_some_iff.1 hx).1)]
      simp [bv, hx])
    have hw : (fill (X ++ ([(g, cb (bv l ++ ys) e)] ++ L0)) s).freeze ⟨g, 0, none⟩ l.length = fill (X ++ L0) (fill [(g, Obj.cells (bv l ++ ys).toArray e (0, l.length))] s) := by
      rw [fill_perm hperm _ ho, ← d1]
      exact freeze_set (fill (X ++ L0) s) g e l.length (bv l ++ ys).toArray hl0 hgs2
    refine ⟨fill [(g, Obj.cells (bv l ++ ys).toArray e (0, l.length))] s, fun hT _ dst pos af gg ρ hρ => ⟨?_, d2⟩, d3⟩
    rw [hw] at hus
    simp only [execOp, resolve, invoke, builtin, Sem.run_bind, Sem.run_pure, Result.andThen_ok, List.map_toArray, List.map_cons, List.map_nil, hρ x _ hx, hρ y _ hy, hus]
theorem JB_ustr {i0 tp ti0 e : Nat} {g : Option (Nat × Bool)} {fuel : Nat} {listed : Array Bool} {x y : Operand} {A : Option Addr} {l : List UInt8} {c : Nat} (hi0 : ops[i0]? = some ⟨some d, .call { callee := .builtin .unsafeString, args := #[x, y], argTypes := #[tp, ti0] }, ty, pos, af, g⟩) (hgk : GOK ops fr g)
    (X M L0 : Hl) (hL : L = X ++ (M ++ L0)) (hp : P.underlying tp = some (.pointer e)) (hce : P.cellsOf e = 1) (hx : lk fr x = some (.pointer A)) (hy : lk fr y = some (.int .i64 (l.length : Int))) (hO : Own e 1 M (.slice A l.length c) l.length (bv l)) (hn : l = [] → M = []) (hd : Nat.blt d n = true) (hK : ∀ x ∈ K, x ∈ X ++ (M ++ L0) → x ∈ X ++ L0)
    (kk : ∀ s', Le D s s' → JA P TT D n ops Q K s0 fuel (listed.setIfInBounds i0 true) ((d, St l) :: fr) (X ++ L0) s') : JB P TT D n ops Q K s0 fuel listed i0 fr L s := fun hT a hr ho hl0 hKL => by
  subst hL
  obtain ⟨s', h1, h2⟩ := Ev_ustr (ty := ty) X M L0 hp hce hx hy hO hn ho
  exact JB_ev hi0 hgk h1 h2 hK hd (kk s' h2) hT a hr ho hl0 hKL
end
end Go.FL
namespace Go.Proofs.YteomcjpigoaioaaGreatDoor
open Go Go.FL Go.RowKit
def BV (M : Hl) (v : Value) (l : List UInt8) : Prop := Own 5 1 M v l.length (bv l) ∧ (l = [] → M = [] ∧ v = .slice none 0 0)
theorem BV.nil : BV [] (.slice none 0 0) [] := ⟨Own.nil, fun _ => ⟨rfl, rfl⟩⟩
theorem own_none {e : Nat} {M : Hl} {n : Nat} {xs : List Value} (h : Own e 1 M (.slice none 0 0) n xs) : M = [] := by cases h; rfl
theorem BV.app {M M1 : Hl} {v v1 : Value} {l l2 : List UInt8} (h : BV M v l) (o : Own 5 1 M1 v1 (l.length + l2.length) (bv l ++ bv l2)) (hn : v = .slice none 0 0 → l2.length = 0 → v1 = .slice none 0 0) : BV M1 v1 (l ++ l2) := by
  have hb : bv (l ++ l2) = bv l ++ bv l2 := by simp [bv]
  refine ⟨by rw [hb, List.length_append]; exact o, fun h0 => ?_⟩
  obtain ⟨h1, h2⟩ := List.append_eq_nil_iff.1 h0
  have hv := hn (h.2 h1).2 (by rw [h2]; rfl)
  subst hv
  exact ⟨own_none o, rfl⟩
theorem BV.one {M M1 : Hl} {v v1 : Value} {l : List UInt8} {c : UInt8} (o : Own 5 1 M1 v1 (l.length + 1) (bv l ++ [.int .u8 (c.toNat : Int)])) : BV M1 v1 (l ++ [c]) := by
  have hb : bv (l ++ [c]) = bv l ++ [.int .u8 (c.toNat : Int)] := by simp [bv]
  exact ⟨by rw [hb, List.length_append]; exact o, fun h0 => by simp at h0⟩
theorem BV.cap {M : Hl} {A : Option Addr} {n c : Nat} {l : List UInt8} (h : BV M (.slice A n c) l) : A = none ∨ c ≠ 0 := by
  by_cases h0 : l = []
  · have := (h.2 h0).2; injection this with e; exact .inl e
  · right
    obtain ⟨_, c', e, h2, _⟩ := Own.slice h.1
    injection e with e1 e2 e3
    have : l.length ≠ 0 := by simpa using h0
    omega
def lstF (t : Tab) : List Int → List UInt8
  | [] => []
  | [x] => match findI t.ins x with
    | some y => if y.operand then wordB ++ 32 :: (Lib.decDigits x.toNat ++ [10]) else y.name ++ [10]
    | none => wordB ++ 32 :: (Lib.decDigits x.toNat ++ [10])
  | x :: a :: r => match findI t.ins x with
    | some y => if y.operand then y.name ++ 32 :: (Lib.decDigits a.toNat ++ 10 :: lstF t r) else y.name ++ 10 :: lstF t (a :: r)
    | none => wordB ++ 32 :: (Lib.decDigits x.toNat ++ 10 :: lstF t (a :: r))
def listS (t : Tab) (l : List Int) : List UInt8 := if (tabFault t).1 ≠ 0 then [] else if t.cells < (l.length : Int) then [] else if 400000 < (lstF t l).length then [] else lstF t l
def listE (t : Tab) (l : List Int) : Int × Int := if (tabFault t).1 ≠ 0 then tabFault t else if t.cells < (l.length : Int) then (3, -2) else if 400000 < (lstF t l).length then (14, -2) else (0, 0)
def plainB (t : Tab) (x : Int) : Bool := match findI t.ins x with
  | some y => !y.operand
  | none => false
theorem lst_plain {t : Tab} {x : Int} {y : Ins} {r : List Int} (h : findI t.ins x = some y) (ho : y.operand = false) : lstF t (x :: r) = y.name ++ 10 :: lstF t r := by
  cases r <;> simp [lstF, h, ho]
theorem lst_opd {t : Tab} {x a : Int} {y : Ins} {r : List Int} (h : findI t.ins x = some y) (ho : y.operand = true) : lstF t (x :: a :: r) = y.name ++ 32 :: (Lib.decDigits a.toNat ++ 10 :: lstF t r) := by
  simp [lstF, h, ho]
theorem lst_word {t : Tab} {x : Int} {r : List Int} (h : plainB t x = false) (h2 : ¬ ((findI t.ins x).isSome = true ∧ r ≠ [])) : lstF t (x :: r) = wordB ++ 32 :: (Lib.decDigits x.toNat ++ 10 :: lstF t r) := by
  cases hf : findI t.ins x with
  | none => cases r <;> simp [lstF, hf]
  | some y =>
    rw [hf] at h2
    have hr : r = [] := by
      by_cases hr : r = []
      · exact hr
      · exact absurd ⟨rfl, hr⟩ h2
    subst hr
    unfold plainB at h
    rw [hf] at h
    have ho : y.operand = true := by simpa using h
    simp [lstF, hf, ho]
theorem mnem_len {l : List UInt8} (h : mnemB l = true) : l ≠ [] ∧ l.length ≤ 6 := by
  simp only [mnemB, Bool.and_eq_true] at h
  exact labelB_len h.1.1
theorem tab_rows {t : Tab} (h : (tabFault t).1 = 0) : ∀ (i : Nat) (x : Ins), t.ins[i]? = some x → insCode x = 0 ∧ (t.ins.take i).any (sameKey x) = false := by
  unfold tabFault at h
  split at h
  · cases h
  split at h
  · cases h
  have hr := firstBad_all h
  intro i x hi
  have hl : i < t.ins.length := (List.getElem?_eq_some_iff.1 hi).1
  have := hr i (Nat.zero_le _) (by omega)
  simp only [rowCode, hi] at this
  split at this
  · contradiction
  · rename_i h0
    simp at h0
    refine ⟨h0, ?_⟩
    split at this
    · cases this
    · rename_i h3; simpa using h3
theorem tab_mnem {t : Tab} (h : (tabFault t).1 = 0) {x : Ins} (hx : x ∈ t.ins) : mnemB x.name = true := by
  obtain ⟨i, hi⟩ := List.mem_iff_getElem?.1 hx
  have := (tab_rows h i x hi).1
  unfold insCode at this
  split at this
  · cases this
  · rename_i h0; simpa using h0
theorem findI_mem {l : List Ins} {c : Int} {y : Ins} (h : findI l c = some y) : y ∈ l ∧ y.code = c := by
  refine ⟨List.mem_of_find?_eq_some h, ?_⟩
  have := List.find?_some h
  simpa using this
end Go.Proofs.YteomcjpigoaioaaGreatDoor
namespace Go.Proofs.YteomcjpigoaioaaGreatDoor
open Go.FL
attribute [local irreducible] JC JO JA JB thenQ blockQ retQ AC fill CellsAt QE Ev Mid
set_option maxHeartbeats 1000000 in
set_option maxRecDepth 100000 in
theorem copyCheck_ac (D : Nat) (L : Hl) (s : World) (bb : Nat) (p : Option Addr) (hp : p = none ∨ p = some ⟨bb, 0, none⟩) (v : Value) : AC Tryz.prog D 84 [.pointer (some ⟨bb, 0, none⟩)] ((bb, cb [.pointer p, v] 104) :: L) s fun u L' _ => u = .tuple #[] ∧ L' = (bb, cb [.pointer (some ⟨bb, 0, none⟩), v] 104) :: L := by
 refine AC_enter (TT := TT) (fn := Tryz.f84) TT_ok Tryz.func84 (by kernel_rfl) rfl Tryz.ntmps84 rfl (rs := []) rfl [(0, _)] rfl ?_
 refine JC_seq ?_
 refine JC_region ?_
 refine JO_q (QE_mv rfl) rfl ?_
 refine JO_q (QE_nil rfl) rfl ?_
 refine JO_q (QE_fa0 rfl rfl rfl rfl) rfl ?_
 refine JO_q (QE_ld1 0 rfl rfl rfl rfl rfl) rfl ?_
 refine JO_q (QE_peq Tryz.underlying102 rfl) rfl ?_
 refine JO_nil ?_
 refine thenQ_n ?_
 refine JC_if rfl (fun c1 => ?_) (fun c1 => ?_)
 ·
  obtain rfl : p = none := by simpa using c1
  refine JC_region ?_
  refine JO_q (QE_mv rfl) rfl ?_
  refine JO_q (QE_mv rfl) rfl ?_
  refine JO_q (QE_toU 0 Tryz.underlying102 Tryz.underlying180 rfl rfl rfl rfl) rfl ?_
  refine JO_q (QE_same Tryz.func106 (by kernel_rfl) (by kernel_rfl) (by kernel_rfl) (by kernel_rfl) rfl rfl) rfl ?_
  refine JO_q (QE_fromU 0 Tryz.underlying180 Tryz.underlying102 rfl rfl rfl (by kernel_rfl)) rfl ?_
  refine JO_q (QE_nil rfl) rfl ?_
  refine JO_q (QE_fa0 rfl rfl rfl rfl) rfl ?_
  refine JO_st 0 [_, _] rfl rfl rfl rfl rfl rfl rfl rfl rfl ?_
  refine JO_nil ?_
  refine retQ_mk [] _ (.inl rfl) (.nil) rfl (Le.refl (D := D) _) (fun sR hS2 => ?_)
  exact ⟨rfl, rfl⟩
 ·
  obtain rfl : p = some ⟨bb, 0, none⟩ := hp.resolve_left (fun h => by rw [h] at c1; cases c1)
  refine JC_seq ?_
  refine JC_region ?_
  refine JO_q (QE_mv rfl) rfl ?_
  refine JO_q (QE_nil rfl) rfl ?_
  refine JO_q (QE_fa0 rfl rfl rfl rfl) rfl ?_
  refine JO_q (QE_ld1 0 rfl rfl rfl rfl rfl) rfl ?_
  refine JO_q (QE_mv rfl) rfl ?_
  refine JO_q (QE_pns Tryz.underlying102 rfl rfl rfl) rfl ?_
  refine JO_nil ?_
  refine thenQ_n ?_
  refine JC_ifF rfl ?_
  refine JC_skip ?_
  refine retQ_mk [] _ (.inl rfl) (.nil) rfl (Le.refl (D := D) _) (fun sR hS2 => ?_)
  exact ⟨rfl, rfl⟩
set_option maxHeartbeats 1000000 in
set_option maxRecDepth 100000 in
theorem writeS_ac (D : Nat) (L : Hl) (s : World) (bb : Nat) (p : Option Addr) (hp : p = none ∨ p = some ⟨bb, 0, none⟩) (M : Hl) (v : Value) (l : List UInt8) (hb : BV M v l) (l2 : List UInt8) (hlen : l.length + l2.length ≤ 140737488355328) : AC Tryz.prog D 52 [.pointer (some ⟨bb, 0, none⟩), St l2] ((bb, cb [.pointer p, v] 104) :: (M ++ L)) s fun u L' _ => u = .tuple #[.int .i64 (l2.length : Int), .nilIface] ∧ ∃ M' v', L' = (bb, cb [.pointer (some ⟨bb, 0, none⟩), v'] 104) :: (M' ++ L) ∧ BV M' v' (l ++ l2) := by
 obtain ⟨Ab, cb1, rfl, kb1, kb2⟩ := Own.slice hb.1
 refine AC_enter (TT := TT) (fn := Tryz.f52) TT_ok Tryz.func52 (by kernel_rfl) rfl Tryz.ntmps52 rfl (rs := [.tmp 4, .tmp 5]) rfl [(0, _), (1, _)] rfl ?_
 refine JC_seq ?_
 refine JC_region ?_
 refine JO_q (QE_as rfl) rfl ?_
 refine JO_q (QE_as rfl) rfl ?_
 refine JO_nil ?_
 refine thenQ_n ?_
 refine JC_seq ?_
 refine JC_region ?_
 refine JO_q (QE_mv rfl) rfl ?_
 refine JO_call (first := []) (captured := []) rfl rfl rfl (copyCheck_ac D _ _ bb p hp _) ?_
 rintro _ _ s1 h1 ⟨rfl, rfl⟩
 refine JO_nil ?_
 refine thenQ_n ?_
 refine JC_seq ?_
 refine JC_region ?_
 refine JO_q (QE_mv rfl) rfl ?_
 refine JO_q (QE_mv rfl) rfl ?_
 refine JO_q (QE_nil rfl) rfl ?_
 refine JO_q (QE_faB rfl rfl rfl rfl) rfl ?_
 refine JO_q (QE_ld1 0 rfl rfl rfl rfl rfl) rfl ?_
 refine JO_q (QE_mv rfl) rfl ?_
 refine JO_appG (sz := 1) (m := l2.length) (news := l2.map fun b => Value.int .u8 (b.toNat : Int)) [_] M L rfl rfl rfl rfl rfl rfl rfl hb.1 (by simp) (fun hT w i k1 i1 i2 i3 i4 => apps_str l2 k1 Tryz.underlying9 i1 i2 i3 i4) ⟨by simp [ti5]; omega, by omega⟩ rfl ?_
 intro v1 M1 s2 h2 o1 n1
 obtain ⟨Av1, cv1, rfl, _, _⟩ := Own.slice o1
 simp only [List.cons_append, List.nil_append]
 refine JO_q (QE_nil rfl) rfl ?_
 refine JO_q (QE_faB rfl rfl rfl rfl) rfl ?_
 refine JO_st 0 [_, _] rfl rfl rfl rfl rfl rfl rfl rfl rfl ?_
 refine JO_nil ?_
 refine thenQ_n ?_
 refine JC_seq ?_
 refine JC_region ?_
 refine JO_q (QE_mv rfl) rfl ?_
 refine JO_q (QE_lenT rfl rfl rfl) rfl ?_
 refine JO_q (QE_as rfl) rfl ?_
 refine JO_q (QE_as rfl) rfl ?_
 refine JO_nil ?_
 refine thenQ_n ?_
 refine JC_ret ?_
 refine retQ_mk [] _ (.inr rfl) (.tmp rfl (.tmp rfl (.nil))) rfl (Le.trans h1 h2) (fun sR hS2 => ?_)
 exact ⟨rfl, M1, _, rfl, hb.app o1 n1⟩
set_option maxHeartbeats 1000000 in
set_option maxRecDepth 100000 in
theorem writeB_ac (D : Nat) (L : Hl) (s : World) (bb : Nat) (p : Option Addr) (hp : p = none ∨ p = some ⟨bb, 0, none⟩) (M : Hl) (v : Value) (l : List UInt8) (hb : BV M v l) (c : UInt8) (hlen : l.length + 1 ≤ 140737488355328) : AC Tryz.prog D 54 [.pointer (some ⟨bb, 0, none⟩), .int .u8 (c.toNat : Int)] ((bb, cb [.pointer p, v] 104) :: (M ++ L)) s fun u L' _ => u = .nilIface ∧ ∃ M' v', L' = (bb, cb [.pointer (some ⟨bb, 0, none⟩), v'] 104) :: (M' ++ L) ∧ BV M' v' (l ++ [c]) := by
 obtain ⟨Ab, cb1, rfl, kb1, kb2⟩ := Own.slice hb.1
 refine AC_enter (TT := TT) (fn := Tryz.f54) TT_ok Tryz.func54 (by kernel_rfl) rfl Tryz.ntmps54 rfl (rs := [.tmp 4]) rfl [(0, _), (1, _)] rfl ?_
 refine JC_seq ?_
 refine JC_region ?_
 refine JO_q (QE_as rfl) rfl ?_
 refine JO_nil ?_
 refine thenQ_n ?_
 refine JC_seq ?_
 refine JC_region ?_
 refine JO_q (QE_mv rfl) rfl ?_
 refine JO_call (first := []) (captured := []) rfl rfl rfl (copyCheck_ac D _ _ bb p hp _) ?_
 rintro _ _ s1 h1 ⟨rfl, rfl⟩
 refine JO_nil ?_
 refine thenQ_n ?_
 refine JC_seq ?_
 refine JC_region ?_
 refine JO_q (QE_mv rfl) rfl ?_
 refine JO_q (QE_mv rfl) rfl ?_
 refine JO_q (QE_nil rfl) rfl ?_
 refine JO_q (QE_faB rfl rfl rfl rfl) rfl ?_
 refine JO_q (QE_ld1 0 rfl rfl rfl rfl rfl) rfl ?_
 refine JO_q (QE_mv rfl) rfl ?_
 refine JO_bs [(_, _)] [_] rfl rfl rfl rfl rfl rfl rfl rfl rfl ?_
 intro βn s2 h2 hcb
 refine JO_app (sz := 1) [_] M L rfl rfl rfl rfl rfl rfl rfl hb.1 (Row.of_cells (hcb.le (Le.refl (D := D) _)) rfl rfl) ⟨by simp [ti5]; omega, by omega⟩ rfl ?_
 intro v1 M1 s3 h3 o1
 obtain ⟨Av1, cv1, rfl, _, _⟩ := Own.slice o1
 simp only [List.cons_append, List.nil_append]
 refine JO_q (QE_nil rfl) rfl ?_
 refine JO_q (QE_faB rfl rfl rfl rfl) rfl ?_
 refine JO_st 0 [_, _] rfl rfl rfl rfl rfl rfl rfl rfl rfl ?_
 refine JO_nil ?_
 refine thenQ_n ?_
 refine JC_seq ?_
 refine JC_region ?_
 refine JO_q (QE_as rfl) rfl ?_
 refine JO_nil ?_
 refine thenQ_n ?_
 refine JC_ret ?_
 refine retQ_mk [] _ (.inr rfl) (.tmp rfl (.nil)) rfl (Le.trans (Le.trans h1 h2) h3) (fun sR hS2 => ?_)
 exact ⟨rfl, M1, _, rfl, BV.one (M := M) (v := .slice Ab l.length cb1) o1⟩
set_option maxHeartbeats 1000000 in
set_option maxRecDepth 100000 in
theorem blen_ac (D : Nat) (L : Hl) (s : World) (bb : Nat) (p : Option Addr) (M : Hl) (v : Value) (l : List UInt8) (hb : BV M v l) : AC Tryz.prog D 55 [.pointer (some ⟨bb, 0, none⟩)] ((bb, cb [.pointer p, v] 104) :: L) s fun u L' _ => u = .int .i64 (l.length : Int) ∧ L' = (bb, cb [.pointer p, v] 104) :: L := by
 obtain ⟨Ab, cb1, rfl, kb1, kb2⟩ := Own.slice hb.1
 refine AC_enter (TT := TT) (fn := Tryz.f55) TT_ok Tryz.func55 (by kernel_rfl) rfl Tryz.ntmps55 rfl (rs := [.tmp 2]) rfl [(0, _)] rfl ?_
 refine JC_seq ?_
 refine JC_region ?_
 refine JO_q (QE_as rfl) rfl ?_
 refine JO_nil ?_
 refine thenQ_n ?_
 refine JC_seq ?_
 refine JC_region ?_
 refine JO_q (QE_mv rfl) rfl ?_
 refine JO_q (QE_nil rfl) rfl ?_
 refine JO_q (QE_faB rfl rfl rfl rfl) rfl ?_
 refine JO_q (QE_ld1 0 rfl rfl rfl rfl rfl) rfl ?_
 refine JO_q (QE_lenS rfl rfl rfl) rfl ?_
 refine JO_q (QE_as rfl) rfl ?_
 refine JO_nil ?_
 refine thenQ_n ?_
 refine JC_ret ?_
 refine retQ_mk [] _ (.inr rfl) (.tmp rfl (.nil)) rfl (Le.refl (D := D) _) (fun sR hS2 => ?_)
 exact ⟨rfl, rfl⟩
set_option maxHeartbeats 1000000 in
set_option maxRecDepth 100000 in
theorem bstr_ac (D : Nat) (L : Hl) (s : World) (bb : Nat) (p : Option Addr) (M : Hl) (v : Value) (l : List UInt8) (hb : BV M v l) : AC Tryz.prog D 56 [.pointer (some ⟨bb, 0, none⟩)] ((bb, cb [.pointer p, v] 104) :: (M ++ L)) s fun u L' _ => u = St l ∧ L' = L := by
 obtain ⟨Ab, cb1, rfl, kb1, kb2⟩ := Own.slice hb.1
 refine AC_enter (TT := TT) (fn := Tryz.f56) TT_ok Tryz.func56 (by kernel_rfl) rfl Tryz.ntmps56 rfl (rs := [.tmp 2]) rfl [(0, _)] rfl ?_
 refine JC_seq ?_
 refine JC_region ?_
 refine JO_q (QE_as rfl) rfl ?_
 refine JO_nil ?_
 refine thenQ_n ?_
 refine JC_seq ?_
 refine JC_drawT drawsMixed 12 rfl 1 ?_
 intro s1 h1
 refine JA_q 0 rfl (by kernel_rfl) (by kernel_rfl) (by kernel_rfl) trivial (QE_mv rfl) rfl ?_
 refine JA_q 1 rfl (by kernel_rfl) (by kernel_rfl) (by kernel_rfl) trivial (QE_nil rfl) rfl ?_
 refine JA_q 2 rfl (by kernel_rfl) (by kernel_rfl) (by kernel_rfl) trivial (QE_faB rfl rfl rfl rfl) rfl ?_
 refine JA_q 3 rfl (by kernel_rfl) (by kernel_rfl) (by kernel_rfl) trivial (QE_ld1 0 rfl rfl rfl rfl rfl) rfl ?_
 refine JA_q 4 rfl (by kernel_rfl) (by kernel_rfl) (by kernel_rfl) trivial (QE_usd rfl hb.cap) rfl ?_
 refine JA_q 5 rfl (by kernel_rfl) (by kernel_rfl) (by kernel_rfl) trivial (QE_mv rfl) rfl ?_
 refine JA_q 6 rfl (by kernel_rfl) (by kernel_rfl) (by kernel_rfl) trivial (QE_nil rfl) rfl ?_
 refine JA_q 7 rfl (by kernel_rfl) (by kernel_rfl) (by kernel_rfl) trivial (QE_faB rfl rfl rfl rfl) rfl ?_
 refine JA_q 8 rfl (by kernel_rfl) (by kernel_rfl) (by kernel_rfl) trivial (QE_ld1 0 rfl rfl rfl rfl rfl) rfl ?_
 refine JA_q 9 rfl (by kernel_rfl) (by kernel_rfl) (by kernel_rfl) trivial (QE_lenS rfl rfl rfl) rfl ?_
 refine JA_1 10 (by kernel_rfl) ?_
 refine JB_ustr rfl trivial [_] M L rfl Tryz.underlying154 (by kernel_rfl) rfl rfl hb.1 (fun h => (hb.2 h).1) rfl (fun x hx _ => memK1 hx) ?_
 intro s2 h2
 simp only [List.cons_append, List.nil_append]
 refine JA_q 11 rfl (by kernel_rfl) (by kernel_rfl) (by kernel_rfl) trivial (QE_as rfl) rfl ?_
 refine JA_done (by kernel_rfl) ?_
 refine thenQ_n ?_
 refine JC_ret ?_
 refine retQ_mk [_] _ (.inr rfl) (.tmp rfl (.nil)) rfl (Le.trans h1 h2) (fun sR hS2 => ?_)
 exact ⟨rfl, rfl⟩
end Go.Proofs.YteomcjpigoaioaaGreatDoor
