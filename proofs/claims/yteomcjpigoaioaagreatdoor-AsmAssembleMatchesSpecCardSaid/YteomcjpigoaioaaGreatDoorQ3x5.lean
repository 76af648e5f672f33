/- Part 5 of the proof of asmAssembleMatchesSpec_holds: texts W8, W9, FlQ, Lt, W10, W11, Ky, W12, W13, W14, V19, V20. -/
import Derived.Test.YteomcjpigoaioaaGreatDoorQ3x4
import Derived.Lib.Builder
import Derived.Lib.UnsafeStr
import Derived.Laws.Externs
set_option linter.unusedVariables false
set_option linter.unusedSimpArgs false
set_option linter.unnecessarySimpa false
namespace Go.Proofs.YteomcjpigoaioaaGreatDoor
open Go.FL
attribute [local irreducible] JC JO JA JB thenQ blockQ retQ AC fill CellsAt QE Ev Mid
theorem add8_ac (D : Nat) (L : Hl) (s : World) (x0 x1 x2 : Nat × Obj) (hG : GW s) (ba bm : Nat) (t : Tab) (A : Option Addr) (n c : Nat) (hA : Inss s A n c t.ins) (g : AG) (hg : AGok g) (num : Int) (tx : List UInt8) (htx : tx.length ≤ 400000) (htc : 0 ≤ t.cells ∧ t.cells ≤ 65536) (hwl : (g.w.length : Int) ≤ t.cells) (hrl : g.r.length ≤ 1000000) (hll : g.l.length ≤ 1000000) : AC Tryz.prog D 73 [.pointer (some ⟨ba, 0, none⟩), .int .i64 num, St tx] (x0 :: x1 :: x2 :: HA ba bm t.cells A n c g L) s fun v L' _ => ∃ g', L' = x0 :: x1 :: x2 :: HA ba bm t.cells A n c g' L ∧ v = .int .i64 (addE t g.w g.l (lineL tx)) ∧ ∀ x, lineL tx = some x → addE t g.w g.l (some x) = 0 → AGok g' ∧ g'.w = addW t g.w x ∧ g'.l = addL g.w g.l x ∧ g'.r = addR t g.w g.r num x :=
  AC.perm (HA_three ..).symm (add7_ac D (x0 :: x1 :: x2 :: L) s hG ba bm t A n c hA g hg num tx htx htc hwl hrl hll) fun v L1 s1 ⟨g', h1, h2⟩ => ⟨_, by rw [h1]; exact HA_three .., g', rfl, h2⟩
theorem asm_none {t : Tab} {tx : List UInt8} (h : (tabFault t).1 ≠ 0) : asmR t tx = .inl (tabFault t) := by rw [asmR, if_pos h]
theorem asm_long {t : Tab} {tx : List UInt8} (h : (tabFault t).1 = 0) (h2 : 400000 < tx.length) : asmR t tx = .inl (3, -2) := by rw [asmR, if_neg (by simpa using h), if_pos h2]
theorem asm_line {t : Tab} {tx : List UInt8} {f : Int × Int} (h : (tabFault t).1 = 0) (h2 : ¬ 400000 < tx.length) (h3 : asmF t 0 [] [] [] (splitB 10 tx) = .inl f) : asmR t tx = .inl f := by rw [asmR, if_neg (by simpa using h), if_neg h2, h3]
theorem asm_ref {t : Tab} {tx : List UInt8} {f : Int × Int} {w : List Int} {l : List (List UInt8 × Int)} {r : List (Int × Nat × List UInt8 × Int)} (h : (tabFault t).1 = 0) (h2 : ¬ 400000 < tx.length) (h3 : asmF t 0 [] [] [] (splitB 10 tx) = .inr (w, l, r)) (h4 : refF l r w = .inl f) : asmR t tx = .inl f := by rw [asmR, if_neg (by simpa using h), if_neg h2, h3]; simp only [h4]
theorem asm_ok {t : Tab} {tx : List UInt8} {w w2 : List Int} {l : List (List UInt8 × Int)} {r : List (Int × Nat × List UInt8 × Int)} (h : (tabFault t).1 = 0) (h2 : ¬ 400000 < tx.length) (h3 : asmF t 0 [] [] [] (splitB 10 tx) = .inr (w, l, r)) (h4 : refF l r w = .inr w2) : asmR t tx = .inr (w2, l) := by rw [asmR, if_neg (by simpa using h), if_neg h2, h3]; simp only [h4]
theorem ag_nil : AGok ⟨.slice none 0 0, [], .slice none 0 0, [], .slice none 0 0, [], [], 0, [], [], []⟩ := ⟨Own.nil, Own.nil, Own.nil, fun _ => rfl, (fun _ h => by cases h), (fun _ h => by cases h), (fun _ h => by cases h)⟩
set_option maxHeartbeats 4000000 in
set_option maxRecDepth 100000 in
theorem assemble_ac (D : Nat) (L : Hl) (s : World) (hG : GW s) (t : Tab) (A : Option Addr) (n c : Nat) (hA : Inss s A n c t.ins) (tx : List UInt8) : AC Tryz.prog D 42 [.agg #[.int .i64 t.cells, .slice A n c], St tx] L s fun v L' s' => ∃ M', L' = M' ++ L ∧ ∃ p f1 f2, v = .tuple #[p, .agg #[.int .i64 f1, .int .i64 f2]] ∧ ((f1 ≠ 0 ∧ asmR t tx = .inl (f1, f2)) ∨ (f1 = 0 ∧ f2 = 0 ∧ ∃ ba bm Aw nw cw Al nl cl vr es ck Mw w l, p = .pointer (some ⟨ba, 0, none⟩) ∧ M' = (ba, cb [.int .i64 t.cells, .slice A n c, .slice Aw nw cw, .slice Al nl cl, .map (some bm), vr] 86) :: (bm, mp (fun l => St l) es ck) :: Mw ∧ Own 52 1 Mw (.slice Aw nw cw) nw (wv w) ∧ (∀ x ∈ w, U32 x) ∧ Labs s' Al nl cl l ∧ asmR t tx = .inr (w, l))) := by
 have hF := tab_zero t
 refine AC_enter (TT := TT) (fn := Tryz.f42) TT_ok Tryz.func42 (by kernel_rfl) rfl Tryz.ntmps42 rfl (rs := [.tmp 4, .cell 5 27]) rfl [(0, _), (1, _)] rfl ?_
 refine JC_seq ?_
 refine JC_region ?_
 refine JO_boxA rfl rfl ?_
 intro β1 s1 h1
 refine JO_q (QE_as rfl) rfl ?_
 refine JO_allocZ rfl [_, _] rfl rfl ?_
 intro β2 s2 h2
 refine JO_nil ?_
 refine thenQ_n ?_
 refine JC_seq ?_
 refine JC_seq ?_
 refine JC_region ?_
 refine JO_q (QE_ldA 1 [_, _] rfl rfl rfl rfl rfl) rfl ?_
 refine JO_call (first := []) (captured := []) rfl rfl rfl (validate_ac D _ _ _ _ _ _ (hA.le (Le.trans h1 h2))) ?_
 rintro _ _ s3 h3 ⟨rfl, rfl⟩
 refine JO_allocZ rfl [_, _] rfl rfl ?_
 intro β4 s4 h4
 refine JO_st 0 [_, _] rfl rfl rfl rfl rfl rfl rfl rfl rfl ?_
 refine JO_nil ?_
 refine thenQ_n ?_
 refine JC_seq ?_
 refine JC_region ?_
 refine JO_q (QE_ldA 0 [_, _] rfl rfl rfl rfl rfl) rfl ?_
 refine JO_q (QE_build [] [_, _] rfl rfl rfl rfl rfl rfl) rfl ?_
 refine JO_q (QE_ane rfl rfl (eqFault _ _ _ _)) rfl ?_
 refine JO_nil ?_
 refine thenQ_n ?_
 refine JC_ifN rfl (fun c5 => ?_) (fun c5 => ?_)
 ·
  have hbad : (tabFault t).1 ≠ 0 := fun h => c5 ⟨h, hF h⟩
  refine JC_seq ?_
  refine JC_drawE drawsMixed 3 rfl [1] (by intro x hx; exact eraseAll_mem hx) ?_
  intro s6 h6
  refine JA_q 0 rfl (by kernel_rfl) (by kernel_rfl) (by kernel_rfl) trivial (QE_ldA 0 [_, _] rfl rfl rfl rfl rfl) rfl ?_
  refine JA_q 1 rfl (by kernel_rfl) (by kernel_rfl) (by kernel_rfl) trivial (QE_as rfl) rfl ?_
  refine JA_1 2 (by kernel_rfl) ?_
  refine JB_st rfl trivial 1 [_, _] rfl rfl rfl rfl rfl rfl rfl rfl rfl (fun _ hx => sub_mem (sbY (sbY (sbE _))) hx) ?_
  refine JA_done (by kernel_rfl) ?_
  refine thenQ_n ?_
  refine JC_ret ?_
  refine thenQ_r ?_
  refine retQ_mk [_, _, _] _ (.inr rfl) (.tmp rfl (.agg (us := [_, _]) 1 rfl rfl rfl rfl rfl (.nil))) rfl (Le.trans (Le.trans (Le.trans (Le.trans h1 h2) h3) h4) h6) (fun sR hS2 => ?_)
  first
    | (refine ⟨[], rfl, .pointer none, _, _, rfl, .inl ⟨hbad, asm_none hbad⟩⟩)
    | (refine ⟨[], rfl, .pointer none, 3, -2, rfl, .inl ⟨by decide, asm_long ht0 hlong⟩⟩)
    | (exact ⟨_, HA_app .., .pointer none, _, _, rfl, .inl ⟨hcode, asm_line ht0 hlong (by rw [hS, hdr]; exact asmF_none hcode)⟩⟩)
    | (exact ⟨[_, _, _], rfl, .pointer none, _, _, rfl, .inl ⟨by decide, asm_ref ht0 hlong hS (by rw [hR]; exact refF_miss hxr hmiss)⟩⟩)
    | (exact ⟨_, rfl, _, 0, 0, rfl, .inr ⟨rfl, rfl, ba, bm, Aw, w.length, cw, Al, l.length, cl, _, es, ck, Mj, wj, l, rfl, rfl, hOj, huj, hLb.le (Le.trans (noSuchMark) hS2), asm_ok ht0 hlong hS hR⟩⟩)
 ·
  have ht0 : (tabFault t).1 = 0 := c5.1
  have hcells := (tabG hA ht0).cells
  refine JC_skip ?_
  refine thenQ_n ?_
  refine JC_seq ?_
  refine JC_seq ?_
  refine JC_region ?_
  refine JO_q (QE_mv rfl) rfl ?_
  refine JO_q (QE_lenT rfl rfl rfl) rfl ?_
  refine JO_q (QE_gt rfl rfl) rfl ?_
  refine JO_nil ?_
  refine thenQ_n ?_
  refine JC_ifD rfl (fun c7 => ?_) (fun c7 => ?_)
  ·
   have hlong : 400000 < tx.length := by omega
   refine JC_seq ?_
   refine JC_region ?_
   refine JO_call (first := []) (captured := []) rfl rfl rfl (afault_ac D _ _ _ _) ?_
   rintro _ _ s8 h8 ⟨rfl, rfl⟩
   refine JO_q (QE_as rfl) rfl ?_
   refine JO_st 1 [_, _] rfl rfl rfl rfl rfl rfl rfl rfl rfl ?_
   refine JO_nil ?_
   refine thenQ_n ?_
   refine JC_ret ?_
   refine thenQ_r ?_
   refine retQ_mk [_, _, _] _ (.inr rfl) (.tmp rfl (.agg (us := [_, _]) 1 rfl rfl rfl rfl rfl (.nil))) rfl (Le.trans (Le.trans (Le.trans (Le.trans h1 h2) h3) h4) h8) (fun sR hS2 => ?_)
   first
     | (refine ⟨[], rfl, .pointer none, _, _, rfl, .inl ⟨hbad, asm_none hbad⟩⟩)
     | (refine ⟨[], rfl, .pointer none, 3, -2, rfl, .inl ⟨by decide, asm_long ht0 hlong⟩⟩)
     | (exact ⟨_, HA_app .., .pointer none, _, _, rfl, .inl ⟨hcode, asm_line ht0 hlong (by rw [hS, hdr]; exact asmF_none hcode)⟩⟩)
     | (exact ⟨[_, _, _], rfl, .pointer none, _, _, rfl, .inl ⟨by decide, asm_ref ht0 hlong hS (by rw [hR]; exact refF_miss hxr hmiss)⟩⟩)
     | (exact ⟨_, rfl, _, 0, 0, rfl, .inr ⟨rfl, rfl, ba, bm, Aw, w.length, cw, Al, l.length, cl, _, es, ck, Mj, wj, l, rfl, rfl, hOj, huj, hLb.le (Le.trans (noSuchMark) hS2), asm_ok ht0 hlong hS hR⟩⟩)
  ·
   have hlong : ¬ 400000 < tx.length := by omega
   refine JC_skip ?_
   refine thenQ_n ?_
   refine JC_seq ?_
   refine JC_region ?_
   refine JO_q (QE_ldA 2 [_, _] rfl rfl rfl rfl rfl) rfl ?_
   refine JO_mkmap (fun l => St l) rfl ?_
   intro bm s9 h9
   refine JO_q (QE_build [(_, _), (_, _)] [_, _, _, _, _, _] rfl rfl rfl rfl rfl rfl) rfl ?_
   refine JO_boxA rfl rfl ?_
   intro ba s10 h10
   refine JO_q (QE_as rfl) rfl ?_
   refine JO_nil ?_
   refine thenQ_n ?_
   refine JC_seq ?_
   refine JC_seq ?_
   refine JC_front 4 ?_
   refine JC_front 4 ?_
   refine JC_front 4 ?_
   refine JC_region ?_
   refine JO_q (QE_mv rfl) rfl ?_
   refine JO_call (first := []) (captured := []) rfl rfl rfl (asplit_ac D _ _ tx 10 (by omega)) ?_
   rintro _ _ s11 h11 ⟨rfl, At, nt, ct, rfl, hTx⟩
   have hnt := hTx.1
   have hct := split_count 10 tx
   have hcl : tx.count 10 ≤ tx.length := List.count_le_length
   simp only [show ((10 : UInt8).toNat : Int) = 10 from rfl] at hnt hct hTx
   refine JO_q (QE_lenS rfl rfl rfl) rfl ?_
   refine JO_q (QE_mv rfl) rfl ?_
   refine JO_nil ?_
   refine thenQ_n ?_
   refine JC_block ?_
   
   refine JC_loopX [_, _, _] (γ := Nat × AG) (fun g => [(4, _), (5, _), (7, _), (30, _), (31, _), (32, .int .i64 (g.1 : Int))]) (fun g => HA ba bm t.cells A n c g.2 L) (fun g tw => Le D s11 tw ∧ (g.1 ≤ nt ∧ AGok g.2 ∧ (g.2.w.length : Int) ≤ t.cells ∧ g.2.l.length ≤ g.1 ∧ g.2.r.length ≤ g.1 ∧ (∀ y ∈ g.2.r, y.2.1 < g.2.w.length) ∧ asmF t 0 [] [] [] (splitB 10 tx) = asmF t g.1 g.2.w g.2.l g.2.r ((splitB 10 tx).drop g.1))) (fun g => nt - g.1) (fun _ _ _ h hl => ⟨h.1.trans hl, h.2⟩) (0, ⟨.slice none 0 0, [], .slice none 0 0, [], .slice none 0 0, [], [], 0, [], [], []⟩) (Keeps.cons rfl (Keeps.cons rfl (Keeps.cons rfl (Keeps.cons rfl (Keeps.cons rfl (Keeps.cons rfl (Keeps.nil _))))))) rfl ⟨Le.refl _, ⟨Nat.zero_le _, ag_nil, by simp only [List.length_nil]; omega, Nat.le_refl _, Nat.le_refl _, (fun _ h => by cases h), rfl⟩⟩ ?_
   intro g s12 I12
   simp only [List.cons_append, List.nil_append]
   obtain ⟨k, g⟩ := g
   obtain ⟨hk0, hg, hwl, hll, hrl, hlt, hS⟩ := I12.2
   simp only at hk0 hg hwl hll hrl hlt hS
   dsimp only
   refine JC_seq ?_
   refine JC_region ?_
   refine JO_q (QE_lt rfl rfl) rfl ?_
   refine JO_nil ?_
   refine thenQ_n ?_
   refine JC_seq ?_
   refine JC_ifD rfl (fun c13 => ?_) (fun c13 => ?_)
   ·
    have hk : k < nt := by omega
    obtain ⟨b, off, tx1, rfl, htxk, hctx, _⟩ := Strs.at_ (hTx.le I12.1) hk
    have htx1 : tx1.length ≤ 400000 := by have := splitF_short 10 [] tx tx1 (List.mem_of_getElem? htxk); simp only [List.length_nil, Nat.zero_add] at this; omega
    have hdr : (splitB 10 tx).drop k = tx1 :: (splitB 10 tx).drop (k + 1) := by
      obtain ⟨hk2, rfl⟩ := List.getElem?_eq_some_iff.1 htxk
      exact List.drop_eq_getElem_cons hk2
    refine JC_skip ?_
    refine thenQ_n ?_
    refine JC_seq ?_
    refine JC_block ?_
    refine JC_seq ?_
    refine JC_region ?_
    refine JO_q (QE_mv rfl) rfl ?_
    refine JO_q (QE_ia1 rfl rfl rfl rfl rfl rfl hk) rfl ?_
    refine JO_q (QE_ldsR0 rfl rfl rfl (hctx.le (Le.refl (D := D) _)) rfl) rfl ?_
    refine JO_q (QE_as rfl) rfl ?_
    refine JO_q (QE_as rfl) rfl ?_
    refine JO_nil ?_
    refine thenQ_n ?_
    refine JC_seq ?_
    refine JC_region ?_
    refine JO_q (QE_mv rfl) rfl ?_
    refine JO_q (QE_mv rfl) rfl ?_
    refine JO_q (QE_mv rfl) rfl ?_
    refine JO_call (first := []) (captured := []) rfl rfl rfl (add8_ac D L _ _ _ _ (hG.le (Le.trans (Le.trans (Le.trans (Le.trans (Le.trans (Le.trans (Le.trans h1 h2) h3) h4) h9) h10) h11) I12.1)) ba bm t A n c (hA.le (Le.trans (Le.trans (Le.trans (Le.trans (Le.trans (Le.trans (Le.trans h1 h2) h3) h4) h9) h10) h11) I12.1)) g hg _ tx1 htx1 (by omega) hwl (by omega) (by omega)) ?_
    rintro _ _ s14 h14 ⟨g', rfl, rfl, hadd⟩
    refine JO_q (QE_as rfl) rfl ?_
    refine JO_nil ?_
    refine thenQ_n ?_
    refine JC_seq ?_
    refine JC_region ?_
    refine JO_q (QE_mv rfl) rfl ?_
    refine JO_q (QE_ne rfl rfl) rfl ?_
    refine JO_nil ?_
    refine thenQ_n ?_
    refine JC_ifN rfl (fun c15 => ?_) (fun c15 => ?_)
    ·
     have hcode := c15
     refine JC_seq ?_
     refine JC_region ?_
     refine JO_q (QE_mv rfl) rfl ?_
     refine JO_q (QE_mv rfl) rfl ?_
     refine JO_call (first := []) (captured := []) rfl rfl rfl (afault_ac D _ _ _ _) ?_
     rintro _ _ s16 h16 ⟨rfl, rfl⟩
     refine JO_q (QE_as rfl) rfl ?_
     refine JO_st 1 [_, _] rfl rfl rfl rfl rfl rfl rfl rfl rfl ?_
     refine JO_nil ?_
     refine thenQ_n ?_
     refine JC_ret ?_
     refine blockQ_r ?_
     refine thenQ_r ?_
     refine thenQ_r ?_
     refine blockQ_r ?_
     refine thenQ_r ?_
     refine retQ_mk [_, _, _] _ (.inr rfl) (.tmp rfl (.agg (us := [_, _]) 1 rfl rfl rfl rfl rfl (.nil))) rfl (Le.trans (Le.trans (Le.trans (Le.trans (Le.trans (Le.trans (Le.trans (Le.trans (Le.trans h1 h2) h3) h4) h9) h10) h11) I12.1) h14) h16) (fun sR hS2 => ?_)
     first
       | (refine ⟨[], rfl, .pointer none, _, _, rfl, .inl ⟨hbad, asm_none hbad⟩⟩)
       | (refine ⟨[], rfl, .pointer none, 3, -2, rfl, .inl ⟨by decide, asm_long ht0 hlong⟩⟩)
       | (exact ⟨_, HA_app .., .pointer none, _, _, rfl, .inl ⟨hcode, asm_line ht0 hlong (by rw [hS, hdr]; exact asmF_none hcode)⟩⟩)
       | (exact ⟨[_, _, _], rfl, .pointer none, _, _, rfl, .inl ⟨by decide, asm_ref ht0 hlong hS (by rw [hR]; exact refF_miss hxr hmiss)⟩⟩)
       | (exact ⟨_, rfl, _, 0, 0, rfl, .inr ⟨rfl, rfl, ba, bm, Aw, w.length, cw, Al, l.length, cl, _, es, ck, Mj, wj, l, rfl, rfl, hOj, huj, hLb.le (Le.trans (noSuchMark) hS2), asm_ok ht0 hlong hS hR⟩⟩)
    ·
     have hcode : addE t g.w g.l (lineL tx1) = 0 := by simpa using c15
     obtain ⟨x, hx, he0⟩ := line_some hcode
     obtain ⟨hg2, ew, el, er⟩ := hadd x hx he0
     refine JC_skip ?_
     refine blockQ_n ?_
     refine thenQ_n ?_
     refine JC_region ?_
     refine JO_q (QE_add' rfl rfl (w64 (by omega) (by omega))) rfl ?_
     refine JO_q (QE_mv rfl) rfl ?_
     refine JO_nil ?_
     refine thenQ_n ⟨(k + 1, g'), [], (Keeps.cons rfl (Keeps.cons rfl (Keeps.cons rfl (Keeps.cons rfl (Keeps.cons rfl (Keeps.cons rfl (Keeps.nil _))))))), rfl, ⟨(Le.trans I12.1 h14), ⟨by simp only; omega, hg2, by simp only [ew]; exact addE_fit hwl he0, by simp only [el]; have := addL_len (w := g.w) (l := g.l) (x := x); omega, by simp only [er]; have := addR_len (t := t) (w := g.w) (r := g.r) (i := (k : Int)) (x := x); omega, by simp only [er, ew]; exact addR_lt hlt, by simp only [ew, el, er]; rw [hS, hdr, asmF_some hx he0]⟩⟩, (by simp only; omega)⟩
   ·
    have hdr : (splitB 10 tx).drop k = [] := List.drop_eq_nil_of_le (by omega)
    rw [hdr, asmF] at hS
    have hgu := hg
    obtain ⟨vw, Mw, vl, Ml, vr, Mr, es, ck, w, l, r⟩ := g
    obtain ⟨hOw, hOl, hOr, hE, huw, hul, hur⟩ := hg
    simp only at hOw hOl hOr hE huw hul hur
    obtain ⟨Aw, cw, rfl, kw, kx⟩ := Own.slice hOw
    obtain ⟨Al, cl, rfl, kl, km⟩ := Own.slice hOl
    obtain ⟨Ar, cr, rfl, kr, ks⟩ := Own.slice hOr
    simp only [HA]
    simp only at hS hlt hwl hll hrl
    refine JC_exit ?_
    refine thenQ_x ?_
    refine thenQ_x ?_
    refine blockQ_x ?_
    refine thenQ_n ?_
    refine JC_seq ?_
    refine JC_seq ?_
    refine JC_pubX (_ :: _ :: _ :: _ :: _ :: Mw) Ml _ ?_
    intro s17 h17 hpub17
    simp only [List.cons_append, List.nil_append]
    have hLb := Own.labs hOl hul hpub17 rfl
    refine JC_pubX (_ :: _ :: _ :: _ :: _ :: Mw) Mr _ ?_
    intro s18 h18 hpub18
    simp only [List.cons_append, List.nil_append]
    have hRf := Own.refs hOr hpub18 rfl
    refine JC_region ?_
    refine JO_q (QE_mv rfl) rfl ?_
    refine JO_q (QE_nil rfl) rfl ?_
    refine JO_q (QE_faB rfl rfl rfl rfl) rfl ?_
    refine JO_q (QE_ld1 3 rfl rfl rfl rfl rfl) rfl ?_
    refine JO_q (QE_lenS rfl rfl rfl) rfl ?_
    refine JO_q (QE_mv rfl) rfl ?_
    refine JO_nil ?_
    refine thenQ_n ?_
    refine JC_block ?_
    refine JC_loopX [_, _, _] (γ := Nat × Hl × List Int) (fun g => [(4, _), (5, _), (7, _), (50, _), (51, _), (52, .int .i64 (g.1 : Int))]) (fun g => (ba, cb [.int .i64 t.cells, .slice A n c, .slice Aw w.length cw, .slice Al l.length cl, .map (some bm), .slice Ar r.length cr] 86) :: (bm, mp (fun l => St l) es ck) :: (g.2.1 ++ L)) (fun g tw => Le D s18 tw ∧ (g.1 ≤ r.length ∧ Own 52 1 g.2.1 (.slice Aw w.length cw) w.length (wv g.2.2) ∧ g.2.2.length = w.length ∧ (∀ x ∈ g.2.2, U32 x) ∧ refF l r w = refF l (r.drop g.1) g.2.2)) (fun g => r.length - g.1) (fun _ _ _ h hl => ⟨h.1.trans hl, h.2⟩) (0, Mw, w) (Keeps.cons rfl (Keeps.cons rfl (Keeps.cons rfl (Keeps.cons rfl (Keeps.cons rfl (Keeps.cons rfl (Keeps.nil _))))))) rfl ⟨Le.refl _, ⟨Nat.zero_le _, hOw, rfl, huw, rfl⟩⟩ ?_
    intro g s19 I19
    simp only [List.cons_append, List.nil_append]
    obtain ⟨j, Mj, wj⟩ := g
    obtain ⟨hj0, hOj, hwj, huj, hR⟩ := I19.2
    simp only at hj0 hOj hwj huj hR
    dsimp only
    refine JC_seq ?_
    refine JC_region ?_
    refine JO_q (QE_lt rfl rfl) rfl ?_
    refine JO_nil ?_
    refine thenQ_n ?_
    refine JC_seq ?_
    refine JC_ifD rfl (fun c20 => ?_) (fun c20 => ?_)
    ·
     have hk : j < r.length := by omega
     obtain ⟨br, ofr, x, hAr, hxr, hcr⟩ := Refs.at_ (hRf.le I19.1) hk
     subst hAr
     have hpl := hlt x (List.mem_of_getElem? hxr)
     obtain ⟨bw, yw, hAw, hMw, g1, g2, g3, g4⟩ := own_blk hOj (by omega)
     subst hMw
     subst hAw
     simp only [List.cons_append, List.nil_append]
     refine JC_skip ?_
     refine thenQ_n ?_
     refine JC_seq ?_
     refine JC_block ?_
     refine JC_seq ?_
     refine JC_region ?_
     refine JO_q (QE_iaN rfl rfl rfl rfl rfl rfl hk) rfl ?_
     refine JO_q (QE_ldsA rfl rfl rfl (hcr.le (Le.refl (D := D) _)) rfl) rfl ?_
     refine JO_allocZ rfl [_, _, _, _] rfl rfl ?_
     intro β21 s21 h21
     refine JO_st 0 [_, _, _, _] rfl rfl rfl rfl rfl rfl rfl rfl rfl ?_
     refine JO_nil ?_
     refine thenQ_n ?_
     refine JC_seq ?_
     refine JC_draw drawsMixed 13 rfl _ (fun _ h => h) ?_
     intro s22 h22
     refine JA_q 0 rfl (by kernel_rfl) (by kernel_rfl) (by kernel_rfl) trivial (QE_mv rfl) rfl ?_
     refine JA_q 1 rfl (by kernel_rfl) (by kernel_rfl) (by kernel_rfl) trivial (QE_nil rfl) rfl ?_
     refine JA_q 2 rfl (by kernel_rfl) (by kernel_rfl) (by kernel_rfl) trivial (QE_faB rfl rfl rfl rfl) rfl ?_
     refine JA_q 3 rfl (by kernel_rfl) (by kernel_rfl) (by kernel_rfl) trivial (QE_ld1 4 rfl rfl rfl rfl rfl) rfl ?_
     refine JA_q 4 rfl (by kernel_rfl) (by kernel_rfl) (by kernel_rfl) trivial (QE_faB rfl rfl rfl rfl) rfl ?_
     refine JA_q 5 rfl (by kernel_rfl) (by kernel_rfl) (by kernel_rfl) trivial (QE_fa0 rfl rfl rfl rfl) rfl ?_
     refine JA_q 6 rfl (by kernel_rfl) (by kernel_rfl) (by kernel_rfl) trivial (QE_ld1 0 rfl rfl rfl rfl rfl) rfl ?_
     refine JA_q 7 rfl (by kernel_rfl) (by kernel_rfl) (by kernel_rfl) trivial (QE_cast (QE_lookup2 KeyK.str 5 mapTyS rfl rfl rfl) (show Value.tuple #[(assoc es x.2.2.1).getD (.int .u32 0), .bool (assoc es x.2.2.1).isSome] = .tuple #[(assoc es x.2.2.1).getD (.int .u32 0), .bool (labAt l x.2.2.1).isSome] by rw [hE, Option.isSome_map])) rfl ?_
     refine JA_q 8 rfl (by kernel_rfl) (by kernel_rfl) (by kernel_rfl) trivial (QE_mv rfl) rfl ?_
     refine JA_q 9 rfl (by kernel_rfl) (by kernel_rfl) (by kernel_rfl) trivial (QE_ext rfl rfl) rfl ?_
     refine JA_q 10 rfl (by kernel_rfl) (by kernel_rfl) (by kernel_rfl) trivial (QE_ext rfl rfl) rfl ?_
     refine JA_q 11 rfl (by kernel_rfl) (by kernel_rfl) (by kernel_rfl) trivial (QE_as rfl) rfl ?_
     refine JA_q 12 rfl (by kernel_rfl) (by kernel_rfl) (by kernel_rfl) trivial (QE_as rfl) rfl ?_
     refine JA_done (by kernel_rfl) ?_
     refine thenQ_n ?_
     refine JC_seq ?_
     refine JC_seq ?_
     refine JC_region ?_
     refine JO_q (QE_mv rfl) rfl ?_
     refine JO_q (QE_not rfl) rfl ?_
     refine JO_nil ?_
     refine thenQ_n ?_
     refine JC_ifM rfl (fun c23 => ?_) (fun c23 => ?_)
     ·
      have hmiss : labAt l x.2.2.1 = none := by simpa using c23
      refine JC_seq ?_
      refine JC_region ?_
      refine JO_q (QE_fa0 rfl rfl rfl rfl) rfl ?_
      refine JO_q (QE_ld1 0 rfl rfl rfl rfl rfl) rfl ?_
      refine JO_call (first := []) (captured := []) rfl rfl rfl (afault_ac D _ _ _ _) ?_
      rintro _ _ s24 h24 ⟨rfl, rfl⟩
      refine JO_q (QE_as rfl) rfl ?_
      refine JO_st 2 [_, _] rfl rfl rfl rfl rfl rfl rfl rfl rfl ?_
      refine JO_nil ?_
      refine thenQ_n ?_
      refine JC_ret ?_
      refine thenQ_r ?_
      refine blockQ_r ?_
      refine thenQ_r ?_
      refine thenQ_r ?_
      refine blockQ_r ?_
      refine thenQ_r ?_
      refine retQ_mk [_, _, _, _] _ (.inr rfl) (.tmp rfl (.agg (us := [_, _]) 2 rfl rfl rfl rfl rfl (.nil))) rfl (Le.trans (Le.trans (Le.trans (Le.trans (Le.trans (Le.trans (Le.trans (Le.trans (Le.trans (Le.trans (Le.trans (Le.trans (Le.trans h1 h2) h3) h4) h9) h10) h11) I12.1) h17) h18) I19.1) h21) h22) h24) (fun sR hS2 => ?_)
      first
        | (refine ⟨[], rfl, .pointer none, _, _, rfl, .inl ⟨hbad, asm_none hbad⟩⟩)
        | (refine ⟨[], rfl, .pointer none, 3, -2, rfl, .inl ⟨by decide, asm_long ht0 hlong⟩⟩)
        | (exact ⟨_, HA_app .., .pointer none, _, _, rfl, .inl ⟨hcode, asm_line ht0 hlong (by rw [hS, hdr]; exact asmF_none hcode)⟩⟩)
        | (exact ⟨[_, _, _], rfl, .pointer none, _, _, rfl, .inl ⟨by decide, asm_ref ht0 hlong hS (by rw [hR]; exact refF_miss hxr hmiss)⟩⟩)
        | (exact ⟨_, rfl, _, 0, 0, rfl, .inr ⟨rfl, rfl, ba, bm, Aw, w.length, cw, Al, l.length, cl, _, es, ck, Mj, wj, l, rfl, rfl, hOj, huj, hLb.le (Le.trans (Le.trans (Le.trans (Le.trans (Le.trans h18 I19.1) h21) h22) h24) hS2), asm_ok ht0 hlong hS hR⟩⟩)
     ·
      obtain ⟨a, ha⟩ := Option.isSome_iff_exists.1 c23
      rw [show (assoc es x.2.2.1).getD (Value.int .u32 0) = .int .u32 a by rw [hE, ha]; rfl]
      refine JC_skip ?_
      refine thenQ_n ?_
      refine JC_drawE drawsMixed 12 rfl [6] (by intro x hx; exact eraseAll_mem hx) ?_
      intro s25 h25
      refine JA_q 0 rfl (by kernel_rfl) (by kernel_rfl) (by kernel_rfl) trivial (QE_mv rfl) rfl ?_
      refine JA_q 1 rfl (by kernel_rfl) (by kernel_rfl) (by kernel_rfl) trivial (QE_nil rfl) rfl ?_
      refine JA_q 2 rfl (by kernel_rfl) (by kernel_rfl) (by kernel_rfl) trivial (QE_faB rfl rfl rfl rfl) rfl ?_
      refine JA_q 3 rfl (by kernel_rfl) (by kernel_rfl) (by kernel_rfl) trivial (QE_ld1 4 rfl rfl rfl rfl rfl) rfl ?_
      refine JA_q 4 rfl (by kernel_rfl) (by kernel_rfl) (by kernel_rfl) trivial (QE_faB rfl rfl rfl rfl) rfl ?_
      refine JA_q 5 rfl (by kernel_rfl) (by kernel_rfl) (by kernel_rfl) trivial (QE_ld1 0 rfl rfl rfl rfl rfl) rfl ?_
      refine JA_q 6 rfl (by kernel_rfl) (by kernel_rfl) (by kernel_rfl) trivial (QE_ia1 rfl rfl rfl rfl rfl rfl (by omega)) rfl ?_
      refine JA_q 8 rfl (by kernel_rfl) (by kernel_rfl) (by kernel_rfl) trivial (QE_mv rfl) rfl ?_
      refine JA_1 7 (by kernel_rfl) ?_
      refine JB_q rfl trivial (QE_ld1 6 rfl rfl rfl rfl (nth_wvp (by omega))) rfl ?_
      refine JA_q 9 rfl (by kernel_rfl) (by kernel_rfl) (by kernel_rfl) trivial (QE_cast (QE_add rfl rfl) (congrArg (Value.int .u32) (wrapW _))) rfl ?_
      refine JA_q 10 rfl (by kernel_rfl) (by kernel_rfl) (by kernel_rfl) trivial (QE_ia1 rfl rfl rfl rfl rfl rfl (by omega)) rfl ?_
      refine JA_1 11 (by kernel_rfl) ?_
      refine JB_st rfl trivial 6 _ rfl rfl rfl rfl rfl (ble_wvp (by omega)) rfl (spl_wvp _ (by omega)) rfl (fun x hx => hx) ?_
      refine JA_done (by kernel_rfl) ?_
      refine blockQ_n ?_
      refine thenQ_n ?_
      refine JC_region ?_
      refine JO_q (QE_add' rfl rfl (w64 (by omega) (by omega))) rfl ?_
      refine JO_q (QE_mv rfl) rfl ?_
      refine JO_nil ?_
      refine thenQ_n ⟨(j + 1, [(bw, cb (wv (wj.set x.2.1 (w32 (wj.getD x.2.1 0 + a))) ++ yw) 52)], wj.set x.2.1 (w32 (wj.getD x.2.1 0 + a))), [_], (Keeps.cons rfl (Keeps.cons rfl (Keeps.cons rfl (Keeps.cons rfl (Keeps.cons rfl (Keeps.cons rfl (Keeps.nil _))))))), rfl, ⟨(Le.trans (Le.trans (Le.trans I19.1 h21) h22) h25), ⟨by simp only; omega, own_back (by simp only [wv_len, List.length_set]; exact hwj) (by simp only [wv_len, List.length_set]; rw [wv_len] at g2; exact g2) g3 g4, by simp only [List.length_set]; exact hwj, setU huj _ _ (w32_u _), by simp only; rw [hR, refF_hit hxr ha]⟩⟩, (by simp only; omega)⟩
    ·
     have hdr2 : r.drop j = [] := List.drop_eq_nil_of_le (by omega)
     rw [hdr2, refF] at hR
     refine JC_exit ?_
     refine thenQ_x ?_
     refine thenQ_x ?_
     refine blockQ_x ?_
     refine thenQ_n ?_
     refine JC_seq ?_
     refine JC_region ?_
     refine JO_q (QE_mv rfl) rfl ?_
     refine JO_q (QE_build [] [_, _] rfl rfl rfl rfl rfl rfl) rfl ?_
     refine JO_q (QE_as rfl) rfl ?_
     refine JO_st 1 [_, _] rfl rfl rfl rfl rfl rfl rfl rfl rfl ?_
     refine JO_nil ?_
     refine thenQ_n ?_
     refine JC_ret ?_
     refine retQ_mk [_, _, _] _ (.inr rfl) (.tmp rfl (.agg (us := [_, _]) 1 rfl rfl rfl rfl rfl (.nil))) rfl (Le.trans (Le.trans (Le.trans (Le.trans (Le.trans (Le.trans (Le.trans (Le.trans (Le.trans (Le.trans h1 h2) h3) h4) h9) h10) h11) I12.1) h17) h18) I19.1) (fun sR hS2 => ?_)
     first
       | (refine ⟨[], rfl, .pointer none, _, _, rfl, .inl ⟨hbad, asm_none hbad⟩⟩)
       | (refine ⟨[], rfl, .pointer none, 3, -2, rfl, .inl ⟨by decide, asm_long ht0 hlong⟩⟩)
       | (exact ⟨_, HA_app .., .pointer none, _, _, rfl, .inl ⟨hcode, asm_line ht0 hlong (by rw [hS, hdr]; exact asmF_none hcode)⟩⟩)
       | (exact ⟨[_, _, _], rfl, .pointer none, _, _, rfl, .inl ⟨by decide, asm_ref ht0 hlong hS (by rw [hR]; exact refF_miss hxr hmiss)⟩⟩)
       | (exact ⟨_, rfl, _, 0, 0, rfl, .inr ⟨rfl, rfl, ba, bm, Aw, w.length, cw, Al, l.length, cl, _, es, ck, Mj, wj, l, rfl, rfl, hOj, huj, hLb.le (Le.trans (Le.trans h18 I19.1) hS2), asm_ok ht0 hlong hS hR⟩⟩)
end Go.Proofs.YteomcjpigoaioaaGreatDoor
namespace Go.Proofs.YteomcjpigoaioaaGreatDoor
open Go.FL
attribute [local irreducible] JC JO JA JB thenQ blockQ retQ AC fill CellsAt QE Ev Mid
def asmW (t : Tab) (tx : List UInt8) : List Int := match asmR t tx with
  | .inl _ => []
  | .inr x => x.1
def asmL (t : Tab) (tx : List UInt8) : List (List UInt8 × Int) := match asmR t tx with
  | .inl _ => []
  | .inr x => x.2
def asmFt (t : Tab) (tx : List UInt8) : Int × Int := match asmR t tx with
  | .inl f => f
  | .inr _ => (0, 0)
theorem asmW_l {t : Tab} {tx : List UInt8} {f : Int × Int} (h : asmR t tx = .inl f) : asmW t tx = [] ∧ asmL t tx = [] ∧ asmFt t tx = f := by simp [asmW, asmL, asmFt, h]
theorem asmW_r {t : Tab} {tx : List UInt8} {w : List Int} {l : List (List UInt8 × Int)} (h : asmR t tx = .inr (w, l)) : asmW t tx = w ∧ asmL t tx = l ∧ asmFt t tx = (0, 0) := by simp [asmW, asmL, asmFt, h]
theorem Labs.nil (s : World) : Labs s none 0 0 [] := ⟨rfl, Nat.le_refl _, by omega, fun i x h => by cases h⟩
set_option maxHeartbeats 2000000 in
set_option maxRecDepth 100000 in
theorem assembleO_ac (D : Nat) (L : Hl) (s : World) (hG : GW s) (t : Tab) (A : Option Addr) (n c : Nat) (hA : Inss s A n c t.ins) (tx : List UInt8) : AC Tryz.prog D 11 [.agg #[.int .i64 t.cells, .slice A n c], St tx] L s fun v L' s' => ∃ M', L' = M' ++ L ∧ ∀ s2, Le D s' s2 → Pub M' s2 → ∃ A1 n1 c1, v = .tuple #[.slice A1 n1 c1, .agg #[.int .i64 (asmFt t tx).1, .int .i64 (asmFt t tx).2]] ∧ Wds s2 A1 n1 c1 (asmW t tx) := by
 refine AC_enter (TT := TT) (fn := Tryz.f11) TT_ok Tryz.func11 (by kernel_rfl) rfl Tryz.ntmps11 rfl (rs := [.tmp 4, .cell 5 27]) rfl [(0, _), (1, _)] rfl ?_
 refine JC_seq ?_
 refine JC_region ?_
 refine JO_boxA rfl rfl ?_
 intro β1 s1 h1
 refine JO_q (QE_as rfl) rfl ?_
 refine JO_allocZ rfl [_, _] rfl rfl ?_
 intro β2 s2 h2
 refine JO_nil ?_
 refine thenQ_n ?_
 refine JC_seq ?_
 refine JC_region ?_
 refine JO_q (QE_ldA 1 [_, _] rfl rfl rfl rfl rfl) rfl ?_
 refine JO_q (QE_mv rfl) rfl ?_
 refine JO_call (first := []) (captured := []) rfl rfl rfl (AC.mid [_, _] [] _ (assemble_ac D _ _ (hG.le (Le.trans h1 h2)) _ _ _ _ (hA.le (Le.trans h1 h2)) tx)) ?_
 rintro _ _ s3 h3 ⟨Mx, rfl, p, f1, f2, rfl, hR⟩
 simp only [List.cons_append, List.nil_append]
 refine JO_q (QE_mv rfl) rfl ?_
 refine JO_q (QE_ext rfl rfl) rfl ?_
 refine JO_q (QE_ext rfl rfl) rfl ?_
 refine JO_allocZ rfl [_, _] rfl rfl ?_
 intro β4 s4 h4
 refine JO_q (QE_as rfl) rfl ?_
 refine JO_st 0 [_, _] rfl rfl rfl rfl rfl rfl rfl rfl rfl ?_
 refine JO_nil ?_
 refine thenQ_n ?_
 refine JC_seq ?_
 refine JC_seq ?_
 refine JC_region ?_
 refine JO_q (QE_ldA 0 [_, _] rfl rfl rfl rfl rfl) rfl ?_
 refine JO_q (QE_build [] [_, _] rfl rfl rfl rfl rfl rfl) rfl ?_
 refine JO_q (QE_ane rfl rfl (eqFault _ _ _ _)) rfl ?_
 refine JO_nil ?_
 refine thenQ_n ?_
 refine JC_ifN rfl (fun c5 => ?_) (fun c5 => ?_)
 ·
  obtain ⟨hne, hbad⟩ | ⟨hz1, hz2, _⟩ := hR
  rotate_left
  · exact absurd ⟨hz1, hz2⟩ c5
  obtain ⟨e1, e2, e3⟩ := asmW_l hbad
  refine JC_seq ?_
  refine JC_drawE drawsMixed 3 rfl [1] (by intro x hx; exact eraseAll_mem hx) ?_
  intro s6 h6
  refine JA_q 0 rfl (by kernel_rfl) (by kernel_rfl) (by kernel_rfl) trivial (QE_ldA 0 [_, _] rfl rfl rfl rfl rfl) rfl ?_
  refine JA_q 1 rfl (by kernel_rfl) (by kernel_rfl) (by kernel_rfl) trivial (QE_as rfl) rfl ?_
  refine JA_1 2 (by kernel_rfl) ?_
  refine JB_st rfl trivial 1 [_, _] rfl rfl rfl rfl rfl rfl rfl rfl rfl (fun _ hx => sub_mem (sbY (sbY (sbE _))) hx) ?_
  refine JA_done (by kernel_rfl) ?_
  refine thenQ_n ?_
  refine JC_ret ?_
  refine thenQ_r ?_
  refine retQ_mk [_, _, _] _ (.inr rfl) (.tmp rfl (.agg (us := [_, _]) 1 rfl rfl rfl rfl rfl (.nil))) rfl (Le.trans (Le.trans (Le.trans (Le.trans h1 h2) h3) h4) h6) (fun sR hS2 => ?_)
  first
    | (exact ⟨_, rfl, fun s2 hs2 hp => ⟨Aw, nw, cw, by rw [e3]; rfl, by rw [e1]; exact Own.wds hOw huw hp⟩⟩)
    | (exact ⟨_, rfl, fun s2 hs2 hp => ⟨none, 0, 0, by rw [e3]; rfl, by first | (rw [e1]; exact Wds.nil _ _ _ (by omega)) | (rw [e2]; exact Labs.nil _)⟩⟩)
 ·
  obtain ⟨hne, hbad⟩ | ⟨hz1, hz2, ba, bm, Aw, nw, cw, Al, nl, cl, vr, es, ck, Mw, w, l, hp, hM, hOw, huw, hLb, hok⟩ := hR
  · exact absurd c5.1 hne
  subst hp
  subst hM
  have hnw := hLb.1
  simp only [List.cons_append]
  obtain ⟨e1, e2, e3⟩ := asmW_r hok
  refine JC_skip ?_
  refine thenQ_n ?_
  refine JC_seq ?_
  refine JC_region ?_
  refine JO_q (QE_mv rfl) rfl ?_
  refine JO_q (QE_nil rfl) rfl ?_
  refine JO_q (QE_faB rfl rfl rfl rfl) rfl ?_
  refine JO_q (QE_ld1 3 rfl rfl rfl rfl rfl) rfl ?_
  refine JO_q (QE_build [] [_, _] rfl rfl rfl rfl rfl rfl) rfl ?_
  refine JO_q (QE_as rfl) rfl ?_
  refine JO_st 1 [_, _] rfl rfl rfl rfl rfl rfl rfl rfl rfl ?_
  refine JO_nil ?_
  refine thenQ_n ?_
  refine JC_ret ?_
  refine retQ_mk [_, _, _, _, _] _ (.inr rfl) (.tmp rfl (.agg (us := [_, _]) 1 rfl rfl rfl rfl rfl (.nil))) rfl (Le.trans (Le.trans (Le.trans h1 h2) h3) h4) (fun sR hS2 => ?_)
  first
    | (exact ⟨_, rfl, fun s2 hs2 hp => ⟨Aw, nw, cw, by rw [e3]; rfl, by rw [e1]; exact Own.wds hOw huw hp⟩⟩)
    | (exact ⟨_, rfl, fun s2 hs2 hp => ⟨none, 0, 0, by rw [e3]; rfl, by first | (rw [e1]; exact Wds.nil _ _ _ (by omega)) | (rw [e2]; exact Labs.nil _)⟩⟩)
set_option maxHeartbeats 2000000 in
set_option maxRecDepth 100000 in
theorem labelsO_ac (D : Nat) (L : Hl) (s : World) (hG : GW s) (t : Tab) (A : Option Addr) (n c : Nat) (hA : Inss s A n c t.ins) (tx : List UInt8) : AC Tryz.prog D 12 [.agg #[.int .i64 t.cells, .slice A n c], St tx] L s fun v L' s' => ∃ M', L' = M' ++ L ∧ ∀ s2, Le D s' s2 → Pub M' s2 → ∃ A1 n1 c1, v = .tuple #[.slice A1 n1 c1, .agg #[.int .i64 (asmFt t tx).1, .int .i64 (asmFt t tx).2]] ∧ Labs s2 A1 n1 c1 (asmL t tx) := by
 refine AC_enter (TT := TT) (fn := Tryz.f12) TT_ok Tryz.func12 (by kernel_rfl) rfl Tryz.ntmps12 rfl (rs := [.tmp 4, .cell 5 27]) rfl [(0, _), (1, _)] rfl ?_
 refine JC_seq ?_
 refine JC_region ?_
 refine JO_boxA rfl rfl ?_
 intro β1 s1 h1
 refine JO_q (QE_as rfl) rfl ?_
 refine JO_allocZ rfl [_, _] rfl rfl ?_
 intro β2 s2 h2
 refine JO_nil ?_
 refine thenQ_n ?_
 refine JC_seq ?_
 refine JC_region ?_
 refine JO_q (QE_ldA 1 [_, _] rfl rfl rfl rfl rfl) rfl ?_
 refine JO_q (QE_mv rfl) rfl ?_
 refine JO_call (first := []) (captured := []) rfl rfl rfl (AC.mid [_, _] [] _ (assemble_ac D _ _ (hG.le (Le.trans h1 h2)) _ _ _ _ (hA.le (Le.trans h1 h2)) tx)) ?_
 rintro _ _ s3 h3 ⟨Mx, rfl, p, f1, f2, rfl, hR⟩
 simp only [List.cons_append, List.nil_append]
 refine JO_q (QE_mv rfl) rfl ?_
 refine JO_q (QE_ext rfl rfl) rfl ?_
 refine JO_q (QE_ext rfl rfl) rfl ?_
 refine JO_allocZ rfl [_, _] rfl rfl ?_
 intro β4 s4 h4
 refine JO_q (QE_as rfl) rfl ?_
 refine JO_st 0 [_, _] rfl rfl rfl rfl rfl rfl rfl rfl rfl ?_
 refine JO_nil ?_
 refine thenQ_n ?_
 refine JC_seq ?_
 refine JC_seq ?_
 refine JC_region ?_
 refine JO_q (QE_ldA 0 [_, _] rfl rfl rfl rfl rfl) rfl ?_
 refine JO_q (QE_build [] [_, _] rfl rfl rfl rfl rfl rfl) rfl ?_
 refine JO_q (QE_ane rfl rfl (eqFault _ _ _ _)) rfl ?_
 refine JO_nil ?_
 refine thenQ_n ?_
 refine JC_ifN rfl (fun c5 => ?_) (fun c5 => ?_)
 ·
  obtain ⟨hne, hbad⟩ | ⟨hz1, hz2, _⟩ := hR
  rotate_left
  · exact absurd ⟨hz1, hz2⟩ c5
  obtain ⟨e1, e2, e3⟩ := asmW_l hbad
  refine JC_seq ?_
  refine JC_drawE drawsMixed 3 rfl [1] (by intro x hx; exact eraseAll_mem hx) ?_
  intro s6 h6
  refine JA_q 0 rfl (by kernel_rfl) (by kernel_rfl) (by kernel_rfl) trivial (QE_ldA 0 [_, _] rfl rfl rfl rfl rfl) rfl ?_
  refine JA_q 1 rfl (by kernel_rfl) (by kernel_rfl) (by kernel_rfl) trivial (QE_as rfl) rfl ?_
  refine JA_1 2 (by kernel_rfl) ?_
  refine JB_st rfl trivial 1 [_, _] rfl rfl rfl rfl rfl rfl rfl rfl rfl (fun _ hx => sub_mem (sbY (sbY (sbE _))) hx) ?_
  refine JA_done (by kernel_rfl) ?_
  refine thenQ_n ?_
  refine JC_ret ?_
  refine thenQ_r ?_
  refine retQ_mk [_, _, _] _ (.inr rfl) (.tmp rfl (.agg (us := [_, _]) 1 rfl rfl rfl rfl rfl (.nil))) rfl (Le.trans (Le.trans (Le.trans (Le.trans h1 h2) h3) h4) h6) (fun sR hS2 => ?_)
  first
    | (exact ⟨_, rfl, fun s2 hs2 hp => ⟨Al, nl, cl, by rw [e3]; rfl, by rw [e2]; exact hLb.le (Le.trans (Le.trans h4 h6) (Le.trans hS2 hs2))⟩⟩)
    | (exact ⟨_, rfl, fun s2 hs2 hp => ⟨none, 0, 0, by rw [e3]; rfl, by first | (rw [e1]; exact Wds.nil _ _ _ (by omega)) | (rw [e2]; exact Labs.nil _)⟩⟩)
 ·
  obtain ⟨hne, hbad⟩ | ⟨hz1, hz2, ba, bm, Aw, nw, cw, Al, nl, cl, vr, es, ck, Mw, w, l, hp, hM, hOw, huw, hLb, hok⟩ := hR
  · exact absurd c5.1 hne
  subst hp
  subst hM
  have hnw := hLb.1
  simp only [List.cons_append]
  obtain ⟨e1, e2, e3⟩ := asmW_r hok
  refine JC_skip ?_
  refine thenQ_n ?_
  refine JC_seq ?_
  refine JC_region ?_
  refine JO_q (QE_mv rfl) rfl ?_
  refine JO_q (QE_nil rfl) rfl ?_
  refine JO_q (QE_faB rfl rfl rfl rfl) rfl ?_
  refine JO_q (QE_ld1 3 rfl rfl rfl rfl rfl) rfl ?_
  refine JO_q (QE_build [] [_, _] rfl rfl rfl rfl rfl rfl) rfl ?_
  refine JO_q (QE_as rfl) rfl ?_
  refine JO_st 1 [_, _] rfl rfl rfl rfl rfl rfl rfl rfl rfl ?_
  refine JO_nil ?_
  refine thenQ_n ?_
  refine JC_ret ?_
  refine retQ_mk [_, _, _, _, _] _ (.inr rfl) (.tmp rfl (.agg (us := [_, _]) 1 rfl rfl rfl rfl rfl (.nil))) rfl (Le.trans (Le.trans (Le.trans h1 h2) h3) h4) (fun sR hS2 => ?_)
  first
    | (exact ⟨_, rfl, fun s2 hs2 hp => ⟨Al, nl, cl, by rw [e3]; rfl, by rw [e2]; exact hLb.le (Le.trans h4 (Le.trans hS2 hs2))⟩⟩)
    | (exact ⟨_, rfl, fun s2 hs2 hp => ⟨none, 0, 0, by rw [e3]; rfl, by first | (rw [e1]; exact Wds.nil _ _ _ (by omega)) | (rw [e2]; exact Labs.nil _)⟩⟩)
theorem assembleP_ac (D : Nat) (L : Hl) (s : World) (hG : GW s) (t : Tab) (A : Option Addr) (n c : Nat) (hA : Inss s A n c t.ins) (tx : List UInt8) : AC Tryz.prog D 11 [.agg #[.int .i64 t.cells, .slice A n c], St tx] L s fun v L' s' => L = L' ∧ ∃ A1 n1 c1, v = .tuple #[.slice A1 n1 c1, .agg #[.int .i64 (asmFt t tx).1, .int .i64 (asmFt t tx).2]] ∧ Wds s' A1 n1 c1 (asmW t tx) := AC.pubW (assembleO_ac D L s hG t A n c hA tx)
theorem labelsP_ac (D : Nat) (L : Hl) (s : World) (hG : GW s) (t : Tab) (A : Option Addr) (n c : Nat) (hA : Inss s A n c t.ins) (tx : List UInt8) : AC Tryz.prog D 12 [.agg #[.int .i64 t.cells, .slice A n c], St tx] L s fun v L' s' => L = L' ∧ ∃ A1 n1 c1, v = .tuple #[.slice A1 n1 c1, .agg #[.int .i64 (asmFt t tx).1, .int .i64 (asmFt t tx).2]] ∧ Labs s' A1 n1 c1 (asmL t tx) := AC.pubW (labelsO_ac D L s hG t A n c hA tx)
end Go.Proofs.YteomcjpigoaioaaGreatDoor
namespace Go.FL
open Go Go.RowKit
section
variable {P : Program} {TT : TyTab} {D n : Nat} {Q : APost} {fr : Fr} {L L' K : Hl} {s s' s0 : World} {ops : Array Oper} {rest : List Oper} {d ty : Nat} {op : Op} {pos : String} {af : Array Edge} {v : Value}
theorem QE_peq {x : Operand} {p : Option Addr} {t t' te : Nat} (hp : P.underlying t = some (.pointer te)) (hx : lk fr x = some (.pointer p)) : QE P TT D fr (.binOp .eql t x (.const (.pointer none)) t') ty K s0 (.bool p.isNone) :=
  QE.pure fun _ dst pos af g ρ hρ w => by
    have hc := hρ (.const (.pointer none)) _ rfl
    have h : ∀ k : Nat, (Op.equalIn (k + 1) t (.pointer p) (.pointer none)).run P w = .ok p.isNone w := fun k => by cases p <;> simp [Op.equalIn, run_underlying hp]
    have h2 : (binOp .eql t (.pointer p) (.pointer none)).run P w = .ok (.bool p.isNone) w := by simp only [binOp]; simp [Op.equal, Op.maxDepth, h 9999]
    simp [execOp, hρ x _ hx, hc, eqGuard, h2]
theorem QE_pne {x : Operand} {p : Option Addr} {t t' te : Nat} (hp : P.underlying t = some (.pointer te)) (hx : lk fr x = some (.pointer p)) : QE P TT D fr (.binOp .neq t x (.const (.pointer none)) t') ty K s0 (.bool p.isSome) :=
  QE.pure fun _ dst pos af g ρ hρ w => by
    have hc := hρ (.const (.pointer none)) _ rfl
    have h : ∀ k : Nat, (Op.equalIn (k + 1) t (.pointer p) (.pointer none)).run P w = .ok p.isNone w := fun k => by cases p <;> simp [Op.equalIn, run_underlying hp]
    have h2 : (binOp .neq t (.pointer p) (.pointer none)).run P w = .ok (.bool p.isSome) w := by simp only [binOp]; cases p <;> simp [Op.equal, Op.maxDepth, h 9999]
    simp [execOp, hρ x _ hx, hc, eqGuard, h2]
theorem QE_pns {x y : Operand} {a : Addr} {t t' te : Nat} {ti : TI} (hp : P.underlying t = some (.pointer te)) (hte : tlook TT te = some ti) (hx : lk fr x = some (.pointer (some a))) (hy : lk fr y = some (.pointer (some a))) : QE P TT D fr (.binOp .neq t x y t') ty K s0 (.bool false) :=
  QE.pure fun hT dst pos af g ρ hρ w => by
    obtain ⟨i, i1, _⟩ := info_of (hT.at_ hte)
    simp [execOp, hρ x _ hx, hρ y _ hy, eqGuard, Lib.run_neq_ptr_same w a hp i1]
theorem shape_mem {zs : List Value} {b e : Nat} (ho : OKL D L s) (hi : (b, cb zs e) ∈ L) : (fill L s).shape? b = some (e, zs.length) := by
  have := fill_mem ho hi
  unfold World.shape?
  rw [this]
  simp [cb]
theorem QE_toU {t t' te b e : Nat} {x : Operand} {ti : TI} {zs : List Value} (i : Nat) (hs : P.underlying t = some (.pointer te)) (hd : P.underlying t' = some .unsafePointer) (hte : tlook TT te = some ti) (hx : lk fr x = some (.pointer (some ⟨b, 0, none⟩))) (hi : K[i]? = some (b, cb zs e)) (hz : Nat.blt 0 zs.length = true) : QE P TT D fr (.convert t t' x) ty K s0 (.pointer (some ⟨b, 0, none⟩)) :=
  fun hT dst pos af g ρ hρ L s ho hl hK => by
    obtain ⟨i0, i1, i2, _⟩ := info_of (hT.at_ hte)
    have hpos : 0 < ti.size := (hT.at_ hte).2.2.2.2.2.1
    have hr := Lib.run_to_unsafe (P := P) (fill L s) ⟨b, 0, none⟩ hs hd i1 (by rw [i2]; omega) (shape_mem ho (hK _ (List.mem_of_getElem? hi))) (by simpa using hz)
    simp only [execOp, hρ x _ hx, Sem.run_bind, hr, Result.andThen_ok, Sem.run_pure]
theorem QE_fromU {t t' te b e : Nat} {x : Operand} {ti : TI} {zs : List Value} (i : Nat) (hs : P.underlying t = some .unsafePointer) (hd : P.underlying t' = some (.pointer te)) (hte : tlook TT te = some ti) (hx : lk fr x = some (.pointer (some ⟨b, 0, none⟩))) (hi : K[i]? = some (b, cb zs e)) (hlies : liesAt P P.depth e (zs.length / P.cellsOf e) 0 te 1 = true) : QE P TT D fr (.convert t t' x) ty K s0 (.pointer (some ⟨b, 0, none⟩)) :=
  fun hT dst pos af g ρ hρ L s ho hl hK => by
    obtain ⟨i0, i1, i2, _⟩ := info_of (hT.at_ hte)
    have hr := Lib.run_from_unsafe (P := P) (fill L s) ⟨b, 0, none⟩ hs hd i1 (shape_mem ho (hK _ (List.mem_of_getElem? hi))) hlies
    simp only [execOp, hρ x _ hx, Sem.run_bind, hr, Result.andThen_ok, Sem.run_pure]
theorem QE_same {f : FuncId} {fn : Func} {x y : Operand} {ts : Array TypeId} (hf : P.funcs[f]? = some fn) (hname : (fn.name == "runtime.NumGoroutine") = false) (hb : fn.body.isNone = true) (hn : Extern.findNext fn = none) (he : Extern.find fn = some Extern.AbiNoEscape.same) (hx : lk fr x = some (.func (.func f) #[] #[])) (hy : lk fr y = some v) :
    QE P TT D fr (.call { callee := .value x, args := #[y], argTypes := ts }) ty K s0 v :=
  QE.pure fun hT dst pos af g ρ hρ w => by
    have hr := run_callFunc_extern hf hname hb hn he #[v] w
    rw [Lib.run_noEscape] at hr
    simp [execOp, resolve, Deferred.ofValue, invoke, hρ x _ hx, hρ y _ hy, hr]
theorem QE_usd {x : Operand} {ts : Array TypeId} {A : Option Addr} {m c : Nat} (hx : lk fr x = some (.slice A m c)) (hc : A = none ∨ c ≠ 0) : QE P TT D fr (.call { callee := .builtin .unsafeSliceData, args := #[x], argTypes := ts }) ty K s0 (.pointer A) :=
  QE.pure fun hT dst pos af g ρ hρ w => by
    rcases hc with rfl | hc
    · simp [execOp, resolve, invoke, builtin, hρ x _ hx, Lib.run_unsafeSliceData_nil]
    · cases A with
      | none => simp [execOp, resolve, invoke, builtin, hρ x _ hx, Lib.run_unsafeSliceData_nil]
      | some a => simp [execOp, resolve, invoke, builtin, hρ x _ hx, Lib.run_unsafeSliceData_row _ _ _ _ _ _ hc]
theorem freeze_set (w : World) (g e k : Nat) (cs : Array Value) (hk : k ≠ 0) (hg : g < w.heap.size) : (setBlk w g (.cells cs e (0, 0))).freeze ⟨g, 0, none⟩ k = setBlk w g (.cells cs e (0, k)) := by
  unfold World.freeze
  rw [if_neg hk]
  refine world_eq (heap_ext fun j => ?_) rfl rfl rfl rfl
  show ((w.heap.setIfInBounds g _).modify g _)[j]? = (w.heap.setIfInBounds g _)[j]?
  rw [Array.getElem?_modify]
  by_cases hj : g = j
  · subst hj
    rw [if_pos rfl, Array.getElem?_setIfInBounds_self, Array.getElem?_setIfInBounds_self]
    simp [hg]
  · rw [if_neg hj, Array.getElem?_setIfInBounds_ne hj, Array.getElem?_setIfInBounds_ne hj]
end
end Go.FL
namespace Go.FL
open Go Go.RowKit Go.Proofs.YteomcjpigoaioaaGreatDoor
section
variable {P : Program} {TT : TyTab} {D n : Nat} {Q : APost} {fr : Fr} {L L' K : Hl} {s s' s0 : World} {ops : Array Oper} {rest : List Oper} {d ty : Nat} {op : Op} {pos : String} {af : Array Edge} {v : Value}
theorem Ev_ustr {tp ti0 e : Nat} {x y : Operand} {A : Option Addr} {l : List UInt8} {c : Nat} (X M L0 : Hl) (hp : P.underlying tp = some (.pointer e)) (hce : P.cellsOf e = 1) (hx : lk fr x = some (.pointer A)) (hy : lk fr y = some (.int .i64 (l.length : Int))) (hO : Own e 1 M (.slice A l.length c) l.length (bv l)) (hn : l = [] → M = []) (ho : OKL D (X ++ (M ++ L0)) s) :
    ∃ s', Ev P TT D fr (.call { callee := .builtin .unsafeString, args := #[x, y], argTypes := #[tp, ti0] }) ty (X ++ (M ++ L0)) s (.value (St l)) (X ++ L0) s' ∧ Le D s s' := by
  by_cases h0 : l = []
  · subst h0
    have hM := hn rfl
    subst hM
    refine ⟨s, fun hT ho dst pos af g ρ hρ => ⟨?_, by simpa using ho⟩, Le.refl _⟩
    simp only [List.length_nil] at hy
    have hr := Lib.run_unsafeString_none (P := P) (fill (X ++ ([] ++ L0)) s) tp ti0 ty A
    simp [execOp, resolve, invoke, builtin, hρ x _ hx, hρ y _ hy]
    simp at hr
    rw [hr]
    rfl
  · have hl0 : l.length ≠ 0 := by simpa using h0
    obtain ⟨g, ys, hA, hM, g1, g2, g3, g4⟩ : ∃ g ys, A = some ⟨g, 0, none⟩ ∧ M = [(g, cb (bv l ++ ys) e)] ∧ (bv l).length = l.length ∧ (bv l).length + ys.length = c ∧ l.length ≤ c ∧ c ≤ 9223372036854775807 := own_blk hO (by omega)
    subst hA
    subst hM
    have hperm : (X ++ ([(g, cb (bv l ++ ys) e)] ++ L0)).Perm ((g, cb (bv l ++ ys) e) :: (X ++ L0)) := by simpa using List.perm_middle
    have ho2 := ho.perm hperm
    have hgs : g < s.heap.size := ho2.lt (List.mem_cons_self ..)
    have hgs2 : g < (fill (X ++ L0) s).heap.size := by rw [fill_size]; exact hgs
    have ho3 : OKL D ([(g, Obj.cells (bv l ++ ys).toArray e (0, l.length))] ++ (X ++ L0)) s := ⟨by simpa using ho2.nd, fun x hx => by
      rcases List.mem_cons.1 hx with rfl | hx
      · exact ho2.dm (g, cb (bv l ++ ys) e) (List.mem_cons_self ..)
      · exact ho2.dm x (List.mem_cons_of_mem _ hx)⟩
    obtain ⟨d1, d2, d3⟩ := drop_own ho3
    have hbl : (bv l).length = l.length := g1
    have hus := Lib.run_unsafeString_row (P := P) (fill (X ++ ([(g, cb (bv l ++ ys) e)] ++ L0)) s) tp ti0 ty e hp hce g ((bv l ++ ys).length) (shape_mem ho (by simp)) l h0 (by simp [hbl]) (by omega) (fun j x hx => by
      rw [add_lit, Nat.zero_add, mem_cell ho (zs := bv l ++ ys) (t := e) (by simp), List.getElem?_append_left (by rw [hbl]; exact (List.getElem?_eq_some_iff.1 hx).1)]
      simp [bv, hx])
    have hw : (fill (X ++ ([(g, cb (bv l ++ ys) e)] ++ L0)) s).freeze ⟨g, 0, none⟩ l.length = fill (X ++ L0) (fill [(g, Obj.cells (bv l ++ ys).toArray e (0, l.length))] s) := by
      rw [fill_perm hperm _ ho, ← d1]
      exact freeze_set (fill (X ++ L0) s) g e l.length (bv l ++ ys).toArray hl0 hgs2
    refine ⟨fill [(g, Obj.cells (bv l ++ ys).toArray e (0, l.length))] s, fun hT _ dst pos af gg ρ hρ => ⟨?_, d2⟩, d3⟩
    rw [hw] at hus
    simp only [execOp, resolve, invoke, builtin, Sem.run_bind, Sem.run_pure, Result.andThen_ok, List.map_toArray, List.map_cons, List.map_nil, hρ x _ hx, hρ y _ hy, hus]
theorem JB_ustr {i0 tp ti0 e : Nat} {g : Option (Nat × Bool)} {fuel : Nat} {listed : Array Bool} {x y : Operand} {A : Option Addr} {l : List UInt8} {c : Nat} (hi0 : ops[i0]? = some ⟨some d, .call { callee := .builtin .unsafeString, args := #[x, y], argTypes := #[tp, ti0] }, ty, pos, af, g⟩) (hgk : GOK ops fr g)
    (X M L0 : Hl) (hL : L = X ++ (M ++ L0)) (hp : P.underlying tp = some (.pointer e)) (hce : P.cellsOf e = 1) (hx : lk fr x = some (.pointer A)) (hy : lk fr y = some (.int .i64 (l.length : Int))) (hO : Own e 1 M (.slice A l.length c) l.length (bv l)) (hn : l = [] → M = []) (hd : Nat.blt d n = true) (hK : ∀ x ∈ K, x ∈ X ++ (M ++ L0) → x ∈ X ++ L0)
    (kk : ∀ s', Le D s s' → JA P TT D n ops Q K s0 fuel (listed.setIfInBounds i0 true) ((d, St l) :: fr) (X ++ L0) s') : JB P TT D n ops Q K s0 fuel listed i0 fr L s := fun hT a hr ho hl0 hKL => by
  subst hL
  obtain ⟨s', h1, h2⟩ := Ev_ustr (ty := ty) X M L0 hp hce hx hy hO hn ho
  exact JB_ev hi0 hgk h1 h2 hK hd (kk s' h2) hT a hr ho hl0 hKL
end
end Go.FL
namespace Go.Proofs.YteomcjpigoaioaaGreatDoor
open Go Go.FL Go.RowKit
def BV (M : Hl) (v : Value) (l : List UInt8) : Prop := Own 5 1 M v l.length (bv l) ∧ (l = [] → M = [] ∧ v = .slice none 0 0)
theorem BV.nil : BV [] (.slice none 0 0) [] := ⟨Own.nil, fun _ => ⟨rfl, rfl⟩⟩
theorem own_none {e : Nat} {M : Hl} {n : Nat} {xs : List Value} (h : Own e 1 M (.slice none 0 0) n xs) : M = [] := by cases h; rfl
theorem BV.app {M M1 : Hl} {v v1 : Value} {l l2 : List UInt8} (h : BV M v l) (o : Own 5 1 M1 v1 (l.length + l2.length) (bv l ++ bv l2)) (hn : v = .slice none 0 0 → l2.length = 0 → v1 = .slice none 0 0) : BV M1 v1 (l ++ l2) := by
  have hb : bv (l ++ l2) = bv l ++ bv l2 := by simp [bv]
  refine ⟨by rw [hb, List.length_append]; exact o, fun h0 => ?_⟩
  obtain ⟨h1, h2⟩ := List.append_eq_nil_iff.1 h0
  have hv := hn (h.2 h1).2 (by rw [h2]; rfl)
  subst hv
  exact ⟨own_none o, rfl⟩
theorem BV.one {M M1 : Hl} {v v1 : Value} {l : List UInt8} {c : UInt8} (o : Own 5 1 M1 v1 (l.length + 1) (bv l ++ [.int .u8 (c.toNat : Int)])) : BV M1 v1 (l ++ [c]) := by
  have hb : bv (l ++ [c]) = bv l ++ [.int .u8 (c.toNat : Int)] := by simp [bv]
  exact ⟨by rw [hb, List.length_append]; exact o, fun h0 => by simp at h0⟩
theorem BV.cap {M : Hl} {A : Option Addr} {n c : Nat} {l : List UInt8} (h : BV M (.slice A n c) l) : A = none ∨ c ≠ 0 := by
  by_cases h0 : l = []
  · have := (h.2 h0).2; injection this with e; exact .inl e
  · right
    obtain ⟨_, c', e, h2, _⟩ := Own.slice h.1
    injection e with e1 e2 e3
    have : l.length ≠ 0 := by simpa using h0
    omega
def lstF (t : Tab) : List Int → List UInt8
  | [] => []
  | [x] => match findI t.ins x with
    | some y => if y.operand then wordB ++ 32 :: (Lib.decDigits x.toNat ++ [10]) else y.name ++ [10]
    | none => wordB ++ 32 :: (Lib.decDigits x.toNat ++ [10])
  | x :: a :: r => match findI t.ins x with
    | some y => if y.operand then y.name ++ 32 :: (Lib.decDigits a.toNat ++ 10 :: lstF t r) else y.name ++ 10 :: lstF t (a :: r)
    | none => wordB ++ 32 :: (Lib.decDigits x.toNat ++ 10 :: lstF t (a :: r))
def listS (t : Tab) (l : List Int) : List UInt8 := if (tabFault t).1 ≠ 0 then [] else if t.cells < (l.length : Int) then [] else if 400000 < (lstF t l).length then [] else lstF t l
def listE (t : Tab) (l : List Int) : Int × Int := if (tabFault t).1 ≠ 0 then tabFault t else if t.cells < (l.length : Int) then (3, -2) else if 400000 < (lstF t l).length then (14, -2) else (0, 0)
def plainB (t : Tab) (x : Int) : Bool := match findI t.ins x with
  | some y => !y.operand
  | none => false
theorem lst_plain {t : Tab} {x : Int} {y : Ins} {r : List Int} (h : findI t.ins x = some y) (ho : y.operand = false) : lstF t (x :: r) = y.name ++ 10 :: lstF t r := by
  cases r <;> simp [lstF, h, ho]
theorem lst_opd {t : Tab} {x a : Int} {y : Ins} {r : List Int} (h : findI t.ins x = some y) (ho : y.operand = true) : lstF t (x :: a :: r) = y.name ++ 32 :: (Lib.decDigits a.toNat ++ 10 :: lstF t r) := by
  simp [lstF, h, ho]
theorem lst_word {t : Tab} {x : Int} {r : List Int} (h : plainB t x = false) (h2 : ¬ ((findI t.ins x).isSome = true ∧ r ≠ [])) : lstF t (x :: r) = wordB ++ 32 :: (Lib.decDigits x.toNat ++ 10 :: lstF t r) := by
  cases hf : findI t.ins x with
  | none => cases r <;> simp [lstF, hf]
  | some y =>
    rw [hf] at h2
    have hr : r = [] := by
      by_cases hr : r = []
      · exact hr
      · exact absurd ⟨rfl, hr⟩ h2
    subst hr
    unfold plainB at h
    rw [hf] at h
    have ho : y.operand = true := by simpa using h
    simp [lstF, hf, ho]
theorem mnem_len {l : List UInt8} (h : mnemB l = true) : l ≠ [] ∧ l.length ≤ 6 := by
  simp only [mnemB, Bool.and_eq_true] at h
  exact labelB_len h.1.1
theorem tab_rows {t : Tab} (h : (tabFault t).1 = 0) : ∀ (i : Nat) (x : Ins), t.ins[i]? = some x → insCode x = 0 ∧ (t.ins.take i).any (sameKey x) = false := by
  unfold tabFault at h
  split at h
  · cases h
  split at h
  · cases h
  have hr := firstBad_all h
  intro i x hi
  have hl : i < t.ins.length := (List.getElem?_eq_some_iff.1 hi).1
  have := hr i (Nat.zero_le _) (by omega)
  simp only [rowCode, hi] at this
  split at this
  · contradiction
  · rename_i h0
    simp at h0
    refine ⟨h0, ?_⟩
    split at this
    · cases this
    · rename_i h3; simpa using h3
theorem tab_mnem {t : Tab} (h : (tabFault t).1 = 0) {x : Ins} (hx : x ∈ t.ins) : mnemB x.name = true := by
  obtain ⟨i, hi⟩ := List.mem_iff_getElem?.1 hx
  have := (tab_rows h i x hi).1
  unfold insCode at this
  split at this
  · cases this
  · rename_i h0; simpa using h0
theorem findI_mem {l : List Ins} {c : Int} {y : Ins} (h : findI l c = some y) : y ∈ l ∧ y.code = c := by
  refine ⟨List.mem_of_find?_eq_some h, ?_⟩
  have := List.find?_some h
  simpa using this
end Go.Proofs.YteomcjpigoaioaaGreatDoor
namespace Go.Proofs.YteomcjpigoaioaaGreatDoor
open Go.FL
attribute [local irreducible] JC JO JA JB thenQ blockQ retQ AC fill CellsAt QE Ev Mid
set_option maxHeartbeats 1000000 in
set_option maxRecDepth 100000 in
theorem copyCheck_ac (D : Nat) (L : Hl) (s : World) (bb : Nat) (p : Option Addr) (hp : p = none ∨ p = some ⟨bb, 0, none⟩) (v : Value) : AC Tryz.prog D 84 [.pointer (some ⟨bb, 0, none⟩)] ((bb, cb [.pointer p, v] 104) :: L) s fun u L' _ => u = .tuple #[] ∧ L' = (bb, cb [.pointer (some ⟨bb, 0, none⟩), v] 104) :: L := by
 refine AC_enter (TT := TT) (fn := Tryz.f84) TT_ok Tryz.func84 (by kernel_rfl) rfl Tryz.ntmps84 rfl (rs := []) rfl [(0, _)] rfl ?_
 refine JC_seq ?_
 refine JC_region ?_
 refine JO_q (QE_mv rfl) rfl ?_
 refine JO_q (QE_nil rfl) rfl ?_
 refine JO_q (QE_fa0 rfl rfl rfl rfl) rfl ?_
 refine JO_q (QE_ld1 0 rfl rfl rfl rfl rfl) rfl ?_
 refine JO_q (QE_peq Tryz.underlying102 rfl) rfl ?_
 refine JO_nil ?_
 refine thenQ_n ?_
 refine JC_if rfl (fun c1 => ?_) (fun c1 => ?_)
 ·
  obtain rfl : p = none := by simpa using c1
  refine JC_region ?_
  refine JO_q (QE_mv rfl) rfl ?_
  refine JO_q (QE_mv rfl) rfl ?_
  refine JO_q (QE_toU 0 Tryz.underlying102 Tryz.underlying180 rfl rfl rfl rfl) rfl ?_
  refine JO_q (QE_same Tryz.func106 (by kernel_rfl) (by kernel_rfl) (by kernel_rfl) (by kernel_rfl) rfl rfl) rfl ?_
  refine JO_q (QE_fromU 0 Tryz.underlying180 Tryz.underlying102 rfl rfl rfl (by kernel_rfl)) rfl ?_
  refine JO_q (QE_nil rfl) rfl ?_
  refine JO_q (QE_fa0 rfl rfl rfl rfl) rfl ?_
  refine JO_st 0 [_, _] rfl rfl rfl rfl rfl rfl rfl rfl rfl ?_
  refine JO_nil ?_
  refine retQ_mk [] _ (.inl rfl) (.nil) rfl (Le.refl (D := D) _) (fun sR hS2 => ?_)
  exact ⟨rfl, rfl⟩
 ·
  obtain rfl : p = some ⟨bb, 0, none⟩ := hp.resolve_left (fun h => by rw [h] at c1; cases c1)
  refine JC_seq ?_
  refine JC_region ?_
  refine JO_q (QE_mv rfl) rfl ?_
  refine JO_q (QE_nil rfl) rfl ?_
  refine JO_q (QE_fa0 rfl rfl rfl rfl) rfl ?_
  refine JO_q (QE_ld1 0 rfl rfl rfl rfl rfl) rfl ?_
  refine JO_q (QE_mv rfl) rfl ?_
  refine JO_q (QE_pns Tryz.underlying102 rfl rfl rfl) rfl ?_
  refine JO_nil ?_
  refine thenQ_n ?_
  refine JC_ifF rfl ?_
  refine JC_skip ?_
  refine retQ_mk [] _ (.inl rfl) (.nil) rfl (Le.refl (D := D) _) (fun sR hS2 => ?_)
  exact ⟨rfl, rfl⟩
set_option maxHeartbeats 1000000 in
set_option maxRecDepth 100000 in
theorem writeS_ac (D : Nat) (L : Hl) (s : World) (bb : Nat) (p : Option Addr) (hp : p = none ∨ p = some ⟨bb, 0, none⟩) (M : Hl) (v : Value) (l : List UInt8) (hb : BV M v l) (l2 : List UInt8) (hlen : l.length + l2.length ≤ 140737488355328) : AC Tryz.prog D 52 [.pointer (some ⟨bb, 0, none⟩), St l2] ((bb, cb [.pointer p, v] 104) :: (M ++ L)) s fun u L' _ => u = .tuple #[.int .i64 (l2.length : Int), .nilIface] ∧ ∃ M' v', L' = (bb, cb [.pointer (some ⟨bb, 0, none⟩), v'] 104) :: (M' ++ L) ∧ BV M' v' (l ++ l2) := by
 obtain ⟨Ab, cb1, rfl, kb1, kb2⟩ := Own.slice hb.1
 refine AC_enter (TT := TT) (fn := Tryz.f52) TT_ok Tryz.func52 (by kernel_rfl) rfl Tryz.ntmps52 rfl (rs := [.tmp 4, .tmp 5]) rfl [(0, _), (1, _)] rfl ?_
 refine JC_seq ?_
 refine JC_region ?_
 refine JO_q (QE_as rfl) rfl ?_
 refine JO_q (QE_as rfl) rfl ?_
 refine JO_nil ?_
 refine thenQ_n ?_
 refine JC_seq ?_
 refine JC_region ?_
 refine JO_q (QE_mv rfl) rfl ?_
 refine JO_call (first := []) (captured := []) rfl rfl rfl (copyCheck_ac D _ _ bb p hp _) ?_
 rintro _ _ s1 h1 ⟨rfl, rfl⟩
 refine JO_nil ?_
 refine thenQ_n ?_
 refine JC_seq ?_
 refine JC_region ?_
 refine JO_q (QE_mv rfl) rfl ?_
 refine JO_q (QE_mv rfl) rfl ?_
 refine JO_q (QE_nil rfl) rfl ?_
 refine JO_q (QE_faB rfl rfl rfl rfl) rfl ?_
 refine JO_q (QE_ld1 0 rfl rfl rfl rfl rfl) rfl ?_
 refine JO_q (QE_mv rfl) rfl ?_
 refine JO_appG (sz := 1) (m := l2.length) (news := l2.map fun b => Value.int .u8 (b.toNat : Int)) [_] M L rfl rfl rfl rfl rfl rfl rfl hb.1 (by simp) (fun hT w i k1 i1 i2 i3 i4 => apps_str l2 k1 Tryz.underlying9 i1 i2 i3 i4) ⟨by simp [ti5]; omega, by omega⟩ rfl ?_
 intro v1 M1 s2 h2 o1 n1
 obtain ⟨Av1, cv1, rfl, _, _⟩ := Own.slice o1
 simp only [List.cons_append, List.nil_append]
 refine JO_q (QE_nil rfl) rfl ?_
 refine JO_q (QE_faB rfl rfl rfl rfl) rfl ?_
 refine JO_st 0 [_, _] rfl rfl rfl rfl rfl rfl rfl rfl rfl ?_
 refine JO_nil ?_
 refine thenQ_n ?_
 refine JC_seq ?_
 refine JC_region ?_
 refine JO_q (QE_mv rfl) rfl ?_
 refine JO_q (QE_lenT rfl rfl rfl) rfl ?_
 refine JO_q (QE_as rfl) rfl ?_
 refine JO_q (QE_as rfl) rfl ?_
 refine JO_nil ?_
 refine thenQ_n ?_
 refine JC_ret ?_
 refine retQ_mk [] _ (.inr rfl) (.tmp rfl (.tmp rfl (.nil))) rfl (Le.trans h1 h2) (fun sR hS2 => ?_)
 exact ⟨rfl, M1, _, rfl, hb.app o1 n1⟩
set_option maxHeartbeats 1000000 in
set_option maxRecDepth 100000 in
theorem writeB_ac (D : Nat) (L : Hl) (s : World) (bb : Nat) (p : Option Addr) (hp : p = none ∨ p = some ⟨bb, 0, none⟩) (M : Hl) (v : Value) (l : List UInt8) (hb : BV M v l) (c : UInt8) (hlen : l.length + 1 ≤ 140737488355328) : AC Tryz.prog D 54 [.pointer (some ⟨bb, 0, none⟩), .int .u8 (c.toNat : Int)] ((bb, cb [.pointer p, v] 104) :: (M ++ L)) s fun u L' _ => u = .nilIface ∧ ∃ M' v', L' = (bb, cb [.pointer (some ⟨bb, 0, none⟩), v'] 104) :: (M' ++ L) ∧ BV M' v' (l ++ [c]) := by
 obtain ⟨Ab, cb1, rfl, kb1, kb2⟩ := Own.slice hb.1
 refine AC_enter (TT := TT) (fn := Tryz.f54) TT_ok Tryz.func54 (by kernel_rfl) rfl Tryz.ntmps54 rfl (rs := [.tmp 4]) rfl [(0, _), (1, _)] rfl ?_
 refine JC_seq ?_
 refine JC_region ?_
 refine JO_q (QE_as rfl) rfl ?_
 refine JO_nil ?_
 refine thenQ_n ?_
 refine JC_seq ?_
 refine JC_region ?_
 refine JO_q (QE_mv rfl) rfl ?_
 refine JO_call (first := []) (captured := []) rfl rfl rfl (copyCheck_ac D _ _ bb p hp _) ?_
 rintro _ _ s1 h1 ⟨rfl, rfl⟩
 refine JO_nil ?_
 refine thenQ_n ?_
 refine JC_seq ?_
 refine JC_region ?_
 refine JO_q (QE_mv rfl) rfl ?_
 refine JO_q (QE_mv rfl) rfl ?_
 refine JO_q (QE_nil rfl) rfl ?_
 refine JO_q (QE_faB rfl rfl rfl rfl) rfl ?_
 refine JO_q (QE_ld1 0 rfl rfl rfl rfl rfl) rfl ?_
 refine JO_q (QE_mv rfl) rfl ?_
 refine JO_bs [(_, _)] [_] rfl rfl rfl rfl rfl rfl rfl rfl rfl ?_
 intro βn s2 h2 hcb
 refine JO_app (sz := 1) [_] M L rfl rfl rfl rfl rfl rfl rfl hb.1 (Row.of_cells (hcb.le (Le.refl (D := D) _)) rfl rfl) ⟨by simp [ti5]; omega, by omega⟩ rfl ?_
 intro v1 M1 s3 h3 o1
 obtain ⟨Av1, cv1, rfl, _, _⟩ := Own.slice o1
 simp only [List.cons_append, List.nil_append]
 refine JO_q (QE_nil rfl) rfl ?_
 refine JO_q (QE_faB rfl rfl rfl rfl) rfl ?_
 refine JO_st 0 [_, _] rfl rfl rfl rfl rfl rfl rfl rfl rfl ?_
 refine JO_nil ?_
 refine thenQ_n ?_
 refine JC_seq ?_
 refine JC_region ?_
 refine JO_q (QE_as rfl) rfl ?_
 refine JO_nil ?_
 refine thenQ_n ?_
 refine JC_ret ?_
 refine retQ_mk [] _ (.inr rfl) (.tmp rfl (.nil)) rfl (Le.trans (Le.trans h1 h2) h3) (fun sR hS2 => ?_)
 exact ⟨rfl, M1, _, rfl, BV.one (M := M) (v := .slice Ab l.length cb1) o1⟩
set_option maxHeartbeats 1000000 in
set_option maxRecDepth 100000 in
theorem blen_ac (D : Nat) (L : Hl) (s : World) (bb : Nat) (p : Option Addr) (M : Hl) (v : Value) (l : List UInt8) (hb : BV M v l) : AC Tryz.prog D 55 [.pointer (some ⟨bb, 0, none⟩)] ((bb, cb [.pointer p, v] 104) :: L) s fun u L' _ => u = .int .i64 (l.length : Int) ∧ L' = (bb, cb [.pointer p, v] 104) :: L := by
 obtain ⟨Ab, cb1, rfl, kb1, kb2⟩ := Own.slice hb.1
 refine AC_enter (TT := TT) (fn := Tryz.f55) TT_ok Tryz.func55 (by kernel_rfl) rfl Tryz.ntmps55 rfl (rs := [.tmp 2]) rfl [(0, _)] rfl ?_
 refine JC_seq ?_
 refine JC_region ?_
 refine JO_q (QE_as rfl) rfl ?_
 refine JO_nil ?_
 refine thenQ_n ?_
 refine JC_seq ?_
 refine JC_region ?_
 refine JO_q (QE_mv rfl) rfl ?_
 refine JO_q (QE_nil rfl) rfl ?_
 refine JO_q (QE_faB rfl rfl rfl rfl) rfl ?_
 refine JO_q (QE_ld1 0 rfl rfl rfl rfl rfl) rfl ?_
 refine JO_q (QE_lenS rfl rfl rfl) rfl ?_
 refine JO_q (QE_as rfl) rfl ?_
 refine JO_nil ?_
 refine thenQ_n ?_
 refine JC_ret ?_
 refine retQ_mk [] _ (.inr rfl) (.tmp rfl (.nil)) rfl (Le.refl (D := D) _) (fun sR hS2 => ?_)
 exact ⟨rfl, rfl⟩
set_option maxHeartbeats 1000000 in
set_option maxRecDepth 100000 in
theorem bstr_ac (D : Nat) (L : Hl) (s : World) (bb : Nat) (p : Option Addr) (M : Hl) (v : Value) (l : List UInt8) (hb : BV M v l) : AC Tryz.prog D 56 [.pointer (some ⟨bb, 0, none⟩)] ((bb, cb [.pointer p, v] 104) :: (M ++ L)) s fun u L' _ => u = St l ∧ L' = L := by
 obtain ⟨Ab, cb1, rfl, kb1, kb2⟩ := Own.slice hb.1
 refine AC_enter (TT := TT) (fn := Tryz.f56) TT_ok Tryz.func56 (by kernel_rfl) rfl Tryz.ntmps56 rfl (rs := [.tmp 2]) rfl [(0, _)] rfl ?_
 refine JC_seq ?_
 refine JC_region ?_
 refine JO_q (QE_as rfl) rfl ?_
 refine JO_nil ?_
 refine thenQ_n ?_
 refine JC_seq ?_
 refine JC_drawT drawsMixed 12 rfl 1 ?_
 intro s1 h1
 refine JA_q 0 rfl (by kernel_rfl) (by kernel_rfl) (by kernel_rfl) trivial (QE_mv rfl) rfl ?_
 refine JA_q 1 rfl (by kernel_rfl) (by kernel_rfl) (by kernel_rfl) trivial (QE_nil rfl) rfl ?_
 refine JA_q 2 rfl (by kernel_rfl) (by kernel_rfl) (by kernel_rfl) trivial (QE_faB rfl rfl rfl rfl) rfl ?_
 refine JA_q 3 rfl (by kernel_rfl) (by kernel_rfl) (by kernel_rfl) trivial (QE_ld1 0 rfl rfl rfl rfl rfl) rfl ?_
 refine JA_q 4 rfl (by kernel_rfl) (by kernel_rfl) (by kernel_rfl) trivial (QE_usd rfl hb.cap) rfl ?_
 refine JA_q 5 rfl (by kernel_rfl) (by kernel_rfl) (by kernel_rfl) trivial (QE_mv rfl) rfl ?_
 refine JA_q 6 rfl (by kernel_rfl) (by kernel_rfl) (by kernel_rfl) trivial (QE_nil rfl) rfl ?_
 refine JA_q 7 rfl (by kernel_rfl) (by kernel_rfl) (by kernel_rfl) trivial (QE_faB rfl rfl rfl rfl) rfl ?_
 refine JA_q 8 rfl (by kernel_rfl) (by kernel_rfl) (by kernel_rfl) trivial (QE_ld1 0 rfl rfl rfl rfl rfl) rfl ?_
 refine JA_q 9 rfl (by kernel_rfl) (by kernel_rfl) (by kernel_rfl) trivial (QE_lenS rfl rfl rfl) rfl ?_
 refine JA_1 10 (by kernel_rfl) ?_
 refine JB_ustr rfl trivial [_] M L rfl Tryz.underlying154 (by kernel_rfl) rfl rfl hb.1 (fun h => (hb.2 h).1) rfl (fun x hx _ => memK1 hx) ?_
 intro s2 h2
 simp only [List.cons_append, List.nil_append]
 refine JA_q 11 rfl (by kernel_rfl) (by kernel_rfl) (by kernel_rfl) trivial (QE_as rfl) rfl ?_
 refine JA_done (by kernel_rfl) ?_
 refine thenQ_n ?_
 refine JC_ret ?_
 refine retQ_mk [_] _ (.inr rfl) (.tmp rfl (.nil)) rfl (Le.trans h1 h2) (fun sR hS2 => ?_)
 exact ⟨rfl, rfl⟩
end Go.Proofs.YteomcjpigoaioaaGreatDoor
namespace Go.Proofs.YteomcjpigoaioaaGreatDoor
open Go.FL
attribute [local irreducible] JC JO JA JB thenQ blockQ retQ AC fill CellsAt QE Ev Mid
theorem find_hit {α : Type} {p : α → Bool} {l : List α} {k : Nat} {x : α} (h : ∀ i y, i < k → l[i]? = some y → p y = false) (hk : l[k]? = some x) (hx : p x = true) : l.find? p = some x := by
  induction l generalizing k with
  | nil => cases hk
  | cons y l ih =>
    cases k with
    | zero => simp at hk; subst hk; simp [List.find?, hx]
    | succ k => simp only [List.find?, h 0 y (by omega) rfl]; exact ih (fun i z hi hz => h (i + 1) z (by omega) hz) hk
theorem find_miss {α : Type} {p : α → Bool} {l : List α} (h : ∀ i y, i < l.length → l[i]? = some y → p y = false) : l.find? p = none := by
  rw [List.find?_eq_none]
  intro y hy
  obtain ⟨i, hi⟩ := List.mem_iff_getElem?.1 hy
  simp [h i y (List.getElem?_eq_some_iff.1 hi).1 hi]
def PF (s : World) (l : List Ins) (code : Int) (p : Option Addr) : Prop := (p = none ∧ findI l code = none) ∨ ∃ b off y A' n' c', p = some ⟨b, off, none⟩ ∧ findI l code = some y ∧ CellsAt s b off [St y.name, .int .u32 y.code, .bool y.operand, .slice A' n' c']
theorem PF.some' {s : World} {l : List Ins} {code : Int} {p : Option Addr} {y : Ins} (h : PF s l code p) (hy : findI l code = some y) : ∃ b off A' n' c', p = some ⟨b, off, none⟩ ∧ CellsAt s b off [St y.name, .int .u32 y.code, .bool y.operand, .slice A' n' c'] := by
  rcases h with ⟨_, h2⟩ | ⟨b, off, y', A', n', c', h1, h2, h3⟩
  · rw [h2] at hy; cases hy
  · rw [h2] at hy; injection hy with hy; subst hy; exact ⟨b, off, A', n', c', h1, h3⟩
theorem PF.le {D : Nat} {s s' : World} {l : List Ins} {code : Int} {p : Option Addr} (h : PF s l code p) (hl : Le D s s') : PF s' l code p := by
  rcases h with h | ⟨b, off, y, A', n', c', h1, h2, h3⟩
  · exact .inl h
  · exact .inr ⟨b, off, y, A', n', c', h1, h2, h3.le hl⟩
theorem PF.isSome {s : World} {l : List Ins} {code : Int} {p : Option Addr} (h : PF s l code p) : p.isSome = (findI l code).isSome := by
  rcases h with ⟨h1, h2⟩ | ⟨b, off, y, A', n', c', h1, h2, h3⟩ <;> rw [h1, h2] <;> rfl
theorem plain_some {t : Tab} {x : Int} (h : plainB t x = true) : ∃ y, findI t.ins x = some y ∧ y.operand = false := by
  unfold plainB at h
  cases hf : findI t.ins x with
  | none => rw [hf] at h; cases h
  | some y => rw [hf] at h; exact ⟨y, rfl, by simpa using h⟩
theorem plain_opd {t : Tab} {x : Int} {y : Ins} (h : ¬ plainB t x = true) (hf : findI t.ins x = some y) : y.operand = true := by
  unfold plainB at h; rw [hf] at h; simpa using h
theorem drop_cons {l : List Int} {k : Nat} {x : Int} (h : l[k]? = some x) : l.drop k = x :: l.drop (k + 1) := by
  obtain ⟨hk, rfl⟩ := List.getElem?_eq_some_iff.1 h
  exact List.drop_eq_getElem_cons hk
set_option maxHeartbeats 1000000 in
set_option maxRecDepth 100000 in
theorem list1_ac (D : Nat) (L : Hl) (s : World) (t : Tab) (A : Option Addr) (n c : Nat) (hA : Inss s A n c t.ins) (code : Int) (bt : Nat) (x0 x1 x2 : Nat × Obj) : AC Tryz.prog D 51 [.int .u32 code, .pointer (some ⟨bt, 0, none⟩)] (x0 :: x1 :: x2 :: (bt, cb [.int .i64 t.cells, .slice A n c] 24) :: L) s fun v L' s' => L' = x0 :: x1 :: x2 :: (bt, cb [.int .i64 t.cells, .slice A n c] 24) :: L ∧ ∃ p, v = .pointer p ∧ PF s' t.ins code p := by
 have hn := hA.1
 have hc1 := hA.2.1
 have hc2 := hA.2.2.1
 refine AC_enter (TT := TT) (fn := Tryz.f51) TT_ok Tryz.func51 (by kernel_rfl) rfl Tryz.ntmps51 rfl (rs := [.tmp 3]) rfl [(0, _), (1, _)] rfl ?_
 refine JC_seq ?_
 refine JC_region ?_
 refine JO_q (QE_as rfl) rfl ?_
 refine JO_nil ?_
 refine thenQ_n ?_
 refine JC_seq ?_
 refine JC_seq ?_
 refine JC_region ?_
 refine JO_q (QE_faB rfl rfl rfl rfl) rfl ?_
 refine JO_q (QE_ld1 3 rfl rfl rfl rfl rfl) rfl ?_
 refine JO_q (QE_lenS rfl rfl rfl) rfl ?_
 refine JO_q (QE_mv rfl) rfl ?_
 refine JO_nil ?_
 refine thenQ_n ?_
 refine JC_block ?_
 refine JC_loop (γ := Nat) (fun k => [(0, _), (1, _), (3, _), (7, _), (8, .int .i64 (k : Int))]) (fun _ => _) (fun k tw => Le D s tw ∧ (k ≤ n ∧ ∀ i x, i < k → t.ins[i]? = some x → decide (x.code = code) = false)) (fun k => n - k) (fun _ _ _ h hl => ⟨h.1.trans hl, h.2⟩) 0 (Keeps.cons rfl (Keeps.cons rfl (Keeps.cons rfl (Keeps.cons rfl (Keeps.cons rfl (Keeps.nil _)))))) rfl ⟨Le.refl _, ⟨Nat.zero_le _, fun i c hi => by omega⟩⟩ ?_
 intro k s1 I1
 have hk0 := I1.2.1
 have hI := I1.2.2
 refine JC_seq ?_
 refine JC_region ?_
 refine JO_q (QE_lt rfl rfl) rfl ?_
 refine JO_nil ?_
 refine thenQ_n ?_
 refine JC_seq ?_
 refine JC_ifD rfl (fun c2 => ?_) (fun c2 => ?_)
 ·
  have hk : k < n := by omega
  obtain ⟨b, off, x, A', n', c', rfl, hx, hcx, hax, hnl, hcd⟩ := Inss.at_ (hA.le I1.1) hk
  refine JC_skip ?_
  refine thenQ_n ?_
  refine JC_seq ?_
  refine JC_block ?_
  refine JC_seq ?_
  refine JC_region ?_
  refine JO_q (QE_mv rfl) rfl ?_
  refine JO_q (QE_as rfl) rfl ?_
  refine JO_nil ?_
  refine thenQ_n ?_
  refine JC_seq ?_
  refine JC_region ?_
  refine JO_q (QE_faB rfl rfl rfl rfl) rfl ?_
  refine JO_q (QE_ld1 3 rfl rfl rfl rfl rfl) rfl ?_
  refine JO_q (QE_mv rfl) rfl ?_
  refine JO_q (QE_iaN rfl rfl rfl rfl rfl rfl hk) rfl ?_
  refine JO_q (QE_fa rfl rfl rfl rfl) rfl ?_
  refine JO_q (QE_ldsR 1 rfl rfl rfl (hcx.le (Le.refl (D := D) _)) rfl) rfl ?_
  refine JO_q (QE_mv rfl) rfl ?_
  refine JO_q (QE_eq rfl rfl) rfl ?_
  refine JO_nil ?_
  refine thenQ_n ?_
  refine JC_ifD rfl (fun c3 => ?_) (fun c3 => ?_)
  ·
   have hz := c3
   refine JC_seq ?_
   refine JC_region ?_
   refine JO_q (QE_faB rfl rfl rfl rfl) rfl ?_
   refine JO_q (QE_ld1 3 rfl rfl rfl rfl rfl) rfl ?_
   refine JO_q (QE_mv rfl) rfl ?_
   refine JO_q (QE_iaN rfl rfl rfl rfl rfl rfl hk) rfl ?_
   refine JO_q (QE_as rfl) rfl ?_
   refine JO_nil ?_
   refine thenQ_n ?_
   refine JC_ret ?_
   refine blockQ_r ?_
   refine thenQ_r ?_
   refine thenQ_r ?_
   refine blockQ_r ?_
   refine thenQ_r ?_
   refine retQ_mk [] _ (.inr rfl) (.tmp rfl (.nil)) rfl I1.1 (fun sR hS2 => ?_)
   first
     | (exact ⟨rfl, _, rfl, .inr ⟨_, _, x, A', n', c', rfl, find_hit hI hx (decide_eq_true hz), hcx.le (Le.trans (Le.refl (D := D) _) hS2)⟩⟩)
     | (exact ⟨rfl, none, rfl, .inl ⟨rfl, find_miss (fun i y hi h => hI i y (by omega) h)⟩⟩)
  ·
   have hz := c3
   refine JC_skip ?_
   refine blockQ_n ?_
   refine thenQ_n ?_
   refine JC_region ?_
   refine JO_q (QE_add' rfl rfl (w64 (by omega) (by omega))) rfl ?_
   refine JO_q (QE_mv rfl) rfl ?_
   refine JO_nil ?_
   refine thenQ_n ⟨(k + 1), [], (Keeps.cons rfl (Keeps.cons rfl (Keeps.cons rfl (Keeps.cons rfl (Keeps.cons rfl (Keeps.nil _)))))), rfl, ⟨I1.1, ⟨by omega, below_succ hI hx (decide_eq_false hz)⟩⟩, (by omega)⟩
 ·
  refine JC_exit ?_
  refine thenQ_x ?_
  refine thenQ_x ?_
  refine blockQ_x ?_
  refine thenQ_n ?_
  refine JC_seq ?_
  refine JC_region ?_
  refine JO_q (QE_as rfl) rfl ?_
  refine JO_nil ?_
  refine thenQ_n ?_
  refine JC_ret ?_
  refine retQ_mk [] _ (.inr rfl) (.tmp rfl (.nil)) rfl I1.1 (fun sR hS2 => ?_)
  first
    | (exact ⟨rfl, _, rfl, .inr ⟨_, _, x, A', n', c', rfl, find_hit hI hx (decide_eq_true hz), hcx.le (Le.trans (noSuchMark) hS2)⟩⟩)
    | (exact ⟨rfl, none, rfl, .inl ⟨rfl, find_miss (fun i y hi h => hI i y (by omega) h)⟩⟩)
theorem writeSX_ac (D : Nat) (X L : Hl) (s : World) (bb : Nat) (p : Option Addr) (hp : p = none ∨ p = some ⟨bb, 0, none⟩) (M : Hl) (v : Value) (l : List UInt8) (hb : BV M v l) (l2 : List UInt8) (hlen : l.length + l2.length ≤ 140737488355328) : AC Tryz.prog D 52 [.pointer (some ⟨bb, 0, none⟩), St l2] ((bb, cb [.pointer p, v] 104) :: (X ++ (M ++ L))) s fun u L' _ => u = .tuple #[.int .i64 (l2.length : Int), .nilIface] ∧ ∃ M' v', L' = (bb, cb [.pointer (some ⟨bb, 0, none⟩), v'] 104) :: (X ++ (M' ++ L)) ∧ BV M' v' (l ++ l2) :=
  AC.perm (List.Perm.cons _ (List.perm_append_comm_assoc ..)) (writeS_ac D (X ++ L) s bb p hp M v l hb l2 hlen) fun u L1 s1 ⟨h0, M', v', h1, h2⟩ => ⟨_, by rw [h1]; exact List.Perm.cons _ (List.perm_append_comm_assoc ..), h0, M', v', rfl, h2⟩
theorem writeBX_ac (D : Nat) (X L : Hl) (s : World) (bb : Nat) (p : Option Addr) (hp : p = none ∨ p = some ⟨bb, 0, none⟩) (M : Hl) (v : Value) (l : List UInt8) (hb : BV M v l) (c : UInt8) (hlen : l.length + 1 ≤ 140737488355328) : AC Tryz.prog D 54 [.pointer (some ⟨bb, 0, none⟩), .int .u8 (c.toNat : Int)] ((bb, cb [.pointer p, v] 104) :: (X ++ (M ++ L))) s fun u L' _ => u = .nilIface ∧ ∃ M' v', L' = (bb, cb [.pointer (some ⟨bb, 0, none⟩), v'] 104) :: (X ++ (M' ++ L)) ∧ BV M' v' (l ++ [c]) :=
  AC.perm (List.Perm.cons _ (List.perm_append_comm_assoc ..)) (writeB_ac D (X ++ L) s bb p hp M v l hb c hlen) fun u L1 s1 ⟨h0, M', v', h1, h2⟩ => ⟨_, by rw [h1]; exact List.Perm.cons _ (List.perm_append_comm_assoc ..), h0, M', v', rfl, h2⟩
theorem bstrX_ac (D : Nat) (X L : Hl) (s : World) (bb : Nat) (p : Option Addr) (M : Hl) (v : Value) (l : List UInt8) (hb : BV M v l) : AC Tryz.prog D 56 [.pointer (some ⟨bb, 0, none⟩)] ((bb, cb [.pointer p, v] 104) :: (X ++ (M ++ L))) s fun u L' _ => u = St l ∧ L' = X ++ L :=
  AC.perm (List.Perm.cons _ (List.perm_append_comm_assoc ..)) (bstr_ac D (X ++ L) s bb p M v l hb) fun u L1 s1 ⟨h0, h1⟩ => ⟨_, List.Perm.refl _, h0, h1⟩
theorem itoaU_ac (D : Nat) (L : Hl) (s : World) (hG : GW s) (x : Int) (hx : U32 x) : AC Tryz.prog D 53 [.int .i64 x] L s fun v L' _ => v = St (Lib.decDigits x.toNat) ∧ L = L' := by
  have h := itoa_ac D L s hG x (by have := hx.1; omega) (by have := hx.2; omega)
  rwa [show Lib.itoa x = Lib.decDigits x.toNat by unfold Lib.itoa; rw [if_neg (by have := hx.1; omega)]] at h
theorem plain_nany {t : Tab} {x : Int} {y : Ins} (h : findI t.ins x = some y) : (!y.operand) = decide (plainB t x = true) := by unfold plainB; rw [h]; simp
theorem plain_none {t : Tab} {x : Int} (h : (findI t.ins x).isSome = false) : ¬ plainB t x = true := by
  unfold plainB
  cases hf : findI t.ins x with
  | none => simp
  | some y => rw [hf] at h; cases h
theorem list_bad {t : Tab} {l : List Int} (h : (tabFault t).1 ≠ 0) : listS t l = [] ∧ listE t l = tabFault t := by unfold listS listE; rw [if_pos h, if_pos h]; exact ⟨rfl, rfl⟩
theorem list_long {t : Tab} {l : List Int} (h : (tabFault t).1 = 0) (h2 : t.cells < (l.length : Int)) : listS t l = [] ∧ listE t l = (3, -2) := by unfold listS listE; rw [if_neg (by simpa using h), if_pos h2, if_neg (by simpa using h), if_pos h2]; exact ⟨rfl, rfl⟩
theorem list_big {t : Tab} {l : List Int} (h : (tabFault t).1 = 0) (h2 : ¬ t.cells < (l.length : Int)) (h3 : 400000 < (lstF t l).length) : listS t l = [] ∧ listE t l = (14, -2) := by unfold listS listE; rw [if_neg (by simpa using h), if_neg h2, if_pos h3, if_neg (by simpa using h), if_neg h2, if_pos h3]; exact ⟨rfl, rfl⟩
theorem list_ok {t : Tab} {l : List Int} (h : (tabFault t).1 = 0) (h2 : ¬ t.cells < (l.length : Int)) (h3 : ¬ 400000 < (lstF t l).length) : listS t l = lstF t l ∧ listE t l = (0, 0) := by unfold listS listE; rw [if_neg (by simpa using h), if_neg h2, if_neg h3, if_neg (by simpa using h), if_neg h2, if_neg h3]; exact ⟨rfl, rfl⟩
set_option maxHeartbeats 4000000 in
set_option maxRecDepth 100000 in
theorem list_ac (D : Nat) (L : Hl) (s : World) (hG : GW s) (t : Tab) (A : Option Addr) (n c : Nat) (hA : Inss s A n c t.ins) (A1 : Option Addr) (n1 c1 : Nat) (im : List Int) (hIm : Wds s A1 n1 c1 im) : AC Tryz.prog D 20 [.agg #[.int .i64 t.cells, .slice A n c], .slice A1 n1 c1] L s fun v L' _ => L = L' ∧ v = .tuple #[St (listS t im), .agg #[.int .i64 (listE t im).1, .int .i64 (listE t im).2]] := by
 have hF := tab_zero t
 have hn1 := hIm.1
 have hu := hIm.u32
 refine AC_enter (TT := TT) (fn := Tryz.f20) TT_ok Tryz.func20 (by kernel_rfl) rfl Tryz.ntmps20 rfl (rs := [.tmp 4, .cell 5 27]) rfl [(0, _), (1, _)] rfl ?_
 refine JC_seq ?_
 refine JC_region ?_
 refine JO_boxA rfl rfl ?_
 intro β1 s1 h1
 refine JO_q (QE_as rfl) rfl ?_
 refine JO_allocZ rfl [_, _] rfl rfl ?_
 intro β2 s2 h2
 refine JO_nil ?_
 refine thenQ_n ?_
 refine JC_seq ?_
 refine JC_seq ?_
 refine JC_region ?_
 refine JO_q (QE_ldA 1 [_, _] rfl rfl rfl rfl rfl) rfl ?_
 refine JO_call (first := []) (captured := []) rfl rfl rfl (validate_ac D _ _ _ _ _ _ (hA.le (Le.trans h1 h2))) ?_
 rintro _ _ s3 h3 ⟨rfl, rfl⟩
 refine JO_allocZ rfl [_, _] rfl rfl ?_
 intro β4 s4 h4
 refine JO_st 0 [_, _] rfl rfl rfl rfl rfl rfl rfl rfl rfl ?_
 refine JO_nil ?_
 refine thenQ_n ?_
 refine JC_seq ?_
 refine JC_region ?_
 refine JO_q (QE_ldA 0 [_, _] rfl rfl rfl rfl rfl) rfl ?_
 refine JO_q (QE_build [] [_, _] rfl rfl rfl rfl rfl rfl) rfl ?_
 refine JO_q (QE_ane rfl rfl (eqFault _ _ _ _)) rfl ?_
 refine JO_nil ?_
 refine thenQ_n ?_
 refine JC_ifN rfl (fun c5 => ?_) (fun c5 => ?_)
 ·
  have hbad : (tabFault t).1 ≠ 0 := fun h => c5 ⟨h, hF h⟩
  refine JC_seq ?_
  refine JC_drawE drawsMixed 3 rfl [1] (by intro x hx; exact eraseAll_mem hx) ?_
  intro s6 h6
  refine JA_q 0 rfl (by kernel_rfl) (by kernel_rfl) (by kernel_rfl) trivial (QE_ldA 0 [_, _] rfl rfl rfl rfl rfl) rfl ?_
  refine JA_q 1 rfl (by kernel_rfl) (by kernel_rfl) (by kernel_rfl) trivial (QE_as rfl) rfl ?_
  refine JA_1 2 (by kernel_rfl) ?_
  refine JB_st rfl trivial 1 [_, _] rfl rfl rfl rfl rfl rfl rfl rfl rfl (fun _ hx => sub_mem (sbY (sbY (sbE _))) hx) ?_
  refine JA_done (by kernel_rfl) ?_
  refine thenQ_n ?_
  refine JC_ret ?_
  refine thenQ_r ?_
  refine retQ_mk [_, _, _] L (.inr rfl) (.tmp rfl (.agg (us := [_, _]) 1 rfl rfl rfl rfl rfl (.nil))) rfl (Le.trans (Le.trans (Le.trans (Le.trans h1 h2) h3) h4) h6) (fun sR hS2 => ?_)
  first
    | (rw [(list_bad hbad).1, (list_bad hbad).2]; exact ⟨rfl, rfl⟩)
    | (rw [(list_long ht0 hlong).1, (list_long ht0 hlong).2]; exact ⟨rfl, rfl⟩)
    | (rw [(list_big ht0 hlong hbig).1, (list_big ht0 hlong hbig).2]; exact ⟨rfl, rfl⟩)
    | (rw [(list_ok ht0 hlong hbig).1, (list_ok ht0 hlong hbig).2, hS]; exact ⟨rfl, rfl⟩)
 ·
  have ht0 : (tabFault t).1 = 0 := c5.1
  have hcells := (tabG hA ht0).cells
  refine JC_skip ?_
  refine thenQ_n ?_
  refine JC_seq ?_
  refine JC_seq ?_
  refine JC_region ?_
  refine JO_q (QE_mv rfl) rfl ?_
  refine JO_q (QE_lenS rfl rfl rfl) rfl ?_
  refine JO_q (QE_fa0 rfl rfl rfl rfl) rfl ?_
  refine JO_q (QE_ld1 2 rfl rfl rfl rfl rfl) rfl ?_
  refine JO_q (QE_gt rfl rfl) rfl ?_
  refine JO_nil ?_
  refine thenQ_n ?_
  refine JC_ifD rfl (fun c7 => ?_) (fun c7 => ?_)
  ·
   have hlong : t.cells < (im.length : Int) := by omega
   refine JC_seq ?_
   refine JC_region ?_
   refine JO_call (first := []) (captured := []) rfl rfl rfl (afault_ac D _ _ _ _) ?_
   rintro _ _ s8 h8 ⟨rfl, rfl⟩
   refine JO_q (QE_as rfl) rfl ?_
   refine JO_st 1 [_, _] rfl rfl rfl rfl rfl rfl rfl rfl rfl ?_
   refine JO_nil ?_
   refine thenQ_n ?_
   refine JC_ret ?_
   refine thenQ_r ?_
   refine retQ_mk [_, _, _] L (.inr rfl) (.tmp rfl (.agg (us := [_, _]) 1 rfl rfl rfl rfl rfl (.nil))) rfl (Le.trans (Le.trans (Le.trans (Le.trans h1 h2) h3) h4) h8) (fun sR hS2 => ?_)
   first
     | (rw [(list_bad hbad).1, (list_bad hbad).2]; exact ⟨rfl, rfl⟩)
     | (rw [(list_long ht0 hlong).1, (list_long ht0 hlong).2]; exact ⟨rfl, rfl⟩)
     | (rw [(list_big ht0 hlong hbig).1, (list_big ht0 hlong hbig).2]; exact ⟨rfl, rfl⟩)
     | (rw [(list_ok ht0 hlong hbig).1, (list_ok ht0 hlong hbig).2, hS]; exact ⟨rfl, rfl⟩)
  ·
   have hlong : ¬ t.cells < (im.length : Int) := by omega
   refine JC_skip ?_
   refine thenQ_n ?_
   refine JC_seq ?_
   refine JC_region ?_
   refine JO_q (QE_func rfl) rfl ?_
   refine JO_q (QE_as rfl) rfl ?_
   refine JO_nil ?_
   refine thenQ_n ?_
   refine JC_seq ?_
   refine JC_region ?_
   refine JO_allocZ rfl [_, _] rfl rfl ?_
   intro β9 s9 h9
   refine JO_nil ?_
   refine thenQ_n ?_
   refine JC_seq ?_
   refine JC_seq ?_
   refine JC_region ?_
   refine JO_q (QE_as rfl) rfl ?_
   refine JO_nil ?_
   refine thenQ_n ?_
   refine JC_block ?_
   refine JC_loop (γ := Nat × Option Addr × Value × Hl × List UInt8) (fun g => [(1, _), (4, _), (5, _), (7, _), (8, _), (9, .int .i64 (g.1 : Int))]) (fun g => (β9, cb [.pointer g.2.1, g.2.2.1] 104) :: (β4, cb [.int .i64 (tabFault t).1, .int .i64 (tabFault t).2] 27) :: (β2, cb [.int .i64 0, .int .i64 0] 27) :: (β1, cb [.int .i64 t.cells, .slice A n c] 24) :: (g.2.2.2.1 ++ L)) (fun g tw => Le D s9 tw ∧ (g.1 ≤ n1 ∧ (g.2.1 = none ∨ g.2.1 = some ⟨β9, 0, none⟩) ∧ BV g.2.2.2.1 g.2.2.1 g.2.2.2.2 ∧ g.2.2.2.2.length ≤ g.1 * 18 ∧ lstF t im = g.2.2.2.2 ++ lstF t (im.drop g.1))) (fun g => n1 - g.1) (fun _ _ _ h hl => ⟨h.1.trans hl, h.2⟩) (0, none, .slice none 0 0, [], []) (Keeps.cons rfl (Keeps.cons rfl (Keeps.cons rfl (Keeps.cons rfl (Keeps.cons rfl (Keeps.cons rfl (Keeps.nil _))))))) rfl ⟨Le.refl _, ⟨Nat.zero_le _, .inl rfl, BV.nil, Nat.zero_le _, rfl⟩⟩ ?_
   intro g s10 I10
   obtain ⟨k, pt, vo, Mo, out⟩ := g
   obtain ⟨hk0, hpt, hBV, hol, hS⟩ := I10.2
   simp only at hk0 hpt hBV hol hS
   dsimp only
   refine JC_seq ?_
   refine JC_seq ?_
   refine JC_region ?_
   refine JO_q (QE_mv rfl) rfl ?_
   refine JO_q (QE_mv rfl) rfl ?_
   refine JO_q (QE_lenS rfl rfl rfl) rfl ?_
   refine JO_q (QE_lt rfl rfl) rfl ?_
   refine JO_nil ?_
   refine thenQ_n ?_
   refine JC_ifD rfl (fun c11 => ?_) (fun c11 => ?_)
   ·
    have hk : k < n1 := by omega
    obtain ⟨b, off, x, rfl, hx, hcx, hux⟩ := Wds.at_ (hIm.le (Le.trans (Le.trans (Le.trans (Le.trans (Le.trans h1 h2) h3) h4) h9) I10.1)) hk
    have hux1 := hux.1
    have hux2' := hux.2
    refine JC_skip ?_
    refine thenQ_n ?_
    refine JC_seq ?_
    refine JC_block ?_
    refine JC_seq ?_
    refine JC_region ?_
    refine JO_q (QE_mv rfl) rfl ?_
    refine JO_q (QE_mv rfl) rfl ?_
    refine JO_q (QE_mv rfl) rfl ?_
    refine JO_q (QE_ia1 rfl rfl rfl rfl rfl rfl hk) rfl ?_
    refine JO_q (QE_ldsR0 rfl rfl rfl (hcx.le (Le.refl (D := D) _)) rfl) rfl ?_
    refine JO_call (first := []) (captured := [_]) rfl rfl rfl (list1_ac D _ _ t A n c (hA.le (Le.trans (Le.trans (Le.trans (Le.trans (Le.trans h1 h2) h3) h4) h9) I10.1)) x _ _ _ _) ?_
    rintro _ _ s12 h12 ⟨rfl, p, rfl, hpf⟩
    refine JO_q (QE_as rfl) rfl ?_
    refine JO_nil ?_
    refine thenQ_n ?_
    refine JC_seq ?_
    refine JC_block ?_
    refine JC_cutB 44 (plainB t x = true) ?_ ?_
    ·
     refine JC_region ?_
     refine JO_q (QE_mv rfl) rfl ?_
     refine JO_q (QE_pne Tryz.underlying100 rfl) rfl ?_
     refine JO_q (QE_mv rfl) rfl ?_
     refine JO_case (t := 47) rfl (fun c14 => ?_) (fun c14 => ?_)
     ·
      refine JO_gT rfl rfl ?_
      obtain ⟨y, hfy⟩ := Option.isSome_iff_exists.1 (hpf.isSome.symm.trans (by assumption))
      obtain ⟨b3, o3, A3, n3, c3, rfl, hcy⟩ := (hpf.le (Le.refl (D := D) _)).some' hfy
      refine JO_q (QE_mv rfl) rfl ?_
      refine JO_gT rfl rfl ?_
      refine JO_q (QE_nil rfl) rfl ?_
      refine JO_gT rfl rfl ?_
      refine JO_q (QE_fa rfl rfl rfl rfl) rfl ?_
      refine JO_gT rfl rfl ?_
      refine JO_q (QE_ldsR 2 rfl rfl rfl (hcy.le (Le.refl (D := D) _)) rfl) rfl ?_
      refine JO_gT rfl rfl ?_
      refine JO_q (QE_not rfl) rfl ?_
      refine JO_q (QE_pickT rfl rfl) rfl ?_
      refine JO_q (QE_as rfl) rfl ?_
      refine JO_nil ?_
      refine thenQ_n (MidB.mk (Le.refl (D := D) _) (by repeat (first | exact Suf.refl | refine Suf.push rfl ?_)) rfl ((plain_nany hfy)))
     ·
      refine JO_gF rfl rfl rfl rfl ?_
      refine JO_gF rfl rfl rfl rfl ?_
      refine JO_gF rfl rfl rfl rfl ?_
      refine JO_gF rfl rfl rfl rfl ?_
      refine JO_gF rfl rfl rfl rfl ?_
      refine JO_q (QE_pickF rfl rfl) rfl ?_
      refine JO_q (QE_as rfl) rfl ?_
      refine JO_nil ?_
      refine thenQ_n (MidB.mk (Le.refl (D := D) _) (by repeat (first | exact Suf.refl | refine Suf.push rfl ?_)) rfl ((decide_eq_false (plain_none (hpf.isSome.symm.trans (by assumption)))).symm))
    ·
     intro s13 h13
     refine JC_ifD rfl (fun c15 => ?_) (fun c15 => ?_)
     ·
      obtain ⟨y, hfy, hyo⟩ := plain_some c15
      obtain ⟨b3, o3, A3, n3, c3, rfl, hcy⟩ := (hpf.le h13).some' hfy
      have hyl := (mnem_len (tab_mnem ht0 (findI_mem hfy).1)).2
      refine JC_region ?_
      refine JO_q (QE_mv rfl) rfl ?_
      refine JO_q (QE_nil rfl) rfl ?_
      refine JO_q (QE_fa0 rfl rfl rfl rfl) rfl ?_
      refine JO_q (QE_ldsR0 rfl rfl rfl (hcy.le (Le.refl (D := D) _)) rfl) rfl ?_
      refine JO_call (first := []) (captured := []) rfl rfl rfl (writeSX_ac D [_, _, _] L _ _ pt hpt Mo vo out hBV y.name (by first | omega | (simp only [List.length_append, List.length_cons, List.length_nil]; omega))) ?_
      rintro _ _ s16 h16 ⟨rfl, M1, v1, rfl, hB1⟩
      simp only [List.cons_append, List.nil_append]
      refine JO_nil ?_
      refine blockQ_n ?_
      refine thenQ_n ?_
      refine JC_region ?_
      refine JO_call (first := []) (captured := []) rfl rfl rfl (writeBX_ac D [_, _, _] L _ _ _ (.inr rfl) M1 v1 _ hB1 10 (by first | omega | (simp only [List.length_append, List.length_cons, List.length_nil]; omega))) ?_
      rintro _ _ s17 h17 ⟨rfl, M2, v2, rfl, hB2⟩
      simp only [List.cons_append, List.nil_append]
      refine JO_nil ?_
      refine blockQ_n ?_
      refine thenQ_n ?_
      refine JC_region ?_
      refine JO_q (QE_mv rfl) rfl ?_
      refine JO_q (QE_add' rfl rfl (w64 (by omega) (by omega))) rfl ?_
      refine JO_q (QE_as rfl) rfl ?_
      refine JO_nil ?_
      refine thenQ_n ⟨(k + 1, some ⟨β9, 0, none⟩, v2, M2, (out ++ y.name) ++ [10]), [], (Keeps.cons rfl (Keeps.cons rfl (Keeps.cons rfl (Keeps.cons rfl (Keeps.cons rfl (Keeps.cons rfl (Keeps.nil _))))))), rfl, ⟨(Le.trans (Le.trans (Le.trans (Le.trans I10.1 h12) h13) h16) h17), by first | exact ⟨by simp only; omega, .inr rfl, hB2, by simp only [List.length_append, List.length_cons, List.length_nil]; omega, by simp only; rw [hS, drop_cons hx, lst_plain hfy hyo]; simp⟩ | exact ⟨by simp only; omega, .inr rfl, hB2, by simp only [List.length_append, List.length_cons, List.length_nil]; omega, by simp only; rw [hS, drop_cons hx, drop_cons hx2, lst_opd hfy hyo]; simp⟩ | exact ⟨by simp only; omega, .inr rfl, hB2, by simp only [List.length_append, List.length_cons, List.length_nil]; omega, by simp only; rw [hS, drop_cons hx, lst_word (by simpa using h44) hwd]; simp [wordB]⟩⟩, (by simp only; omega)⟩
     ·
      have h44 := c15
      refine JC_cutB 59 ((findI t.ins x).isSome = true ∧ k + 1 < n1) ?_ ?_
      ·
       refine JC_region ?_
       refine JO_q (QE_mv rfl) rfl ?_
       refine JO_q (QE_pne Tryz.underlying100 rfl) rfl ?_
       refine JO_q (QE_mv rfl) rfl ?_
       refine JO_case (t := 62) rfl (fun c19 => ?_) (fun c19 => ?_)
       ·
        refine JO_gT rfl rfl ?_
        refine JO_q (QE_mv rfl) rfl ?_
        refine JO_gT rfl rfl ?_
        refine JO_q (QE_add' rfl rfl (w64 (by omega) (by omega))) rfl ?_
        refine JO_gT rfl rfl ?_
        refine JO_q (QE_mv rfl) rfl ?_
        refine JO_gT rfl rfl ?_
        refine JO_q (QE_lenS rfl rfl rfl) rfl ?_
        refine JO_gT rfl rfl ?_
        refine JO_q (QE_lt rfl rfl) rfl ?_
        refine JO_q (QE_pickT rfl rfl) rfl ?_
        refine JO_q (QE_as rfl) rfl ?_
        refine JO_nil ?_
        refine thenQ_n (MidB.mk (Le.refl (D := D) _) (by repeat (first | exact Suf.refl | refine Suf.push rfl ?_)) rfl (decide_eq_decide.2 (⟨fun h => ⟨hpf.isSome.symm.trans (by assumption), by omega⟩, fun h => by omega⟩)))
       ·
        refine JO_gF rfl rfl rfl rfl ?_
        refine JO_gF rfl rfl rfl rfl ?_
        refine JO_gF rfl rfl rfl rfl ?_
        refine JO_gF rfl rfl rfl rfl ?_
        refine JO_gF rfl rfl rfl rfl ?_
        refine JO_q (QE_pickF rfl rfl) rfl ?_
        refine JO_q (QE_as rfl) rfl ?_
        refine JO_nil ?_
        refine thenQ_n (MidB.mk (Le.refl (D := D) _) (by repeat (first | exact Suf.refl | refine Suf.push rfl ?_)) rfl ((decide_eq_false (fun h => absurd (hpf.isSome.trans h.1) (by rw [show p.isSome = false by assumption]; decide))).symm))
      ·
       intro s18 h18
       refine JC_ifD rfl (fun c20 => ?_) (fun c20 => ?_)
       ·
        obtain ⟨y, hfy⟩ := Option.isSome_iff_exists.1 c20.1
        have hyo := plain_opd h44 hfy
        obtain ⟨b3, o3, A3, n3, c3, rfl, hcy⟩ := (hpf.le (Le.trans h13 h18)).some' hfy
        have hyl := (mnem_len (tab_mnem ht0 (findI_mem hfy).1)).2
        have hk2 : k + 1 < n1 := c20.2
        obtain ⟨b4, off4, x2, hE2, hx2, hcx2, hux2⟩ := Wds.at_ (hIm.le (Le.trans (Le.trans (Le.trans (Le.trans (Le.trans (Le.trans (Le.trans (Le.trans h1 h2) h3) h4) h9) I10.1) h12) h13) h18)) hk2
        injection hE2 with hE2
        injection hE2 with e1 e2
        subst e1
        subst e2
        have hv1 := hux2.1
        have hv2 := hux2.2
        refine JC_seq ?_
        refine JC_region ?_
        refine JO_q (QE_mv rfl) rfl ?_
        refine JO_q (QE_add' (c := ((k + 1 : Nat) : Int)) rfl rfl (by rw [w64 (by omega) (by omega)]; simp)) rfl ?_
        refine JO_q (QE_as rfl) rfl ?_
        refine JO_nil ?_
        refine thenQ_n ?_
        refine JC_drawT drawsMixed 13 rfl 0 ?_
        intro s21 h21
        refine JA_q 0 rfl (by kernel_rfl) (by kernel_rfl) (by kernel_rfl) trivial (QE_mv rfl) rfl ?_
        refine JA_q 1 rfl (by kernel_rfl) (by kernel_rfl) (by kernel_rfl) trivial (QE_nil rfl) rfl ?_
        refine JA_q 2 rfl (by kernel_rfl) (by kernel_rfl) (by kernel_rfl) trivial (QE_fa0 rfl rfl rfl rfl) rfl ?_
        refine JA_q 3 rfl (by kernel_rfl) (by kernel_rfl) (by kernel_rfl) trivial (QE_ldsR0 rfl rfl rfl (hcy.le h21) rfl) rfl ?_
        refine JA_q 4 rfl (by kernel_rfl) (by kernel_rfl) (by kernel_rfl) trivial (QE_sadd rfl rfl (by simp only [List.length_append, List.length_cons, List.length_nil]; omega)) rfl ?_
        refine JA_q 5 rfl (by kernel_rfl) (by kernel_rfl) (by kernel_rfl) trivial (QE_mv rfl) rfl ?_
        refine JA_q 6 rfl (by kernel_rfl) (by kernel_rfl) (by kernel_rfl) trivial (QE_mv rfl) rfl ?_
        refine JA_q 7 rfl (by kernel_rfl) (by kernel_rfl) (by kernel_rfl) trivial (QE_ia1 rfl rfl rfl rfl rfl rfl hk2) rfl ?_
        refine JA_q 8 rfl (by kernel_rfl) (by kernel_rfl) (by kernel_rfl) trivial (QE_ldsR0 rfl rfl rfl (hcx2.le h21) rfl) rfl ?_
        refine JA_q 9 rfl (by kernel_rfl) (by kernel_rfl) (by kernel_rfl) trivial (QE_conv' rfl rfl rfl rfl rfl (w64 (by omega) (by omega))) rfl ?_
        refine JA_1 10 (by kernel_rfl) ?_
        refine JB_call rfl trivial (first := []) (captured := []) rfl rfl rfl (itoaU_ac D _ _ (hG.le (Le.trans (Le.trans (Le.trans (Le.trans (Le.trans (Le.trans (Le.trans (Le.trans (Le.trans h1 h2) h3) h4) h9) I10.1) h12) h13) h18) h21)) x2 hux2) ?_
        rintro _ _ s22 h22 ⟨rfl, rfl⟩
        refine ⟨fun _ _ h => h, ?_⟩
        have hdl := dec_len (u := x2.toNat) (by omega)
        refine JA_q 11 rfl (by kernel_rfl) (by kernel_rfl) (by kernel_rfl) trivial (QE_sadd rfl rfl (by simp only [List.length_append, List.length_cons, List.length_nil]; omega)) rfl ?_
        refine JA_1 12 (by kernel_rfl) ?_
        refine JB_call rfl trivial (first := []) (captured := []) rfl rfl rfl (writeSX_ac D [_, _, _] L _ _ pt hpt Mo vo out hBV _ (by first | omega | (simp only [List.length_append, List.length_cons, List.length_nil]; omega))) ?_
        rintro _ _ s23 h23 ⟨rfl, M1, v1, rfl, hB1⟩
        refine ⟨(fun _ hx _ => by cases hx), ?_⟩
        simp only [List.cons_append, List.nil_append]
        refine JA_done (by kernel_rfl) ?_
        refine blockQ_n ?_
        refine thenQ_n ?_
        refine JC_region ?_
        refine JO_call (first := []) (captured := []) rfl rfl rfl (writeBX_ac D [_, _, _] L _ _ _ (.inr rfl) M1 v1 _ hB1 10 (by first | omega | (simp only [List.length_append, List.length_cons, List.length_nil]; omega))) ?_
        rintro _ _ s24 h24 ⟨rfl, M2, v2, rfl, hB2⟩
        simp only [List.cons_append, List.nil_append]
        refine JO_nil ?_
        refine blockQ_n ?_
        refine thenQ_n ?_
        refine JC_region ?_
        refine JO_q (QE_mv rfl) rfl ?_
        refine JO_q (QE_add' rfl rfl (w64 (by omega) (by omega))) rfl ?_
        refine JO_q (QE_as rfl) rfl ?_
        refine JO_nil ?_
        refine thenQ_n ⟨(k + 2, some ⟨β9, 0, none⟩, v2, M2, (out ++ ((y.name ++ [32]) ++ Lib.decDigits x2.toNat)) ++ [10]), [], (Keeps.cons rfl (Keeps.cons rfl (Keeps.cons rfl (Keeps.cons rfl (Keeps.cons rfl (Keeps.cons rfl (Keeps.nil _))))))), rfl, ⟨(Le.trans (Le.trans (Le.trans (Le.trans (Le.trans (Le.trans (Le.trans I10.1 h12) h13) h18) h21) h22) h23) h24), by first | exact ⟨by simp only; omega, .inr rfl, hB2, by simp only [List.length_append, List.length_cons, List.length_nil]; omega, by simp only; rw [hS, drop_cons hx, lst_plain hfy hyo]; simp⟩ | exact ⟨by simp only; omega, .inr rfl, hB2, by simp only [List.length_append, List.length_cons, List.length_nil]; omega, by simp only; rw [hS, drop_cons hx, drop_cons hx2, lst_opd hfy hyo]; simp⟩ | exact ⟨by simp only; omega, .inr rfl, hB2, by simp only [List.length_append, List.length_cons, List.length_nil]; omega, by simp only; rw [hS, drop_cons hx, lst_word (by simpa using h44) hwd]; simp [wordB]⟩⟩, (by simp only; omega)⟩
       ·
        have hwd : ¬ ((findI t.ins x).isSome = true ∧ im.drop (k + 1) ≠ []) := fun h => c20 ⟨h.1, by have h2 := h.2; rw [ne_eq, List.drop_eq_nil_iff] at h2; omega⟩
        refine JC_region ?_
        refine JO_q (QE_mv rfl) rfl ?_
        refine JO_q (QE_mv rfl) rfl ?_
        refine JO_q (QE_ia1 rfl rfl rfl rfl rfl rfl hk) rfl ?_
        refine JO_q (QE_ldsR0 rfl rfl rfl (hcx.le (Le.trans (Le.trans h12 h13) h18)) rfl) rfl ?_
        refine JO_q (QE_conv' rfl rfl rfl rfl rfl (w64 (by omega) (by omega))) rfl ?_
        refine JO_call (first := []) (captured := []) rfl rfl rfl (itoaU_ac D _ _ (hG.le (Le.trans (Le.trans (Le.trans (Le.trans (Le.trans (Le.trans (Le.trans (Le.trans h1 h2) h3) h4) h9) I10.1) h12) h13) h18)) x hux) ?_
        rintro _ _ s25 h25 ⟨rfl, rfl⟩
        have hdl := dec_len (u := x.toNat) (by omega)
        refine JO_q (QE_sadd rfl rfl (by simp only [List.length_append, List.length_cons, List.length_nil]; omega)) rfl ?_
        refine JO_call (first := []) (captured := []) rfl rfl rfl (writeSX_ac D [_, _, _] L _ _ pt hpt Mo vo out hBV _ (by first | omega | (simp only [List.length_append, List.length_cons, List.length_nil]; omega))) ?_
        rintro _ _ s26 h26 ⟨rfl, M1, v1, rfl, hB1⟩
        simp only [List.cons_append, List.nil_append]
        refine JO_nil ?_
        refine blockQ_n ?_
        refine thenQ_n ?_
        refine JC_region ?_
        refine JO_call (first := []) (captured := []) rfl rfl rfl (writeBX_ac D [_, _, _] L _ _ _ (.inr rfl) M1 v1 _ hB1 10 (by first | omega | (simp only [List.length_append, List.length_cons, List.length_nil]; omega))) ?_
        rintro _ _ s27 h27 ⟨rfl, M2, v2, rfl, hB2⟩
        simp only [List.cons_append, List.nil_append]
        refine JO_nil ?_
        refine blockQ_n ?_
        refine thenQ_n ?_
        refine JC_region ?_
        refine JO_q (QE_mv rfl) rfl ?_
        refine JO_q (QE_add' rfl rfl (w64 (by omega) (by omega))) rfl ?_
        refine JO_q (QE_as rfl) rfl ?_
        refine JO_nil ?_
        refine thenQ_n ⟨(k + 1, some ⟨β9, 0, none⟩, v2, M2, (out ++ ([119, 111, 114, 100, 32] ++ Lib.decDigits x.toNat)) ++ [10]), [], (Keeps.cons rfl (Keeps.cons rfl (Keeps.cons rfl (Keeps.cons rfl (Keeps.cons rfl (Keeps.cons rfl (Keeps.nil _))))))), rfl, ⟨(Le.trans (Le.trans (Le.trans (Le.trans (Le.trans (Le.trans I10.1 h12) h13) h18) h25) h26) h27), by first | exact ⟨by simp only; omega, .inr rfl, hB2, by simp only [List.length_append, List.length_cons, List.length_nil]; omega, by simp only; rw [hS, drop_cons hx, lst_plain hfy hyo]; simp⟩ | exact ⟨by simp only; omega, .inr rfl, hB2, by simp only [List.length_append, List.length_cons, List.length_nil]; omega, by simp only; rw [hS, drop_cons hx, drop_cons hx2, lst_opd hfy hyo]; simp⟩ | exact ⟨by simp only; omega, .inr rfl, hB2, by simp only [List.length_append, List.length_cons, List.length_nil]; omega, by simp only; rw [hS, drop_cons hx, lst_word (by simpa using h44) hwd]; simp [wordB]⟩⟩, (by simp only; omega)⟩
   ·
    have hdr : im.drop k = [] := List.drop_eq_nil_of_le (by omega)
    rw [hdr, lstF, List.append_nil] at hS
    refine JC_exit ?_
    refine thenQ_x ?_
    refine thenQ_x ?_
    refine blockQ_x ?_
    refine thenQ_n ?_
    refine JC_seq ?_
    refine JC_seq ?_
    refine JC_region ?_
    refine JO_call (first := []) (captured := []) rfl rfl rfl (blen_ac D _ _ _ _ Mo vo out hBV) ?_
    rintro _ _ s28 h28 ⟨rfl, rfl⟩
    refine JO_q (QE_gt rfl rfl) rfl ?_
    refine JO_nil ?_
    refine thenQ_n ?_
    refine JC_ifD rfl (fun c29 => ?_) (fun c29 => ?_)
    ·
     have hbig : 400000 < (lstF t im).length := by rw [hS]; omega
     refine JC_seq ?_
     refine JC_region ?_
     refine JO_call (first := []) (captured := []) rfl rfl rfl (afault_ac D _ _ _ _) ?_
     rintro _ _ s30 h30 ⟨rfl, rfl⟩
     refine JO_q (QE_as rfl) rfl ?_
     refine JO_st 2 [_, _] rfl rfl rfl rfl rfl rfl rfl rfl rfl ?_
     refine JO_nil ?_
     refine thenQ_n ?_
     refine JC_ret ?_
     refine thenQ_r ?_
     refine retQ_mk (_ :: _ :: _ :: _ :: Mo) L (.inr rfl) (.tmp rfl (.agg (us := [_, _]) 2 rfl rfl rfl rfl rfl (.nil))) rfl (Le.trans (Le.trans (Le.trans (Le.trans (Le.trans (Le.trans (Le.trans h1 h2) h3) h4) h9) I10.1) h28) h30) (fun sR hS2 => ?_)
     first
       | (rw [(list_bad hbad).1, (list_bad hbad).2]; exact ⟨rfl, rfl⟩)
       | (rw [(list_long ht0 hlong).1, (list_long ht0 hlong).2]; exact ⟨rfl, rfl⟩)
       | (rw [(list_big ht0 hlong hbig).1, (list_big ht0 hlong hbig).2]; exact ⟨rfl, rfl⟩)
       | (rw [(list_ok ht0 hlong hbig).1, (list_ok ht0 hlong hbig).2, hS]; exact ⟨rfl, rfl⟩)
    ·
     have hbig : ¬ 400000 < (lstF t im).length := by rw [hS]; omega
     refine JC_skip ?_
     refine thenQ_n ?_
     refine JC_seq ?_
     refine JC_region ?_
     refine JO_call (first := []) (captured := []) rfl rfl rfl (bstrX_ac D [_, _, _] L _ _ _ Mo vo out hBV) ?_
     rintro _ _ s31 h31 ⟨rfl, rfl⟩
     simp only [List.cons_append, List.nil_append]
     refine JO_q (QE_build [] [_, _] rfl rfl rfl rfl rfl rfl) rfl ?_
     refine JO_q (QE_as rfl) rfl ?_
     refine JO_st 1 [_, _] rfl rfl rfl rfl rfl rfl rfl rfl rfl ?_
     refine JO_nil ?_
     refine thenQ_n ?_
     refine JC_ret ?_
     refine retQ_mk [_, _, _] L (.inr rfl) (.tmp rfl (.agg (us := [_, _]) 1 rfl rfl rfl rfl rfl (.nil))) rfl (Le.trans (Le.trans (Le.trans (Le.trans (Le.trans (Le.trans (Le.trans h1 h2) h3) h4) h9) I10.1) h28) h31) (fun sR hS2 => ?_)
     first
       | (rw [(list_bad hbad).1, (list_bad hbad).2]; exact ⟨rfl, rfl⟩)
       | (rw [(list_long ht0 hlong).1, (list_long ht0 hlong).2]; exact ⟨rfl, rfl⟩)
       | (rw [(list_big ht0 hlong hbig).1, (list_big ht0 hlong hbig).2]; exact ⟨rfl, rfl⟩)
       | (rw [(list_ok ht0 hlong hbig).1, (list_ok ht0 hlong hbig).2, hS]; exact ⟨rfl, rfl⟩)
end Go.Proofs.YteomcjpigoaioaaGreatDoor
namespace Go.Proofs.YteomcjpigoaioaaGreatDoor
open Go Go.FL Go.RowKit
def digK (c : UInt8) : Int := if (c.toNat : Int) ≤ 57 then ((c.toNat : Int) - 48) % 256 + 27 else ((c.toNat : Int) - 97) % 256 + 1
def stepK (k : Int) (c : UInt8) : Int := w32 (w32 (k * 37) + digK c)
def keyV (l : List UInt8) : Int := l.foldl stepK 0
def keyS (l : List UInt8) : Int := if labelB l = true then keyV l else 0
def keyE (l : List UInt8) : Int × Int := if labelB l = true then (0, 0) else (7, -1)
theorem dig_a (c : UInt8) : Value.int .u32 (IntKind.u32.wrap (IntKind.u32.wrap (IntKind.u8.wrap ((c.toNat : Int) - 97)) + 1)) = .int .u32 (((c.toNat : Int) - 97) % 256 + 1) := by
  rw [IntKind.wrap_u32, IntKind.wrap_u32, IntKind.wrap_u8]; congr 1; omega
theorem dig_0 (c : UInt8) : Value.int .u32 (IntKind.u32.wrap (IntKind.u32.wrap (IntKind.u8.wrap ((c.toNat : Int) - 48)) + 27)) = .int .u32 (((c.toNat : Int) - 48) % 256 + 27) := by
  rw [IntKind.wrap_u32, IntKind.wrap_u32, IntKind.wrap_u8]; congr 1; omega
theorem keyV_at {l : List UInt8} {k : Nat} {c : UInt8} (h : l[k]? = some c) (a : Int) : (l.drop k).foldl stepK a = (l.drop (k + 1)).foldl stepK (stepK a c) := by
  obtain ⟨hk, rfl⟩ := List.getElem?_eq_some_iff.1 h
  rw [List.drop_eq_getElem_cons hk, List.foldl_cons]
def chrK (d : Nat) : UInt8 := if d ≤ 26 then UInt8.ofNat (97 + (d - 1)) else UInt8.ofNat (48 + (d - 27))
def nmF (n : Nat) (acc : List UInt8) : Option (List UInt8) := if n = 0 then some acc else if n % 37 = 0 then none else nmF (n / 37) (acc ++ [chrK (n % 37)])
termination_by n
decreasing_by omega
def nameS (n : Nat) : List UInt8 := match nmF n [] with
  | none => []
  | some b => if labelB b.reverse = true then b.reverse else []
def nameE (n : Nat) : Int × Int := match nmF n [] with
  | none => (6, -1)
  | some b => if labelB b.reverse = true then (0, 0) else (6, -1)
theorem nmF_zero (acc : List UInt8) : nmF 0 acc = some acc := by rw [nmF, if_pos rfl]
theorem nmF_bad {n : Nat} {acc : List UInt8} (h : n ≠ 0) (h2 : n % 37 = 0) : nmF n acc = none := by rw [nmF, if_neg h, if_pos h2]
theorem nmF_more {n : Nat} {acc : List UInt8} (h : n ≠ 0) (h2 : n % 37 ≠ 0) : nmF n acc = nmF (n / 37) (acc ++ [chrK (n % 37)]) := by rw [nmF, if_neg h, if_neg h2]
theorem name_rem (n : Nat) : Value.int .u32 ((n : Int).tmod 37) = .int .u32 ((n % 37 : Nat) : Int) := by rw [Int.tmod_eq_emod_of_nonneg (by omega)]; rfl
theorem name_quo {n : Nat} (h : n < 4294967296) : Value.int .u32 (IntKind.u32.wrap ((n : Int).tdiv 37)) = .int .u32 ((n / 37 : Nat) : Int) := by
  rw [Int.tdiv_eq_ediv_of_nonneg (by omega), IntKind.wrap_u32]; congr 1; omega
theorem chr_a {d : Nat} (h0 : d ≠ 0) (h : d ≤ 26) : Value.int .u8 (IntKind.u8.wrap (97 + IntKind.u8.wrap (IntKind.u32.wrap ((d : Int) - 1)))) = .int .u8 ((chrK d).toNat : Int) := by
  rw [IntKind.wrap_u32, IntKind.wrap_u8, IntKind.wrap_u8, chrK, if_pos h]; congr 1; simp; omega
theorem chr_0 {d : Nat} (h : ¬ d ≤ 26) (h2 : d < 37) : Value.int .u8 (IntKind.u8.wrap (48 + IntKind.u8.wrap (IntKind.u32.wrap ((d : Int) - 27)))) = .int .u8 ((chrK d).toNat : Int) := by
  rw [IntKind.wrap_u32, IntKind.wrap_u8, IntKind.wrap_u8, chrK, if_neg h]; congr 1; simp; omega
def grp (w : Nat) : List UInt8 := if w < 128 then [UInt8.ofNat w] else UInt8.ofNat (w % 128 + 128) :: grp (w / 128)
termination_by w
decreasing_by omega
theorem grp_small {w : Nat} (h : w < 128) : grp w = [UInt8.ofNat w] := by rw [grp, if_pos h]
theorem grp_big {w : Nat} (h : ¬ w < 128) : grp w = UInt8.ofNat (w % 128 + 128) :: grp (w / 128) := by rw [grp, if_neg h]
theorem grp_len {w : Nat} (h : w < 4294967296) : (grp w).length ≤ 5 := by
  have key : ∀ (k w : Nat), w < 128 ^ (k + 1) → (grp w).length ≤ k + 1 := by
    intro k
    induction k with
    | zero => intro w h; rw [grp_small (by simpa using h)]; simp
    | succ k ih =>
      intro w h
      by_cases h1 : w < 128
      · rw [grp_small h1]; simp
      · rw [grp_big h1, List.length_cons]; have := ih (w / 128) (by rw [Nat.pow_succ] at h; omega); omega
  exact key 4 w (by omega)
def packF (l : List Int) : List UInt8 := (l.map fun x => grp x.toNat).flatten
def packS (l : List Int) : List UInt8 := if 65536 < l.length then [] else packF l
def packE (l : List Int) : Int × Int := if 65536 < l.length then (3, -1) else (0, 0)
def upG : Nat → Nat → List UInt8 → Int ⊕ (Nat × Nat × UInt8 × List UInt8)
  | _, _, [] => .inl 15
  | sz, n, c :: r => if c.toNat < 128 then .inr (n + c.toNat % 128 * 128 ^ sz, sz + 1, c, r) else if sz + 1 = 5 then .inl 6 else upG (sz + 1) (n + c.toNat % 128 * 128 ^ sz) r
theorem upG_short {sz n : Nat} {b : List UInt8} {x : Nat × Nat × UInt8 × List UInt8} (h : upG sz n b = .inr x) : x.2.2.2.length < b.length := by
  induction b generalizing sz n with
  | nil => simp [upG] at h
  | cons c r ih =>
    simp only [upG] at h
    split at h
    · injection h with h; subst h; simp
    · split at h
      · cases h
      · have := ih h; simp; omega
def upF (at_ : Nat) (acc : List Int) (b : List UInt8) : (Int × Int) ⊕ List Int :=
  if b = [] then .inr acc else match h : upG 0 0 b with
    | .inl e => .inl (e, (at_ : Int))
    | .inr x => if 4294967295 < x.1 ∨ (1 < x.2.1 ∧ x.2.2.1 = 0) then .inl (6, (at_ : Int)) else upF (at_ + x.2.1) (acc ++ [(x.1 : Int)]) x.2.2.2
termination_by b.length
decreasing_by exact upG_short h
def unpF (b : List UInt8) : (Int × Int) ⊕ List Int := if 327680 < b.length then .inl (3, -1) else match upF 0 [] b with
  | .inl f => .inl f
  | .inr l => if 65536 < l.length then .inl (14, -1) else .inr l
def unpS (b : List UInt8) : List Int := match unpF b with
  | .inl _ => []
  | .inr l => l
def unpE (b : List UInt8) : Int × Int := match unpF b with
  | .inl f => f
  | .inr _ => (0, 0)
theorem upF_nil (k : Nat) (acc : List Int) : upF k acc [] = .inr acc := by rw [upF, if_pos rfl]
theorem upF_err {k : Nat} {acc : List Int} {b : List UInt8} {e : Int} (h0 : b ≠ []) (h : upG 0 0 b = .inl e) : upF k acc b = .inl (e, (k : Int)) := by
  rw [upF, if_neg h0]; split
  · rename_i e' h'; rw [h] at h'; injection h' with h'; rw [h']
  · rename_i x h'; rw [h] at h'; cases h'
theorem upF_form {k : Nat} {acc : List Int} {b : List UInt8} {x : Nat × Nat × UInt8 × List UInt8} (h0 : b ≠ []) (h : upG 0 0 b = .inr x) (hb : 4294967295 < x.1 ∨ (1 < x.2.1 ∧ x.2.2.1 = 0)) : upF k acc b = .inl (6, (k : Int)) := by
  rw [upF, if_neg h0]; split
  · rename_i e' h'; rw [h] at h'; cases h'
  · rename_i y h'; rw [h] at h'; injection h' with h'; subst h'; rw [if_pos hb]
theorem upF_more {k : Nat} {acc : List Int} {b : List UInt8} {x : Nat × Nat × UInt8 × List UInt8} (h0 : b ≠ []) (h : upG 0 0 b = .inr x) (hb : ¬ (4294967295 < x.1 ∨ (1 < x.2.1 ∧ x.2.2.1 = 0))) : upF k acc b = upF (k + x.2.1) (acc ++ [(x.1 : Int)]) x.2.2.2 := by
  rw [upF, if_neg h0]; split
  · rename_i e' h'; rw [h] at h'; cases h'
  · rename_i y h'; rw [h] at h'; injection h' with h'; subst h'; rw [if_neg hb]
section
variable {P : Program} {t : Nat}
theorem or128 : ∀ k : Fin 256, k.val ||| 128 = k.val % 128 + 128 := by decide +kernel
theorem and127 : ∀ k : Fin 256, k.val &&& 127 = k.val % 128 := by decide +kernel
theorem run_or128 (w : Nat) (W : World) : (binOp .or t (.int .u8 (IntKind.u8.wrap (w : Int))) (.int .u8 128)).run P W = .ok (.int .u8 ((UInt8.ofNat (w % 128 + 128)).toNat : Int)) W := by
  have h3 : Op.intBits .or .u8 (IntKind.u8.wrap (w : Int)) 128 = pure (.int .u8 (IntKind.u8.wrap ((BitVec.ofInt 8 (IntKind.u8.wrap (w : Int)) ||| BitVec.ofInt 8 128).toNat : Int))) := rfl
  have h4 : (BitVec.ofInt 8 (IntKind.u8.wrap (w : Int)) ||| BitVec.ofInt 8 128).toNat = w % 128 + 128 := by
    rw [BitVec.toNat_or, BitVec.toNat_ofInt, BitVec.toNat_ofInt, IntKind.wrap_u8]
    have e1 : (((w : Int) % 256) % ((2 ^ 8 : Nat) : Int)).toNat = w % 256 := by omega
    have e2 : ((128 : Int) % ((2 ^ 8 : Nat) : Int)).toNat = 128 := by decide
    rw [e1, e2]
    have := or128 ⟨w % 256, by omega⟩
    simp only at this
    rw [this]; omega
  simp only [binOp, h3, h4]
  show Result.ok _ _ = _
  rw [IntKind.wrap_u8]
  congr 2
theorem run_and127 (c : UInt8) (W : World) : (binOp .and t (.int .u8 (c.toNat : Int)) (.int .u8 127)).run P W = .ok (.int .u8 ((c.toNat % 128 : Nat) : Int)) W := by
  have hc := c.toNat_lt
  have h3 : Op.intBits .and .u8 (c.toNat : Int) 127 = pure (.int .u8 (IntKind.u8.wrap ((BitVec.ofInt 8 (c.toNat : Int) &&& BitVec.ofInt 8 127).toNat : Int))) := rfl
  have h4 : (BitVec.ofInt 8 (c.toNat : Int) &&& BitVec.ofInt 8 127).toNat = c.toNat % 128 := by
    rw [BitVec.toNat_and, BitVec.toNat_ofInt, BitVec.toNat_ofInt]
    have e1 : ((c.toNat : Int) % ((2 ^ 8 : Nat) : Int)).toNat = c.toNat := by omega
    have e2 : ((127 : Int) % ((2 ^ 8 : Nat) : Int)).toNat = 127 := by decide
    rw [e1, e2]
    exact and127 ⟨c.toNat, by omega⟩
  simp only [binOp, h3, h4]
  show Result.ok _ _ = _
  rw [IntKind.wrap_u8]
  congr 2
  omega
theorem run_shr7 {w : Nat} (h : w < 4294967296) (W : World) : (binOp .shr t (.int .u32 (w : Int)) (.int .u64 7)).run P W = .ok (.int .u32 ((w / 128 : Nat) : Int)) W := by
  have h3 : Op.shift .shr .u32 (w : Int) .u64 7 = pure (.int .u32 ((w : Int).fdiv (2 ^ min 7 32))) := by
    unfold Op.shift
    rw [if_neg (by omega)]
    rfl
  simp only [binOp, h3]
  show Result.ok _ _ = _
  congr 2
  rw [Int.fdiv_eq_ediv_of_nonneg _ (by decide)]
  rfl
theorem run_shl64 {x k : Nat} (hx : x < 128) (hk : k < 5) (W : World) : (binOp .shl t (.int .u64 (x : Int)) (.int .i64 (7 * (k : Int)))).run P W = .ok (.int .u64 ((x * 128 ^ k : Nat) : Int)) W := by
  have h3 : Op.shift .shl .u64 (x : Int) .i64 (7 * (k : Int)) = pure (.int .u64 (IntKind.u64.wrap ((x : Int) * 2 ^ min (7 * (k : Int)).toNat 64))) := by
    unfold Op.shift
    rw [if_neg (by omega)]
    rfl
  simp only [binOp, h3]
  show Result.ok _ _ = _
  congr 2
  have e : min (7 * (k : Int)).toNat 64 = 7 * k := by omega
  rw [e, show (2 : Int) ^ (7 * k) = ((128 ^ k : Nat) : Int) by rw [Int.pow_mul]; simp]
  have hb : 128 ^ k ≤ 128 ^ 4 := Nat.pow_le_pow_right (by omega) (by omega)
  have hb2 : x * 128 ^ k ≤ 127 * 128 ^ 4 := Nat.mul_le_mul (by omega) hb
  rw [← Int.natCast_mul]
  exact w64u (by omega) (by omega)
theorem run_or64 {a x k : Nat} (ha : a < 128 ^ k) (hx : x < 128) (hk : k < 5) (W : World) : (binOp .or t (.int .u64 (a : Int)) (.int .u64 ((x * 128 ^ k : Nat) : Int))).run P W = .ok (.int .u64 ((a + x * 128 ^ k : Nat) : Int)) W := by
  have hb : 128 ^ k ≤ 128 ^ 4 := Nat.pow_le_pow_right (by omega) (by omega)
  have hb2 : x * 128 ^ k ≤ 127 * 128 ^ 4 := Nat.mul_le_mul (by omega) hb
  have h3 : Op.intBits .or .u64 (a : Int) ((x * 128 ^ k : Nat) : Int) = pure (.int .u64 (IntKind.u64.wrap ((BitVec.ofInt 64 (a : Int) ||| BitVec.ofInt 64 ((x * 128 ^ k : Nat) : Int)).toNat : Int))) := rfl
  have h4 : (BitVec.ofInt 64 (a : Int) ||| BitVec.ofInt 64 ((x * 128 ^ k : Nat) : Int)).toNat = a + x * 128 ^ k := by
    rw [BitVec.toNat_or, BitVec.toNat_ofInt, BitVec.toNat_ofInt]
    have e1 : ((a : Int) % ((2 ^ 64 : Nat) : Int)).toNat = a := by omega
    have e2 : (((x * 128 ^ k : Nat) : Int) % ((2 ^ 64 : Nat) : Int)).toNat = x * 128 ^ k := by omega
    rw [e1, e2]
    have hp : (128 : Nat) ^ k = 2 ^ (7 * k) := by rw [Nat.pow_mul]
    have hs := Nat.shiftLeft_add_eq_or_of_lt (show a < 2 ^ (7 * k) by rw [← hp]; exact ha) x
    rw [Nat.shiftLeft_eq, ← hp] at hs
    rw [Nat.or_comm, ← hs, Nat.add_comm]
  simp only [binOp, h3, h4]
  show Result.ok _ _ = _
  congr 2
  exact w64u (by omega) (by omega)
end
end Go.Proofs.YteomcjpigoaioaaGreatDoor
namespace Go.Proofs.YteomcjpigoaioaaGreatDoor
open Go.FL
attribute [local irreducible] JC JO JA JB thenQ blockQ retQ AC fill CellsAt QE Ev Mid
set_option maxHeartbeats 2000000 in
set_option maxRecDepth 100000 in
theorem key_ac (D : Nat) (L : Hl) (s : World) (l : List UInt8) : AC Tryz.prog D 26 [St l] L s fun v L' _ => v = .tuple #[.int .u32 (keyS l), .agg #[.int .i64 (keyE l).1, .int .i64 (keyE l).2]] ∧ L = L' := by
 refine AC_enter (TT := TT) (fn := Tryz.f26) TT_ok Tryz.func26 (by kernel_rfl) rfl Tryz.ntmps26 rfl (rs := [.tmp 2, .cell 3 27]) rfl [(0, _)] rfl ?_
 refine JC_seq ?_
 refine JC_region ?_
 refine JO_q (QE_as rfl) rfl ?_
 refine JO_allocZ rfl [_, _] rfl rfl ?_
 intro β1 s1 h1
 refine JO_nil ?_
 refine thenQ_n ?_
 refine JC_seq ?_
 refine JC_seq ?_
 refine JC_region ?_
 refine JO_q (QE_mv rfl) rfl ?_
 refine JO_call (first := []) (captured := []) rfl rfl rfl (aName_ac D _ _ _) ?_
 rintro _ _ s2 h2 ⟨rfl, rfl⟩
 refine JO_q (QE_not rfl) rfl ?_
 refine JO_nil ?_
 refine thenQ_n ?_
 refine JC_ifM rfl (fun c3 => ?_) (fun c3 => ?_)
 ·
  have hlb := c3
  refine JC_seq ?_
  refine JC_region ?_
  refine JO_call (first := []) (captured := []) rfl rfl rfl (afault_ac D _ _ _ _) ?_
  rintro _ _ s4 h4 ⟨rfl, rfl⟩
  refine JO_q (QE_as rfl) rfl ?_
  refine JO_st 0 [_, _] rfl rfl rfl rfl rfl rfl rfl rfl rfl ?_
  refine JO_nil ?_
  refine thenQ_n ?_
  refine JC_ret ?_
  refine thenQ_r ?_
  refine retQ_mk [_] L (.inr rfl) (.tmp rfl (.agg (us := [_, _]) 0 rfl rfl rfl rfl rfl (.nil))) rfl (Le.trans (Le.trans h1 h2) h4) (fun sR hS2 => ?_)
  first
    | (rw [keyS, keyE, if_neg (by rw [hlb]; decide), if_neg (by rw [hlb]; decide)]; exact ⟨rfl, rfl⟩)
    | (rw [keyS, keyE, if_pos hlb, if_pos hlb, hS]; exact ⟨rfl, rfl⟩)
 ·
  have hlb := c3
  have hl6 := (labelB_len hlb).2
  refine JC_skip ?_
  refine thenQ_n ?_
  refine JC_seq ?_
  refine JC_region ?_
  refine JO_q (QE_as rfl) rfl ?_
  refine JO_nil ?_
  refine thenQ_n ?_
  refine JC_seq ?_
  refine JC_seq ?_
  refine JC_region ?_
  refine JO_q (QE_mv rfl) rfl ?_
  refine JO_s2b rfl rfl rfl rfl rfl rfl rfl (by omega) rfl ?_
  intro Ab cb1 s5 h5 hbt
  refine JO_q (QE_lenS rfl rfl rfl) rfl ?_
  refine JO_q (QE_mv rfl) rfl ?_
  refine JO_nil ?_
  refine thenQ_n ?_
  refine JC_block ?_
  refine JC_loop (γ := Nat × Int) (fun g => [(2, _), (3, _), (4, .int .u32 g.2), (13, _), (14, _), (15, .int .i64 (g.1 : Int))]) (fun _ => _) (fun g tw => Le D s5 tw ∧ (g.1 ≤ l.length ∧ keyV l = (l.drop g.1).foldl stepK g.2)) (fun g => l.length - g.1) (fun _ _ _ h hl => ⟨h.1.trans hl, h.2⟩) (0, 0) (Keeps.cons rfl (Keeps.cons rfl (Keeps.cons rfl (Keeps.cons rfl (Keeps.cons rfl (Keeps.cons rfl (Keeps.nil _))))))) rfl ⟨Le.refl _, ⟨Nat.zero_le _, rfl⟩⟩ ?_
  intro g s6 I6
  obtain ⟨k, key⟩ := g
  obtain ⟨hk0, hS⟩ := I6.2
  simp only at hk0 hS
  dsimp only
  refine JC_seq ?_
  refine JC_region ?_
  refine JO_q (QE_lt rfl rfl) rfl ?_
  refine JO_nil ?_
  refine thenQ_n ?_
  refine JC_seq ?_
  refine JC_ifD rfl (fun c7 => ?_) (fun c7 => ?_)
  ·
   have hk : k < l.length := by omega
   obtain ⟨b, off, ch, rfl, hch, hcc⟩ := Bts.at_ (hbt.le I6.1) hk
   refine JC_skip ?_
   refine thenQ_n ?_
   refine JC_seq ?_
   refine JC_block ?_
   refine JC_seq ?_
   refine JC_region ?_
   refine JO_q (QE_ia1 rfl rfl rfl rfl rfl rfl hk) rfl ?_
   refine JO_q (QE_ldsR0 rfl rfl rfl (hcc.le (Le.refl (D := D) _)) rfl) rfl ?_
   refine JO_q (QE_as rfl) rfl ?_
   refine JO_nil ?_
   refine thenQ_n ?_
   refine JC_seq ?_
   refine JC_region ?_
   refine JO_q (QE_mv rfl) rfl ?_
   refine JO_q (QE_sub rfl rfl) rfl ?_
   refine JO_q (QE_conv rfl rfl rfl rfl rfl) rfl ?_
   refine JO_q (QE_cast (QE_add rfl rfl) (dig_a ch)) rfl ?_
   refine JO_q (QE_as rfl) rfl ?_
   refine JO_nil ?_
   refine thenQ_n ?_
   refine JC_seq ?_
   refine JC_seq ?_
   refine JC_region ?_
   refine JO_q (QE_mv rfl) rfl ?_
   refine JO_q (QE_le rfl rfl) rfl ?_
   refine JO_nil ?_
   refine thenQ_n ?_
   refine JC_ifD rfl (fun c8 => ?_) (fun c8 => ?_)
   ·
    refine JC_region ?_
    refine JO_q (QE_mv rfl) rfl ?_
    refine JO_q (QE_sub rfl rfl) rfl ?_
    refine JO_q (QE_conv rfl rfl rfl rfl rfl) rfl ?_
    refine JO_q (QE_cast (QE_add rfl rfl) (dig_0 ch)) rfl ?_
    refine JO_q (QE_as rfl) rfl ?_
    refine JO_nil ?_
    refine thenQ_n ?_
    refine JC_region ?_
    refine JO_q (QE_mv rfl) rfl ?_
    refine JO_q (QE_mul rfl rfl) rfl ?_
    refine JO_q (QE_mv rfl) rfl ?_
    refine JO_q (QE_cast (QE_add rfl rfl) (show Value.int .u32 (IntKind.u32.wrap (IntKind.u32.wrap (key * 37) + _)) = .int .u32 (stepK key ch) by rw [wrapW, wrapW, stepK, digK]; first | (rw [if_pos (by assumption)]) | (rw [if_neg (by assumption)]))) rfl ?_
    refine JO_q (QE_as rfl) rfl ?_
    refine JO_nil ?_
    refine blockQ_n ?_
    refine thenQ_n ?_
    refine JC_region ?_
    refine JO_q (QE_add' rfl rfl (w64 (by omega) (by omega))) rfl ?_
    refine JO_q (QE_mv rfl) rfl ?_
    refine JO_nil ?_
    refine thenQ_n ⟨(k + 1, stepK key ch), [], (Keeps.cons rfl (Keeps.cons rfl (Keeps.cons rfl (Keeps.cons rfl (Keeps.cons rfl (Keeps.cons rfl (Keeps.nil _))))))), rfl, ⟨I6.1, ⟨by simp only; omega, by simp only; rw [hS, keyV_at hch]⟩⟩, (by simp only; omega)⟩
   ·
    refine JC_skip ?_
    refine thenQ_n ?_
    refine JC_region ?_
    refine JO_q (QE_mv rfl) rfl ?_
    refine JO_q (QE_mul rfl rfl) rfl ?_
    refine JO_q (QE_mv rfl) rfl ?_
    refine JO_q (QE_cast (QE_add rfl rfl) (show Value.int .u32 (IntKind.u32.wrap (IntKind.u32.wrap (key * 37) + _)) = .int .u32 (stepK key ch) by rw [wrapW, wrapW, stepK, digK]; first | (rw [if_pos (by assumption)]) | (rw [if_neg (by assumption)]))) rfl ?_
    refine JO_q (QE_as rfl) rfl ?_
    refine JO_nil ?_
    refine blockQ_n ?_
    refine thenQ_n ?_
    refine JC_region ?_
    refine JO_q (QE_add' rfl rfl (w64 (by omega) (by omega))) rfl ?_
    refine JO_q (QE_mv rfl) rfl ?_
    refine JO_nil ?_
    refine thenQ_n ⟨(k + 1, stepK key ch), [], (Keeps.cons rfl (Keeps.cons rfl (Keeps.cons rfl (Keeps.cons rfl (Keeps.cons rfl (Keeps.cons rfl (Keeps.nil _))))))), rfl, ⟨I6.1, ⟨by simp only; omega, by simp only; rw [hS, keyV_at hch]⟩⟩, (by simp only; omega)⟩
  ·
   rw [List.drop_eq_nil_of_le (by omega), List.foldl_nil] at hS
   refine JC_exit ?_
   refine thenQ_x ?_
   refine thenQ_x ?_
   refine blockQ_x ?_
   refine thenQ_n ?_
   refine JC_seq ?_
   refine JC_region ?_
   refine JO_q (QE_mv rfl) rfl ?_
   refine JO_q (QE_build [] [_, _] rfl rfl rfl rfl rfl rfl) rfl ?_
   refine JO_q (QE_as rfl) rfl ?_
   refine JO_st 0 [_, _] rfl rfl rfl rfl rfl rfl rfl rfl rfl ?_
   refine JO_nil ?_
   refine thenQ_n ?_
   refine JC_ret ?_
   refine retQ_mk [_] L (.inr rfl) (.tmp rfl (.agg (us := [_, _]) 0 rfl rfl rfl rfl rfl (.nil))) rfl (Le.trans (Le.trans (Le.trans h1 h2) h5) I6.1) (fun sR hS2 => ?_)
   first
     | (rw [keyS, keyE, if_neg (by rw [hlb]; decide), if_neg (by rw [hlb]; decide)]; exact ⟨rfl, rfl⟩)
     | (rw [keyS, keyE, if_pos hlb, if_pos hlb, hS]; exact ⟨rfl, rfl⟩)
def RevP {α : Type} (l l' : List α) (i : Nat) : Prop := l'.length = l.length ∧ ∀ k, k < l.length → l'[k]? = if k < i ∨ l.length ≤ k + i then l[l.length - 1 - k]? else l[k]?
theorem RevP.init {α : Type} (l : List α) : RevP l l 0 := ⟨rfl, fun k hk => by rw [if_neg (by omega)]⟩
theorem RevP.step {α : Type} {l l' : List α} {i : Nat} {x y : α} (h : RevP l l' i) (hi : i < l.length - 1 - i) (hx : l'[i]? = some x) (hy : l'[l.length - 1 - i]? = some y) : RevP l ((l'.set i y).set (l.length - 1 - i) x) (i + 1) := by
  obtain ⟨h1, h2⟩ := h
  refine ⟨by simp [h1], fun k hk => ?_⟩
  have e1 := h2 i (by omega)
  have e2 := h2 (l.length - 1 - i) (by omega)
  rw [if_neg (by omega), hx] at e1
  rw [if_neg (by omega), hy] at e2
  by_cases hk1 : k = l.length - 1 - i
  · subst hk1
    rw [List.getElem?_set_self (by simp; omega), if_pos (by omega), show l.length - 1 - (l.length - 1 - i) = i by omega]
    exact e1
  · rw [List.getElem?_set_ne (by omega)]
    by_cases hk2 : k = i
    · subst hk2
      rw [List.getElem?_set_self (by omega), if_pos (by omega)]
      exact e2
    · rw [List.getElem?_set_ne (by omega), h2 k hk]
      by_cases hc : k < i ∨ l.length ≤ k + i
      · rw [if_pos hc, if_pos (by omega)]
      · rw [if_neg hc, if_neg (by omega)]
theorem RevP.done {α : Type} {l l' : List α} {i : Nat} (h : RevP l l' i) (hi : ¬ ((i : Int) < (l.length : Int) - 1 - i)) : l' = l.reverse := by
  apply List.ext_getElem?
  intro k
  by_cases hk : k < l.length
  · rw [h.2 k hk, List.getElem?_reverse hk]
    by_cases hc : k < i ∨ l.length ≤ k + i
    · rw [if_pos hc]
    · rw [if_neg hc]; congr 1; omega
  · rw [List.getElem?_eq_none (by rw [h.1]; omega), List.getElem?_eq_none (by simp; omega)]
theorem nth_bvp {l : List UInt8} {y : List Value} {p : Nat} {c : UInt8} (h : l[p]? = some c) : nth (bv l ++ y) (0 + p) = some (.int .u8 (c.toNat : Int)) := by
  rw [nth_eq, Nat.zero_add, List.getElem?_append_left (by rw [bv_len]; exact (List.getElem?_eq_some_iff.1 h).1)]; simp [bv, h]
theorem spl_bvp {l : List UInt8} {y : List Value} {p : Nat} (c : UInt8) (h : p < l.length) : splice (bv l ++ y) (0 + p) [.int .u8 (c.toNat : Int)] = bv (l.set p c) ++ y := by
  rw [Nat.zero_add, splice_eq _ _ _ (by simp [bv_len]; omega)]
  apply List.ext_getElem?
  intro k
  simp only [bv, List.length_singleton, List.map_set]
  rw [List.append_assoc, List.take_append_of_le_length (by simp; omega), List.drop_append_of_le_length (by simp; omega), List.set_eq_take_append_cons_drop, if_pos (by simp; omega)]
  simp
theorem ble_bvp {l : List UInt8} {y : List Value} {p : Nat} (h : p < l.length) : Nat.ble (0 + p + 1) (bv l ++ y).length = true := by
  rw [Nat.ble_eq]; simp [bv_len]; omega
set_option maxHeartbeats 4000000 in
set_option maxRecDepth 100000 in
theorem reverse_ac (D : Nat) (L : Hl) (s : World) (M : Hl) (A : Option Addr) (c : Nat) (l : List UInt8) (hO : Own 5 1 M (.slice A l.length c) l.length (bv l)) (hl : l.length ≤ 1000000) : AC Tryz.prog D 60 [.slice A l.length c] (M ++ L) s fun v L' _ => v = .tuple #[] ∧ ∃ M', L' = M' ++ L ∧ Own 5 1 M' (.slice A l.length c) l.length (bv l.reverse) := by
 refine AC_enter (TT := TT) (fn := Tryz.f60) TT_ok Tryz.func60 (by kernel_rfl) rfl Tryz.ntmps60 rfl (rs := []) rfl [(0, _)] rfl ?_
 refine JC_seq ?_
 refine JC_region ?_
 refine JO_q (QE_mv rfl) rfl ?_
 refine JO_q (QE_lenS rfl rfl rfl) rfl ?_
 refine JO_q (QE_sub' rfl rfl (w64 (by omega) (by omega))) rfl ?_
 refine JO_q (QE_as rfl) rfl ?_
 refine JO_q (QE_as rfl) rfl ?_
 refine JO_nil ?_
 refine thenQ_n ?_
 refine JC_block ?_
 refine JC_loop (γ := Nat × Hl × List UInt8) (fun g => [(0, _), (2, .int .i64 (g.1 : Int)), (3, .int .i64 ((l.length : Int) - 1 - (g.1 : Int)))]) (fun g => g.2.1 ++ L) (fun g tw => Le D s tw ∧ (Own 5 1 g.2.1 (.slice A l.length c) l.length (bv g.2.2) ∧ RevP l g.2.2 g.1 ∧ g.1 ≤ l.length)) (fun g => l.length - g.1) (fun _ _ _ h hl => ⟨h.1.trans hl, h.2⟩) (0, M, l) (Keeps.cons rfl (Keeps.cons rfl (Keeps.cons (congrArg some (congrArg (Value.int .i64) (by simp))) (Keeps.nil _)))) rfl ⟨Le.refl _, ⟨hO, RevP.init l, Nat.zero_le _⟩⟩ ?_
 intro g s1 I1
 obtain ⟨k, Mj, lj⟩ := g
 obtain ⟨hOj, hRv, hk0⟩ := I1.2
 simp only at hOj hRv hk0
 dsimp only
 refine JC_seq ?_
 refine JC_seq ?_
 refine JC_region ?_
 refine JO_q (QE_mv rfl) rfl ?_
 refine JO_q (QE_mv rfl) rfl ?_
 refine JO_q (QE_lt rfl rfl) rfl ?_
 refine JO_nil ?_
 refine thenQ_n ?_
 refine JC_ifD rfl (fun c2 => ?_) (fun c2 => ?_)
 ·
  have hj : (k : Int) < (l.length : Int) - 1 - k := c2
  obtain ⟨bw, yw, hAw, hMw, g1, g2, g3, g4⟩ := own_blk hOj (by omega)
  subst hMw
  subst hAw
  obtain ⟨x, hx⟩ : ∃ x, lj[k]? = some x := ⟨_, List.getElem?_eq_getElem (by rw [hRv.1]; omega)⟩
  obtain ⟨y, hy⟩ : ∃ y, lj[l.length - 1 - k]? = some y := ⟨_, List.getElem?_eq_getElem (by rw [hRv.1]; omega)⟩
  have hll := hRv.1
  simp only [List.cons_append, List.nil_append]
  rw [show ((l.length : Int) - 1 - (k : Int)) = ((l.length - 1 - k : Nat) : Int) by omega]
  refine JC_skip ?_
  refine thenQ_n ?_
  refine JC_seq ?_
  refine JC_block ?_
  refine JC_drawE drawsMixed 16 rfl [0] (by intro x hx; exact eraseAll_mem hx) ?_
  intro s3 h3
  refine JA_q 0 rfl (by kernel_rfl) (by kernel_rfl) (by kernel_rfl) trivial (QE_mv rfl) rfl ?_
  refine JA_q 1 rfl (by kernel_rfl) (by kernel_rfl) (by kernel_rfl) trivial (QE_mv rfl) rfl ?_
  refine JA_q 2 rfl (by kernel_rfl) (by kernel_rfl) (by kernel_rfl) trivial (QE_mv rfl) rfl ?_
  refine JA_q 3 rfl (by kernel_rfl) (by kernel_rfl) (by kernel_rfl) trivial (QE_mv rfl) rfl ?_
  refine JA_q 4 rfl (by kernel_rfl) (by kernel_rfl) (by kernel_rfl) trivial (QE_mv rfl) rfl ?_
  refine JA_q 5 rfl (by kernel_rfl) (by kernel_rfl) (by kernel_rfl) trivial (QE_mv rfl) rfl ?_
  refine JA_q 6 rfl (by kernel_rfl) (by kernel_rfl) (by kernel_rfl) trivial (QE_ia1 rfl rfl rfl rfl rfl rfl (by omega)) rfl ?_
  refine JA_q 8 rfl (by kernel_rfl) (by kernel_rfl) (by kernel_rfl) trivial (QE_mv rfl) rfl ?_
  refine JA_q 9 rfl (by kernel_rfl) (by kernel_rfl) (by kernel_rfl) trivial (QE_mv rfl) rfl ?_
  refine JA_q 10 rfl (by kernel_rfl) (by kernel_rfl) (by kernel_rfl) trivial (QE_ia1 rfl rfl rfl rfl rfl rfl (by omega)) rfl ?_
  refine JA_2 7 11 (by kernel_rfl) ?_ ?_
  ·
   refine JB_q rfl trivial (QE_ld1 0 rfl rfl rfl rfl (nth_bvp hy)) rfl ?_
   refine JA_1 11 (by kernel_rfl) ?_
   refine JB_q rfl trivial (QE_ld1 0 rfl rfl rfl rfl (nth_bvp hx)) rfl ?_
   refine JA_q 12 rfl (by kernel_rfl) (by kernel_rfl) (by kernel_rfl) trivial (QE_ia1 rfl rfl rfl rfl rfl rfl (by omega)) rfl ?_
   refine JA_1 13 (by kernel_rfl) ?_
   refine JB_st rfl trivial 0 _ rfl rfl rfl rfl rfl (ble_bvp (by omega)) rfl (spl_bvp y (by omega)) rfl (fun x hx => hx) ?_
   refine JA_q 14 rfl (by kernel_rfl) (by kernel_rfl) (by kernel_rfl) trivial (QE_ia1 rfl rfl rfl rfl rfl rfl (by omega)) rfl ?_
   refine JA_1 15 (by kernel_rfl) ?_
   refine JB_st rfl trivial 0 _ rfl rfl rfl rfl rfl (ble_bvp (by rw [List.length_set]; omega)) rfl (spl_bvp x (by rw [List.length_set]; omega)) rfl (fun x hx => hx) ?_
   refine JA_done (by kernel_rfl) ?_
   refine blockQ_n ?_
   refine thenQ_n ?_
   refine JC_region ?_
   refine JO_q (QE_mv rfl) rfl ?_
   refine JO_q (QE_add' rfl rfl (w64 (by omega) (by omega))) rfl ?_
   refine JO_q (QE_mv rfl) rfl ?_
   refine JO_q (QE_sub' rfl rfl (w64 (by omega) (by omega))) rfl ?_
   refine JO_q (QE_as rfl) rfl ?_
   refine JO_q (QE_as rfl) rfl ?_
   refine JO_nil ?_
   refine thenQ_n ⟨(k + 1, [(bw, cb (bv ((lj.set k y).set (l.length - 1 - k) x) ++ yw) 5)], (lj.set k y).set (l.length - 1 - k) x), [], (Keeps.cons rfl (Keeps.cons rfl (Keeps.cons (congrArg some (congrArg (Value.int .i64) (by omega))) (Keeps.nil _)))), rfl, ⟨(Le.trans I1.1 h3), ⟨own_back (by simp only [bv_len, List.length_set]; exact hll) (by simp only [bv_len, List.length_set]; rw [bv_len] at g2; exact g2) g3 g4, hRv.step (by omega) hx hy, by simp only; omega⟩⟩, (by simp only; omega)⟩
  ·
   refine JB_q rfl trivial (QE_ld1 0 rfl rfl rfl rfl (nth_bvp hx)) rfl ?_
   refine JA_1 7 (by kernel_rfl) ?_
   refine JB_q rfl trivial (QE_ld1 0 rfl rfl rfl rfl (nth_bvp hy)) rfl ?_
   refine JA_q 12 rfl (by kernel_rfl) (by kernel_rfl) (by kernel_rfl) trivial (QE_ia1 rfl rfl rfl rfl rfl rfl (by omega)) rfl ?_
   refine JA_1 13 (by kernel_rfl) ?_
   refine JB_st rfl trivial 0 _ rfl rfl rfl rfl rfl (ble_bvp (by omega)) rfl (spl_bvp y (by omega)) rfl (fun x hx => hx) ?_
   refine JA_q 14 rfl (by kernel_rfl) (by kernel_rfl) (by kernel_rfl) trivial (QE_ia1 rfl rfl rfl rfl rfl rfl (by omega)) rfl ?_
   refine JA_1 15 (by kernel_rfl) ?_
   refine JB_st rfl trivial 0 _ rfl rfl rfl rfl rfl (ble_bvp (by rw [List.length_set]; omega)) rfl (spl_bvp x (by rw [List.length_set]; omega)) rfl (fun x hx => hx) ?_
   refine JA_done (by kernel_rfl) ?_
   refine blockQ_n ?_
   refine thenQ_n ?_
   refine JC_region ?_
   refine JO_q (QE_mv rfl) rfl ?_
   refine JO_q (QE_add' rfl rfl (w64 (by omega) (by omega))) rfl ?_
   refine JO_q (QE_mv rfl) rfl ?_
   refine JO_q (QE_sub' rfl rfl (w64 (by omega) (by omega))) rfl ?_
   refine JO_q (QE_as rfl) rfl ?_
   refine JO_q (QE_as rfl) rfl ?_
   refine JO_nil ?_
   refine thenQ_n ⟨(k + 1, [(bw, cb (bv ((lj.set k y).set (l.length - 1 - k) x) ++ yw) 5)], (lj.set k y).set (l.length - 1 - k) x), [], (Keeps.cons rfl (Keeps.cons rfl (Keeps.cons (congrArg some (congrArg (Value.int .i64) (by omega))) (Keeps.nil _)))), rfl, ⟨(Le.trans I1.1 h3), ⟨own_back (by simp only [bv_len, List.length_set]; exact hll) (by simp only [bv_len, List.length_set]; rw [bv_len] at g2; exact g2) g3 g4, hRv.step (by omega) hx hy, by simp only; omega⟩⟩, (by simp only; omega)⟩
 ·
  refine JC_exit ?_
  refine thenQ_x ?_
  refine thenQ_x ?_
  refine blockQ_x ?_
  refine retQ_mk [] _ (.inl rfl) (.nil) rfl I1.1 (fun sR hS2 => ?_)
  exact ⟨rfl, _, rfl, by rw [← hRv.done (by omega)]; exact hOj⟩
end Go.Proofs.YteomcjpigoaioaaGreatDoor
namespace Go.Proofs.YteomcjpigoaioaaGreatDoor
open Go.FL
attribute [local irreducible] JC JO JA JB thenQ blockQ retQ AC fill CellsAt QE Ev Mid
theorem reverseM_ac (D : Nat) (L : Hl) (s : World) (M : Hl) (A : Option Addr) (c : Nat) (l : List UInt8) (hO : Own 5 1 M (.slice A l.length c) l.length (bv l)) (hl : l.length ≤ 1000000) : AC Tryz.prog D 60 [.slice A l.length c] (M ++ L) s fun v L' _ => ∃ M', L' = M' ++ L ∧ (v = .tuple #[] ∧ Own 5 1 M' (.slice A l.length c) l.length (bv l.reverse)) :=
  (reverse_ac D L s M A c l hO hl).mono fun v L' s' _ ⟨h1, M', h2, h3⟩ => ⟨M', h2, h1, h3⟩
theorem bv_snoc (l : List UInt8) (c : UInt8) : bv (l ++ [c]) = bv l ++ [.int .u8 (c.toNat : Int)] := by simp [bv]
theorem nm_acc {n : Nat} {acc b : List UInt8} (h : nmF n acc = some b) (hn : n < 37 ^ 7) : b.length ≤ acc.length + 7 := by
  have key : ∀ (k n : Nat) (acc : List UInt8), n < 37 ^ k → nmF n acc = some b → b.length ≤ acc.length + k := by
    intro k
    induction k with
    | zero => intro n acc hn h; obtain rfl : n = 0 := by simpa using hn
              rw [nmF_zero] at h; injection h with h; subst h; omega
    | succ k ih =>
      intro n acc hn h
      by_cases h0 : n = 0
      · subst h0; rw [nmF_zero] at h; injection h with h; subst h; omega
      · by_cases h1 : n % 37 = 0
        · rw [nmF_bad h0 h1] at h; cases h
        · rw [nmF_more h0 h1] at h
          have := ih (n / 37) _ (by rw [Nat.pow_succ] at hn; omega) h
          simp at this; omega
  exact key 7 n acc hn h
theorem snoc_u {l : List Int} {x : Int} (h : ∀ y ∈ l, U32 y) (hx : U32 x) : ∀ y ∈ l ++ [x], U32 y := fun y hy => by
  rcases List.mem_append.1 hy with h1 | h1
  · exact h y h1
  · rw [List.mem_singleton.1 h1]; exact hx
theorem grow128 {n sz : Nat} {c : UInt8} (h : n < 128 ^ sz) : n + c.toNat % 128 * 128 ^ sz < 128 ^ (sz + 1) := by
  rw [Nat.pow_succ]
  have h1 : c.toNat % 128 * 128 ^ sz ≤ 127 * 128 ^ sz := Nat.mul_le_mul_right _ (by omega)
  omega
theorem byteN {w : Nat} (h : w < 128) : Value.int .u8 (IntKind.u8.wrap (w : Int)) = .int .u8 ((UInt8.ofNat w).toNat : Int) := by
  rw [IntKind.wrap_u8]; congr 1; try simp
theorem pack_at {l : List Int} {k : Nat} {x : Int} (h : l[k]? = some x) : packF (l.drop k) = grp x.toNat ++ packF (l.drop (k + 1)) := by
  obtain ⟨hk, rfl⟩ := List.getElem?_eq_some_iff.1 h
  rw [List.drop_eq_getElem_cons hk]; simp only [packF, List.map_cons, List.flatten_cons]
theorem name_none {n : Nat} (h : nmF n [] = none) : nameS n = [] ∧ nameE n = (6, -1) := by unfold nameS nameE; rw [h]; exact ⟨rfl, rfl⟩
theorem name_no {n : Nat} {b : List UInt8} (h : nmF n [] = some b) (hl : labelB b.reverse = false) : nameS n = [] ∧ nameE n = (6, -1) := by unfold nameS nameE; rw [h]; simp [hl]
theorem name_ok {n : Nat} {b : List UInt8} (h : nmF n [] = some b) (hl : labelB b.reverse = true) : nameS n = b.reverse ∧ nameE n = (0, 0) := by unfold nameS nameE; rw [h]; simp [hl]
theorem unp_l {b : List UInt8} {f : Int × Int} (h : unpF b = .inl f) : unpS b = [] ∧ unpE b = f := by unfold unpS unpE; rw [h]; exact ⟨rfl, rfl⟩
theorem unp_r {b : List UInt8} {l : List Int} (h : unpF b = .inr l) : unpS b = l ∧ unpE b = (0, 0) := by unfold unpS unpE; rw [h]; exact ⟨rfl, rfl⟩
theorem unp_long {b : List UInt8} (h : 327680 < b.length) : unpF b = .inl (3, -1) := by rw [unpF, if_pos h]
theorem unp_err {b : List UInt8} {f : Int × Int} (h : ¬ 327680 < b.length) (h2 : upF 0 [] b = .inl f) : unpF b = .inl f := by rw [unpF, if_neg h, h2]
theorem unp_big {b : List UInt8} {l : List Int} (h : ¬ 327680 < b.length) (h2 : upF 0 [] b = .inr l) (h3 : 65536 < l.length) : unpF b = .inl (14, -1) := by rw [unpF, if_neg h, h2]; simp only; rw [if_pos h3]
theorem unp_ok {b : List UInt8} {l : List Int} (h : ¬ 327680 < b.length) (h2 : upF 0 [] b = .inr l) (h3 : ¬ 65536 < l.length) : unpF b = .inr l := by rw [unpF, if_neg h, h2]; simp only; rw [if_neg h3]
theorem grp_pos (w : Nat) : 1 ≤ (grp w).length := by
  by_cases h : w < 128
  · rw [grp_small h]; simp
  · rw [grp_big h]; simp
set_option maxHeartbeats 4000000 in
set_option maxRecDepth 100000 in
theorem name_ac (D : Nat) (L : Hl) (s : World) (key : Nat) (hkey : key < 4294967296) : AC Tryz.prog D 27 [.int .u32 (key : Int)] L s fun v L' _ => v = .tuple #[St (nameS key), .agg #[.int .i64 (nameE key).1, .int .i64 (nameE key).2]] ∧ L = L' := by
 refine AC_enter (TT := TT) (fn := Tryz.f27) TT_ok Tryz.func27 (by kernel_rfl) rfl Tryz.ntmps27 rfl (rs := [.tmp 2, .cell 3 27]) rfl [(0, _)] rfl ?_
 refine JC_seq ?_
 refine JC_region ?_
 refine JO_q (QE_as rfl) rfl ?_
 refine JO_allocZ rfl [_, _] rfl rfl ?_
 intro β1 s1 h1
 refine JO_nil ?_
 refine thenQ_n ?_
 refine JC_seq ?_
 refine JC_region ?_
 refine JO_q (QE_as rfl) rfl ?_
 refine JO_nil ?_
 refine thenQ_n ?_
 refine JC_seq ?_
 refine JC_seq ?_
 refine JC_region ?_
 refine JO_q (QE_mv rfl) rfl ?_
 refine JO_q (QE_as rfl) rfl ?_
 refine JO_nil ?_
 refine thenQ_n ?_
 refine JC_block ?_
 refine JC_loop (γ := Nat × Value × Hl × List UInt8) (fun g => [(2, _), (3, _), (4, g.2.1), (5, .int .u32 (g.1 : Int))]) (fun g => (β1, cb [.int .i64 0, .int .i64 0] 27) :: (g.2.2.1 ++ L)) (fun g tw => Le D s1 tw ∧ (Own 5 1 g.2.2.1 g.2.1 g.2.2.2.length (bv g.2.2.2) ∧ nmF key [] = nmF g.1 g.2.2.2 ∧ g.2.2.2.length + g.1 ≤ key)) (fun g => g.1) (fun _ _ _ h hl => ⟨h.1.trans hl, h.2⟩) (key, .slice none 0 0, [], []) (Keeps.cons rfl (Keeps.cons rfl (Keeps.cons rfl (Keeps.cons rfl (Keeps.nil _))))) rfl ⟨Le.refl _, ⟨Own.nil, rfl, by simp⟩⟩ ?_
 intro g s2 I2
 obtain ⟨n, vb, Mb, acc⟩ := g
 obtain ⟨hO, hS, hsz⟩ := I2.2
 simp only at hO hS hsz
 dsimp only
 refine JC_seq ?_
 refine JC_seq ?_
 refine JC_region ?_
 refine JO_q (QE_mv rfl) rfl ?_
 refine JO_q (QE_gt rfl rfl) rfl ?_
 refine JO_nil ?_
 refine thenQ_n ?_
 refine JC_ifD rfl (fun c3 => ?_) (fun c3 => ?_)
 ·
  have hn0 : n ≠ 0 := by omega
  refine JC_skip ?_
  refine thenQ_n ?_
  refine JC_seq ?_
  refine JC_block ?_
  refine JC_seq ?_
  refine JC_region ?_
  refine JO_q (QE_mv rfl) rfl ?_
  refine JO_q (QE_cast (QE_rem rfl rfl (by decide)) (name_rem n)) rfl ?_
  refine JO_q (QE_as rfl) rfl ?_
  refine JO_nil ?_
  refine thenQ_n ?_
  refine JC_block ?_
  refine JC_seq ?_
  refine JC_region ?_
  refine JO_q (QE_mv rfl) rfl ?_
  refine JO_q (QE_eq rfl rfl) rfl ?_
  refine JO_q (QE_as rfl) rfl ?_
  refine JO_nil ?_
  refine thenQ_n ?_
  refine JC_ifD rfl (fun c4 => ?_) (fun c4 => ?_)
  ·
   have hd0 : n % 37 = 0 := by omega
   refine JC_seq ?_
   refine JC_region ?_
   refine JO_call (first := []) (captured := []) rfl rfl rfl (afault_ac D _ _ _ _) ?_
   rintro _ _ s5 h5 ⟨rfl, rfl⟩
   refine JO_q (QE_as rfl) rfl ?_
   refine JO_st 0 [_, _] rfl rfl rfl rfl rfl rfl rfl rfl rfl ?_
   refine JO_nil ?_
   refine thenQ_n ?_
   refine JC_ret ?_
   refine blockQ_r ?_
   refine blockQ_r ?_
   refine thenQ_r ?_
   refine thenQ_r ?_
   refine blockQ_r ?_
   refine thenQ_r ?_
   refine retQ_mk (_ :: Mb) L (.inr rfl) (.tmp rfl (.agg (us := [_, _]) 0 rfl rfl rfl rfl rfl (.nil))) rfl (Le.trans (Le.trans h1 I2.1) h5) (fun sR hS2 => ?_)
   first
     | (rw [nmF_bad hn0 hd0] at hS; rw [(name_none hS).1, (name_none hS).2]; exact ⟨rfl, rfl⟩)
     | (rw [(name_no hS hlb).1, (name_no hS hlb).2]; exact ⟨rfl, rfl⟩)
     | (rw [(name_ok hS hlb).1, (name_ok hS hlb).2]; exact ⟨rfl, rfl⟩)
  ·
   have hd0 : n % 37 ≠ 0 := by omega
   refine JC_seq ?_
   refine JC_region ?_
   refine JO_q (QE_mv rfl) rfl ?_
   refine JO_q (QE_le rfl rfl) rfl ?_
   refine JO_q (QE_as rfl) rfl ?_
   refine JO_nil ?_
   refine thenQ_n ?_
   refine JC_ifD rfl (fun c6 => ?_) (fun c6 => ?_)
   ·
    have hd1 : n % 37 ≤ 26 := by omega
    refine JC_region ?_
    refine JO_q (QE_mv rfl) rfl ?_
    refine JO_q (QE_mv rfl) rfl ?_
    refine JO_q (QE_sub rfl rfl) rfl ?_
    refine JO_q (QE_conv rfl rfl rfl rfl rfl) rfl ?_
    refine JO_q (QE_cast (QE_add rfl rfl) (chr_a hd0 hd1)) rfl ?_
    refine JO_bs [(_, _)] [_] rfl rfl rfl rfl rfl rfl rfl rfl rfl ?_
    intro βn s7 h7 hcb
    refine JO_app (sz := 1) [_] Mb L rfl rfl rfl rfl rfl rfl rfl hO (Row.of_cells (hcb.le (Le.refl (D := D) _)) rfl rfl) ⟨by simp [ti5]; omega, by omega⟩ rfl ?_
    intro v1 M1 s8 h8 o1
    obtain ⟨Av1, cv1, rfl, _, _⟩ := Own.slice o1
    simp only [List.cons_append, List.nil_append]
    refine JO_q (QE_as rfl) rfl ?_
    refine JO_nil ?_
    refine blockQ_n ?_
    refine blockQ_n ?_
    refine thenQ_n ?_
    refine JC_region ?_
    refine JO_q (QE_mv rfl) rfl ?_
    refine JO_q (QE_cast (QE_quo rfl rfl (by decide)) (name_quo (by omega))) rfl ?_
    refine JO_q (QE_as rfl) rfl ?_
    refine JO_nil ?_
    refine thenQ_n ⟨(n / 37, .slice Av1 (acc.length + 1) cv1, M1, acc ++ [chrK (n % 37)]), [], (Keeps.cons rfl (Keeps.cons rfl (Keeps.cons rfl (Keeps.cons rfl (Keeps.nil _))))), rfl, ⟨(Le.trans (Le.trans I2.1 h7) h8), ⟨by simp only [List.length_append, List.length_cons, List.length_nil, bv_snoc]; exact o1, by simp only; rw [hS, nmF_more (by omega) hd0], by simp only [List.length_append, List.length_cons, List.length_nil]; omega⟩⟩, (by simp only; omega)⟩
   ·
    have hd1 : ¬ n % 37 ≤ 26 := by omega
    refine JC_region ?_
    refine JO_q (QE_mv rfl) rfl ?_
    refine JO_q (QE_mv rfl) rfl ?_
    refine JO_q (QE_sub rfl rfl) rfl ?_
    refine JO_q (QE_conv rfl rfl rfl rfl rfl) rfl ?_
    refine JO_q (QE_cast (QE_add rfl rfl) (chr_0 hd1 (by omega))) rfl ?_
    refine JO_bs [(_, _)] [_] rfl rfl rfl rfl rfl rfl rfl rfl rfl ?_
    intro βn s9 h9 hcb
    refine JO_app (sz := 1) [_] Mb L rfl rfl rfl rfl rfl rfl rfl hO (Row.of_cells (hcb.le (Le.refl (D := D) _)) rfl rfl) ⟨by simp [ti5]; omega, by omega⟩ rfl ?_
    intro v1 M1 s10 h10 o1
    obtain ⟨Av1, cv1, rfl, _, _⟩ := Own.slice o1
    simp only [List.cons_append, List.nil_append]
    refine JO_q (QE_as rfl) rfl ?_
    refine JO_nil ?_
    refine blockQ_n ?_
    refine blockQ_n ?_
    refine thenQ_n ?_
    refine JC_region ?_
    refine JO_q (QE_mv rfl) rfl ?_
    refine JO_q (QE_cast (QE_quo rfl rfl (by decide)) (name_quo (by omega))) rfl ?_
    refine JO_q (QE_as rfl) rfl ?_
    refine JO_nil ?_
    refine thenQ_n ⟨(n / 37, .slice Av1 (acc.length + 1) cv1, M1, acc ++ [chrK (n % 37)]), [], (Keeps.cons rfl (Keeps.cons rfl (Keeps.cons rfl (Keeps.cons rfl (Keeps.nil _))))), rfl, ⟨(Le.trans (Le.trans I2.1 h9) h10), ⟨by simp only [List.length_append, List.length_cons, List.length_nil, bv_snoc]; exact o1, by simp only; rw [hS, nmF_more (by omega) hd0], by simp only [List.length_append, List.length_cons, List.length_nil]; omega⟩⟩, (by simp only; omega)⟩
 ·
  have hn0 : n = 0 := by omega
  subst hn0
  rw [nmF_zero] at hS
  have hal := nm_acc hS (by omega)
  simp only [List.length_nil] at hal
  obtain ⟨Ab, cb1, rfl, _, _⟩ := Own.slice hO
  refine JC_exit ?_
  refine thenQ_x ?_
  refine thenQ_x ?_
  refine blockQ_x ?_
  refine thenQ_n ?_
  refine JC_seq ?_
  refine JC_region ?_
  refine JO_q (QE_mv rfl) rfl ?_
  refine JO_call (first := []) (captured := []) rfl rfl rfl (AC.mid [_] Mb L (reverseM_ac D _ _ Mb Ab cb1 acc hO (by omega))) ?_
  rintro _ _ s11 h11 ⟨M2, rfl, rfl, hO2⟩
  simp only [List.cons_append, List.nil_append]
  refine JO_nil ?_
  refine thenQ_n ?_
  refine JC_seq ?_
  refine JC_seq ?_
  refine JC_pubX [_] M2 _ ?_
  intro s12 h12 hpub12
  simp only [List.cons_append, List.nil_append]
  have hbt := Own.bts hO2 hpub12
  refine JC_region ?_
  refine JO_q (QE_mv rfl) rfl ?_
  refine JO_q (QE_b2s rfl rfl rfl rfl rfl rfl rfl (hbt.le (Le.refl (D := D) _))) rfl ?_
  refine JO_call (first := []) (captured := []) rfl rfl rfl (aName_ac D _ _ _) ?_
  rintro _ _ s13 h13 ⟨rfl, rfl⟩
  refine JO_q (QE_not rfl) rfl ?_
  refine JO_nil ?_
  refine thenQ_n ?_
  refine JC_ifM rfl (fun c14 => ?_) (fun c14 => ?_)
  ·
   have hlb := c14
   refine JC_seq ?_
   refine JC_region ?_
   refine JO_call (first := []) (captured := []) rfl rfl rfl (afault_ac D _ _ _ _) ?_
   rintro _ _ s15 h15 ⟨rfl, rfl⟩
   refine JO_q (QE_as rfl) rfl ?_
   refine JO_st 0 [_, _] rfl rfl rfl rfl rfl rfl rfl rfl rfl ?_
   refine JO_nil ?_
   refine thenQ_n ?_
   refine JC_ret ?_
   refine thenQ_r ?_
   refine retQ_mk [_] L (.inr rfl) (.tmp rfl (.agg (us := [_, _]) 0 rfl rfl rfl rfl rfl (.nil))) rfl (Le.trans (Le.trans (Le.trans (Le.trans (Le.trans h1 I2.1) h11) h12) h13) h15) (fun sR hS2 => ?_)
   first
     | (rw [nmF_bad hn0 hd0] at hS; rw [(name_none hS).1, (name_none hS).2]; exact ⟨rfl, rfl⟩)
     | (rw [(name_no hS hlb).1, (name_no hS hlb).2]; exact ⟨rfl, rfl⟩)
     | (rw [(name_ok hS hlb).1, (name_ok hS hlb).2]; exact ⟨rfl, rfl⟩)
  ·
   have hlb := c14
   refine JC_skip ?_
   refine thenQ_n ?_
   refine JC_seq ?_
   refine JC_region ?_
   refine JO_q (QE_mv rfl) rfl ?_
   refine JO_q (QE_b2s rfl rfl rfl rfl rfl rfl rfl (hbt.le h13)) rfl ?_
   refine JO_q (QE_build [] [_, _] rfl rfl rfl rfl rfl rfl) rfl ?_
   refine JO_q (QE_as rfl) rfl ?_
   refine JO_st 0 [_, _] rfl rfl rfl rfl rfl rfl rfl rfl rfl ?_
   refine JO_nil ?_
   refine thenQ_n ?_
   refine JC_ret ?_
   refine retQ_mk [_] L (.inr rfl) (.tmp rfl (.agg (us := [_, _]) 0 rfl rfl rfl rfl rfl (.nil))) rfl (Le.trans (Le.trans (Le.trans (Le.trans h1 I2.1) h11) h12) h13) (fun sR hS2 => ?_)
   first
     | (rw [nmF_bad hn0 hd0] at hS; rw [(name_none hS).1, (name_none hS).2]; exact ⟨rfl, rfl⟩)
     | (rw [(name_no hS hlb).1, (name_no hS hlb).2]; exact ⟨rfl, rfl⟩)
     | (rw [(name_ok hS hlb).1, (name_ok hS hlb).2]; exact ⟨rfl, rfl⟩)
set_option maxHeartbeats 4000000 in
set_option maxRecDepth 100000 in
theorem packO_ac (D : Nat) (L : Hl) (s : World) (A : Option Addr) (n c : Nat) (l : List Int) (hA : Wds s A n c l) : AC Tryz.prog D 31 [.slice A n c] L s fun v L' s' => ∃ M', L' = M' ++ L ∧ ∀ s2, Le D s' s2 → Pub M' s2 → ∃ A1 n1 c1, v = .tuple #[.slice A1 n1 c1, .agg #[.int .i64 (packE l).1, .int .i64 (packE l).2]] ∧ Bts s2 A1 n1 c1 (packS l) := by
 have hn := hA.1
 have hu := hA.u32
 refine AC_enter (TT := TT) (fn := Tryz.f31) TT_ok Tryz.func31 (by kernel_rfl) rfl Tryz.ntmps31 rfl (rs := [.tmp 2, .cell 3 27]) rfl [(0, _)] rfl ?_
 refine JC_seq ?_
 refine JC_region ?_
 refine JO_q (QE_as rfl) rfl ?_
 refine JO_allocZ rfl [_, _] rfl rfl ?_
 intro β1 s1 h1
 refine JO_nil ?_
 refine thenQ_n ?_
 refine JC_seq ?_
 refine JC_seq ?_
 refine JC_region ?_
 refine JO_q (QE_mv rfl) rfl ?_
 refine JO_q (QE_lenS rfl rfl rfl) rfl ?_
 refine JO_q (QE_gt rfl rfl) rfl ?_
 refine JO_nil ?_
 refine thenQ_n ?_
 refine JC_ifD rfl (fun c2 => ?_) (fun c2 => ?_)
 ·
  have hlong : 65536 < l.length := by omega
  refine JC_seq ?_
  refine JC_region ?_
  refine JO_call (first := []) (captured := []) rfl rfl rfl (afault_ac D _ _ _ _) ?_
  rintro _ _ s3 h3 ⟨rfl, rfl⟩
  refine JO_q (QE_as rfl) rfl ?_
  refine JO_st 0 [_, _] rfl rfl rfl rfl rfl rfl rfl rfl rfl ?_
  refine JO_nil ?_
  refine thenQ_n ?_
  refine JC_ret ?_
  refine thenQ_r ?_
  refine retQ_mk [_] _ (.inr rfl) (.tmp rfl (.agg (us := [_, _]) 0 rfl rfl rfl rfl rfl (.nil))) rfl (Le.trans h1 h3) (fun sR hS2 => ?_)
  first
    | (refine ⟨[], rfl, fun s2 hs2 hp => ⟨none, 0, 0, ?_, ?_⟩⟩
       · rw [packE, if_pos hlong]; rfl
       · rw [packS, if_pos hlong]; exact Bts.nil _ _ _ (by omega))
    | (refine ⟨Mo, rfl, fun s2 hs2 hp => ⟨Ao, out.length, co, ?_, ?_⟩⟩
       · rw [packE, if_neg hlong]; rfl
       · rw [packS, if_neg hlong, hS]; simp only [packF, List.map_nil, List.flatten_nil, List.append_nil]; exact Own.bts hO hp)
 ·
  have hlong : ¬ 65536 < l.length := by omega
  refine JC_skip ?_
  refine thenQ_n ?_
  refine JC_seq ?_
  refine JC_region ?_
  refine JO_q (QE_as rfl) rfl ?_
  refine JO_nil ?_
  refine thenQ_n ?_
  refine JC_seq ?_
  refine JC_seq ?_
  refine JC_region ?_
  refine JO_q (QE_mv rfl) rfl ?_
  refine JO_q (QE_lenS rfl rfl rfl) rfl ?_
  refine JO_q (QE_mv rfl) rfl ?_
  refine JO_nil ?_
  refine thenQ_n ?_
  refine JC_block ?_
  refine JC_loop (γ := Nat × Value × Hl × List UInt8) (fun g => [(2, _), (3, _), (4, g.2.1), (11, _), (12, _), (13, .int .i64 (g.1 : Int))]) (fun g => (β1, cb [.int .i64 0, .int .i64 0] 27) :: (g.2.2.1 ++ L)) (fun g tw => Le D s1 tw ∧ (g.1 ≤ n ∧ Own 5 1 g.2.2.1 g.2.1 g.2.2.2.length (bv g.2.2.2) ∧ packF l = g.2.2.2 ++ packF (l.drop g.1) ∧ g.2.2.2.length ≤ 5 * g.1)) (fun g => n - g.1) (fun _ _ _ h hl => ⟨h.1.trans hl, h.2⟩) (0, .slice none 0 0, [], []) (Keeps.cons rfl (Keeps.cons rfl (Keeps.cons rfl (Keeps.cons rfl (Keeps.cons rfl (Keeps.cons rfl (Keeps.nil _))))))) rfl ⟨Le.refl _, ⟨Nat.zero_le _, Own.nil, rfl, Nat.le_refl _⟩⟩ ?_
  intro g s4 I4
  obtain ⟨k, vo, Mo, out⟩ := g
  obtain ⟨hk0, hO, hS, hol⟩ := I4.2
  simp only at hk0 hO hS hol
  dsimp only
  refine JC_seq ?_
  refine JC_region ?_
  refine JO_q (QE_lt rfl rfl) rfl ?_
  refine JO_nil ?_
  refine thenQ_n ?_
  refine JC_seq ?_
  refine JC_ifD rfl (fun c5 => ?_) (fun c5 => ?_)
  ·
   have hk : k < n := by omega
   obtain ⟨b, off, x, rfl, hx, hcx, hux⟩ := Wds.at_ (hA.le (Le.trans h1 I4.1)) hk
   obtain ⟨X, rfl⟩ := Int.eq_ofNat_of_zero_le hux.1
   have hX : X < 4294967296 := by have := hux.2; omega
   refine JC_skip ?_
   refine thenQ_n ?_
   refine JC_seq ?_
   refine JC_block ?_
   refine JC_seq ?_
   refine JC_region ?_
   refine JO_q (QE_ia1 rfl rfl rfl rfl rfl rfl hk) rfl ?_
   refine JO_q (QE_ldsR0 rfl rfl rfl (hcx.le (Le.refl (D := D) _)) rfl) rfl ?_
   refine JO_q (QE_as rfl) rfl ?_
   refine JO_nil ?_
   refine thenQ_n ?_
   refine JC_seq ?_
   refine JC_block ?_
   refine JC_loop (γ := Nat × Value × Hl × List UInt8) (fun g => [(2, _), (3, _), (4, g.2.1), (6, .int .u32 (g.1 : Int)), (11, _), (12, _), (13, _)]) (fun g => (β1, cb [.int .i64 0, .int .i64 0] 27) :: (g.2.2.1 ++ L)) (fun g tw => Le D s4 tw ∧ (Own 5 1 g.2.2.1 g.2.1 g.2.2.2.length (bv g.2.2.2) ∧ out ++ grp X = g.2.2.2 ++ grp g.1 ∧ g.1 < 4294967296)) (fun g => g.1) (fun _ _ _ h hl => ⟨h.1.trans hl, h.2⟩) (X, vo, Mo, out) (Keeps.cons rfl (Keeps.cons rfl (Keeps.cons rfl (Keeps.cons rfl (Keeps.cons rfl (Keeps.cons rfl (Keeps.cons rfl (Keeps.nil _)))))))) rfl ⟨Le.refl _, ⟨hO, rfl, by simp only; omega⟩⟩ ?_
   intro g s6 I6
   obtain ⟨w, v1, M1, out1⟩ := g
   obtain ⟨hO1, hG1, hwl⟩ := I6.2
   simp only at hO1 hG1 hwl
   dsimp only
   have hln := congrArg List.length hG1
   simp only [List.length_append] at hln
   have hgx := grp_len hX
   have hgp := grp_pos w
   refine JC_seq ?_
   refine JC_seq ?_
   refine JC_region ?_
   refine JO_q (QE_mv rfl) rfl ?_
   refine JO_q (QE_ge rfl rfl) rfl ?_
   refine JO_nil ?_
   refine thenQ_n ?_
   refine JC_ifD rfl (fun c7 => ?_) (fun c7 => ?_)
   ·
    have hw : ¬ w < 128 := by omega
    refine JC_skip ?_
    refine thenQ_n ?_
    refine JC_seq ?_
    refine JC_block ?_
    refine JC_region ?_
    refine JO_q (QE_mv rfl) rfl ?_
    refine JO_q (QE_mv rfl) rfl ?_
    refine JO_q (QE_conv rfl rfl rfl rfl rfl) rfl ?_
    refine JO_q (QE_bin rfl rfl notEq_or (run_or128 w)) rfl ?_
    refine JO_bs [(_, _)] [_] rfl rfl rfl rfl rfl rfl rfl rfl rfl ?_
    intro βn s8 h8 hcb
    refine JO_app (sz := 1) [_] M1 L rfl rfl rfl rfl rfl rfl rfl hO1 (Row.of_cells (hcb.le (Le.refl (D := D) _)) rfl rfl) ⟨by simp [ti5]; omega, by omega⟩ rfl ?_
    intro v3 M3 s9 h9 o3
    obtain ⟨Av3, cv3, rfl, _, _⟩ := Own.slice o3
    simp only [List.cons_append, List.nil_append]
    refine JO_q (QE_as rfl) rfl ?_
    refine JO_nil ?_
    refine blockQ_n ?_
    refine thenQ_n ?_
    refine JC_region ?_
    refine JO_q (QE_mv rfl) rfl ?_
    refine JO_q (QE_bin rfl rfl notEq_shr (run_shr7 hwl)) rfl ?_
    refine JO_q (QE_as rfl) rfl ?_
    refine JO_nil ?_
    refine thenQ_n ⟨(w / 128, .slice Av3 (out1.length + 1) cv3, M3, out1 ++ [UInt8.ofNat (w % 128 + 128)]), [], (Keeps.cons rfl (Keeps.cons rfl (Keeps.cons rfl (Keeps.cons rfl (Keeps.cons rfl (Keeps.cons rfl (Keeps.cons rfl (Keeps.nil _)))))))), rfl, ⟨(Le.trans (Le.trans I6.1 h8) h9), ⟨by simp only [List.length_append, List.length_cons, List.length_nil, bv_snoc]; exact o3, by simp only; rw [hG1, grp_big hw]; simp, by simp only; omega⟩⟩, (by simp only; omega)⟩
   ·
    have hw : w < 128 := by omega
    refine JC_exit ?_
    refine thenQ_x ?_
    refine thenQ_x ?_
    refine blockQ_x ?_
    refine thenQ_n ?_
    refine JC_region ?_
    refine JO_q (QE_mv rfl) rfl ?_
    refine JO_q (QE_mv rfl) rfl ?_
    refine JO_q (QE_cast (QE_conv rfl rfl rfl rfl rfl) (byteN hw)) rfl ?_
    refine JO_bs [(_, _)] [_] rfl rfl rfl rfl rfl rfl rfl rfl rfl ?_
    intro βn s10 h10 hcb
    refine JO_app (sz := 1) [_] M1 L rfl rfl rfl rfl rfl rfl rfl hO1 (Row.of_cells (hcb.le (Le.refl (D := D) _)) rfl rfl) ⟨by simp [ti5]; omega, by omega⟩ rfl ?_
    intro v2 M2 s11 h11 o2
    obtain ⟨Av2, cv2, rfl, _, _⟩ := Own.slice o2
    simp only [List.cons_append, List.nil_append]
    refine JO_q (QE_as rfl) rfl ?_
    refine JO_nil ?_
    refine blockQ_n ?_
    refine thenQ_n ?_
    refine JC_region ?_
    refine JO_q (QE_add' rfl rfl (w64 (by omega) (by omega))) rfl ?_
    refine JO_q (QE_mv rfl) rfl ?_
    refine JO_nil ?_
    refine thenQ_n ⟨(k + 1, .slice Av2 (out1.length + 1) cv2, M2, out1 ++ [UInt8.ofNat w]), [], (Keeps.cons rfl (Keeps.cons rfl (Keeps.cons rfl (Keeps.cons rfl (Keeps.cons rfl (Keeps.cons rfl (Keeps.nil _))))))), rfl, ⟨(Le.trans (Le.trans (Le.trans I4.1 I6.1) h10) h11), ⟨by simp only; omega, by simp only [List.length_append, List.length_cons, List.length_nil, bv_snoc]; exact o2, by simp only; rw [hS, pack_at hx, Int.toNat_natCast, ← List.append_assoc, hG1, grp_small hw], by simp only [List.length_append, List.length_cons, List.length_nil]; rw [grp_small hw] at hln; simp only [List.length_cons, List.length_nil] at hln; omega⟩⟩, (by simp only; omega)⟩
  ·
   rw [List.drop_eq_nil_of_le (by omega)] at hS
   obtain ⟨Ao, co, rfl, _, _⟩ := Own.slice hO
   refine JC_exit ?_
   refine thenQ_x ?_
   refine thenQ_x ?_
   refine blockQ_x ?_
   refine thenQ_n ?_
   refine JC_seq ?_
   refine JC_region ?_
   refine JO_q (QE_mv rfl) rfl ?_
   refine JO_q (QE_build [] [_, _] rfl rfl rfl rfl rfl rfl) rfl ?_
   refine JO_q (QE_as rfl) rfl ?_
   refine JO_st 0 [_, _] rfl rfl rfl rfl rfl rfl rfl rfl rfl ?_
   refine JO_nil ?_
   refine thenQ_n ?_
   refine JC_ret ?_
   refine retQ_mk [_] _ (.inr rfl) (.tmp rfl (.agg (us := [_, _]) 0 rfl rfl rfl rfl rfl (.nil))) rfl (Le.trans h1 I4.1) (fun sR hS2 => ?_)
   first
     | (refine ⟨[], rfl, fun s2 hs2 hp => ⟨none, 0, 0, ?_, ?_⟩⟩
        · rw [packE, if_pos hlong]; rfl
        · rw [packS, if_pos hlong]; exact Bts.nil _ _ _ (by omega))
     | (refine ⟨Mo, rfl, fun s2 hs2 hp => ⟨Ao, out.length, co, ?_, ?_⟩⟩
        · rw [packE, if_neg hlong]; rfl
        · rw [packS, if_neg hlong, hS]; simp only [packF, List.map_nil, List.flatten_nil, List.append_nil]; exact Own.bts hO hp)
set_option maxHeartbeats 4000000 in
set_option maxRecDepth 100000 in
theorem unpackO_ac (D : Nat) (L : Hl) (s : World) (A : Option Addr) (n c : Nat) (l : List UInt8) (hA : Bts s A n c l) : AC Tryz.prog D 32 [.slice A n c] L s fun v L' s' => ∃ M', L' = M' ++ L ∧ ∀ s2, Le D s' s2 → Pub M' s2 → ∃ A1 n1 c1, v = .tuple #[.slice A1 n1 c1, .agg #[.int .i64 (unpE l).1, .int .i64 (unpE l).2]] ∧ Wds s2 A1 n1 c1 (unpS l) := by
 have hn := hA.1
 refine AC_enter (TT := TT) (fn := Tryz.f32) TT_ok Tryz.func32 (by kernel_rfl) rfl Tryz.ntmps32 rfl (rs := [.tmp 2, .cell 3 27]) rfl [(0, _)] rfl ?_
 refine JC_seq ?_
 refine JC_region ?_
 refine JO_q (QE_as rfl) rfl ?_
 refine JO_allocZ rfl [_, _] rfl rfl ?_
 intro β1 s1 h1
 refine JO_nil ?_
 refine thenQ_n ?_
 refine JC_seq ?_
 refine JC_seq ?_
 refine JC_region ?_
 refine JO_q (QE_mv rfl) rfl ?_
 refine JO_q (QE_lenS rfl rfl rfl) rfl ?_
 refine JO_q (QE_gt rfl rfl) rfl ?_
 refine JO_nil ?_
 refine thenQ_n ?_
 refine JC_ifD rfl (fun c2 => ?_) (fun c2 => ?_)
 ·
  have hlong : 327680 < l.length := by omega
  refine JC_seq ?_
  refine JC_region ?_
  refine JO_call (first := []) (captured := []) rfl rfl rfl (afault_ac D _ _ _ _) ?_
  rintro _ _ s3 h3 ⟨rfl, rfl⟩
  refine JO_q (QE_as rfl) rfl ?_
  refine JO_st 0 [_, _] rfl rfl rfl rfl rfl rfl rfl rfl rfl ?_
  refine JO_nil ?_
  refine thenQ_n ?_
  refine JC_ret ?_
  refine thenQ_r ?_
  refine retQ_mk [_] _ (.inr rfl) (.tmp rfl (.agg (us := [_, _]) 0 rfl rfl rfl rfl rfl (.nil))) rfl (Le.trans h1 h3) (fun sR hS2 => ?_)
  first
    | (refine ⟨[], rfl, fun s2 hs2 hp => ⟨none, 0, 0, ?_, ?_⟩⟩
       · rw [(unp_l (unp_long hlong)).2]; rfl
       · rw [(unp_l (unp_long hlong)).1]; exact Wds.nil _ _ _ (by omega))
    | (have hE := unp_l (unp_err hlong (by rw [hS]; exact upF_err hne htr))
       refine ⟨[], rfl, fun s2 hs2 hp => ⟨none, 0, 0, ?_, ?_⟩⟩
       · rw [hE.2]; rfl
       · rw [hE.1]; exact Wds.nil _ _ _ (by omega))
    | (have hE := unp_l (unp_err hlong (by rw [hS]; exact upF_err hne hfm))
       refine ⟨[], rfl, fun s2 hs2 hp => ⟨none, 0, 0, ?_, ?_⟩⟩
       · rw [hE.2]; rfl
       · rw [hE.1]; exact Wds.nil _ _ _ (by omega))
    | (have hE := unp_l (unp_err hlong (by rw [hS]; exact upF_form hne hUP h62))
       refine ⟨[], rfl, fun s2 hs2 hp => ⟨none, 0, 0, ?_, ?_⟩⟩
       · rw [hE.2]; rfl
       · rw [hE.1]; exact Wds.nil _ _ _ (by omega))
    | (have hE := unp_l (unp_big hlong hS hbig)
       refine ⟨[], rfl, fun s2 hs2 hp => ⟨none, 0, 0, ?_, ?_⟩⟩
       · rw [hE.2]; rfl
       · rw [hE.1]; exact Wds.nil _ _ _ (by omega))
    | (have hE := unp_r (unp_ok hlong hS hbig)
       refine ⟨Mo, rfl, fun s2 hs2 hp => ⟨Ao, out.length, co, ?_, ?_⟩⟩
       · rw [hE.2]; rfl
       · rw [hE.1]; exact Own.wds hO huo hp)
 ·
  have hlong : ¬ 327680 < l.length := by omega
  refine JC_skip ?_
  refine thenQ_n ?_
  refine JC_seq ?_
  refine JC_region ?_
  refine JO_q (QE_as rfl) rfl ?_
  refine JO_nil ?_
  refine thenQ_n ?_
  refine JC_seq ?_
  refine JC_seq ?_
  refine JC_region ?_
  refine JO_q (QE_as rfl) rfl ?_
  refine JO_nil ?_
  refine thenQ_n ?_
  refine JC_block ?_
  refine JC_loop (γ := Nat × Value × Hl × List Int) (fun g => [(0, _), (2, _), (3, _), (4, g.2.1), (5, .int .i64 (g.1 : Int))]) (fun g => (β1, cb [.int .i64 0, .int .i64 0] 27) :: (g.2.2.1 ++ L)) (fun g tw => Le D s1 tw ∧ (g.1 ≤ n ∧ Own 52 1 g.2.2.1 g.2.1 g.2.2.2.length (wv g.2.2.2) ∧ (∀ x ∈ g.2.2.2, U32 x) ∧ g.2.2.2.length ≤ g.1 ∧ upF 0 [] l = upF g.1 g.2.2.2 (l.drop g.1))) (fun g => n - g.1) (fun _ _ _ h hl => ⟨h.1.trans hl, h.2⟩) (0, .slice none 0 0, [], []) (Keeps.cons rfl (Keeps.cons rfl (Keeps.cons rfl (Keeps.cons rfl (Keeps.cons rfl (Keeps.nil _)))))) rfl ⟨Le.refl _, ⟨Nat.zero_le _, Own.nil, (fun _ h => by cases h), Nat.le_refl _, rfl⟩⟩ ?_
  intro g s4 I4
  obtain ⟨k, vo, Mo, out⟩ := g
  obtain ⟨hk0, hO, huo, hol, hS⟩ := I4.2
  simp only at hk0 hO huo hol hS
  dsimp only
  refine JC_seq ?_
  refine JC_seq ?_
  refine JC_region ?_
  refine JO_q (QE_mv rfl) rfl ?_
  refine JO_q (QE_mv rfl) rfl ?_
  refine JO_q (QE_lenS rfl rfl rfl) rfl ?_
  refine JO_q (QE_lt rfl rfl) rfl ?_
  refine JO_nil ?_
  refine thenQ_n ?_
  refine JC_ifD rfl (fun c5 => ?_) (fun c5 => ?_)
  ·
   have hk : k < n := by omega
   have hne : l.drop k ≠ [] := by rw [ne_eq, List.drop_eq_nil_iff]; omega
   refine JC_skip ?_
   refine thenQ_n ?_
   refine JC_block ?_
   refine JC_seq ?_
   refine JC_region ?_
   refine JO_q (QE_as rfl) rfl ?_
   refine JO_q (QE_as rfl) rfl ?_
   refine JO_nil ?_
   refine thenQ_n ?_
   refine JC_seq ?_
   refine JC_block ?_
   refine JC_loop (γ := Nat × Nat) (fun g => [(0, _), (2, _), (3, _), (4, _), (5, _), (6, .int .u64 (g.2 : Int)), (7, .int .i64 (g.1 : Int))]) (fun g => (β1, cb [.int .i64 0, .int .i64 0] 27) :: (Mo ++ L)) (fun g tw => Le D s4 tw ∧ (g.1 ≤ 4 ∧ k + g.1 ≤ n ∧ g.2 < 128 ^ g.1 ∧ upG 0 0 (l.drop k) = upG g.1 g.2 (l.drop (k + g.1)))) (fun g => 5 - g.1) (fun _ _ _ h hl => ⟨h.1.trans hl, h.2⟩) (0, 0) (Keeps.cons rfl (Keeps.cons rfl (Keeps.cons rfl (Keeps.cons rfl (Keeps.cons rfl (Keeps.cons rfl (Keeps.cons rfl (Keeps.nil _)))))))) rfl ⟨Le.refl _, ⟨by simp only; omega, by simp only; omega, by simp, rfl⟩⟩ ?_
   intro g s6 I6
   obtain ⟨sz, nn⟩ := g
   obtain ⟨hsz, hks, hnn, hU⟩ := I6.2
   simp only at hsz hks hnn hU
   dsimp only
   refine JC_block ?_
   refine JC_seq ?_
   refine JC_seq ?_
   refine JC_region ?_
   refine JO_q (QE_mv rfl) rfl ?_
   refine JO_q (QE_mv rfl) rfl ?_
   refine JO_q (QE_add' rfl rfl (w64 (by omega) (by omega))) rfl ?_
   refine JO_q (QE_mv rfl) rfl ?_
   refine JO_q (QE_lenS rfl rfl rfl) rfl ?_
   refine JO_q (QE_eq rfl rfl) rfl ?_
   refine JO_nil ?_
   refine thenQ_n ?_
   refine JC_ifD rfl (fun c7 => ?_) (fun c7 => ?_)
   ·
    have htr : upG 0 0 (l.drop k) = .inl 15 := by rw [hU, List.drop_eq_nil_of_le (by omega), upG]
    refine JC_seq ?_
    refine JC_region ?_
    refine JO_q (QE_mv rfl) rfl ?_
    refine JO_call (first := []) (captured := []) rfl rfl rfl (afault_ac D _ _ _ _) ?_
    rintro _ _ s8 h8 ⟨rfl, rfl⟩
    refine JO_q (QE_as rfl) rfl ?_
    refine JO_st 0 [_, _] rfl rfl rfl rfl rfl rfl rfl rfl rfl ?_
    refine JO_nil ?_
    refine thenQ_n ?_
    refine JC_ret ?_
    refine thenQ_r ?_
    refine blockQ_r ?_
    refine thenQ_r ?_
    refine blockQ_r ?_
    refine thenQ_r ?_
    refine blockQ_r ?_
    refine thenQ_r ?_
    refine blockQ_r ?_
    refine thenQ_r ?_
    refine retQ_mk (_ :: Mo) _ (.inr rfl) (.tmp rfl (.agg (us := [_, _]) 0 rfl rfl rfl rfl rfl (.nil))) rfl (Le.trans (Le.trans (Le.trans h1 I4.1) I6.1) h8) (fun sR hS2 => ?_)
    first
      | (refine ⟨[], rfl, fun s2 hs2 hp => ⟨none, 0, 0, ?_, ?_⟩⟩
         · rw [(unp_l (unp_long hlong)).2]; rfl
         · rw [(unp_l (unp_long hlong)).1]; exact Wds.nil _ _ _ (by omega))
      | (have hE := unp_l (unp_err hlong (by rw [hS]; exact upF_err hne htr))
         refine ⟨[], rfl, fun s2 hs2 hp => ⟨none, 0, 0, ?_, ?_⟩⟩
         · rw [hE.2]; rfl
         · rw [hE.1]; exact Wds.nil _ _ _ (by omega))
      | (have hE := unp_l (unp_err hlong (by rw [hS]; exact upF_err hne hfm))
         refine ⟨[], rfl, fun s2 hs2 hp => ⟨none, 0, 0, ?_, ?_⟩⟩
         · rw [hE.2]; rfl
         · rw [hE.1]; exact Wds.nil _ _ _ (by omega))
      | (have hE := unp_l (unp_err hlong (by rw [hS]; exact upF_form hne hUP h62))
         refine ⟨[], rfl, fun s2 hs2 hp => ⟨none, 0, 0, ?_, ?_⟩⟩
         · rw [hE.2]; rfl
         · rw [hE.1]; exact Wds.nil _ _ _ (by omega))
      | (have hE := unp_l (unp_big hlong hS hbig)
         refine ⟨[], rfl, fun s2 hs2 hp => ⟨none, 0, 0, ?_, ?_⟩⟩
         · rw [hE.2]; rfl
         · rw [hE.1]; exact Wds.nil _ _ _ (by omega))
      | (have hE := unp_r (unp_ok hlong hS hbig)
         refine ⟨Mo, rfl, fun s2 hs2 hp => ⟨Ao, out.length, co, ?_, ?_⟩⟩
         · rw [hE.2]; rfl
         · rw [hE.1]; exact Own.wds hO huo hp)
   ·
    have hks2 : k + sz < n := by omega
    obtain ⟨b, off, ch, rfl, hch, hcc⟩ := Bts.at_ (hA.le (Le.trans (Le.trans h1 I4.1) I6.1)) hks2
    have hdr : l.drop (k + sz) = ch :: l.drop (k + sz + 1) := by
      obtain ⟨hk2, rfl⟩ := List.getElem?_eq_some_iff.1 hch
      exact List.drop_eq_getElem_cons hk2
    have hc256 := ch.toNat_lt
    have hgr := grow128 (c := ch) hnn
    have hp5 : 128 ^ (sz + 1) ≤ 128 ^ 5 := Nat.pow_le_pow_right (by omega) (by omega)
    refine JC_skip ?_
    refine thenQ_n ?_
    refine JC_seq ?_
    refine JC_region ?_
    refine JO_q (QE_mv rfl) rfl ?_
    refine JO_q (QE_mv rfl) rfl ?_
    refine JO_q (QE_mv rfl) rfl ?_
    refine JO_q (QE_add' (c := ((k + sz : Nat) : Int)) rfl rfl (by rw [w64 (by omega) (by omega)]; simp)) rfl ?_
    refine JO_q (QE_ia1 rfl rfl rfl rfl rfl rfl hks2) rfl ?_
    refine JO_q (QE_ldsR0 rfl rfl rfl (hcc.le (Le.refl (D := D) _)) rfl) rfl ?_
    refine JO_q (QE_as rfl) rfl ?_
    refine JO_nil ?_
    refine thenQ_n ?_
    refine JC_seq ?_
    refine JC_region ?_
    refine JO_q (QE_mv rfl) rfl ?_
    refine JO_q (QE_mv rfl) rfl ?_
    refine JO_q (QE_bin rfl rfl notEq_and (run_and127 ch)) rfl ?_
    refine JO_q (QE_conv' rfl rfl rfl rfl rfl (w64u (by omega) (by omega))) rfl ?_
    refine JO_q (QE_mv rfl) rfl ?_
    refine JO_q (QE_mul' rfl rfl (w64 (by omega) (by omega))) rfl ?_
    refine JO_q (QE_bin rfl rfl notEq_shl (run_shl64 (by omega) (by omega))) rfl ?_
    refine JO_q (QE_bin rfl rfl notEq_or (run_or64 hnn (by omega) (by omega))) rfl ?_
    refine JO_q (QE_as rfl) rfl ?_
    refine JO_nil ?_
    refine thenQ_n ?_
    refine JC_seq ?_
    refine JC_region ?_
    refine JO_q (QE_mv rfl) rfl ?_
    refine JO_q (QE_add' rfl rfl (w64 (by omega) (by omega))) rfl ?_
    refine JO_q (QE_as rfl) rfl ?_
    refine JO_nil ?_
    refine thenQ_n ?_
    refine JC_seq ?_
    refine JC_seq ?_
    refine JC_region ?_
    refine JO_q (QE_mv rfl) rfl ?_
    refine JO_q (QE_lt rfl rfl) rfl ?_
    refine JO_nil ?_
    refine thenQ_n ?_
    refine JC_ifD rfl (fun c9 => ?_) (fun c9 => ?_)
    ·
     have hc : ch.toNat < 128 := by omega
     have hUP : upG 0 0 (l.drop k) = .inr (nn + ch.toNat % 128 * 128 ^ sz, sz + 1, ch, l.drop (k + (sz + 1))) := by rw [hU, hdr, upG, if_pos hc, show k + (sz + 1) = k + sz + 1 by omega]
     refine JC_exit ?_
     refine thenQ_x ?_
     refine blockQ_xo rfl ?_
     refine thenQ_x ?_
     refine blockQ_x ?_
     refine thenQ_n ?_
     refine JC_seq ?_
     refine JC_cutB 62 (4294967295 < nn + ch.toNat % 128 * 128 ^ sz ∨ (1 < sz + 1 ∧ ch = 0)) ?_ ?_
     ·
      refine JC_region ?_
      refine JO_q (QE_mv rfl) rfl ?_
      refine JO_q (QE_gt rfl rfl) rfl ?_
      refine JO_q (QE_mv rfl) rfl ?_
      refine JO_caseD (t := 49) rfl (fun c11 => ?_) (fun c11 => ?_)
      ·
       refine JO_gF rfl rfl rfl rfl ?_
       refine JO_gF rfl rfl rfl rfl ?_
       refine JO_gF rfl rfl rfl rfl ?_
       refine JO_gU rfl rfl rfl ?_
       refine JO_gU rfl rfl rfl ?_
       refine JO_gU rfl rfl rfl ?_
       refine JO_gU rfl rfl rfl ?_
       refine JO_gU rfl rfl rfl ?_
       refine JO_gU rfl rfl rfl ?_
       refine JO_gU rfl rfl rfl ?_
       refine JO_gU rfl rfl rfl ?_
       refine JO_gF rfl rfl rfl rfl ?_
       refine JO_q (QE_pickT rfl rfl) rfl ?_
       refine JO_nil ?_
       refine thenQ_n (MidB.mk (Le.refl (D := D) _) (by repeat (first | exact Suf.refl | refine Suf.push rfl ?_)) rfl ((decide_eq_true (by first | exact .inl (by omega) | (intro h; rcases h with h | h <;> omega))).symm))
      ·
       refine JO_gT rfl rfl ?_
       refine JO_q (QE_mv rfl) rfl ?_
       refine JO_gT rfl rfl ?_
       refine JO_q (QE_gt rfl rfl) rfl ?_
       refine JO_gT rfl rfl ?_
       refine JO_q (QE_mv rfl) rfl ?_
       refine JO_caseD (t := 52) rfl (fun c12 => ?_) (fun c12 => ?_)
       ·
        refine JO_gT rfl rfl ?_
        refine JO_q (QE_mv rfl) rfl ?_
        refine JO_gT rfl rfl ?_
        refine JO_q (QE_mv rfl) rfl ?_
        refine JO_gT rfl rfl ?_
        refine JO_q (QE_mv rfl) rfl ?_
        refine JO_gT rfl rfl ?_
        refine JO_q (QE_add' rfl rfl (w64 (by omega) (by omega))) rfl ?_
        refine JO_gT rfl rfl ?_
        refine JO_q (QE_sub' (c := ((k + sz : Nat) : Int)) rfl rfl (by rw [w64 (by omega) (by omega)]; omega)) rfl ?_
        refine JO_gT rfl rfl ?_
        refine JO_q (QE_ia1 rfl rfl rfl rfl rfl rfl hks2) rfl ?_
        refine JO_gT rfl rfl ?_
        refine JO_q (QE_ldsR0 rfl rfl rfl (hcc.le (Le.refl (D := D) _)) rfl) rfl ?_
        refine JO_gT rfl rfl ?_
        refine JO_q (QE_eq rfl rfl) rfl ?_
        refine JO_gT rfl rfl ?_
        refine JO_q (QE_pickT rfl rfl) rfl ?_
        refine JO_q (QE_pickF rfl rfl) rfl ?_
        refine JO_nil ?_
        refine thenQ_n (MidB.mk (Le.refl (D := D) _) (by repeat (first | exact Suf.refl | refine Suf.push rfl ?_)) rfl (decide_eq_decide.2 (⟨fun h => .inr ⟨by omega, u8_eq.2 h⟩, fun h => h.elim (fun h => absurd h (by omega)) (fun h => u8_eq.1 h.2)⟩)))
       ·
        refine JO_gF rfl rfl rfl rfl ?_
        refine JO_gF rfl rfl rfl rfl ?_
        refine JO_gF rfl rfl rfl rfl ?_
        refine JO_gF rfl rfl rfl rfl ?_
        refine JO_gF rfl rfl rfl rfl ?_
        refine JO_gF rfl rfl rfl rfl ?_
        refine JO_gF rfl rfl rfl rfl ?_
        refine JO_gF rfl rfl rfl rfl ?_
        refine JO_gT rfl rfl ?_
        refine JO_q (QE_pickF rfl rfl) rfl ?_
        refine JO_q (QE_pickF rfl rfl) rfl ?_
        refine JO_nil ?_
        refine thenQ_n (MidB.mk (Le.refl (D := D) _) (by repeat (first | exact Suf.refl | refine Suf.push rfl ?_)) rfl ((decide_eq_false (by first | exact .inl (by omega) | (intro h; rcases h with h | h <;> omega))).symm))
     ·
      intro s10 h10
      refine JC_ifD rfl (fun c13 => ?_) (fun c13 => ?_)
      ·
       have h62 := c13
       refine JC_seq ?_
       refine JC_region ?_
       refine JO_q (QE_mv rfl) rfl ?_
       refine JO_call (first := []) (captured := []) rfl rfl rfl (afault_ac D _ _ _ _) ?_
       rintro _ _ s14 h14 ⟨rfl, rfl⟩
       refine JO_q (QE_as rfl) rfl ?_
       refine JO_st 0 [_, _] rfl rfl rfl rfl rfl rfl rfl rfl rfl ?_
       refine JO_nil ?_
       refine thenQ_n ?_
       refine JC_ret ?_
       refine thenQ_r ?_
       refine blockQ_r ?_
       refine thenQ_r ?_
       refine blockQ_r ?_
       refine thenQ_r ?_
       refine retQ_mk (_ :: Mo) _ (.inr rfl) (.tmp rfl (.agg (us := [_, _]) 0 rfl rfl rfl rfl rfl (.nil))) rfl (Le.trans (Le.trans (Le.trans (Le.trans h1 I4.1) I6.1) h10) h14) (fun sR hS2 => ?_)
       first
         | (refine ⟨[], rfl, fun s2 hs2 hp => ⟨none, 0, 0, ?_, ?_⟩⟩
            · rw [(unp_l (unp_long hlong)).2]; rfl
            · rw [(unp_l (unp_long hlong)).1]; exact Wds.nil _ _ _ (by omega))
         | (have hE := unp_l (unp_err hlong (by rw [hS]; exact upF_err hne htr))
            refine ⟨[], rfl, fun s2 hs2 hp => ⟨none, 0, 0, ?_, ?_⟩⟩
            · rw [hE.2]; rfl
            · rw [hE.1]; exact Wds.nil _ _ _ (by omega))
         | (have hE := unp_l (unp_err hlong (by rw [hS]; exact upF_err hne hfm))
            refine ⟨[], rfl, fun s2 hs2 hp => ⟨none, 0, 0, ?_, ?_⟩⟩
            · rw [hE.2]; rfl
            · rw [hE.1]; exact Wds.nil _ _ _ (by omega))
         | (have hE := unp_l (unp_err hlong (by rw [hS]; exact upF_form hne hUP h62))
            refine ⟨[], rfl, fun s2 hs2 hp => ⟨none, 0, 0, ?_, ?_⟩⟩
            · rw [hE.2]; rfl
            · rw [hE.1]; exact Wds.nil _ _ _ (by omega))
         | (have hE := unp_l (unp_big hlong hS hbig)
            refine ⟨[], rfl, fun s2 hs2 hp => ⟨none, 0, 0, ?_, ?_⟩⟩
            · rw [hE.2]; rfl
            · rw [hE.1]; exact Wds.nil _ _ _ (by omega))
         | (have hE := unp_r (unp_ok hlong hS hbig)
            refine ⟨Mo, rfl, fun s2 hs2 hp => ⟨Ao, out.length, co, ?_, ?_⟩⟩
            · rw [hE.2]; rfl
            · rw [hE.1]; exact Own.wds hO huo hp)
      ·
       have h62 := c13
       refine JC_skip ?_
       refine thenQ_n ?_
       refine JC_seq ?_
       refine JC_region ?_
       refine JO_q (QE_mv rfl) rfl ?_
       refine JO_q (QE_mv rfl) rfl ?_
       refine JO_q (QE_conv' rfl rfl rfl rfl rfl (wrap_small (by omega))) rfl ?_
       refine JO_bs [(_, _)] [_] rfl rfl rfl rfl rfl rfl rfl rfl rfl ?_
       intro βn s15 h15 hcb
       refine JO_app (sz := 1) [_] Mo L rfl rfl rfl rfl rfl rfl rfl hO (Row.of_cells (hcb.le (Le.refl (D := D) _)) rfl rfl) ⟨by simp [ti52]; omega, by omega⟩ rfl ?_
       intro v2 M2 s16 h16 o2
       obtain ⟨Av2, cv2, rfl, _, _⟩ := Own.slice o2
       simp only [List.cons_append, List.nil_append]
       refine JO_q (QE_as rfl) rfl ?_
       refine JO_nil ?_
       refine thenQ_n ?_
       refine JC_region ?_
       refine JO_q (QE_mv rfl) rfl ?_
       refine JO_q (QE_mv rfl) rfl ?_
       refine JO_q (QE_add' rfl rfl (w64 (by omega) (by omega))) rfl ?_
       refine JO_q (QE_as rfl) rfl ?_
       refine JO_nil ?_
       refine blockQ_n ?_
       refine thenQ_n ⟨(k + (sz + 1), .slice Av2 (out.length + 1) cv2, M2, out ++ [((nn + ch.toNat % 128 * 128 ^ sz : Nat) : Int)]), [], (Keeps.cons rfl (Keeps.cons rfl (Keeps.cons rfl (Keeps.cons rfl (Keeps.cons (congrArg some (congrArg (Value.int .i64) (by simp only; omega))) (Keeps.nil _)))))), rfl, ⟨(Le.trans (Le.trans (Le.trans (Le.trans I4.1 I6.1) h10) h15) h16), ⟨by simp only; omega, by simp only [List.length_append, List.length_cons, List.length_nil, wv_snoc]; exact o2, snoc_u huo (u32N (by omega)), by simp only [List.length_append, List.length_cons, List.length_nil]; omega, by simp only; rw [hS, upF_more hne hUP h62]⟩⟩, (by simp only; omega)⟩
    ·
     have hc : ¬ ch.toNat < 128 := by omega
     refine JC_skip ?_
     refine thenQ_n ?_
     refine JC_seq ?_
     refine JC_region ?_
     refine JO_q (QE_mv rfl) rfl ?_
     refine JO_q (QE_eq rfl rfl) rfl ?_
     refine JO_nil ?_
     refine thenQ_n ?_
     refine JC_ifD rfl (fun c17 => ?_) (fun c17 => ?_)
     ·
      have hfm : upG 0 0 (l.drop k) = .inl 6 := by rw [hU, hdr, upG, if_neg hc, if_pos (by omega)]
      refine JC_seq ?_
      refine JC_region ?_
      refine JO_q (QE_mv rfl) rfl ?_
      refine JO_call (first := []) (captured := []) rfl rfl rfl (afault_ac D _ _ _ _) ?_
      rintro _ _ s18 h18 ⟨rfl, rfl⟩
      refine JO_q (QE_as rfl) rfl ?_
      refine JO_st 0 [_, _] rfl rfl rfl rfl rfl rfl rfl rfl rfl ?_
      refine JO_nil ?_
      refine thenQ_n ?_
      refine JC_ret ?_
      refine blockQ_r ?_
      refine thenQ_r ?_
      refine blockQ_r ?_
      refine thenQ_r ?_
      refine blockQ_r ?_
      refine thenQ_r ?_
      refine blockQ_r ?_
      refine thenQ_r ?_
      refine retQ_mk (_ :: Mo) _ (.inr rfl) (.tmp rfl (.agg (us := [_, _]) 0 rfl rfl rfl rfl rfl (.nil))) rfl (Le.trans (Le.trans (Le.trans h1 I4.1) I6.1) h18) (fun sR hS2 => ?_)
      first
        | (refine ⟨[], rfl, fun s2 hs2 hp => ⟨none, 0, 0, ?_, ?_⟩⟩
           · rw [(unp_l (unp_long hlong)).2]; rfl
           · rw [(unp_l (unp_long hlong)).1]; exact Wds.nil _ _ _ (by omega))
        | (have hE := unp_l (unp_err hlong (by rw [hS]; exact upF_err hne htr))
           refine ⟨[], rfl, fun s2 hs2 hp => ⟨none, 0, 0, ?_, ?_⟩⟩
           · rw [hE.2]; rfl
           · rw [hE.1]; exact Wds.nil _ _ _ (by omega))
        | (have hE := unp_l (unp_err hlong (by rw [hS]; exact upF_err hne hfm))
           refine ⟨[], rfl, fun s2 hs2 hp => ⟨none, 0, 0, ?_, ?_⟩⟩
           · rw [hE.2]; rfl
           · rw [hE.1]; exact Wds.nil _ _ _ (by omega))
        | (have hE := unp_l (unp_err hlong (by rw [hS]; exact upF_form hne hUP h62))
           refine ⟨[], rfl, fun s2 hs2 hp => ⟨none, 0, 0, ?_, ?_⟩⟩
           · rw [hE.2]; rfl
           · rw [hE.1]; exact Wds.nil _ _ _ (by omega))
        | (have hE := unp_l (unp_big hlong hS hbig)
           refine ⟨[], rfl, fun s2 hs2 hp => ⟨none, 0, 0, ?_, ?_⟩⟩
           · rw [hE.2]; rfl
           · rw [hE.1]; exact Wds.nil _ _ _ (by omega))
        | (have hE := unp_r (unp_ok hlong hS hbig)
           refine ⟨Mo, rfl, fun s2 hs2 hp => ⟨Ao, out.length, co, ?_, ?_⟩⟩
           · rw [hE.2]; rfl
           · rw [hE.1]; exact Own.wds hO huo hp)
     ·
      refine JC_skip ?_
      refine blockQ_n ?_
      refine thenQ_n ⟨(sz + 1, nn + ch.toNat % 128 * 128 ^ sz), [], (Keeps.cons rfl (Keeps.cons rfl (Keeps.cons rfl (Keeps.cons rfl (Keeps.cons rfl (Keeps.cons rfl (Keeps.cons rfl (Keeps.nil _)))))))), rfl, ⟨I6.1, ⟨by simp only; omega, by simp only; omega, by simp only; exact grow128 hnn, by simp only; rw [hU, hdr, upG, if_neg hc, if_neg (by omega), show k + (sz + 1) = k + sz + 1 by omega]⟩⟩, (by simp only; omega)⟩
  ·
   rw [List.drop_eq_nil_of_le (by omega), upF_nil] at hS
   obtain ⟨Ao, co, rfl, _, _⟩ := Own.slice hO
   refine JC_exit ?_
   refine thenQ_x ?_
   refine thenQ_x ?_
   refine blockQ_x ?_
   refine thenQ_n ?_
   refine JC_seq ?_
   refine JC_seq ?_
   refine JC_region ?_
   refine JO_q (QE_mv rfl) rfl ?_
   refine JO_q (QE_lenS rfl rfl rfl) rfl ?_
   refine JO_q (QE_gt rfl rfl) rfl ?_
   refine JO_nil ?_
   refine thenQ_n ?_
   refine JC_ifD rfl (fun c19 => ?_) (fun c19 => ?_)
   ·
    have hbig : 65536 < out.length := by omega
    refine JC_seq ?_
    refine JC_region ?_
    refine JO_call (first := []) (captured := []) rfl rfl rfl (afault_ac D _ _ _ _) ?_
    rintro _ _ s20 h20 ⟨rfl, rfl⟩
    refine JO_q (QE_as rfl) rfl ?_
    refine JO_st 0 [_, _] rfl rfl rfl rfl rfl rfl rfl rfl rfl ?_
    refine JO_nil ?_
    refine thenQ_n ?_
    refine JC_ret ?_
    refine thenQ_r ?_
    refine retQ_mk (_ :: Mo) _ (.inr rfl) (.tmp rfl (.agg (us := [_, _]) 0 rfl rfl rfl rfl rfl (.nil))) rfl (Le.trans (Le.trans h1 I4.1) h20) (fun sR hS2 => ?_)
    first
      | (refine ⟨[], rfl, fun s2 hs2 hp => ⟨none, 0, 0, ?_, ?_⟩⟩
         · rw [(unp_l (unp_long hlong)).2]; rfl
         · rw [(unp_l (unp_long hlong)).1]; exact Wds.nil _ _ _ (by omega))
      | (have hE := unp_l (unp_err hlong (by rw [hS]; exact upF_err hne htr))
         refine ⟨[], rfl, fun s2 hs2 hp => ⟨none, 0, 0, ?_, ?_⟩⟩
         · rw [hE.2]; rfl
         · rw [hE.1]; exact Wds.nil _ _ _ (by omega))
      | (have hE := unp_l (unp_err hlong (by rw [hS]; exact upF_err hne hfm))
         refine ⟨[], rfl, fun s2 hs2 hp => ⟨none, 0, 0, ?_, ?_⟩⟩
         · rw [hE.2]; rfl
         · rw [hE.1]; exact Wds.nil _ _ _ (by omega))
      | (have hE := unp_l (unp_err hlong (by rw [hS]; exact upF_form hne hUP h62))
         refine ⟨[], rfl, fun s2 hs2 hp => ⟨none, 0, 0, ?_, ?_⟩⟩
         · rw [hE.2]; rfl
         · rw [hE.1]; exact Wds.nil _ _ _ (by omega))
      | (have hE := unp_l (unp_big hlong hS hbig)
         refine ⟨[], rfl, fun s2 hs2 hp => ⟨none, 0, 0, ?_, ?_⟩⟩
         · rw [hE.2]; rfl
         · rw [hE.1]; exact Wds.nil _ _ _ (by omega))
      | (have hE := unp_r (unp_ok hlong hS hbig)
         refine ⟨Mo, rfl, fun s2 hs2 hp => ⟨Ao, out.length, co, ?_, ?_⟩⟩
         · rw [hE.2]; rfl
         · rw [hE.1]; exact Own.wds hO huo hp)
   ·
    have hbig : ¬ 65536 < out.length := by omega
    refine JC_skip ?_
    refine thenQ_n ?_
    refine JC_seq ?_
    refine JC_region ?_
    refine JO_q (QE_mv rfl) rfl ?_
    refine JO_q (QE_build [] [_, _] rfl rfl rfl rfl rfl rfl) rfl ?_
    refine JO_q (QE_as rfl) rfl ?_
    refine JO_st 0 [_, _] rfl rfl rfl rfl rfl rfl rfl rfl rfl ?_
    refine JO_nil ?_
    refine thenQ_n ?_
    refine JC_ret ?_
    refine retQ_mk [_] _ (.inr rfl) (.tmp rfl (.agg (us := [_, _]) 0 rfl rfl rfl rfl rfl (.nil))) rfl (Le.trans h1 I4.1) (fun sR hS2 => ?_)
    first
      | (refine ⟨[], rfl, fun s2 hs2 hp => ⟨none, 0, 0, ?_, ?_⟩⟩
         · rw [(unp_l (unp_long hlong)).2]; rfl
         · rw [(unp_l (unp_long hlong)).1]; exact Wds.nil _ _ _ (by omega))
      | (have hE := unp_l (unp_err hlong (by rw [hS]; exact upF_err hne htr))
         refine ⟨[], rfl, fun s2 hs2 hp => ⟨none, 0, 0, ?_, ?_⟩⟩
         · rw [hE.2]; rfl
         · rw [hE.1]; exact Wds.nil _ _ _ (by omega))
      | (have hE := unp_l (unp_err hlong (by rw [hS]; exact upF_err hne hfm))
         refine ⟨[], rfl, fun s2 hs2 hp => ⟨none, 0, 0, ?_, ?_⟩⟩
         · rw [hE.2]; rfl
         · rw [hE.1]; exact Wds.nil _ _ _ (by omega))
      | (have hE := unp_l (unp_err hlong (by rw [hS]; exact upF_form hne hUP h62))
         refine ⟨[], rfl, fun s2 hs2 hp => ⟨none, 0, 0, ?_, ?_⟩⟩
         · rw [hE.2]; rfl
         · rw [hE.1]; exact Wds.nil _ _ _ (by omega))
      | (have hE := unp_l (unp_big hlong hS hbig)
         refine ⟨[], rfl, fun s2 hs2 hp => ⟨none, 0, 0, ?_, ?_⟩⟩
         · rw [hE.2]; rfl
         · rw [hE.1]; exact Wds.nil _ _ _ (by omega))
      | (have hE := unp_r (unp_ok hlong hS hbig)
         refine ⟨Mo, rfl, fun s2 hs2 hp => ⟨Ao, out.length, co, ?_, ?_⟩⟩
         · rw [hE.2]; rfl
         · rw [hE.1]; exact Own.wds hO huo hp)
theorem pack_ac (D : Nat) (L : Hl) (s : World) (A : Option Addr) (n c : Nat) (l : List Int) (hA : Wds s A n c l) : AC Tryz.prog D 31 [.slice A n c] L s fun v L' s' => L = L' ∧ ∃ A1 n1 c1, v = .tuple #[.slice A1 n1 c1, .agg #[.int .i64 (packE l).1, .int .i64 (packE l).2]] ∧ Bts s' A1 n1 c1 (packS l) := AC.pubW (packO_ac D L s A n c l hA)
theorem unpack_ac (D : Nat) (L : Hl) (s : World) (A : Option Addr) (n c : Nat) (l : List UInt8) (hA : Bts s A n c l) : AC Tryz.prog D 32 [.slice A n c] L s fun v L' s' => L = L' ∧ ∃ A1 n1 c1, v = .tuple #[.slice A1 n1 c1, .agg #[.int .i64 (unpE l).1, .int .i64 (unpE l).2]] ∧ Wds s' A1 n1 c1 (unpS l) := AC.pubW (unpackO_ac D L s A n c l hA)
end Go.Proofs.YteomcjpigoaioaaGreatDoor
namespace Go.Proofs.YteomcjpigoaioaaGreatDoor
open Go.FL
attribute [local irreducible] JC JO JA JB thenQ blockQ retQ AC fill CellsAt QE Ev Mid
theorem eqLabel (a : List UInt8) (b : Int) (c : List UInt8) (d : Int) : EqA Tryz.prog 94 [St a, .int .u32 b] [St c, .int .u32 d] (decide (a = c ∧ b = d)) := ⟨by kernel_rfl, fun w => by
  show (Op.equalIn (9998 + 2) 94 _ _).run Tryz.prog w = _
  rw [run_equalIn_agg w 9999 94 _ _ (by kernel_rfl) (by kernel_rfl)]
  simp only [Program.fieldsOf, Tryz.underlying94, Op.eqFields, part]
  have hs : ∀ (d : Nat) (x y : List UInt8), (Op.equalIn (d + 1) 9 (St x) (St y)).run Tryz.prog w = .ok (decide (x = y)) w := fun d x y => by
    simp [Op.equalIn, run_underlying Tryz.underlying9, ba_beq]
  simp [aggOne ti9_ok rfl, aggOne ti52_ok rfl, run_equalIn_int w 9998 52 .u32 .u32 _ _ Tryz.underlying52, hs 9998]
  by_cases h1 : a = c <;> by_cases h2 : b = d <;> simp [h1, h2]⟩
set_option maxHeartbeats 1000000 in
set_option maxRecDepth 100000 in
theorem sameLabels_ac (D : Nat) (L : Hl) (s : World) (A : Option Addr) (n c : Nat) (l : List (List UInt8 × Int)) (hA : Labs s A n c l) (A1 : Option Addr) (n1 c1 : Nat) (l1 : List (List UInt8 × Int)) (hB : Labs s A1 n1 c1 l1) : AC Tryz.prog D 17 [.slice A n c, .slice A1 n1 c1] L s fun v L' _ => v = .bool (decide (l = l1)) ∧ L = L' := by
 have hn := hA.1
 have hc1 := hA.2.1
 have hc2 := hA.2.2.1
 have hn1 := hB.1
 refine AC_enter (TT := TT) (fn := Tryz.f17) TT_ok Tryz.func17 (by kernel_rfl) rfl Tryz.ntmps17 rfl (rs := [.tmp 4]) rfl [(0, _), (1, _)] rfl ?_
 refine JC_seq ?_
 refine JC_region ?_
 refine JO_q (QE_as rfl) rfl ?_
 refine JO_nil ?_
 refine thenQ_n ?_
 refine JC_seq ?_
 refine JC_seq ?_
 refine JC_region ?_
 refine JO_q (QE_mv rfl) rfl ?_
 refine JO_q (QE_lenS rfl rfl rfl) rfl ?_
 refine JO_q (QE_mv rfl) rfl ?_
 refine JO_q (QE_lenS rfl rfl rfl) rfl ?_
 refine JO_q (QE_ne rfl rfl) rfl ?_
 refine JO_nil ?_
 refine thenQ_n ?_
 refine JC_ifN rfl (fun c1 => ?_) (fun c1 => ?_)
 ·
  refine JC_seq ?_
  refine JC_region ?_
  refine JO_q (QE_as rfl) rfl ?_
  refine JO_nil ?_
  refine thenQ_n ?_
  refine JC_ret ?_
  refine thenQ_r ?_
  refine retQ_mk [] L (.inr rfl) (.tmp rfl (.nil)) rfl (Le.refl (D := D) _) (fun sR hS2 => ?_)
  refine ⟨?_, rfl⟩
  first
    | (have h0 : l ≠ l1 := diff_lists hx hy hE
       simp [resV, h0]; done)
    | (have h0 : l ≠ l1 := fun e => by subst e; omega
       simp [resV, h0]; done)
    | (have h0 : l = l1 := same_lists (by omega) (fun i x hi h => hI i x (by omega) h)
       simp [resV, h0]; done)
 ·
  refine JC_skip ?_
  refine thenQ_n ?_
  refine JC_seq ?_
  refine JC_seq ?_
  refine JC_region ?_
  refine JO_q (QE_as rfl) rfl ?_
  refine JO_nil ?_
  refine thenQ_n ?_
  refine JC_block ?_
  refine JC_loop (γ := Nat) (fun k => [(0, _), (1, _), (4, _), (5, .int .i64 (k : Int))]) (fun _ => _) (fun k tw => Le D s tw ∧ (k ≤ n ∧ ∀ i x, i < k → l[i]? = some x → l1[i]? = some x)) (fun k => n - k) (fun _ _ _ h hl => ⟨h.1.trans hl, h.2⟩) 0 (Keeps.cons rfl (Keeps.cons rfl (Keeps.cons rfl (Keeps.cons rfl (Keeps.nil _))))) rfl ⟨Le.refl _, ⟨Nat.zero_le _, fun i c hi => by omega⟩⟩ ?_
  intro k s2 I2
  have hk0 := I2.2.1
  have hI := I2.2.2
  refine JC_seq ?_
  refine JC_seq ?_
  refine JC_region ?_
  refine JO_q (QE_mv rfl) rfl ?_
  refine JO_q (QE_mv rfl) rfl ?_
  refine JO_q (QE_lenS rfl rfl rfl) rfl ?_
  refine JO_q (QE_lt rfl rfl) rfl ?_
  refine JO_nil ?_
  refine thenQ_n ?_
  refine JC_ifD rfl (fun c3 => ?_) (fun c3 => ?_)
  ·
   have hk : k < n := by omega
   obtain ⟨b, off, x, rfl, hx, hcx, _⟩ := Labs.at_ (hA.le I2.1) hk
   obtain ⟨b1, off1, y, rfl, hy, hcy, _⟩ := Labs.at_ (hB.le I2.1) (show k < n1 by omega)
   refine JC_skip ?_
   refine thenQ_n ?_
   refine JC_seq ?_
   refine JC_block ?_
   refine JC_seq ?_
   refine JC_draw drawsMixed 9 rfl _ (fun _ h => h) ?_
   intro s4 h4
   refine JA_q 0 rfl (by kernel_rfl) (by kernel_rfl) (by kernel_rfl) trivial (QE_mv rfl) rfl ?_
   refine JA_q 1 rfl (by kernel_rfl) (by kernel_rfl) (by kernel_rfl) trivial (QE_mv rfl) rfl ?_
   refine JA_q 2 rfl (by kernel_rfl) (by kernel_rfl) (by kernel_rfl) trivial (QE_iaN rfl rfl rfl rfl rfl rfl hk) rfl ?_
   refine JA_q 3 rfl (by kernel_rfl) (by kernel_rfl) (by kernel_rfl) trivial (QE_ldsA rfl rfl rfl (hcx.le h4) rfl) rfl ?_
   refine JA_q 4 rfl (by kernel_rfl) (by kernel_rfl) (by kernel_rfl) trivial (QE_mv rfl) rfl ?_
   refine JA_q 5 rfl (by kernel_rfl) (by kernel_rfl) (by kernel_rfl) trivial (QE_mv rfl) rfl ?_
   refine JA_q 6 rfl (by kernel_rfl) (by kernel_rfl) (by kernel_rfl) trivial (QE_iaN rfl rfl rfl rfl rfl rfl (show k < n1 by omega)) rfl ?_
   refine JA_q 7 rfl (by kernel_rfl) (by kernel_rfl) (by kernel_rfl) trivial (QE_ldsA rfl rfl rfl (hcy.le h4) rfl) rfl ?_
   refine JA_q 8 rfl (by kernel_rfl) (by kernel_rfl) (by kernel_rfl) trivial (QE_ane rfl rfl (eqLabel _ _ _ _)) rfl ?_
   refine JA_done (by kernel_rfl) ?_
   refine thenQ_n ?_
   refine JC_ifN rfl (fun c5 => ?_) (fun c5 => ?_)
   ·
    have hE : x ≠ y := by intro e; subst e; exact c5 ⟨rfl, rfl⟩
    refine JC_seq ?_
    refine JC_region ?_
    refine JO_q (QE_as rfl) rfl ?_
    refine JO_nil ?_
    refine thenQ_n ?_
    refine JC_ret ?_
    refine blockQ_r ?_
    refine thenQ_r ?_
    refine thenQ_r ?_
    refine blockQ_r ?_
    refine thenQ_r ?_
    refine retQ_mk [] L (.inr rfl) (.tmp rfl (.nil)) rfl (Le.trans I2.1 h4) (fun sR hS2 => ?_)
    refine ⟨?_, rfl⟩
    first
      | (have h0 : l ≠ l1 := diff_lists hx hy hE
         simp [resV, h0]; done)
      | (have h0 : l ≠ l1 := fun e => by subst e; omega
         simp [resV, h0]; done)
      | (have h0 : l = l1 := same_lists (by omega) (fun i x hi h => hI i x (by omega) h)
         simp [resV, h0]; done)
   ·
    have hE : x = y := by exact Prod.ext c5.1 c5.2
    refine JC_skip ?_
    refine blockQ_n ?_
    refine thenQ_n ?_
    refine JC_region ?_
    refine JO_q (QE_mv rfl) rfl ?_
    refine JO_q (QE_add' rfl rfl (w64 (by omega) (by omega))) rfl ?_
    refine JO_q (QE_as rfl) rfl ?_
    refine JO_nil ?_
    refine thenQ_n ⟨(k + 1), [], (Keeps.cons rfl (Keeps.cons rfl (Keeps.cons rfl (Keeps.cons rfl (Keeps.nil _))))), rfl, ⟨(Le.trans I2.1 h4), ⟨by omega, below_succ hI hx (hE ▸ hy)⟩⟩, (by omega)⟩
  ·
   refine JC_exit ?_
   refine thenQ_x ?_
   refine thenQ_x ?_
   refine blockQ_x ?_
   refine thenQ_n ?_
   refine JC_seq ?_
   refine JC_region ?_
   refine JO_q (QE_as rfl) rfl ?_
   refine JO_nil ?_
   refine thenQ_n ?_
   refine JC_ret ?_
   refine retQ_mk [] L (.inr rfl) (.tmp rfl (.nil)) rfl I2.1 (fun sR hS2 => ?_)
   refine ⟨?_, rfl⟩
   first
     | (have h0 : l ≠ l1 := diff_lists hx hy hE
        simp [resV, h0]; done)
     | (have h0 : l ≠ l1 := fun e => by subst e; omega
        simp [resV, h0]; done)
     | (have h0 : l = l1 := same_lists (by omega) (fun i x hi h => hI i x (by omega) h)
        simp [resV, h0]; done)
end Go.Proofs.YteomcjpigoaioaaGreatDoor
namespace Go.Proofs.YteomcjpigoaioaaGreatDoor
open Go.FL
attribute [local irreducible] JC JO JA JB thenQ blockQ retQ AC fill CellsAt QE Ev Mid
theorem std_take {j : Nat} {l : List Ins} {y : Ins} (h : l[j]? = some y) : l.take (j + 1) = l.take j ++ [y] := by
  obtain ⟨hj, rfl⟩ := List.getElem?_eq_some_iff.1 h
  rw [List.take_succ_eq_append_getElem hj]
end Go.Proofs.YteomcjpigoaioaaGreatDoor
namespace Go.Proofs.YteomcjpigoaioaaGreatDoor
open Go.FL
attribute [local irreducible] JC JO JA JB thenQ blockQ retQ AC fill CellsAt QE Ev Mid
set_option maxHeartbeats 1000000 in
set_option maxRecDepth 100000 in
theorem reg_ac (D : Nat) (L : Hl) (s : World) (r : Int) : AC Tryz.prog D 74 [.int .u32 r] L s fun v L' _ => v = .agg #[.int .i64 1, .int .u32 r] ∧ L = L' := by
 refine AC_enter (TT := TT) (fn := Tryz.f74) TT_ok Tryz.func74 (by kernel_rfl) rfl Tryz.ntmps74 rfl (rs := [.cell 2 115]) rfl [(0, _)] rfl ?_
 refine JC_seq ?_
 refine JC_region ?_
 refine JO_allocZ rfl [_, _] rfl rfl ?_
 intro β1 s1 h1
 refine JO_nil ?_
 refine thenQ_n ?_
 refine JC_seq ?_
 refine JC_region ?_
 refine JO_q (QE_mv rfl) rfl ?_
 refine JO_q (QE_build [(_, _), (_, _)] [_, _] rfl rfl rfl rfl rfl rfl) rfl ?_
 refine JO_st 0 [_, _] rfl rfl rfl rfl rfl rfl rfl rfl rfl ?_
 refine JO_nil ?_
 refine thenQ_n ?_
 refine JC_ret ?_
 refine retQ_mk [_] L (.inr rfl) (.agg (us := [_, _]) 0 rfl rfl rfl rfl rfl (.nil)) rfl h1 (fun sR hS2 => ?_)
 exact ⟨rfl, rfl⟩
set_option maxHeartbeats 1000000 in
set_option maxRecDepth 100000 in
theorem num_ac (D : Nat) (L : Hl) (s : World) (r : Int) : AC Tryz.prog D 77 [.int .u32 r] L s fun v L' _ => v = .agg #[.int .i64 0, .int .u32 r] ∧ L = L' := by
 refine AC_enter (TT := TT) (fn := Tryz.f77) TT_ok Tryz.func77 (by kernel_rfl) rfl Tryz.ntmps77 rfl (rs := [.cell 2 115]) rfl [(0, _)] rfl ?_
 refine JC_seq ?_
 refine JC_region ?_
 refine JO_allocZ rfl [_, _] rfl rfl ?_
 intro β1 s1 h1
 refine JO_nil ?_
 refine thenQ_n ?_
 refine JC_seq ?_
 refine JC_region ?_
 refine JO_q (QE_mv rfl) rfl ?_
 refine JO_q (QE_build [(_, _), (_, _)] [_, _] rfl rfl rfl rfl rfl rfl) rfl ?_
 refine JO_st 0 [_, _] rfl rfl rfl rfl rfl rfl rfl rfl rfl ?_
 refine JO_nil ?_
 refine thenQ_n ?_
 refine JC_ret ?_
 refine retQ_mk [_] L (.inr rfl) (.agg (us := [_, _]) 0 rfl rfl rfl rfl rfl (.nil)) rfl h1 (fun sR hS2 => ?_)
 exact ⟨rfl, rfl⟩
theorem tm_at0 {l : List Tm} {x : Tm} (h : l[0]? = some x) : l.getD 0 ⟨0, 0⟩ = x := by simp [List.getD, h]
theorem tm_at1 {l : List Tm} {x : Tm} (h : l[1]? = some x) : l.getD 1 ⟨0, 0⟩ = x := by simp [List.getD, h]
theorem do_inv0 {l : List Tm} {n j : Nat} {y e : Tm} (hj : j < n) (hz : (j : Int) = 0) (he : l[j]? = some e) (hy : y = if 1 < j then l.getD 1 ⟨0, 0⟩ else ⟨0, 0⟩) : j + 1 ≤ n ∧ e = (if 0 < j + 1 then l.getD 0 ⟨0, 0⟩ else ⟨0, 0⟩) ∧ y = (if 1 < j + 1 then l.getD 1 ⟨0, 0⟩ else ⟨0, 0⟩) := by
  have h0 : j = 0 := by omega
  subst h0
  exact ⟨hj, by rw [if_pos (by omega), tm_at0 he], by rw [hy]; rfl⟩
theorem do_inv1 {l : List Tm} {n j : Nat} {x e : Tm} (hj : j < n) (hz : ¬ (j : Int) = 0) (hn : n ≤ 2) (he : l[j]? = some e) (hx : x = if 0 < j then l.getD 0 ⟨0, 0⟩ else ⟨0, 0⟩) : j + 1 ≤ n ∧ x = (if 0 < j + 1 then l.getD 0 ⟨0, 0⟩ else ⟨0, 0⟩) ∧ e = (if 1 < j + 1 then l.getD 1 ⟨0, 0⟩ else ⟨0, 0⟩) := by
  have h0 : j = 1 := by omega
  subst h0
  exact ⟨hj, by rw [hx]; rfl, by rw [if_pos (by omega), tm_at1 he]⟩
theorem tm_no {l : List Tm} {i : Nat} (h : l.length ≤ i) : l.getD i ⟨0, 0⟩ = ⟨0, 0⟩ := by simp [List.getD, List.getElem?_eq_none h]
set_option maxHeartbeats 2000000 in
set_option maxRecDepth 100000 in
theorem do_ac (D : Nat) (L : Hl) (s : World) (kd tgt : Int) (A : Option Addr) (n c : Nat) (l : List Tm) (hA : Tms s A n c l) (hl : l.length ≤ 2) : AC Tryz.prog D 76 [.int .i64 kd, .int .i64 tgt, .slice A n c] L s fun v L' _ => v = .agg #[.int .i64 kd, .int .i64 tgt, .int .i64 (l.getD 0 ⟨0, 0⟩).kind, .int .u32 (l.getD 0 ⟨0, 0⟩).val, .int .i64 (l.getD 1 ⟨0, 0⟩).kind, .int .u32 (l.getD 1 ⟨0, 0⟩).val] ∧ L = L' := by
 have hn := hA.1
 refine AC_enter (TT := TT) (fn := Tryz.f76) TT_ok Tryz.func76 (by kernel_rfl) rfl Tryz.ntmps76 rfl (rs := [.cell 6 117]) rfl [(0, _), (1, _), (2, _)] rfl ?_
 refine JC_seq ?_
 refine JC_region ?_
 refine JO_allocZ rfl [_, _, _, _, _, _] rfl rfl ?_
 intro β1 s1 h1
 refine JO_nil ?_
 refine thenQ_n ?_
 refine JC_seq ?_
 refine JC_region ?_
 refine JO_q (QE_mv rfl) rfl ?_
 refine JO_q (QE_mv rfl) rfl ?_
 refine JO_q (QE_build [(_, _), (_, _)] [_, _, _, _, _, _] rfl rfl rfl rfl rfl rfl) rfl ?_
 refine JO_allocZ rfl [_, _, _, _, _, _] rfl rfl ?_
 intro β2 s2 h2
 refine JO_st 0 [_, _, _, _, _, _] rfl rfl rfl rfl rfl rfl rfl rfl rfl ?_
 refine JO_nil ?_
 refine thenQ_n ?_
 refine JC_seq ?_
 refine JC_seq ?_
 refine JC_region ?_
 refine JO_q (QE_mv rfl) rfl ?_
 refine JO_q (QE_lenS rfl rfl rfl) rfl ?_
 refine JO_q (QE_mv rfl) rfl ?_
 refine JO_nil ?_
 refine thenQ_n ?_
 refine JC_block ?_
 refine JC_loop (γ := Nat × Tm × Tm) (fun g => [(6, _), (7, _), (13, _), (14, _), (15, .int .i64 (g.1 : Int))]) (fun g => (β2, cb [.int .i64 kd, .int .i64 tgt, .int .i64 g.2.1.kind, .int .u32 g.2.1.val, .int .i64 g.2.2.kind, .int .u32 g.2.2.val] 117) :: (β1, cb [.int .i64 0, .int .i64 0, .int .i64 0, .int .u32 0, .int .i64 0, .int .u32 0] 117) :: L) (fun g tw => Le D s2 tw ∧ (g.1 ≤ n ∧ g.2.1 = (if 0 < g.1 then l.getD 0 ⟨0, 0⟩ else ⟨0, 0⟩) ∧ g.2.2 = (if 1 < g.1 then l.getD 1 ⟨0, 0⟩ else ⟨0, 0⟩))) (fun g => n - g.1) (fun _ _ _ h hl => ⟨h.1.trans hl, h.2⟩) (0, ⟨0, 0⟩, ⟨0, 0⟩) (Keeps.cons rfl (Keeps.cons rfl (Keeps.cons rfl (Keeps.cons rfl (Keeps.cons rfl (Keeps.nil _)))))) rfl ⟨Le.refl _, ⟨Nat.zero_le _, rfl, rfl⟩⟩ ?_
 intro g s3 I3
 obtain ⟨j, x, y⟩ := g
 obtain ⟨hj0, hx, hy⟩ := I3.2
 simp only at hj0 hx hy
 dsimp only
 refine JC_seq ?_
 refine JC_region ?_
 refine JO_q (QE_lt rfl rfl) rfl ?_
 refine JO_nil ?_
 refine thenQ_n ?_
 refine JC_seq ?_
 refine JC_ifD rfl (fun c4 => ?_) (fun c4 => ?_)
 ·
  have hk : j < n := by omega
  obtain ⟨b, off, e, rfl, he, hce, hue⟩ := Tms.at_ (hA.le (Le.trans (Le.trans h1 h2) I3.1)) hk
  refine JC_skip ?_
  refine thenQ_n ?_
  refine JC_seq ?_
  refine JC_block ?_
  refine JC_seq ?_
  refine JC_region ?_
  refine JO_q (QE_mv rfl) rfl ?_
  refine JO_q (QE_iaN rfl rfl rfl rfl rfl rfl hk) rfl ?_
  refine JO_q (QE_ldsA rfl rfl rfl (hce.le (Le.refl (D := D) _)) rfl) rfl ?_
  refine JO_allocZ rfl [_, _] rfl rfl ?_
  intro β5 s5 h5
  refine JO_q (QE_as rfl) rfl ?_
  refine JO_st 0 [_, _] rfl rfl rfl rfl rfl rfl rfl rfl rfl ?_
  refine JO_nil ?_
  refine thenQ_n ?_
  refine JC_seq ?_
  refine JC_region ?_
  refine JO_q (QE_mv rfl) rfl ?_
  refine JO_q (QE_eq rfl rfl) rfl ?_
  refine JO_nil ?_
  refine thenQ_n ?_
  refine JC_ifD rfl (fun c6 => ?_) (fun c6 => ?_)
  ·
   have hz0 := c6
   refine JC_region ?_
   refine JO_q (QE_ldA 0 [_, _] rfl rfl rfl rfl rfl) rfl ?_
   refine JO_q (QE_faB rfl rfl rfl rfl) rfl ?_
   refine JO_st 1 [_, _, _, _, _, _] rfl rfl rfl rfl rfl rfl rfl rfl rfl ?_
   refine JO_nil ?_
   refine blockQ_n ?_
   refine thenQ_n ?_
   refine JC_region ?_
   refine JO_q (QE_add' rfl rfl (w64 (by omega) (by omega))) rfl ?_
   refine JO_q (QE_mv rfl) rfl ?_
   refine JO_nil ?_
   refine thenQ_n ⟨(j + 1, e, y), [_], (Keeps.cons rfl (Keeps.cons rfl (Keeps.cons rfl (Keeps.cons rfl (Keeps.cons rfl (Keeps.nil _)))))), rfl, ⟨(Le.trans I3.1 h5), by first | exact do_inv0 hk hz0 he hy | exact do_inv1 hk hz0 (by omega) he hx⟩, (by simp only; omega)⟩
  ·
   have hz0 := c6
   refine JC_region ?_
   refine JO_q (QE_ldA 0 [_, _] rfl rfl rfl rfl rfl) rfl ?_
   refine JO_q (QE_faB rfl rfl rfl rfl) rfl ?_
   refine JO_st 1 [_, _, _, _, _, _] rfl rfl rfl rfl rfl rfl rfl rfl rfl ?_
   refine JO_nil ?_
   refine blockQ_n ?_
   refine thenQ_n ?_
   refine JC_region ?_
   refine JO_q (QE_add' rfl rfl (w64 (by omega) (by omega))) rfl ?_
   refine JO_q (QE_mv rfl) rfl ?_
   refine JO_nil ?_
   refine thenQ_n ⟨(j + 1, x, e), [_], (Keeps.cons rfl (Keeps.cons rfl (Keeps.cons rfl (Keeps.cons rfl (Keeps.cons rfl (Keeps.nil _)))))), rfl, ⟨(Le.trans I3.1 h5), by first | exact do_inv0 hk hz0 he hy | exact do_inv1 hk hz0 (by omega) he hx⟩, (by simp only; omega)⟩
 ·
  refine JC_exit ?_
  refine thenQ_x ?_
  refine thenQ_x ?_
  refine blockQ_x ?_
  refine thenQ_n ?_
  refine JC_seq ?_
  refine JC_region ?_
  refine JO_q (QE_ldA 0 [_, _, _, _, _, _] rfl rfl rfl rfl rfl) rfl ?_
  refine JO_st 1 [_, _, _, _, _, _] rfl rfl rfl rfl rfl rfl rfl rfl rfl ?_
  refine JO_nil ?_
  refine thenQ_n ?_
  refine JC_ret ?_
  refine retQ_mk [_, _] L (.inr rfl) (.agg (us := [_, _, _, _, _, _]) 1 rfl rfl rfl rfl rfl (.nil)) rfl (Le.trans (Le.trans h1 h2) I3.1) (fun sR hS2 => ?_)
  refine ⟨?_, rfl⟩
  have hjn : j = n := by omega
  have e1 : x = l.getD 0 ⟨0, 0⟩ := by
    rw [hx]; split
    · rfl
    · rw [tm_no (by omega)]
  have e2 : y = l.getD 1 ⟨0, 0⟩ := by
    rw [hy]; split
    · rfl
    · rw [tm_no (by omega)]
  rw [← e1, ← e2]; rfl
set_option maxHeartbeats 2000000 in
set_option maxRecDepth 100000 in
theorem add_ac (D : Nat) (L : Hl) (s : World) (name : List UInt8) (op : Bool) (A : Option Addr) (n c : Nat) (β : Nat) (v : Value) (M : Hl) (i : Nat) (xs : List Value) (hO : Own 97 4 M v i xs) (hi : i ≤ 1000) : AC Tryz.prog D 75 [St name, .bool op, .slice A n c, .pointer (some ⟨β, 0, none⟩)] (((β, cb [.int .i64 65536, v] 24) :: M) ++ L) s fun w L' s' => ∃ M', L' = M' ++ L ∧ w = .tuple #[] ∧ ∃ v2 M2, M' = (β, cb [.int .i64 65536, v2] 24) :: M2 ∧ Own 97 4 M2 v2 (i + 1) (xs ++ [St name, .int .u32 ((i : Int) + 1), .bool op, .slice A n c]) := by
 obtain ⟨Av, cv, rfl, kv1, kv2⟩ := Own.slice hO
 simp only [List.cons_append]
 refine AC_enter (TT := TT) (fn := Tryz.f75) TT_ok Tryz.func75 (by kernel_rfl) rfl Tryz.ntmps75 rfl (rs := []) rfl [(0, _), (1, _), (2, _), (3, _)] rfl ?_
 refine JC_region ?_
 refine JO_q (QE_faB rfl rfl rfl rfl) rfl ?_
 refine JO_q (QE_ld1 0 rfl rfl rfl rfl rfl) rfl ?_
 refine JO_q (QE_mv rfl) rfl ?_
 refine JO_q (QE_faB rfl rfl rfl rfl) rfl ?_
 refine JO_q (QE_ld1 0 rfl rfl rfl rfl rfl) rfl ?_
 refine JO_q (QE_lenS rfl rfl rfl) rfl ?_
 refine JO_q (QE_add' rfl rfl (w64 (by omega) (by omega))) rfl ?_
 refine JO_q (QE_conv' rfl rfl rfl rfl rfl (w32_in (by omega) (by omega))) rfl ?_
 refine JO_q (QE_mv rfl) rfl ?_
 refine JO_q (QE_mv rfl) rfl ?_
 refine JO_q (QE_build [(_, _), (_, _), (_, _), (_, _)] [_, _, _, _] rfl rfl rfl rfl rfl rfl) rfl ?_
 refine JO_bs [(_, _)] [_, _, _, _] rfl rfl rfl rfl rfl rfl rfl rfl rfl ?_
 intro βn s1 h1 hcb
 refine JO_app (sz := 4) [_] M L rfl rfl rfl rfl rfl rfl rfl hO (Row.of_cells (hcb.le (Le.refl (D := D) _)) rfl rfl) ⟨by simp [ti97]; omega, by omega⟩ rfl ?_
 intro v2 M2 s2 h2 o2
 obtain ⟨Av2, cv2, rfl, _, _⟩ := Own.slice o2
 simp only [List.cons_append, List.nil_append]
 refine JO_q (QE_faB rfl rfl rfl rfl) rfl ?_
 refine JO_st 0 [_, _] rfl rfl rfl rfl rfl rfl rfl rfl rfl ?_
 refine JO_nil ?_
 refine retQ_mk [] _ (.inl rfl) (.nil) rfl (Le.trans h1 h2) (fun sR hS2 => ?_)
 exact ⟨_ :: M2, rfl, rfl, _, M2, rfl, o2⟩
set_option maxHeartbeats 2000000 in
set_option maxRecDepth 100000 in
theorem poppedO_ac (D : Nat) (L : Hl) (s : World) (A : Option Addr) (n c : Nat) (l : List Ac) (hA : Acs s A n c l) (β : Nat) (Ap : Option Addr) (np cp : Nat) (lp : List Ac) (hP : Acs s Ap np cp lp) (hn : n + np ≤ 1000) : AC Tryz.prog D 78 [.slice A n c, .pointer (some ⟨β, 0, none⟩)] ((β, cb [.slice Ap np cp] 95) :: L) s fun v L' s' => ∃ M', L' = M' ++ ((β, cb [.slice Ap np cp] 95) :: L) ∧ ∀ s2, Le D s' s2 → Pub M' s2 → ∃ A2 n2 c2, v = .slice A2 n2 c2 ∧ Acs s2 A2 n2 c2 (lp ++ l) := by
 refine AC_enter (TT := TT) (fn := Tryz.f78) TT_ok Tryz.func78 (by kernel_rfl) rfl Tryz.ntmps78 rfl (rs := [.tmp 3]) rfl [(0, _), (1, _)] rfl ?_
 refine JC_seq ?_
 refine JC_region ?_
 refine JO_q (QE_as rfl) rfl ?_
 refine JO_nil ?_
 refine thenQ_n ?_
 refine JC_seq ?_
 refine JC_region ?_
 refine JO_bs0 (sz := 6) rfl rfl rfl rfl ?_
 intro βo s1 h1 oo
 refine JO_q (QE_ld1 1 rfl rfl rfl rfl rfl) rfl ?_
 refine JO_app [] [_] _ rfl rfl rfl rfl rfl rfl rfl oo (hP.row.le h1) ⟨by simp [ti117]; omega, by omega⟩ rfl ?_
 intro v1 A1 s2 h2 o1
 simp only [List.nil_append]
 refine JO_q (QE_mv rfl) rfl ?_
 refine JO_app [] A1 _ rfl rfl rfl rfl rfl rfl rfl o1 (hA.row.le (Le.trans h1 h2)) ⟨by simp [ti117]; omega, by omega⟩ rfl ?_
 intro v2 A2x s3 h3 o2
 simp only [List.nil_append]
 refine JO_q (QE_as rfl) rfl ?_
 refine JO_nil ?_
 refine thenQ_n ?_
 refine JC_ret ?_
 refine retQ_mk [] _ (.inr rfl) (.tmp rfl (.nil)) rfl (Le.trans (Le.trans h1 h2) h3) (fun sR hS2 => ?_)
 simp only [List.nil_append, Nat.zero_add, ← acv_app] at o2
 obtain ⟨Av2, cv2, rfl, _, _⟩ := Own.slice o2
 exact ⟨A2x, rfl, fun s2 hs2 hp => ⟨_, _, _, rfl, Own.acs o2 (fun a ha => (List.mem_append.1 ha).elim (hP.u a) (hA.u a)) hp (by have := hA.1; have := hP.1; simp; omega)⟩⟩
theorem popped_ac (D : Nat) (L : Hl) (s : World) (A : Option Addr) (n c : Nat) (l : List Ac) (hA : Acs s A n c l) (β : Nat) (Ap : Option Addr) (np cp : Nat) (lp : List Ac) (hP : Acs s Ap np cp lp) (hn : n + np ≤ 1000) : AC Tryz.prog D 78 [.slice A n c, .pointer (some ⟨β, 0, none⟩)] ((β, cb [.slice Ap np cp] 95) :: L) s fun v L' s' => (β, cb [.slice Ap np cp] 95) :: L = L' ∧ ∃ A2 n2 c2, v = .slice A2 n2 c2 ∧ Acs s' A2 n2 c2 (lp ++ l) := AC.pubW (poppedO_ac D L s A n c l hA β Ap np cp lp hP hn)
theorem popped_mid (D : Nat) (L : Hl) (s : World) (A : Option Addr) (n c : Nat) (l : List Ac) (hA : Acs s A n c l) (β : Nat) (Ap : Option Addr) (np cp : Nat) (lp : List Ac) (hP : Acs s Ap np cp lp) (hn : n + np ≤ 1000) : AC Tryz.prog D 78 [.slice A n c, .pointer (some ⟨β, 0, none⟩)] ([(β, cb [.slice Ap np cp] 95)] ++ L) s fun v L' s' => ∃ M', L' = M' ++ L ∧ M' = [(β, cb [.slice Ap np cp] 95)] ∧ ∃ A2 n2 c2, v = .slice A2 n2 c2 ∧ Acs s' A2 n2 c2 (lp ++ l) :=
  (popped_ac D L s A n c l hA β Ap np cp lp hP hn).mono fun v L' s' _ h => ⟨_, h.1.symm, rfl, h.2⟩
theorem insA_le {D : Nat} {s s' : World} {l : List Ins} {m : List (List Value)} (h : All2 (fun x cs => cs.length = 4 ∧ InsR s x cs) l m) (hl : Le D s s') : All2 (fun x cs => cs.length = 4 ∧ InsR s' x cs) l m := h.mono fun a b h => ⟨h.1, h.2.le hl⟩
theorem uD {x : Int} (h : (decide (0 ≤ x) && decide (x < 4294967296)) = true) : U32 x := by simpa [U32] using h
def popL : List Ac := [⟨2, 2, ⟨1, 2⟩, ⟨0, 1⟩⟩, ⟨13, 1, ⟨1, 2⟩, ⟨0, 0⟩⟩]
def defT : Tab := ⟨65536, [
  ⟨[115, 116, 111, 112], 1, false, [⟨17, 0, ⟨1, 0⟩, ⟨0, 0⟩⟩]⟩,
  ⟨[110, 117, 109], 2, true, [⟨0, 0, ⟨2, 0⟩, ⟨0, 0⟩⟩]⟩,
  ⟨[108, 111, 97, 100], 3, true, [⟨13, 0, ⟨2, 0⟩, ⟨0, 0⟩⟩]⟩,
  ⟨[115, 116, 111, 114, 101], 4, true, [⟨14, 0, ⟨2, 0⟩, ⟨1, 0⟩⟩]⟩,
  ⟨[108, 111, 99, 97, 108], 5, true, [⟨2, 1, ⟨1, 2⟩, ⟨2, 0⟩⟩, ⟨13, 0, ⟨1, 1⟩, ⟨0, 0⟩⟩]⟩,
  ⟨[97, 115, 115, 105, 103, 110], 6, true, [⟨2, 1, ⟨1, 2⟩, ⟨2, 0⟩⟩, ⟨14, 0, ⟨1, 1⟩, ⟨1, 0⟩⟩]⟩,
  ⟨[102, 101, 116, 99, 104], 7, true, [⟨1, 1, ⟨1, 0⟩, ⟨2, 0⟩⟩, ⟨13, 0, ⟨1, 1⟩, ⟨0, 0⟩⟩]⟩,
  ⟨[112, 117, 116, 97, 116], 8, true, [⟨2, 2, ⟨1, 2⟩, ⟨0, 1⟩⟩, ⟨13, 1, ⟨1, 2⟩, ⟨0, 0⟩⟩, ⟨1, 1, ⟨1, 1⟩, ⟨2, 0⟩⟩, ⟨14, 0, ⟨1, 1⟩, ⟨1, 0⟩⟩]⟩,
  ⟨[112, 117, 115, 104], 9, false, [⟨14, 0, ⟨1, 2⟩, ⟨1, 0⟩⟩, ⟨1, 2, ⟨1, 2⟩, ⟨0, 1⟩⟩]⟩,
  ⟨[100, 114, 111, 112], 10, true, [⟨2, 2, ⟨1, 2⟩, ⟨2, 0⟩⟩]⟩,
  ⟨[97, 100, 100], 11, false, [⟨2, 2, ⟨1, 2⟩, ⟨0, 1⟩⟩, ⟨13, 1, ⟨1, 2⟩, ⟨0, 0⟩⟩, ⟨1, 0, ⟨1, 1⟩, ⟨1, 0⟩⟩]⟩,
  ⟨[115, 117, 98], 12, false, [⟨2, 2, ⟨1, 2⟩, ⟨0, 1⟩⟩, ⟨13, 1, ⟨1, 2⟩, ⟨0, 0⟩⟩, ⟨2, 0, ⟨1, 1⟩, ⟨1, 0⟩⟩]⟩,
  ⟨[109, 117, 108], 13, false, [⟨2, 2, ⟨1, 2⟩, ⟨0, 1⟩⟩, ⟨13, 1, ⟨1, 2⟩, ⟨0, 0⟩⟩, ⟨3, 0, ⟨1, 1⟩, ⟨1, 0⟩⟩]⟩,
  ⟨[100, 105, 118], 14, false, [⟨2, 2, ⟨1, 2⟩, ⟨0, 1⟩⟩, ⟨13, 1, ⟨1, 2⟩, ⟨0, 0⟩⟩, ⟨18, 0, ⟨0, 2⟩, ⟨1, 0⟩⟩, ⟨4, 0, ⟨1, 1⟩, ⟨1, 0⟩⟩]⟩,
  ⟨[109, 111, 100], 15, false, [⟨2, 2, ⟨1, 2⟩, ⟨0, 1⟩⟩, ⟨13, 1, ⟨1, 2⟩, ⟨0, 0⟩⟩, ⟨18, 0, ⟨0, 2⟩, ⟨1, 0⟩⟩, ⟨5, 0, ⟨1, 1⟩, ⟨1, 0⟩⟩]⟩,
  ⟨[97, 110, 100], 16, false, [⟨2, 2, ⟨1, 2⟩, ⟨0, 1⟩⟩, ⟨13, 1, ⟨1, 2⟩, ⟨0, 0⟩⟩, ⟨6, 0, ⟨1, 1⟩, ⟨1, 0⟩⟩]⟩,
  ⟨[111, 114], 17, false, [⟨2, 2, ⟨1, 2⟩, ⟨0, 1⟩⟩, ⟨13, 1, ⟨1, 2⟩, ⟨0, 0⟩⟩, ⟨7, 0, ⟨1, 1⟩, ⟨1, 0⟩⟩]⟩,
  ⟨[120, 111, 114], 18, false, [⟨2, 2, ⟨1, 2⟩, ⟨0, 1⟩⟩, ⟨13, 1, ⟨1, 2⟩, ⟨0, 0⟩⟩, ⟨8, 0, ⟨1, 1⟩, ⟨1, 0⟩⟩]⟩,
  ⟨[108, 101, 102, 116], 19, false, [⟨2, 2, ⟨1, 2⟩, ⟨0, 1⟩⟩, ⟨13, 1, ⟨1, 2⟩, ⟨0, 0⟩⟩, ⟨9, 0, ⟨1, 1⟩, ⟨1, 0⟩⟩]⟩,
  ⟨[114, 105, 103, 104, 116], 20, false, [⟨2, 2, ⟨1, 2⟩, ⟨0, 1⟩⟩, ⟨13, 1, ⟨1, 2⟩, ⟨0, 0⟩⟩, ⟨10, 0, ⟨1, 1⟩, ⟨1, 0⟩⟩]⟩,
  ⟨[101, 113], 21, false, [⟨2, 2, ⟨1, 2⟩, ⟨0, 1⟩⟩, ⟨13, 1, ⟨1, 2⟩, ⟨0, 0⟩⟩, ⟨11, 0, ⟨1, 1⟩, ⟨1, 0⟩⟩]⟩,
  ⟨[108, 101, 115, 115], 22, false, [⟨2, 2, ⟨1, 2⟩, ⟨0, 1⟩⟩, ⟨13, 1, ⟨1, 2⟩, ⟨0, 0⟩⟩, ⟨12, 0, ⟨1, 1⟩, ⟨1, 0⟩⟩]⟩,
  ⟨[109, 111, 114, 101], 23, false, [⟨2, 2, ⟨1, 2⟩, ⟨0, 1⟩⟩, ⟨13, 1, ⟨1, 2⟩, ⟨0, 0⟩⟩, ⟨12, 0, ⟨1, 0⟩, ⟨1, 1⟩⟩]⟩,
  ⟨[122, 101, 114, 111], 24, false, [⟨11, 0, ⟨1, 0⟩, ⟨0, 0⟩⟩]⟩,
  ⟨[98, 111, 117, 110, 100], 25, true, [⟨12, 1, ⟨1, 0⟩, ⟨2, 0⟩⟩, ⟨18, 0, ⟨0, 1⟩, ⟨1, 1⟩⟩]⟩,
  ⟨[106, 117, 109, 112], 26, true, [⟨0, 4, ⟨2, 0⟩, ⟨0, 0⟩⟩]⟩,
  ⟨[106, 122, 101, 114, 111], 27, true, [⟨19, 4, ⟨2, 0⟩, ⟨1, 0⟩⟩]⟩,
  ⟨[99, 97, 108, 108], 28, true, [⟨1, 3, ⟨1, 3⟩, ⟨0, 1⟩⟩, ⟨12, 1, ⟨1, 3⟩, ⟨0, 101⟩⟩, ⟨18, 0, ⟨0, 3⟩, ⟨1, 1⟩⟩, ⟨14, 0, ⟨1, 2⟩, ⟨1, 4⟩⟩, ⟨1, 2, ⟨1, 2⟩, ⟨0, 1⟩⟩, ⟨0, 4, ⟨2, 0⟩, ⟨0, 0⟩⟩]⟩,
  ⟨[114, 101, 116], 29, true, [⟨2, 2, ⟨1, 2⟩, ⟨2, 0⟩⟩, ⟨13, 4, ⟨1, 2⟩, ⟨0, 0⟩⟩, ⟨2, 3, ⟨1, 3⟩, ⟨0, 1⟩⟩]⟩,
  ⟨[103, 101, 116], 30, false, [⟨15, 0, ⟨0, 0⟩, ⟨0, 0⟩⟩]⟩,
  ⟨[112, 117, 116], 31, false, [⟨16, 0, ⟨1, 0⟩, ⟨0, 0⟩⟩]⟩,
  ⟨[115, 116, 97, 99, 107], 32, true, [⟨0, 2, ⟨2, 0⟩, ⟨0, 0⟩⟩]⟩]⟩
end Go.Proofs.YteomcjpigoaioaaGreatDoor
