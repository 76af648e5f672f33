/- Part 5 of the proof of primerReadMatchesSpec_holds: texts P11, P12, FlR, P10, P13, P14, P15. -/
import Derived.Test.YtoeeblegplghmaaGreatDoorQ19x4
import Derived.RangeFuncIn
import Derived.RangeFuncLeaves
import Derived.RangeFuncCalls
import Derived.RangeFuncRecord
import Derived.TacticsIn
import Derived.Sort.LoopGhostIn
import Derived.OrdersIn
set_option linter.unusedVariables false
set_option linter.unusedSimpArgs false
set_option linter.unnecessarySimpa false
namespace Go.Proofs.YtoeeblegplghmaaGreatDoor
open Go.FL
attribute [local irreducible] JC JO JA JB thenQ blockQ retQ AC fill CellsAt QE Ev Mid
theorem suffix_any (l sg : List UInt8) : Lib.hasSuffix l sg = ends l sg := by
  rw [Lib.hasSuffix, ends, Bool.eq_iff_iff, List.isSuffixOf_iff_suffix, decide_eq_true_eq]
  constructor
  · rintro ⟨t, rfl⟩; rw [cutS_app]
  · intro h; exact ⟨_, h.symm⟩
theorem cutSuf_ac (D : Nat) (L : Hl) (s : World) (l sg : List UInt8) (hl : l.length ≤ 9223372036854775807) : AC Tryz.prog D 66 [St l, St sg] L s fun v L' _ => v = .tuple #[St (if ends l sg = true then cutS l sg else l), .bool (ends l sg)] ∧ L = L' :=
  AC.of_calls fnok_suffix fun _ => (Any.strings_CutSuffix Tryz.lays104 ⟨l.toArray⟩ ⟨sg.toArray⟩ (fill L s) (by simpa [Lib.size_eq] using hl)).mono fun e w' ⟨he, hw⟩ => by
    refine ⟨_, he, by rw [hw]; exact below_refl _, fun s' _ _ _ => ⟨?_, rfl⟩⟩
    show Value.tuple #[.string ⟨(Lib.trimSuffix l sg).toArray⟩, .bool (Lib.hasSuffix l sg)] = _
    rw [Lib.trimSuffix, suffix_any]; rfl
theorem prsL_len : ∀ (is : List It) (ws : List (List UInt8)) (a b : Ac), prsL is ws a = some b → is.length = ws.length
  | [], [], _, _, _ => rfl
  | it :: is, w :: ws, a, b, h => by
    rw [prsL] at h
    obtain ⟨c, _, hc⟩ := Option.bind_eq_some_iff.1 h
    rw [List.length_cons, List.length_cons, prsL_len is ws c b hc]
  | [], _ :: _, _, _, h => by cases h
  | _ :: _, [], _, _, h => by cases h
theorem rd_len {k : Nat} {ws : List (List UInt8)} (hk : k < 20) (h : ¬ ws.length = (flds (sentS k)).length) : rdA k ws = none := by
  cases e : rdA k ws with
  | none => rfl
  | some a => exact absurd (by have := prsL_len _ _ _ _ e; rw [← sent_items k hk, List.length_map] at this; exact this.symm) h
theorem rd_step {k j : Nat} {ws : List (List UInt8)} {a : Ac} {w u : List UInt8} (hk : k < 20) (hS : rdA k ws = prsL ((sentK k).drop j) (ws.drop j) a) (hw : (flds (sentS k))[j]? = some w) (hu : ws[j]? = some u) : rdA k ws = (prsI a (itW w) u).bind (prsL ((sentK k).drop (j + 1)) (ws.drop (j + 1))) := by
  have hi : (sentK k)[j]? = some (itW w) := by rw [← sent_items k hk, List.getElem?_map, hw]; rfl
  rw [hS, drop_at hi, drop_at hu, prsL]
theorem rd_no {k j : Nat} {ws : List (List UInt8)} {a : Ac} {w u : List UInt8} (hk : k < 20) (hS : rdA k ws = prsL ((sentK k).drop j) (ws.drop j) a) (hw : (flds (sentS k))[j]? = some w) (hu : ws[j]? = some u) (h : prsI a (itW w) u = none) : rdA k ws = none := by rw [rd_step hk hS hw hu, h]; rfl
theorem rd_yes {k j : Nat} {ws : List (List UInt8)} {a b : Ac} {w u : List UInt8} (hk : k < 20) (hS : rdA k ws = prsL ((sentK k).drop j) (ws.drop j) a) (hw : (flds (sentS k))[j]? = some w) (hu : ws[j]? = some u) (h : prsI a (itW w) u = some b) : rdA k ws = prsL ((sentK k).drop (j + 1)) (ws.drop (j + 1)) b := by rw [rd_step hk hS hw hu, h]; rfl
theorem rd_end {k j : Nat} {ws : List (List UInt8)} {a : Ac} (hk : k < 20) (hS : rdA k ws = prsL ((sentK k).drop j) (ws.drop j) a) (h1 : (flds (sentS k)).length ≤ j) (h2 : ws.length = (flds (sentS k)).length) : rdA k ws = some a := by
  have h3 : (sentK k).length ≤ j := by rw [← sent_items k hk, List.length_map]; exact h1
  rw [hS, List.drop_of_length_le h3, List.drop_of_length_le (by omega)]; rfl
variable {a : Ac} {w u : List UInt8}
theorem it_t (h : trimDC w = [116]) : itW w = .tt (w.drop (trimDC w).length) := if_pos h
theorem it_x (h1 : ¬ trimDC w = [116]) (h : trimDC w = [120]) : itW w = .xx (w.drop (trimDC w).length) := by rw [itW, if_neg h1, if_pos h]
theorem it_y (h1 : ¬ trimDC w = [116]) (h2 : ¬ trimDC w = [120]) (h : trimDC w = [121]) : itW w = .yy (w.drop (trimDC w).length) := by rw [itW, if_neg h1, if_neg h2, if_pos h]
theorem it_n (h1 : ¬ trimDC w = [116]) (h2 : ¬ trimDC w = [120]) (h : ¬ trimDC w = [121]) : itW w = .lit w := by rw [itW, if_neg h1, if_neg h2, if_neg h]
variable {sg : List UInt8}
theorem pt_yes (h : ends u sg = true) (h2 : 0 ≤ regN (if ends u sg = true then cutS u sg else u)) : prsI a (.tt sg) u = some ⟨a.kind, regN (if ends u sg = true then cutS u sg else u), a.x, a.y⟩ := by
  rw [if_pos h] at h2 ⊢; rw [prsI, if_pos ⟨h, h2⟩]
theorem pt_no1 (h : ends u sg = false) : prsI a (.tt sg) u = none := by rw [prsI, if_neg (by rw [h]; simp)]
theorem pt_no2 (h : ends u sg = true) (h2 : ¬ 0 ≤ regN (if ends u sg = true then cutS u sg else u)) : prsI a (.tt sg) u = none := by
  rw [if_pos h] at h2; rw [prsI, if_neg (fun e => h2 e.2)]
theorem px_yes {x : Tm} (h : ends u sg = true) (h2 : (trmO (if ends u sg = true then cutS u sg else u)).isSome = true) (h3 : ∀ y, trmO (if ends u sg = true then cutS u sg else u) = some y → x = y) : prsI a (.xx sg) u = some ⟨a.kind, a.tgt, x, a.y⟩ := by
  rw [if_pos h] at h2 h3
  obtain ⟨y, hy⟩ := Option.isSome_iff_exists.1 h2
  rw [prsI, if_pos h, hy, h3 y hy]; rfl
theorem px_no1 (h : ends u sg = false) : prsI a (.xx sg) u = none := by rw [prsI, if_neg (by rw [h]; simp)]
theorem px_no2 (h : ends u sg = true) (h2 : (trmO (if ends u sg = true then cutS u sg else u)).isSome = false) : prsI a (.xx sg) u = none := by
  rw [if_pos h] at h2; rw [prsI, if_pos h, Option.isSome_eq_false_iff, Option.isNone_iff_eq_none] at *; rw [h2]; rfl
theorem py_yes {x : Tm} (h : ends u sg = true) (h2 : (trmO (if ends u sg = true then cutS u sg else u)).isSome = true) (h3 : ∀ y, trmO (if ends u sg = true then cutS u sg else u) = some y → x = y) : prsI a (.yy sg) u = some ⟨a.kind, a.tgt, a.x, x⟩ := by
  rw [if_pos h] at h2 h3
  obtain ⟨y, hy⟩ := Option.isSome_iff_exists.1 h2
  rw [prsI, if_pos h, hy, h3 y hy]; rfl
theorem py_no1 (h : ends u sg = false) : prsI a (.yy sg) u = none := by rw [prsI, if_neg (by rw [h]; simp)]
theorem py_no2 (h : ends u sg = true) (h2 : (trmO (if ends u sg = true then cutS u sg else u)).isSome = false) : prsI a (.yy sg) u = none := by
  rw [if_pos h] at h2; rw [prsI, if_pos h, Option.isSome_eq_false_iff, Option.isNone_iff_eq_none] at *; rw [h2]; rfl
theorem cut_len (u sg : List UInt8) : (if ends u sg = true then cutS u sg else u).length ≤ u.length := by
  split
  · rw [cutS, List.length_take]; omega
  · exact Nat.le_refl _
set_option maxHeartbeats 4000000 in
set_option maxRecDepth 100000 in
theorem readAction_ac (D : Nat) (L : Hl) (s : World) (hG : GP s) (k : Nat) (hk : k < 20) (A : Option Addr) (n c : Nat) (ws : List (List UInt8)) (hS : Strs s A n c ws) (hz : sizeW ws ≤ 1000000) : AC Tryz.prog D 72 [.int .i64 (k : Int), .slice A n c] L s fun v L' _ => L = L' ∧ ∃ a : Ac, v = .tuple #[.agg #[.int .i64 a.kind, .int .i64 a.tgt, .int .i64 a.x.kind, .int .u32 a.x.val, .int .i64 a.y.kind, .int .u32 a.y.val], .bool (rdA k ws).isSome] ∧ ∀ y, rdA k ws = some y → a = y := by
 have hn := hS.1
 have hc1 := hS.2.1
 have hc2 := hS.2.2.1
 have hsk := sent_okT k hk
 have hfl := flds_len (sentS k)
 refine AC_enter (TT := TT) (fn := Tryz.f72) TT_ok Tryz.func72 (by kernel_rfl) rfl Tryz.ntmps72 rfl (rs := [.cell 4 68, .tmp 5]) rfl [(0, _), (1, _)] rfl ?_
 refine JC_seq ?_
 refine JC_region ?_
 refine JO_allocZ rfl [_, _, _, _, _, _] rfl rfl ?_
 intro β1 s1 h1
 refine JO_q (QE_as rfl) rfl ?_
 refine JO_nil ?_
 refine thenQ_n ?_
 refine JC_seq ?_
 refine JC_region ?_
 refine JO_q (QE_mv rfl) rfl ?_
 refine JO_q (QE_build [(_, _)] [_, _, _, _, _, _] rfl rfl rfl rfl rfl rfl) rfl ?_
 refine JO_allocZ rfl [_, _, _, _, _, _] rfl rfl ?_
 intro β2 s2 h2
 refine JO_st 0 [_, _, _, _, _, _] rfl rfl rfl rfl rfl rfl rfl rfl rfl ?_
 refine JO_nil ?_
 refine thenQ_n ?_
 refine JC_seq ?_
 refine JC_region ?_
 refine JO_q (QE_mv rfl) rfl ?_
 refine JO_call (first := []) (captured := []) rfl rfl rfl (psent_ac D _ _ k hk) ?_
 rintro _ _ s3 h3 ⟨rfl, rfl⟩
 refine JO_call (first := []) (captured := []) rfl rfl rfl (fieldsS_ac D _ _ (hG.le (Le.trans (Le.trans h1 h2) h3)) (sentS k) (by omega) hsk.1) ?_
 rintro _ _ s4 h4 ⟨rfl, A1, n1, c1, rfl, hW⟩
 have hn1 := hW.1
 refine JO_q (QE_as rfl) rfl ?_
 refine JO_nil ?_
 refine thenQ_n ?_
 refine JC_seq ?_
 refine JC_seq ?_
 refine JC_region ?_
 refine JO_q (QE_mv rfl) rfl ?_
 refine JO_q (QE_lenS rfl rfl rfl) rfl ?_
 refine JO_q (QE_mv rfl) rfl ?_
 refine JO_q (QE_lenS rfl rfl rfl) rfl ?_
 refine JO_q (QE_ne rfl rfl) rfl ?_
 refine JO_nil ?_
 refine thenQ_n ?_
 refine JC_ifN rfl (fun c5 => ?_) (fun c5 => ?_)
 ·
  have hlen : ¬ ws.length = (flds (sentS k)).length := by have := c5; omega
  refine JC_seq ?_
  refine JC_region ?_
  refine JO_q (QE_ldA 0 [_, _, _, _, _, _] rfl rfl rfl rfl rfl) rfl ?_
  refine JO_st 1 [_, _, _, _, _, _] rfl rfl rfl rfl rfl rfl rfl rfl rfl ?_
  refine JO_q (QE_as rfl) rfl ?_
  refine JO_nil ?_
  refine thenQ_n ?_
  refine JC_ret ?_
  refine thenQ_r ?_
  refine retQ_mk [_, _] L (.inr rfl) (.agg (us := [_, _, _, _, _, _]) 1 rfl rfl rfl rfl rfl (.tmp rfl (.nil))) rfl (Le.trans (Le.trans (Le.trans h1 h2) h3) h4) (fun sR hS2 => ?_)
  refine ⟨rfl, ?_⟩
  first
    | exact ⟨ac0 k, by rw [rd_len hk hlen]; rfl, fun y hy => by rw [rd_len hk hlen] at hy; cases hy⟩
    | exact ⟨a, by rw [hR2]; rfl, fun y hy => by rw [hR2] at hy; injection hy⟩
    | (have hN : rdA k ws = none := rd_no hk hR hw hu (by rw [it_t hT]; first | exact pt_no1 (by assumption) | exact pt_no2 (by assumption) (by assumption))
       exact ⟨⟨a.kind, regN (if ends u (w.drop (trimDC w).length) = true then cutS u (w.drop (trimDC w).length) else u), a.x, a.y⟩, by rw [hN]; rfl, fun y hy => by rw [hN] at hy; cases hy⟩)
    | (have hN : rdA k ws = none := rd_no hk hR hw hu (by rw [it_x hT hX]; first | exact px_no1 (by assumption) | exact px_no2 (by assumption) (by assumption))
       exact ⟨⟨a.kind, a.tgt, xt, a.y⟩, by rw [hN]; rfl, fun y hy => by rw [hN] at hy; cases hy⟩)
    | (have hN : rdA k ws = none := rd_no hk hR hw hu (by rw [it_y hT hX hY]; first | exact py_no1 (by assumption) | exact py_no2 (by assumption) (by assumption))
       exact ⟨⟨a.kind, a.tgt, a.x, xt⟩, by rw [hN]; rfl, fun y hy => by rw [hN] at hy; cases hy⟩)
    | (have hN : rdA k ws = none := rd_no hk hR hw hu (by rw [it_n hT hX hY]; exact if_neg (by assumption))
       exact ⟨a, by rw [hN]; rfl, fun y hy => by rw [hN] at hy; cases hy⟩)
 ·
  have hlen : ws.length = (flds (sentS k)).length := by have := c5; omega
  refine JC_skip ?_
  refine thenQ_n ?_
  refine JC_seq ?_
  refine JC_seq ?_
  refine JC_region ?_
  refine JO_q (QE_mv rfl) rfl ?_
  refine JO_q (QE_lenS rfl rfl rfl) rfl ?_
  refine JO_q (QE_mv rfl) rfl ?_
  refine JO_nil ?_
  refine thenQ_n ?_
  refine JC_block ?_
  refine JC_loop (γ := Nat × Ac) (fun g => [(1, _), (4, _), (5, _), (6, _), (27, _), (28, _), (29, .int .i64 (g.1 : Int))]) (fun g => (β2, cb [.int .i64 g.2.kind, .int .i64 g.2.tgt, .int .i64 g.2.x.kind, .int .u32 g.2.x.val, .int .i64 g.2.y.kind, .int .u32 g.2.y.val] 68) :: (β1, cb [.int .i64 0, .int .i64 0, .int .i64 0, .int .u32 0, .int .i64 0, .int .u32 0] 68) :: L) (fun g tw => Le D s4 tw ∧ (g.1 ≤ n1 ∧ rdA k ws = prsL ((sentK k).drop g.1) (ws.drop g.1) g.2)) (fun g => n1 - g.1) (fun _ _ _ h hl => ⟨h.1.trans hl, h.2⟩) (0, ac0 k) (Keeps.cons rfl (Keeps.cons rfl (Keeps.cons rfl (Keeps.cons rfl (Keeps.cons rfl (Keeps.cons rfl (Keeps.cons rfl (Keeps.nil _)))))))) rfl ⟨Le.refl _, ⟨Nat.zero_le _, rfl⟩⟩ ?_
  intro g s6 I6
  obtain ⟨j, a⟩ := g
  obtain ⟨hj0, hR⟩ := I6.2
  simp only at hj0 hR
  dsimp only
  refine JC_seq ?_
  refine JC_region ?_
  refine JO_q (QE_lt rfl rfl) rfl ?_
  refine JO_nil ?_
  refine thenQ_n ?_
  refine JC_seq ?_
  refine JC_ifD rfl (fun c7 => ?_) (fun c7 => ?_)
  ·
   have hj : j < n1 := by omega
   obtain ⟨b, off, w, rfl, hw, hcw, _⟩ := Strs.at_ (hW.le I6.1) hj
   have hwl := flds_short _ w (List.mem_of_getElem? hw)
   have htl := trim_len w
   obtain ⟨bu, offu, u, hEu, hu, hcu, _⟩ := Strs.at_ (hS.le (Le.trans (Le.trans (Le.trans (Le.trans h1 h2) h3) h4) I6.1)) (show j < n by omega)
   subst hEu
   have hul := mem_size (List.mem_of_getElem? hu)
   refine JC_skip ?_
   refine thenQ_n ?_
   refine JC_seq ?_
   refine JC_block ?_
   refine JC_seq ?_
   refine JC_region ?_
   refine JO_q (QE_mv rfl) rfl ?_
   refine JO_q (QE_ia1 rfl rfl rfl rfl rfl rfl hj) rfl ?_
   refine JO_q (QE_ldsR0 rfl rfl rfl (hcw.le (Le.refl (D := D) _)) rfl) rfl ?_
   refine JO_q (QE_as rfl) rfl ?_
   refine JO_q (QE_as rfl) rfl ?_
   refine JO_nil ?_
   refine thenQ_n ?_
   refine JC_seq ?_
   refine JC_region ?_
   refine JO_q (QE_mv rfl) rfl ?_
   refine JO_call (first := []) (captured := []) rfl rfl rfl (part_ac D _ _ w (by omega)) ?_
   rintro _ _ s8 h8 ⟨rfl, rfl⟩
   refine JO_q (QE_mv rfl) rfl ?_
   refine JO_q (QE_ext rfl rfl) rfl ?_
   refine JO_q (QE_ext rfl rfl) rfl ?_
   refine JO_q (QE_as rfl) rfl ?_
   refine JO_q (QE_as rfl) rfl ?_
   refine JO_nil ?_
   refine thenQ_n ?_
   refine JC_seq ?_
   refine JC_region ?_
   refine JO_q (QE_mv rfl) rfl ?_
   refine JO_q (QE_mv rfl) rfl ?_
   refine JO_q (QE_ia1 rfl rfl rfl rfl rfl rfl (show j < n by omega)) rfl ?_
   refine JO_q (QE_ldsR0 rfl rfl rfl (hcu.le h8) rfl) rfl ?_
   refine JO_q (QE_mv rfl) rfl ?_
   refine JO_call (first := []) (captured := []) rfl rfl rfl (cutSuf_ac D _ _ u (w.drop (trimDC w).length) (by omega)) ?_
   rintro _ _ s9 h9 ⟨rfl, rfl⟩
   have hcl := cut_len u (w.drop (trimDC w).length)
   refine JO_q (QE_mv rfl) rfl ?_
   refine JO_q (QE_ext rfl rfl) rfl ?_
   refine JO_q (QE_ext rfl rfl) rfl ?_
   refine JO_q (QE_as rfl) rfl ?_
   refine JO_q (QE_as rfl) rfl ?_
   refine JO_nil ?_
   refine thenQ_n ?_
   refine JC_seq ?_
   refine JC_seq ?_
   refine JC_region ?_
   refine JO_q (QE_mv rfl) rfl ?_
   refine JO_nil ?_
   refine thenQ_n ?_
   refine JC_block ?_
   refine JC_seq ?_
   refine JC_region ?_
   refine JO_q (QE_seq rfl rfl) rfl ?_
   refine JO_q (QE_as rfl) rfl ?_
   refine JO_nil ?_
   refine thenQ_n ?_
   refine JC_ifD rfl (fun c10 => ?_) (fun c10 => ?_)
   ·
    have hT : trimDC w = [116] := c10
    refine JC_seq ?_
    refine JC_region ?_
    refine JO_q (QE_mv rfl) rfl ?_
    refine JO_call (first := []) (captured := []) rfl rfl rfl (register_ac D _ _ _) ?_
    rintro _ _ s11 h11 ⟨rfl, rfl⟩
    refine JO_q (QE_faB rfl rfl rfl rfl) rfl ?_
    refine JO_st 0 [_, _, _, _, _, _] rfl rfl rfl rfl rfl rfl rfl rfl rfl ?_
    refine JO_nil ?_
    refine thenQ_n ?_
    refine JC_region ?_
    refine JO_q (QE_mv rfl) rfl ?_
    refine JO_q (QE_mv rfl) rfl ?_
    refine JO_case (t := 61) rfl (fun c12 => ?_) (fun c12 => ?_)
    ·
     refine JO_gT rfl rfl ?_
     refine JO_q (QE_faB rfl rfl rfl rfl) rfl ?_
     refine JO_gT rfl rfl ?_
     refine JO_q (QE_ld1 0 rfl rfl rfl rfl rfl) rfl ?_
     refine JO_gT rfl rfl ?_
     refine JO_q (QE_ge rfl rfl) rfl ?_
     refine JO_q (QE_pickT rfl rfl) rfl ?_
     refine JO_q (QE_as rfl) rfl ?_
     refine JO_nil ?_
     refine blockQ_n ?_
     refine thenQ_n ?_
     refine JC_seq ?_
     refine JC_region ?_
     refine JO_q (QE_mv rfl) rfl ?_
     refine JO_q (QE_not rfl) rfl ?_
     refine JO_nil ?_
     refine thenQ_n ?_
     refine JC_ifN rfl (fun c13 => ?_) (fun c13 => ?_)
     ·
      have hno := c13
      refine JC_seq ?_
      refine JC_region ?_
      refine JO_q (QE_ldA 0 [_, _, _, _, _, _] rfl rfl rfl rfl rfl) rfl ?_
      refine JO_st 1 [_, _, _, _, _, _] rfl rfl rfl rfl rfl rfl rfl rfl rfl ?_
      refine JO_q (QE_as rfl) rfl ?_
      refine JO_nil ?_
      refine thenQ_n ?_
      refine JC_ret ?_
      refine blockQ_r ?_
      refine thenQ_r ?_
      refine thenQ_r ?_
      refine blockQ_r ?_
      refine thenQ_r ?_
      refine retQ_mk [_, _] L (.inr rfl) (.agg (us := [_, _, _, _, _, _]) 1 rfl rfl rfl rfl rfl (.tmp rfl (.nil))) rfl (Le.trans (Le.trans (Le.trans (Le.trans (Le.trans (Le.trans (Le.trans h1 h2) h3) h4) I6.1) h8) h9) h11) (fun sR hS2 => ?_)
      refine ⟨rfl, ?_⟩
      first
        | exact ⟨ac0 k, by rw [rd_len hk hlen]; rfl, fun y hy => by rw [rd_len hk hlen] at hy; cases hy⟩
        | exact ⟨a, by rw [hR2]; rfl, fun y hy => by rw [hR2] at hy; injection hy⟩
        | (have hN : rdA k ws = none := rd_no hk hR hw hu (by rw [it_t hT]; first | exact pt_no1 (by assumption) | exact pt_no2 (by assumption) (by assumption))
           exact ⟨⟨a.kind, regN (if ends u (w.drop (trimDC w).length) = true then cutS u (w.drop (trimDC w).length) else u), a.x, a.y⟩, by rw [hN]; rfl, fun y hy => by rw [hN] at hy; cases hy⟩)
        | (have hN : rdA k ws = none := rd_no hk hR hw hu (by rw [it_x hT hX]; first | exact px_no1 (by assumption) | exact px_no2 (by assumption) (by assumption))
           exact ⟨⟨a.kind, a.tgt, xt, a.y⟩, by rw [hN]; rfl, fun y hy => by rw [hN] at hy; cases hy⟩)
        | (have hN : rdA k ws = none := rd_no hk hR hw hu (by rw [it_y hT hX hY]; first | exact py_no1 (by assumption) | exact py_no2 (by assumption) (by assumption))
           exact ⟨⟨a.kind, a.tgt, a.x, xt⟩, by rw [hN]; rfl, fun y hy => by rw [hN] at hy; cases hy⟩)
        | (have hN : rdA k ws = none := rd_no hk hR hw hu (by rw [it_n hT hX hY]; exact if_neg (by assumption))
           exact ⟨a, by rw [hN]; rfl, fun y hy => by rw [hN] at hy; cases hy⟩)
     ·
      have hyes := c13
      refine JC_skip ?_
      refine blockQ_n ?_
      refine thenQ_n ?_
      refine JC_region ?_
      refine JO_q (QE_add' rfl rfl (w64 (by omega) (by omega))) rfl ?_
      refine JO_q (QE_mv rfl) rfl ?_
      refine JO_nil ?_
      refine thenQ_n ⟨(j + 1, ⟨a.kind, _, a.x, a.y⟩), [], (Keeps.cons rfl (Keeps.cons rfl (Keeps.cons rfl (Keeps.cons rfl (Keeps.cons rfl (Keeps.cons rfl (Keeps.cons rfl (Keeps.nil _)))))))), rfl, ⟨(Le.trans (Le.trans (Le.trans I6.1 h8) h9) h11), ⟨by simp only; omega, by
        first
        | exact rd_yes hk hR hw hu (by rw [it_t hT]; exact pt_yes (by assumption) (by assumption))
        | exact rd_yes hk hR hw hu (by rw [it_x hT hX]; exact px_yes (by assumption) (by assumption) hxv)
        | exact rd_yes hk hR hw hu (by rw [it_y hT hX hY]; exact py_yes (by assumption) (by assumption) hxv)
        | exact rd_yes hk hR hw hu (by rw [it_n hT hX hY]; exact if_pos (by assumption))⟩⟩, (by simp only; omega)⟩
    ·
     refine JO_gF rfl rfl rfl rfl ?_
     refine JO_gF rfl rfl rfl rfl ?_
     refine JO_gF rfl rfl rfl rfl ?_
     refine JO_q (QE_pickF rfl rfl) rfl ?_
     refine JO_q (QE_as rfl) rfl ?_
     refine JO_nil ?_
     refine blockQ_n ?_
     refine thenQ_n ?_
     refine JC_seq ?_
     refine JC_region ?_
     refine JO_q (QE_mv rfl) rfl ?_
     refine JO_q (QE_notF rfl) rfl ?_
     refine JO_nil ?_
     refine thenQ_n ?_
     refine JC_ifT rfl ?_
     have hno := trivial
     refine JC_seq ?_
     refine JC_region ?_
     refine JO_q (QE_ldA 0 [_, _, _, _, _, _] rfl rfl rfl rfl rfl) rfl ?_
     refine JO_st 1 [_, _, _, _, _, _] rfl rfl rfl rfl rfl rfl rfl rfl rfl ?_
     refine JO_q (QE_as rfl) rfl ?_
     refine JO_nil ?_
     refine thenQ_n ?_
     refine JC_ret ?_
     refine blockQ_r ?_
     refine thenQ_r ?_
     refine thenQ_r ?_
     refine blockQ_r ?_
     refine thenQ_r ?_
     refine retQ_mk [_, _] L (.inr rfl) (.agg (us := [_, _, _, _, _, _]) 1 rfl rfl rfl rfl rfl (.tmp rfl (.nil))) rfl (Le.trans (Le.trans (Le.trans (Le.trans (Le.trans (Le.trans (Le.trans h1 h2) h3) h4) I6.1) h8) h9) h11) (fun sR hS2 => ?_)
     refine ⟨rfl, ?_⟩
     first
       | exact ⟨ac0 k, by rw [rd_len hk hlen]; rfl, fun y hy => by rw [rd_len hk hlen] at hy; cases hy⟩
       | exact ⟨a, by rw [hR2]; rfl, fun y hy => by rw [hR2] at hy; injection hy⟩
       | (have hN : rdA k ws = none := rd_no hk hR hw hu (by rw [it_t hT]; first | exact pt_no1 (by assumption) | exact pt_no2 (by assumption) (by assumption))
          exact ⟨⟨a.kind, regN (if ends u (w.drop (trimDC w).length) = true then cutS u (w.drop (trimDC w).length) else u), a.x, a.y⟩, by rw [hN]; rfl, fun y hy => by rw [hN] at hy; cases hy⟩)
       | (have hN : rdA k ws = none := rd_no hk hR hw hu (by rw [it_x hT hX]; first | exact px_no1 (by assumption) | exact px_no2 (by assumption) (by assumption))
          exact ⟨⟨a.kind, a.tgt, xt, a.y⟩, by rw [hN]; rfl, fun y hy => by rw [hN] at hy; cases hy⟩)
       | (have hN : rdA k ws = none := rd_no hk hR hw hu (by rw [it_y hT hX hY]; first | exact py_no1 (by assumption) | exact py_no2 (by assumption) (by assumption))
          exact ⟨⟨a.kind, a.tgt, a.x, xt⟩, by rw [hN]; rfl, fun y hy => by rw [hN] at hy; cases hy⟩)
       | (have hN : rdA k ws = none := rd_no hk hR hw hu (by rw [it_n hT hX hY]; exact if_neg (by assumption))
          exact ⟨a, by rw [hN]; rfl, fun y hy => by rw [hN] at hy; cases hy⟩)
   ·
    have hT : ¬ trimDC w = [116] := c10
    refine JC_seq ?_
    refine JC_seq ?_
    refine JC_region ?_
    refine JO_q (QE_seq rfl rfl) rfl ?_
    refine JO_q (QE_as rfl) rfl ?_
    refine JO_nil ?_
    refine thenQ_n ?_
    refine JC_ifD rfl (fun c14 => ?_) (fun c14 => ?_)
    ·
     have hX : trimDC w = [120] := c14
     refine JC_skip ?_
     refine thenQ_n ?_
     refine JC_ifD rfl (fun c15 => ?_) (fun c15 => ?_)
     ·
      refine JC_seq ?_
      refine JC_region ?_
      refine JO_q (QE_mv rfl) rfl ?_
      refine JO_call (first := []) (captured := []) rfl rfl rfl (readTerm_ac D _ _ (hG.le (Le.trans (Le.trans (Le.trans (Le.trans (Le.trans (Le.trans h1 h2) h3) h4) I6.1) h8) h9)) _ (by omega)) ?_
      rintro _ _ s16 h16 ⟨rfl, xt, rfl, hxu, hxv⟩
      refine JO_q (QE_mv rfl) rfl ?_
      refine JO_q (QE_ext rfl rfl) rfl ?_
      refine JO_q (QE_ext rfl rfl) rfl ?_
      refine JO_allocZ rfl [_, _] rfl rfl ?_
      intro β17 s17 h17
      refine JO_st 0 [_, _] rfl rfl rfl rfl rfl rfl rfl rfl rfl ?_
      refine JO_q (QE_as rfl) rfl ?_
      refine JO_nil ?_
      refine thenQ_n ?_
      refine JC_seq ?_
      refine JC_region ?_
      refine JO_q (QE_mv rfl) rfl ?_
      refine JO_q (QE_mv rfl) rfl ?_
      refine JO_case (t := 75) rfl (fun c18 => ?_) (fun c18 => ?_)
      ·
       refine JO_gT rfl rfl ?_
       refine JO_q (QE_mv rfl) rfl ?_
       refine JO_q (QE_pickT rfl rfl) rfl ?_
       refine JO_q (QE_as rfl) rfl ?_
       refine JO_nil ?_
       refine thenQ_n ?_
       refine JC_seq ?_
       refine JC_region ?_
       refine JO_q (QE_mv rfl) rfl ?_
       refine JO_q (QE_cast (v' := .bool true) (QE_seq rfl rfl) (bT hX)) rfl ?_
       refine JO_nil ?_
       refine thenQ_n ?_
       refine JC_ifT rfl ?_
       refine JC_region ?_
       refine JO_q (QE_ldA 0 [_, _] rfl rfl rfl rfl rfl) rfl ?_
       refine JO_q (QE_faB rfl rfl rfl rfl) rfl ?_
       refine JO_st 1 [_, _, _, _, _, _] rfl rfl rfl rfl rfl rfl rfl rfl rfl ?_
       refine JO_nil ?_
       refine blockQ_n ?_
       refine thenQ_n ?_
       refine JC_seq ?_
       refine JC_region ?_
       refine JO_q (QE_mv rfl) rfl ?_
       refine JO_q (QE_not rfl) rfl ?_
       refine JO_nil ?_
       refine thenQ_n ?_
       refine JC_ifM rfl (fun c19 => ?_) (fun c19 => ?_)
       ·
        have hno := c19
        refine JC_seq ?_
        refine JC_region ?_
        refine JO_q (QE_ldA 1 [_, _, _, _, _, _] rfl rfl rfl rfl rfl) rfl ?_
        refine JO_st 2 [_, _, _, _, _, _] rfl rfl rfl rfl rfl rfl rfl rfl rfl ?_
        refine JO_q (QE_as rfl) rfl ?_
        refine JO_nil ?_
        refine thenQ_n ?_
        refine JC_ret ?_
        refine blockQ_r ?_
        refine thenQ_r ?_
        refine thenQ_r ?_
        refine blockQ_r ?_
        refine thenQ_r ?_
        refine retQ_mk [_, _, _] L (.inr rfl) (.agg (us := [_, _, _, _, _, _]) 2 rfl rfl rfl rfl rfl (.tmp rfl (.nil))) rfl (Le.trans (Le.trans (Le.trans (Le.trans (Le.trans (Le.trans (Le.trans (Le.trans h1 h2) h3) h4) I6.1) h8) h9) h16) h17) (fun sR hS2 => ?_)
        refine ⟨rfl, ?_⟩
        first
          | exact ⟨ac0 k, by rw [rd_len hk hlen]; rfl, fun y hy => by rw [rd_len hk hlen] at hy; cases hy⟩
          | exact ⟨a, by rw [hR2]; rfl, fun y hy => by rw [hR2] at hy; injection hy⟩
          | (have hN : rdA k ws = none := rd_no hk hR hw hu (by rw [it_t hT]; first | exact pt_no1 (by assumption) | exact pt_no2 (by assumption) (by assumption))
             exact ⟨⟨a.kind, regN (if ends u (w.drop (trimDC w).length) = true then cutS u (w.drop (trimDC w).length) else u), a.x, a.y⟩, by rw [hN]; rfl, fun y hy => by rw [hN] at hy; cases hy⟩)
          | (have hN : rdA k ws = none := rd_no hk hR hw hu (by rw [it_x hT hX]; first | exact px_no1 (by assumption) | exact px_no2 (by assumption) (by assumption))
             exact ⟨⟨a.kind, a.tgt, xt, a.y⟩, by rw [hN]; rfl, fun y hy => by rw [hN] at hy; cases hy⟩)
          | (have hN : rdA k ws = none := rd_no hk hR hw hu (by rw [it_y hT hX hY]; first | exact py_no1 (by assumption) | exact py_no2 (by assumption) (by assumption))
             exact ⟨⟨a.kind, a.tgt, a.x, xt⟩, by rw [hN]; rfl, fun y hy => by rw [hN] at hy; cases hy⟩)
          | (have hN : rdA k ws = none := rd_no hk hR hw hu (by rw [it_n hT hX hY]; exact if_neg (by assumption))
             exact ⟨a, by rw [hN]; rfl, fun y hy => by rw [hN] at hy; cases hy⟩)
       ·
        have hyes := c19
        refine JC_skip ?_
        refine blockQ_n ?_
        refine thenQ_n ?_
        refine JC_region ?_
        refine JO_q (QE_add' rfl rfl (w64 (by omega) (by omega))) rfl ?_
        refine JO_q (QE_mv rfl) rfl ?_
        refine JO_nil ?_
        refine thenQ_n ⟨(j + 1, ⟨a.kind, a.tgt, xt, a.y⟩), [_], (Keeps.cons rfl (Keeps.cons rfl (Keeps.cons rfl (Keeps.cons rfl (Keeps.cons rfl (Keeps.cons rfl (Keeps.cons rfl (Keeps.nil _)))))))), rfl, ⟨(Le.trans (Le.trans (Le.trans (Le.trans I6.1 h8) h9) h16) h17), ⟨by simp only; omega, by
          first
          | exact rd_yes hk hR hw hu (by rw [it_t hT]; exact pt_yes (by assumption) (by assumption))
          | exact rd_yes hk hR hw hu (by rw [it_x hT hX]; exact px_yes (by assumption) (by assumption) hxv)
          | exact rd_yes hk hR hw hu (by rw [it_y hT hX hY]; exact py_yes (by assumption) (by assumption) hxv)
          | exact rd_yes hk hR hw hu (by rw [it_n hT hX hY]; exact if_pos (by assumption))⟩⟩, (by simp only; omega)⟩
      ·
       refine JO_gF rfl rfl rfl rfl ?_
       refine JO_q (QE_pickF rfl rfl) rfl ?_
       refine JO_q (QE_as rfl) rfl ?_
       refine JO_nil ?_
       refine thenQ_n ?_
       refine JC_seq ?_
       refine JC_region ?_
       refine JO_q (QE_mv rfl) rfl ?_
       refine JO_q (QE_cast (v' := .bool true) (QE_seq rfl rfl) (bT hX)) rfl ?_
       refine JO_nil ?_
       refine thenQ_n ?_
       refine JC_ifT rfl ?_
       refine JC_region ?_
       refine JO_q (QE_ldA 0 [_, _] rfl rfl rfl rfl rfl) rfl ?_
       refine JO_q (QE_faB rfl rfl rfl rfl) rfl ?_
       refine JO_st 1 [_, _, _, _, _, _] rfl rfl rfl rfl rfl rfl rfl rfl rfl ?_
       refine JO_nil ?_
       refine blockQ_n ?_
       refine thenQ_n ?_
       refine JC_seq ?_
       refine JC_region ?_
       refine JO_q (QE_mv rfl) rfl ?_
       refine JO_q (QE_notF rfl) rfl ?_
       refine JO_nil ?_
       refine thenQ_n ?_
       refine JC_ifT rfl ?_
       have hno := trivial
       refine JC_seq ?_
       refine JC_region ?_
       refine JO_q (QE_ldA 1 [_, _, _, _, _, _] rfl rfl rfl rfl rfl) rfl ?_
       refine JO_st 2 [_, _, _, _, _, _] rfl rfl rfl rfl rfl rfl rfl rfl rfl ?_
       refine JO_q (QE_as rfl) rfl ?_
       refine JO_nil ?_
       refine thenQ_n ?_
       refine JC_ret ?_
       refine blockQ_r ?_
       refine thenQ_r ?_
       refine thenQ_r ?_
       refine blockQ_r ?_
       refine thenQ_r ?_
       refine retQ_mk [_, _, _] L (.inr rfl) (.agg (us := [_, _, _, _, _, _]) 2 rfl rfl rfl rfl rfl (.tmp rfl (.nil))) rfl (Le.trans (Le.trans (Le.trans (Le.trans (Le.trans (Le.trans (Le.trans (Le.trans h1 h2) h3) h4) I6.1) h8) h9) h16) h17) (fun sR hS2 => ?_)
       refine ⟨rfl, ?_⟩
       first
         | exact ⟨ac0 k, by rw [rd_len hk hlen]; rfl, fun y hy => by rw [rd_len hk hlen] at hy; cases hy⟩
         | exact ⟨a, by rw [hR2]; rfl, fun y hy => by rw [hR2] at hy; injection hy⟩
         | (have hN : rdA k ws = none := rd_no hk hR hw hu (by rw [it_t hT]; first | exact pt_no1 (by assumption) | exact pt_no2 (by assumption) (by assumption))
            exact ⟨⟨a.kind, regN (if ends u (w.drop (trimDC w).length) = true then cutS u (w.drop (trimDC w).length) else u), a.x, a.y⟩, by rw [hN]; rfl, fun y hy => by rw [hN] at hy; cases hy⟩)
         | (have hN : rdA k ws = none := rd_no hk hR hw hu (by rw [it_x hT hX]; first | exact px_no1 (by assumption) | exact px_no2 (by assumption) (by assumption))
            exact ⟨⟨a.kind, a.tgt, xt, a.y⟩, by rw [hN]; rfl, fun y hy => by rw [hN] at hy; cases hy⟩)
         | (have hN : rdA k ws = none := rd_no hk hR hw hu (by rw [it_y hT hX hY]; first | exact py_no1 (by assumption) | exact py_no2 (by assumption) (by assumption))
            exact ⟨⟨a.kind, a.tgt, a.x, xt⟩, by rw [hN]; rfl, fun y hy => by rw [hN] at hy; cases hy⟩)
         | (have hN : rdA k ws = none := rd_no hk hR hw hu (by rw [it_n hT hX hY]; exact if_neg (by assumption))
            exact ⟨a, by rw [hN]; rfl, fun y hy => by rw [hN] at hy; cases hy⟩)
     ·
      exact absurd hX c15 --end
    ·
     have hX : ¬ trimDC w = [120] := c14
     refine JC_region ?_
     refine JO_q (QE_seq rfl rfl) rfl ?_
     refine JO_q (QE_as rfl) rfl ?_
     refine JO_nil ?_
     refine thenQ_n ?_
     refine JC_ifD rfl (fun c20 => ?_) (fun c20 => ?_)
     ·
      have hY : trimDC w = [121] := c20
      refine JC_seq ?_
      refine JC_region ?_
      refine JO_q (QE_mv rfl) rfl ?_
      refine JO_call (first := []) (captured := []) rfl rfl rfl (readTerm_ac D _ _ (hG.le (Le.trans (Le.trans (Le.trans (Le.trans (Le.trans (Le.trans h1 h2) h3) h4) I6.1) h8) h9)) _ (by omega)) ?_
      rintro _ _ s21 h21 ⟨rfl, xt, rfl, hxu, hxv⟩
      refine JO_q (QE_mv rfl) rfl ?_
      refine JO_q (QE_ext rfl rfl) rfl ?_
      refine JO_q (QE_ext rfl rfl) rfl ?_
      refine JO_allocZ rfl [_, _] rfl rfl ?_
      intro β22 s22 h22
      refine JO_st 0 [_, _] rfl rfl rfl rfl rfl rfl rfl rfl rfl ?_
      refine JO_q (QE_as rfl) rfl ?_
      refine JO_nil ?_
      refine thenQ_n ?_
      refine JC_seq ?_
      refine JC_region ?_
      refine JO_q (QE_mv rfl) rfl ?_
      refine JO_q (QE_mv rfl) rfl ?_
      refine JO_case (t := 75) rfl (fun c23 => ?_) (fun c23 => ?_)
      ·
       refine JO_gT rfl rfl ?_
       refine JO_q (QE_mv rfl) rfl ?_
       refine JO_q (QE_pickT rfl rfl) rfl ?_
       refine JO_q (QE_as rfl) rfl ?_
       refine JO_nil ?_
       refine thenQ_n ?_
       refine JC_seq ?_
       refine JC_region ?_
       refine JO_q (QE_mv rfl) rfl ?_
       refine JO_q (QE_cast (v' := .bool false) (QE_seq rfl rfl) (bZ hX)) rfl ?_
       refine JO_nil ?_
       refine thenQ_n ?_
       refine JC_ifF rfl ?_
       refine JC_region ?_
       refine JO_q (QE_ldA 0 [_, _] rfl rfl rfl rfl rfl) rfl ?_
       refine JO_q (QE_faB rfl rfl rfl rfl) rfl ?_
       refine JO_st 1 [_, _, _, _, _, _] rfl rfl rfl rfl rfl rfl rfl rfl rfl ?_
       refine JO_nil ?_
       refine blockQ_n ?_
       refine thenQ_n ?_
       refine JC_seq ?_
       refine JC_region ?_
       refine JO_q (QE_mv rfl) rfl ?_
       refine JO_q (QE_not rfl) rfl ?_
       refine JO_nil ?_
       refine thenQ_n ?_
       refine JC_ifM rfl (fun c24 => ?_) (fun c24 => ?_)
       ·
        have hno := c24
        refine JC_seq ?_
        refine JC_region ?_
        refine JO_q (QE_ldA 1 [_, _, _, _, _, _] rfl rfl rfl rfl rfl) rfl ?_
        refine JO_st 2 [_, _, _, _, _, _] rfl rfl rfl rfl rfl rfl rfl rfl rfl ?_
        refine JO_q (QE_as rfl) rfl ?_
        refine JO_nil ?_
        refine thenQ_n ?_
        refine JC_ret ?_
        refine blockQ_r ?_
        refine thenQ_r ?_
        refine thenQ_r ?_
        refine blockQ_r ?_
        refine thenQ_r ?_
        refine retQ_mk [_, _, _] L (.inr rfl) (.agg (us := [_, _, _, _, _, _]) 2 rfl rfl rfl rfl rfl (.tmp rfl (.nil))) rfl (Le.trans (Le.trans (Le.trans (Le.trans (Le.trans (Le.trans (Le.trans (Le.trans h1 h2) h3) h4) I6.1) h8) h9) h21) h22) (fun sR hS2 => ?_)
        refine ⟨rfl, ?_⟩
        first
          | exact ⟨ac0 k, by rw [rd_len hk hlen]; rfl, fun y hy => by rw [rd_len hk hlen] at hy; cases hy⟩
          | exact ⟨a, by rw [hR2]; rfl, fun y hy => by rw [hR2] at hy; injection hy⟩
          | (have hN : rdA k ws = none := rd_no hk hR hw hu (by rw [it_t hT]; first | exact pt_no1 (by assumption) | exact pt_no2 (by assumption) (by assumption))
             exact ⟨⟨a.kind, regN (if ends u (w.drop (trimDC w).length) = true then cutS u (w.drop (trimDC w).length) else u), a.x, a.y⟩, by rw [hN]; rfl, fun y hy => by rw [hN] at hy; cases hy⟩)
          | (have hN : rdA k ws = none := rd_no hk hR hw hu (by rw [it_x hT hX]; first | exact px_no1 (by assumption) | exact px_no2 (by assumption) (by assumption))
             exact ⟨⟨a.kind, a.tgt, xt, a.y⟩, by rw [hN]; rfl, fun y hy => by rw [hN] at hy; cases hy⟩)
          | (have hN : rdA k ws = none := rd_no hk hR hw hu (by rw [it_y hT hX hY]; first | exact py_no1 (by assumption) | exact py_no2 (by assumption) (by assumption))
             exact ⟨⟨a.kind, a.tgt, a.x, xt⟩, by rw [hN]; rfl, fun y hy => by rw [hN] at hy; cases hy⟩)
          | (have hN : rdA k ws = none := rd_no hk hR hw hu (by rw [it_n hT hX hY]; exact if_neg (by assumption))
             exact ⟨a, by rw [hN]; rfl, fun y hy => by rw [hN] at hy; cases hy⟩)
       ·
        have hyes := c24
        refine JC_skip ?_
        refine blockQ_n ?_
        refine thenQ_n ?_
        refine JC_region ?_
        refine JO_q (QE_add' rfl rfl (w64 (by omega) (by omega))) rfl ?_
        refine JO_q (QE_mv rfl) rfl ?_
        refine JO_nil ?_
        refine thenQ_n ⟨(j + 1, ⟨a.kind, a.tgt, a.x, xt⟩), [_], (Keeps.cons rfl (Keeps.cons rfl (Keeps.cons rfl (Keeps.cons rfl (Keeps.cons rfl (Keeps.cons rfl (Keeps.cons rfl (Keeps.nil _)))))))), rfl, ⟨(Le.trans (Le.trans (Le.trans (Le.trans I6.1 h8) h9) h21) h22), ⟨by simp only; omega, by
          first
          | exact rd_yes hk hR hw hu (by rw [it_t hT]; exact pt_yes (by assumption) (by assumption))
          | exact rd_yes hk hR hw hu (by rw [it_x hT hX]; exact px_yes (by assumption) (by assumption) hxv)
          | exact rd_yes hk hR hw hu (by rw [it_y hT hX hY]; exact py_yes (by assumption) (by assumption) hxv)
          | exact rd_yes hk hR hw hu (by rw [it_n hT hX hY]; exact if_pos (by assumption))⟩⟩, (by simp only; omega)⟩
      ·
       refine JO_gF rfl rfl rfl rfl ?_
       refine JO_q (QE_pickF rfl rfl) rfl ?_
       refine JO_q (QE_as rfl) rfl ?_
       refine JO_nil ?_
       refine thenQ_n ?_
       refine JC_seq ?_
       refine JC_region ?_
       refine JO_q (QE_mv rfl) rfl ?_
       refine JO_q (QE_cast (v' := .bool false) (QE_seq rfl rfl) (bZ hX)) rfl ?_
       refine JO_nil ?_
       refine thenQ_n ?_
       refine JC_ifF rfl ?_
       refine JC_region ?_
       refine JO_q (QE_ldA 0 [_, _] rfl rfl rfl rfl rfl) rfl ?_
       refine JO_q (QE_faB rfl rfl rfl rfl) rfl ?_
       refine JO_st 1 [_, _, _, _, _, _] rfl rfl rfl rfl rfl rfl rfl rfl rfl ?_
       refine JO_nil ?_
       refine blockQ_n ?_
       refine thenQ_n ?_
       refine JC_seq ?_
       refine JC_region ?_
       refine JO_q (QE_mv rfl) rfl ?_
       refine JO_q (QE_notF rfl) rfl ?_
       refine JO_nil ?_
       refine thenQ_n ?_
       refine JC_ifT rfl ?_
       have hno := trivial
       refine JC_seq ?_
       refine JC_region ?_
       refine JO_q (QE_ldA 1 [_, _, _, _, _, _] rfl rfl rfl rfl rfl) rfl ?_
       refine JO_st 2 [_, _, _, _, _, _] rfl rfl rfl rfl rfl rfl rfl rfl rfl ?_
       refine JO_q (QE_as rfl) rfl ?_
       refine JO_nil ?_
       refine thenQ_n ?_
       refine JC_ret ?_
       refine blockQ_r ?_
       refine thenQ_r ?_
       refine thenQ_r ?_
       refine blockQ_r ?_
       refine thenQ_r ?_
       refine retQ_mk [_, _, _] L (.inr rfl) (.agg (us := [_, _, _, _, _, _]) 2 rfl rfl rfl rfl rfl (.tmp rfl (.nil))) rfl (Le.trans (Le.trans (Le.trans (Le.trans (Le.trans (Le.trans (Le.trans (Le.trans h1 h2) h3) h4) I6.1) h8) h9) h21) h22) (fun sR hS2 => ?_)
       refine ⟨rfl, ?_⟩
       first
         | exact ⟨ac0 k, by rw [rd_len hk hlen]; rfl, fun y hy => by rw [rd_len hk hlen] at hy; cases hy⟩
         | exact ⟨a, by rw [hR2]; rfl, fun y hy => by rw [hR2] at hy; injection hy⟩
         | (have hN : rdA k ws = none := rd_no hk hR hw hu (by rw [it_t hT]; first | exact pt_no1 (by assumption) | exact pt_no2 (by assumption) (by assumption))
            exact ⟨⟨a.kind, regN (if ends u (w.drop (trimDC w).length) = true then cutS u (w.drop (trimDC w).length) else u), a.x, a.y⟩, by rw [hN]; rfl, fun y hy => by rw [hN] at hy; cases hy⟩)
         | (have hN : rdA k ws = none := rd_no hk hR hw hu (by rw [it_x hT hX]; first | exact px_no1 (by assumption) | exact px_no2 (by assumption) (by assumption))
            exact ⟨⟨a.kind, a.tgt, xt, a.y⟩, by rw [hN]; rfl, fun y hy => by rw [hN] at hy; cases hy⟩)
         | (have hN : rdA k ws = none := rd_no hk hR hw hu (by rw [it_y hT hX hY]; first | exact py_no1 (by assumption) | exact py_no2 (by assumption) (by assumption))
            exact ⟨⟨a.kind, a.tgt, a.x, xt⟩, by rw [hN]; rfl, fun y hy => by rw [hN] at hy; cases hy⟩)
         | (have hN : rdA k ws = none := rd_no hk hR hw hu (by rw [it_n hT hX hY]; exact if_neg (by assumption))
            exact ⟨a, by rw [hN]; rfl, fun y hy => by rw [hN] at hy; cases hy⟩)
     ·
      have hY : ¬ trimDC w = [121] := c20
      refine JC_region ?_
      refine JO_q (QE_mv rfl) rfl ?_
      refine JO_q (QE_mv rfl) rfl ?_
      refine JO_q (QE_ia1 rfl rfl rfl rfl rfl rfl (show j < n by omega)) rfl ?_
      refine JO_q (QE_ldsR0 rfl rfl rfl (hcu.le (Le.trans h8 h9)) rfl) rfl ?_
      refine JO_q (QE_mv rfl) rfl ?_
      refine JO_q (QE_seq rfl rfl) rfl ?_
      refine JO_q (QE_as rfl) rfl ?_
      refine JO_nil ?_
      refine blockQ_n ?_
      refine thenQ_n ?_
      refine JC_seq ?_
      refine JC_region ?_
      refine JO_q (QE_mv rfl) rfl ?_
      refine JO_q (QE_not rfl) rfl ?_
      refine JO_nil ?_
      refine thenQ_n ?_
      refine JC_ifN rfl (fun c25 => ?_) (fun c25 => ?_)
      ·
       have hno := c25
       refine JC_seq ?_
       refine JC_region ?_
       refine JO_q (QE_ldA 0 [_, _, _, _, _, _] rfl rfl rfl rfl rfl) rfl ?_
       refine JO_st 1 [_, _, _, _, _, _] rfl rfl rfl rfl rfl rfl rfl rfl rfl ?_
       refine JO_q (QE_as rfl) rfl ?_
       refine JO_nil ?_
       refine thenQ_n ?_
       refine JC_ret ?_
       refine blockQ_r ?_
       refine thenQ_r ?_
       refine thenQ_r ?_
       refine blockQ_r ?_
       refine thenQ_r ?_
       refine retQ_mk [_, _] L (.inr rfl) (.agg (us := [_, _, _, _, _, _]) 1 rfl rfl rfl rfl rfl (.tmp rfl (.nil))) rfl (Le.trans (Le.trans (Le.trans (Le.trans (Le.trans (Le.trans h1 h2) h3) h4) I6.1) h8) h9) (fun sR hS2 => ?_)
       refine ⟨rfl, ?_⟩
       first
         | exact ⟨ac0 k, by rw [rd_len hk hlen]; rfl, fun y hy => by rw [rd_len hk hlen] at hy; cases hy⟩
         | exact ⟨a, by rw [hR2]; rfl, fun y hy => by rw [hR2] at hy; injection hy⟩
         | (have hN : rdA k ws = none := rd_no hk hR hw hu (by rw [it_t hT]; first | exact pt_no1 (by assumption) | exact pt_no2 (by assumption) (by assumption))
            exact ⟨⟨a.kind, regN (if ends u (w.drop (trimDC w).length) = true then cutS u (w.drop (trimDC w).length) else u), a.x, a.y⟩, by rw [hN]; rfl, fun y hy => by rw [hN] at hy; cases hy⟩)
         | (have hN : rdA k ws = none := rd_no hk hR hw hu (by rw [it_x hT hX]; first | exact px_no1 (by assumption) | exact px_no2 (by assumption) (by assumption))
            exact ⟨⟨a.kind, a.tgt, xt, a.y⟩, by rw [hN]; rfl, fun y hy => by rw [hN] at hy; cases hy⟩)
         | (have hN : rdA k ws = none := rd_no hk hR hw hu (by rw [it_y hT hX hY]; first | exact py_no1 (by assumption) | exact py_no2 (by assumption) (by assumption))
            exact ⟨⟨a.kind, a.tgt, a.x, xt⟩, by rw [hN]; rfl, fun y hy => by rw [hN] at hy; cases hy⟩)
         | (have hN : rdA k ws = none := rd_no hk hR hw hu (by rw [it_n hT hX hY]; exact if_neg (by assumption))
            exact ⟨a, by rw [hN]; rfl, fun y hy => by rw [hN] at hy; cases hy⟩)
      ·
       have hyes := c25
       refine JC_skip ?_
       refine blockQ_n ?_
       refine thenQ_n ?_
       refine JC_region ?_
       refine JO_q (QE_add' rfl rfl (w64 (by omega) (by omega))) rfl ?_
       refine JO_q (QE_mv rfl) rfl ?_
       refine JO_nil ?_
       refine thenQ_n ⟨(j + 1, a), [], (Keeps.cons rfl (Keeps.cons rfl (Keeps.cons rfl (Keeps.cons rfl (Keeps.cons rfl (Keeps.cons rfl (Keeps.cons rfl (Keeps.nil _)))))))), rfl, ⟨(Le.trans (Le.trans I6.1 h8) h9), ⟨by simp only; omega, by
         first
         | exact rd_yes hk hR hw hu (by rw [it_t hT]; exact pt_yes (by assumption) (by assumption))
         | exact rd_yes hk hR hw hu (by rw [it_x hT hX]; exact px_yes (by assumption) (by assumption) hxv)
         | exact rd_yes hk hR hw hu (by rw [it_y hT hX hY]; exact py_yes (by assumption) (by assumption) hxv)
         | exact rd_yes hk hR hw hu (by rw [it_n hT hX hY]; exact if_pos (by assumption))⟩⟩, (by simp only; omega)⟩
  ·
   have hR2 := rd_end hk hR (by omega) hlen
   refine JC_exit ?_
   refine thenQ_x ?_
   refine thenQ_x ?_
   refine blockQ_x ?_
   refine thenQ_n ?_
   refine JC_seq ?_
   refine JC_region ?_
   refine JO_q (QE_ldA 0 [_, _, _, _, _, _] rfl rfl rfl rfl rfl) rfl ?_
   refine JO_st 1 [_, _, _, _, _, _] rfl rfl rfl rfl rfl rfl rfl rfl rfl ?_
   refine JO_q (QE_as rfl) rfl ?_
   refine JO_nil ?_
   refine thenQ_n ?_
   refine JC_ret ?_
   refine retQ_mk [_, _] L (.inr rfl) (.agg (us := [_, _, _, _, _, _]) 1 rfl rfl rfl rfl rfl (.tmp rfl (.nil))) rfl (Le.trans (Le.trans (Le.trans (Le.trans h1 h2) h3) h4) I6.1) (fun sR hS2 => ?_)
   refine ⟨rfl, ?_⟩
   first
     | exact ⟨ac0 k, by rw [rd_len hk hlen]; rfl, fun y hy => by rw [rd_len hk hlen] at hy; cases hy⟩
     | exact ⟨a, by rw [hR2]; rfl, fun y hy => by rw [hR2] at hy; injection hy⟩
     | (have hN : rdA k ws = none := rd_no hk hR hw hu (by rw [it_t hT]; first | exact pt_no1 (by assumption) | exact pt_no2 (by assumption) (by assumption))
        exact ⟨⟨a.kind, regN (if ends u (w.drop (trimDC w).length) = true then cutS u (w.drop (trimDC w).length) else u), a.x, a.y⟩, by rw [hN]; rfl, fun y hy => by rw [hN] at hy; cases hy⟩)
     | (have hN : rdA k ws = none := rd_no hk hR hw hu (by rw [it_x hT hX]; first | exact px_no1 (by assumption) | exact px_no2 (by assumption) (by assumption))
        exact ⟨⟨a.kind, a.tgt, xt, a.y⟩, by rw [hN]; rfl, fun y hy => by rw [hN] at hy; cases hy⟩)
     | (have hN : rdA k ws = none := rd_no hk hR hw hu (by rw [it_y hT hX hY]; first | exact py_no1 (by assumption) | exact py_no2 (by assumption) (by assumption))
        exact ⟨⟨a.kind, a.tgt, a.x, xt⟩, by rw [hN]; rfl, fun y hy => by rw [hN] at hy; cases hy⟩)
     | (have hN : rdA k ws = none := rd_no hk hR hw hu (by rw [it_n hT hX hY]; exact if_neg (by assumption))
        exact ⟨a, by rw [hN]; rfl, fun y hy => by rw [hN] at hy; cases hy⟩)
end Go.Proofs.YtoeeblegplghmaaGreatDoor
namespace Go.Proofs.YtoeeblegplghmaaGreatDoor
open Go.FL
attribute [local irreducible] JC JO JA JB thenQ blockQ retQ AC fill CellsAt QE Ev Mid
theorem idxP_lt {p : List UInt8 → Bool} {l : List (List UInt8)} : ∀ k : Nat, idxOf p l k = -1 ∧ (∀ (j : Nat) (x : List UInt8), l[j]? = some x → p x = false) ∨ ∃ i : Nat, idxOf p l k = ((k + i : Nat) : Int) ∧ (∃ w, l[i]? = some w ∧ p w = true) ∧ ∀ (j : Nat) (x : List UInt8), j < i → l[j]? = some x → p x = false := by
  induction l with
  | nil => intro k; exact .inl ⟨rfl, fun j x h => by cases h⟩
  | cons y l ih =>
    intro k
    by_cases hy : p y = true
    · refine .inr ⟨0, by simp [idxOf, hy], ⟨y, by simp, hy⟩, fun j x hj => by omega⟩
    · rcases ih (k + 1) with ⟨h1, h2⟩ | ⟨i, h1, h2, h3⟩
      · refine .inl ⟨by simp [idxOf, hy, h1], fun j x hx => ?_⟩
        cases j with
        | zero => simp at hx; subst hx; simpa using hy
        | succ j => exact h2 j x (by simpa using hx)
      · refine .inr ⟨i + 1, by rw [idxOf, if_neg hy, h1]; congr 1; omega, by simpa using h2, fun j x hj hx => ?_⟩
        cases j with
        | zero => simp at hx; subst hx; simpa using hy
        | succ j => exact h3 j x (by omega) (by simpa using hx)
theorem next_sent {rs : List (List UInt8)} (hne : 0 < rs.length) : ∃ nn : Nat, idxOf dotB rs 0 + 1 = (nn : Int) ∧ nn ≤ rs.length ∧ (rdAny (rs.take nn) = none → sn [] rs = none) ∧ (∀ a, rdAny (rs.take nn) = some a → 0 < nn ∧ sn [] rs = (sn [] (rs.drop nn)).map (a :: ·)) := by
  rcases idxP_lt (p := dotB) (l := rs) 0 with ⟨h1, h2⟩ | ⟨i, h1, ⟨w, h2, h2d⟩, h3⟩
  · refine ⟨0, by rw [h1]; rfl, Nat.zero_le _, fun _ => ?_, fun a ha => ?_⟩
    · rw [sn_none rs [] (fun w hw => by obtain ⟨j, hj⟩ := List.getElem?_of_mem hw; exact h2 j w hj), List.nil_append, if_neg (fun e => by rw [e] at hne; cases hne)]
    · rw [List.take_zero, rdA_nil] at ha; cases ha
  · have hi := (List.getElem?_eq_some_iff.1 h2).1
    have hs := sn_at h2 h2d h3
    refine ⟨i + 1, by rw [h1]; omega, by omega, fun h => by rw [hs, h]; rfl, fun a ha => ⟨by omega, by rw [hs, ha]; rfl⟩⟩
theorem rdF_skip {wd : List (List UInt8)} : ∀ k, k ≤ 20 → (∀ j, j < k → rdA j wd = none) → rdAny wd = rdF (20 - k) wd := by
  intro k
  induction k with
  | zero => intro _ _; rfl
  | succ k ih =>
    intro h1 h2
    rw [ih (by omega) fun j hj => h2 j (by omega), show 20 - k = (20 - (k + 1)) + 1 by omega, rdF, show 20 - (20 - (k + 1) + 1) = k by omega, h2 k (by omega)]
theorem rd_first {wd : List (List UInt8)} {k : Nat} {a : Ac} (hk : k < 20) (h : ∀ j, j < k → rdA j wd = none) (ha : rdA k wd = some a) : rdAny wd = some a := by
  rw [rdF_skip k (by omega) h, show 20 - k = (20 - (k + 1)) + 1 by omega, rdF, show 20 - (20 - (k + 1) + 1) = k by omega, ha]
theorem rd_all {wd : List (List UInt8)} (h : ∀ j, j < 20 → rdA j wd = none) : rdAny wd = none := by rw [rdF_skip 20 (Nat.le_refl _) h]; rfl
theorem acs_nil (s : World) : Acs s none 0 0 [] := ⟨rfl, Nat.le_refl _, by omega, fun i x h => by cases h⟩
theorem okT_app (a b : List UInt8) : okT (a ++ b) = (okT a && okT b) := by simp [okT]
theorem join_okT : ∀ {ws : List (List UInt8)}, okT (joinW ws) = true → ∀ w ∈ ws, okT w = true
  | [], _, w, hw => by cases hw
  | [x], h, w, hw => by
    simp only [List.mem_singleton] at hw; subst hw; exact h
  | x :: y :: r, h, w, hw => by
    have e : joinW (x :: y :: r) = x ++ 32 :: joinW (y :: r) := rfl
    rw [e, okT_app, Bool.and_eq_true] at h
    rcases List.mem_cons.1 hw with rfl | hw
    · exact h.1
    · refine join_okT (ws := y :: r) ?_ w hw
      have h2 := h.2
      rw [okT, List.all_cons, Bool.and_eq_true] at h2
      exact h2.2
theorem head_gen {c : Int} {nm : List UInt8} {o : Bool} (h1 : bare1 nm) (h2 : okT nm = true) : ∀ w ∈ headW c nm o, bare1 w ∧ okT w = true := by
  intro w hw
  simp only [headW, List.mem_cons, List.not_mem_nil, or_false] at hw
  have hd := dec_okW c
  rcases hw with rfl | rfl | rfl | rfl | rfl | rfl | rfl | rfl | rfl
  · decide
  · exact ⟨hd.1, hd.2.1⟩
  · decide
  · decide
  · exact ⟨h1, h2⟩
  · decide
  · decide
  · cases o <;> decide
  · decide
theorem head_size {c : Int} {nm : List UInt8} {o : Bool} (hc : c < 4294967296) : sizeW (headW c nm o) ≤ nm.length + 100 := by
  have := dec_len10 hc
  have h2 : (if o = true then anB else [110, 111]).length = 2 := by cases o <;> rfl
  simp only [headW, sizeW_cons, sizeW_nil, h2, List.length_cons, List.length_nil]; omega
section
variable {ws : List (List UInt8)} {w1 w4 w7 : List UInt8} (h9 : ¬ ws.length < 9) (h1 : ws[1]? = some w1) (h4 : ws[4]? = some w4) (h7 : ws[7]? = some w7)
include h9 h1 h4 h7
theorem rdIns_eq : rdIns ws = match numL w1 with
  | none => none
  | some n => if ws.take 9 = headW n w4 (decide (w7 = anB)) then (sn [] (ws.drop 9)).map fun l => ⟨w4, n, decide (w7 = anB), l⟩ else none := by
  unfold rdIns
  rw [if_neg h9]
  simp only [List.getD_eq_getElem?_getD, h1, h4, h7, Option.getD_some]
  cases numL w1 <;> rfl
theorem rdIns_no1 (h : (numL w1).isSome = false) : rdIns ws = none := by
  rw [rdIns_eq h9 h1 h4 h7, show numL w1 = none by simpa using h]
theorem rdIns_no2 {kn : Int} (h : (numL w1).isSome = true) (hk : ∀ u : Nat, numL w1 = some u → kn = (u : Int)) (hh : ¬ ws.take 9 = headW kn w4 (decide (w7 = [97, 110]))) : rdIns ws = none := by
  obtain ⟨u, hu⟩ := Option.isSome_iff_exists.1 h
  rw [hk u hu] at hh
  rw [rdIns_eq h9 h1 h4 h7, hu]
  exact if_neg hh
theorem rdIns_mid {kn : Int} (h : (numL w1).isSome = true) (hk : ∀ u : Nat, numL w1 = some u → kn = (u : Int)) (hh : ws.take 9 = headW kn w4 (decide (w7 = [97, 110]))) : rdIns ws = (sn [] (ws.drop 9)).map fun l => ⟨w4, kn, decide (w7 = [97, 110]), l⟩ := by
  obtain ⟨u, hu⟩ := Option.isSome_iff_exists.1 h
  have e := hk u hu
  subst e
  rw [rdIns_eq h9 h1 h4 h7, hu]
  exact if_pos hh
end
set_option maxHeartbeats 4000000 in
set_option maxRecDepth 100000 in
theorem readInsO_ac (D : Nat) (L : Hl) (s : World) (hG : GP s) (A : Option Addr) (n c : Nat) (ws : List (List UInt8)) (hS : Strs s A n c ws) (hz : sizeW ws ≤ 1000000) (hok : okT (joinW ws) = true) (hb : ∀ w ∈ ws, bare1 w) : AC Tryz.prog D 38 [.slice A n c] L s fun v L' s' => ∃ M', L' = M' ++ L ∧ ∀ s2, Le D s' s2 → Pub M' s2 → ∃ (x : Ins) (Ai : Option Addr) (ni ci : Nat), v = .tuple #[.agg #[St x.name, .int .u32 x.code, .bool x.operand, .slice Ai ni ci], .bool (rdIns ws).isSome] ∧ Acs s2 Ai ni ci x.acts ∧ x.name.length ≤ 1000000 ∧ U32 x.code ∧ ∀ y, rdIns ws = some y → x = y := by
 have hn := hS.1
 have hc1 := hS.2.1
 have hc2 := hS.2.2.1
 have hsl := size_len ws
 refine AC_enter (TT := TT) (fn := Tryz.f38) TT_ok Tryz.func38 (by kernel_rfl) rfl Tryz.ntmps38 rfl (rs := [.cell 2 63, .tmp 3]) rfl [(0, _)] rfl ?_
 refine JC_seq ?_
 refine JC_region ?_
 refine JO_allocZ rfl [_, _, _, _] rfl rfl ?_
 intro β1 s1 h1
 refine JO_q (QE_as rfl) rfl ?_
 refine JO_nil ?_
 refine thenQ_n ?_
 refine JC_seq ?_
 refine JC_seq ?_
 refine JC_region ?_
 refine JO_q (QE_mv rfl) rfl ?_
 refine JO_q (QE_lenS rfl rfl rfl) rfl ?_
 refine JO_q (QE_lt rfl rfl) rfl ?_
 refine JO_nil ?_
 refine thenQ_n ?_
 refine JC_ifD rfl (fun c2 => ?_) (fun c2 => ?_)
 ·
  have hN9 : ws.length < 9 := by omega
  have hR0 : rdIns ws = none := if_pos hN9
  refine JC_seq ?_
  refine JC_region ?_
  refine JO_q (QE_build [] [_, _, _, _] rfl rfl rfl rfl rfl rfl) rfl ?_
  refine JO_st 0 [_, _, _, _] rfl rfl rfl rfl rfl rfl rfl rfl rfl ?_
  refine JO_q (QE_as rfl) rfl ?_
  refine JO_nil ?_
  refine thenQ_n ?_
  refine JC_ret ?_
  refine thenQ_r ?_
  refine retQ_mk [_] _ (.inr rfl) (.agg (us := [_, _, _, _]) 0 rfl rfl rfl rfl rfl (.tmp rfl (.nil))) rfl h1 (fun sR hS2 => ?_)
  first
    | exact ⟨[], rfl, fun s2 hs2 hp => ⟨⟨[], 0, false, []⟩, none, 0, 0, by rw [hR0]; rfl, acs_nil _, by decide, ⟨by decide, by decide⟩, fun y hy => by rw [hR0] at hy; cases hy⟩⟩
    | exact ⟨Mo, rfl, fun s2 hs2 hp => ⟨⟨[], 0, false, []⟩, none, 0, 0, by rw [hR0]; rfl, acs_nil _, by decide, ⟨by decide, by decide⟩, fun y hy => by rw [hR0] at hy; cases hy⟩⟩
    | exact ⟨Mo, rfl, fun s2 hs2 hp => ⟨⟨w4, kn, decide (w7 = [97, 110]), acc⟩, Ao, acc.length, co, by rw [hfin]; rfl, Own.acs hO (fun a ha => ⟨(hacc a ha).2.1.2.1.u32, (hacc a ha).2.1.2.2.u32⟩) hp rfl, by simp only; omega, hku, fun y hy => by rw [hfin] at hy; injection hy⟩⟩
 ·
  have hN9 : ¬ ws.length < 9 := by omega
  obtain ⟨b1, off1, w1, hE1, hw1, hcw1, _⟩ := Strs.at_ (hS.le h1) (show 1 < n by omega)
  subst hE1
  obtain ⟨b4, off4, w4, hE4, hw4, hcw4, _⟩ := Strs.at_ (hS.le h1) (show 4 < n by omega)
  cases hE4
  obtain ⟨b7, off7, w7, hE7, hw7, hcw7, _⟩ := Strs.at_ (hS.le h1) (show 7 < n by omega)
  cases hE7
  have hl1 := mem_size (List.mem_of_getElem? hw1)
  have hl4 := mem_size (List.mem_of_getElem? hw4)
  have hS9 := Strs.take hS (show 9 ≤ n by omega)
  refine JC_skip ?_
  refine thenQ_n ?_
  refine JC_seq ?_
  refine JC_region ?_
  refine JO_q (QE_mv rfl) rfl ?_
  refine JO_q (QE_ia1 rfl rfl rfl rfl rfl rfl (show 1 < n by omega)) rfl ?_
  refine JO_q (QE_ldsR0 rfl rfl rfl (hcw1.le (Le.refl (D := D) _)) rfl) rfl ?_
  refine JO_call (first := []) (captured := []) rfl rfl rfl (readNum_ac D _ _ (hG.gw.le h1) w1 (by omega)) ?_
  rintro _ _ s3 h3 ⟨rfl, kn, rfl, hku, hkv⟩
  refine JO_q (QE_mv rfl) rfl ?_
  refine JO_q (QE_ext rfl rfl) rfl ?_
  refine JO_q (QE_ext rfl rfl) rfl ?_
  refine JO_q (QE_as rfl) rfl ?_
  refine JO_q (QE_as rfl) rfl ?_
  refine JO_nil ?_
  refine thenQ_n ?_
  refine JC_seq ?_
  refine JC_draw drawsMixed 11 rfl _ (fun _ h => h) ?_
  intro s4 h4
  refine JA_q 0 rfl (by kernel_rfl) (by kernel_rfl) (by kernel_rfl) trivial (QE_mv rfl) rfl ?_
  refine JA_q 1 rfl (by kernel_rfl) (by kernel_rfl) (by kernel_rfl) trivial (QE_ia1 rfl rfl rfl rfl rfl rfl (show 4 < n by omega)) rfl ?_
  refine JA_q 2 rfl (by kernel_rfl) (by kernel_rfl) (by kernel_rfl) trivial (QE_ldsR0 rfl rfl rfl (hcw4.le (Le.trans h3 h4)) rfl) rfl ?_
  refine JA_q 3 rfl (by kernel_rfl) (by kernel_rfl) (by kernel_rfl) trivial (QE_mv rfl) rfl ?_
  refine JA_q 4 rfl (by kernel_rfl) (by kernel_rfl) (by kernel_rfl) trivial (QE_mv rfl) rfl ?_
  refine JA_q 5 rfl (by kernel_rfl) (by kernel_rfl) (by kernel_rfl) trivial (QE_ia1 rfl rfl rfl rfl rfl rfl (show 7 < n by omega)) rfl ?_
  refine JA_q 6 rfl (by kernel_rfl) (by kernel_rfl) (by kernel_rfl) trivial (QE_ldsR0 rfl rfl rfl (hcw7.le (Le.trans h3 h4)) rfl) rfl ?_
  refine JA_q 7 rfl (by kernel_rfl) (by kernel_rfl) (by kernel_rfl) trivial (QE_seq rfl rfl) rfl ?_
  refine JA_q 8 rfl (by kernel_rfl) (by kernel_rfl) (by kernel_rfl) trivial (QE_build [(_, _), (_, _), (_, _)] [_, _, _, _] rfl rfl rfl rfl rfl rfl) rfl ?_
  refine JA_1 9 (by kernel_rfl) ?_
  refine JB_alloc rfl trivial rfl [_, _, _, _] rfl rfl ?_
  intro β5 s5 h5
  refine JA_1 10 (by kernel_rfl) ?_
  refine JB_st rfl trivial 0 [_, _, _, _] rfl rfl rfl rfl rfl rfl rfl rfl rfl (fun _ hx => sub_mem (sbY (sbE _)) hx) ?_
  refine JA_done (by kernel_rfl) ?_
  refine thenQ_n ?_
  refine JC_seq ?_
  refine JC_seq ?_
  refine JC_draw drawsMixed 11 rfl _ (fun _ h => h) ?_
  intro s6 h6
  refine JA_q 0 rfl (by kernel_rfl) (by kernel_rfl) (by kernel_rfl) trivial (QE_mv rfl) rfl ?_
  refine JA_q 1 rfl (by kernel_rfl) (by kernel_rfl) (by kernel_rfl) trivial (QE_not rfl) rfl ?_
  refine JA_q 2 rfl (by kernel_rfl) (by kernel_rfl) (by kernel_rfl) trivial (QE_mv rfl) rfl ?_
  refine JA_caseM (t := 35) rfl (fun c7 => ?_) (fun c7 => ?_)
  ·
   refine JA_no 3 rfl (by kernel_rfl) (by kernel_rfl) (by kernel_rfl) rfl rfl rfl rfl ?_
   refine JA_no 4 rfl (by kernel_rfl) (by kernel_rfl) (by kernel_rfl) rfl rfl rfl rfl ?_
   refine JA_no 5 rfl (by kernel_rfl) (by kernel_rfl) (by kernel_rfl) rfl rfl rfl rfl ?_
   refine JA_no 6 rfl (by kernel_rfl) (by kernel_rfl) (by kernel_rfl) rfl rfl rfl rfl ?_
   refine JA_no 7 rfl (by kernel_rfl) (by kernel_rfl) (by kernel_rfl) rfl rfl rfl rfl ?_
   refine JA_no 8 rfl (by kernel_rfl) (by kernel_rfl) (by kernel_rfl) rfl rfl rfl rfl ?_
   refine JA_no 9 rfl (by kernel_rfl) (by kernel_rfl) (by kernel_rfl) rfl rfl rfl rfl ?_
   refine JA_q 10 rfl (by kernel_rfl) (by kernel_rfl) (by kernel_rfl) trivial (QE_pickT rfl rfl) rfl ?_
   refine JA_done (by kernel_rfl) ?_
   refine thenQ_n ?_
   refine JC_ifT rfl ?_
   have hR0 : rdIns ws = none := by
     first
     | exact rdIns_no1 hN9 hw1 hw4 hw7 (by assumption)
     | exact rdIns_no2 hN9 hw1 hw4 hw7 (by assumption) hkv (by assumption)
   refine JC_seq ?_
   refine JC_region ?_
   refine JO_q (QE_build [] [_, _, _, _] rfl rfl rfl rfl rfl rfl) rfl ?_
   refine JO_st 1 [_, _, _, _] rfl rfl rfl rfl rfl rfl rfl rfl rfl ?_
   refine JO_q (QE_as rfl) rfl ?_
   refine JO_nil ?_
   refine thenQ_n ?_
   refine JC_ret ?_
   refine thenQ_r ?_
   refine retQ_mk [_, _] _ (.inr rfl) (.agg (us := [_, _, _, _]) 1 rfl rfl rfl rfl rfl (.tmp rfl (.nil))) rfl (Le.trans (Le.trans (Le.trans (Le.trans h1 h3) h4) h5) h6) (fun sR hS2 => ?_)
   first
     | exact ⟨[], rfl, fun s2 hs2 hp => ⟨⟨[], 0, false, []⟩, none, 0, 0, by rw [hR0]; rfl, acs_nil _, by decide, ⟨by decide, by decide⟩, fun y hy => by rw [hR0] at hy; cases hy⟩⟩
     | exact ⟨Mo, rfl, fun s2 hs2 hp => ⟨⟨[], 0, false, []⟩, none, 0, 0, by rw [hR0]; rfl, acs_nil _, by decide, ⟨by decide, by decide⟩, fun y hy => by rw [hR0] at hy; cases hy⟩⟩
     | exact ⟨Mo, rfl, fun s2 hs2 hp => ⟨⟨w4, kn, decide (w7 = [97, 110]), acc⟩, Ao, acc.length, co, by rw [hfin]; rfl, Own.acs hO (fun a ha => ⟨(hacc a ha).2.1.2.1.u32, (hacc a ha).2.1.2.2.u32⟩) hp rfl, by simp only; omega, hku, fun y hy => by rw [hfin] at hy; injection hy⟩⟩
  ·
   refine JA_q 3 rfl (by kernel_rfl) (by kernel_rfl) (by kernel_rfl) ⟨_, rfl, rfl⟩ (QE_mv rfl) rfl ?_
   refine JA_q 4 rfl (by kernel_rfl) (by kernel_rfl) (by kernel_rfl) ⟨_, rfl, rfl⟩ (QE_slH rfl rfl rfl rfl rfl (show (9 : Nat) ≤ c by omega)) rfl ?_
   refine JA_q 5 rfl (by kernel_rfl) (by kernel_rfl) (by kernel_rfl) ⟨_, rfl, rfl⟩ (QE_ldA 0 [_, _, _, _] rfl rfl rfl rfl rfl) rfl ?_
   have hgen := head_gen (c := kn) (o := decide (w7 = [97, 110])) (hb w4 (List.mem_of_getElem? hw4)) (join_okT hok w4 (List.mem_of_getElem? hw4))
   refine JA_1 6 (by kernel_rfl) ?_
   refine JB_call rfl ⟨_, rfl, rfl⟩ (first := []) (captured := []) rfl rfl rfl (begin_ac D _ _ (hG.le (Le.trans (Le.trans (Le.trans (Le.trans h1 h3) h4) h5) h6)) ⟨w4, kn, decide (w7 = [97, 110]), []⟩ none 0 0 hku (by simp only; omega)) ?_
   rintro _ _ s8 h8 ⟨rfl, rfl⟩
   refine ⟨fun _ _ h => h, ?_⟩
   refine JA_1 7 (by kernel_rfl) ?_
   refine JB_call rfl ⟨_, rfl, rfl⟩ (first := []) (captured := []) rfl rfl rfl (fieldsS_ac D _ _ (hG.le (Le.trans (Le.trans (Le.trans (Le.trans (Le.trans h1 h3) h4) h5) h6) h8)) (joinW (headW kn w4 (decide (w7 = [97, 110])))) (by have h1 := join_len (headW kn w4 (decide (w7 = [97, 110]))); have h2 := head_size (nm := w4) (o := decide (w7 = [97, 110])) hku.2; omega) (join_ok fun w hw => (hgen w hw).2)) ?_
   rintro _ _ s9 h9 ⟨rfl, A1, n1, c1, rfl, hF⟩
   refine ⟨fun _ _ h => h, ?_⟩
   rw [flds_join _ (fun w hw => (hgen w hw).1)] at hF
   refine JA_1 8 (by kernel_rfl) ?_
   refine JB_call rfl ⟨_, rfl, rfl⟩ (first := []) (captured := []) rfl rfl rfl (sequal_ac D _ _ _ _ _ (ws.take 9) (hS9.le (Le.trans (Le.trans (Le.trans (Le.trans (Le.trans (Le.trans h1 h3) h4) h5) h6) h8) h9)) _ _ _ (headW kn w4 (decide (w7 = [97, 110]))) (hF.le (Le.refl (D := D) _))) ?_
   rintro _ _ s10 h10 ⟨rfl, rfl⟩
   refine ⟨fun _ _ h => h, ?_⟩
   refine JA_q 9 rfl (by kernel_rfl) (by kernel_rfl) (by kernel_rfl) ⟨_, rfl, rfl⟩ (QE_not rfl) rfl ?_
   refine JA_q 10 rfl (by kernel_rfl) (by kernel_rfl) (by kernel_rfl) trivial (QE_pickF rfl rfl) rfl ?_
   refine JA_done (by kernel_rfl) ?_
   refine thenQ_n ?_
   refine JC_ifN rfl (fun c11 => ?_) (fun c11 => ?_)
   ·
    have hR0 : rdIns ws = none := by
      first
      | exact rdIns_no1 hN9 hw1 hw4 hw7 (by assumption)
      | exact rdIns_no2 hN9 hw1 hw4 hw7 (by assumption) hkv (by assumption)
    refine JC_seq ?_
    refine JC_region ?_
    refine JO_q (QE_build [] [_, _, _, _] rfl rfl rfl rfl rfl rfl) rfl ?_
    refine JO_st 1 [_, _, _, _] rfl rfl rfl rfl rfl rfl rfl rfl rfl ?_
    refine JO_q (QE_as rfl) rfl ?_
    refine JO_nil ?_
    refine thenQ_n ?_
    refine JC_ret ?_
    refine thenQ_r ?_
    refine retQ_mk [_, _] _ (.inr rfl) (.agg (us := [_, _, _, _]) 1 rfl rfl rfl rfl rfl (.tmp rfl (.nil))) rfl (Le.trans (Le.trans (Le.trans (Le.trans (Le.trans (Le.trans (Le.trans h1 h3) h4) h5) h6) h8) h9) h10) (fun sR hS2 => ?_)
    first
      | exact ⟨[], rfl, fun s2 hs2 hp => ⟨⟨[], 0, false, []⟩, none, 0, 0, by rw [hR0]; rfl, acs_nil _, by decide, ⟨by decide, by decide⟩, fun y hy => by rw [hR0] at hy; cases hy⟩⟩
      | exact ⟨Mo, rfl, fun s2 hs2 hp => ⟨⟨[], 0, false, []⟩, none, 0, 0, by rw [hR0]; rfl, acs_nil _, by decide, ⟨by decide, by decide⟩, fun y hy => by rw [hR0] at hy; cases hy⟩⟩
      | exact ⟨Mo, rfl, fun s2 hs2 hp => ⟨⟨w4, kn, decide (w7 = [97, 110]), acc⟩, Ao, acc.length, co, by rw [hfin]; rfl, Own.acs hO (fun a ha => ⟨(hacc a ha).2.1.2.1.u32, (hacc a ha).2.1.2.2.u32⟩) hp rfl, by simp only; omega, hku, fun y hy => by rw [hfin] at hy; injection hy⟩⟩
   ·
    have hmid := rdIns_mid hN9 hw1 hw4 hw7 (by assumption) hkv (by assumption)
    obtain ⟨Ar, cr, hEr, hSd⟩ := Strs.drop hS (show 9 ≤ n by omega)
    refine JC_skip ?_
    refine thenQ_n ?_
    refine JC_seq ?_
    refine JC_seq ?_
    refine JC_region ?_
    refine JO_q (QE_mv rfl) rfl ?_
    refine JO_q (QE_slL rfl rfl rfl rfl rfl (show (9 : Nat) ≤ n by omega)) rfl ?_
    refine JO_q (QE_as rfl) rfl ?_
    refine JO_nil ?_
    refine thenQ_n ?_
    refine JC_block ?_
    refine JC_loop (γ := Value × List (List UInt8) × Value × Hl × List Ac) (fun g => [(2, _), (3, _), (6, _), (7, g.1)]) (fun g => (β5, cb [St w4, .int .u32 kn, .bool (decide (w7 = [97, 110])), g.2.2.1] 63) :: (β1, cb [St [], .int .u32 0, .bool false, .slice none 0 0] 63) :: (g.2.2.2.1 ++ L)) (fun g tw => Le D s10 tw ∧ ((∃ A' n' c', g.1 = .slice A' n' c' ∧ Strs tw A' n' c' g.2.1) ∧ FL.Own 68 6 g.2.2.2.1 g.2.2.1 g.2.2.2.2.length (acv g.2.2.2.2) ∧ (∀ a ∈ g.2.2.2.2, AcC a) ∧ sn [] (ws.drop 9) = (sn [] g.2.1).map (g.2.2.2.2 ++ ·) ∧ sizeW g.2.1 ≤ 1000000 ∧ g.2.2.2.2.length + g.2.1.length ≤ ws.length)) (fun g => g.2.1.length) (fun _ _ _ h hl => ⟨h.1.trans hl, by obtain ⟨_, ⟨A', n', c', k1, k2⟩, k3⟩ := h; exact ⟨⟨A', n', c', k1, k2.le hl⟩, k3⟩⟩) (_, ws.drop 9, .slice none 0 0, [], []) (Keeps.cons rfl (Keeps.cons rfl (Keeps.cons rfl (Keeps.cons rfl (Keeps.nil _))))) rfl ⟨Le.refl _, ⟨⟨Ar, _, cr, hEr, hSd.le (Le.trans (Le.trans (Le.trans (Le.trans (Le.trans (Le.trans (Le.trans h1 h3) h4) h5) h6) h8) h9) h10)⟩, Own.nil, (fun a h => by cases h), by simp, by have h := sizeW_app (ws.take 9) (ws.drop 9); rw [List.take_append_drop] at h; simp only; omega, by simp⟩⟩ ?_
    intro g s12 I12
    obtain ⟨vr, rs, vo, Mo, acc⟩ := g
    obtain ⟨⟨A', n', c', hvr, hSr⟩, hO, hacc, hsn, hrz, hlen⟩ := I12.2
    simp only at hvr hSr hO hacc hsn hrz hlen
    subst hvr
    dsimp only
    have hn' := hSr.1
    have hc1' := hSr.2.1
    have hc2' := hSr.2.2.1
    refine JC_seq ?_
    refine JC_seq ?_
    refine JC_region ?_
    refine JO_q (QE_mv rfl) rfl ?_
    refine JO_q (QE_lenS rfl rfl rfl) rfl ?_
    refine JO_q (QE_gt rfl rfl) rfl ?_
    refine JO_nil ?_
    refine thenQ_n ?_
    refine JC_ifD rfl (fun c13 => ?_) (fun c13 => ?_)
    ·
     have hne : 0 < rs.length := by omega
     obtain ⟨nn, hnn, hnl, hsn1, hsn2⟩ := next_sent hne
     have hix := idxP_lt (p := dotB) (l := rs) 0
     have hSt := Strs.take hSr (show nn ≤ n' by omega)
     obtain ⟨An, cn, hEn, hSn⟩ := Strs.drop hSr (show nn ≤ n' by omega)
     have hwz : sizeW (rs.take nn) ≤ 1000000 := by have h := sizeW_app (rs.take nn) (rs.drop nn); rw [List.take_append_drop] at h; omega
     have hwd : sizeW (rs.drop nn) ≤ sizeW rs := by have h := sizeW_app (rs.take nn) (rs.drop nn); rw [List.take_append_drop] at h; omega
     refine JC_skip ?_
     refine thenQ_n ?_
     refine JC_block ?_
     refine JC_seq ?_
     refine JC_region ?_
     refine JO_q (QE_mv rfl) rfl ?_
     refine JO_call (first := []) (captured := []) rfl rfl rfl (sidxF_ac D _ _ A' n' c' rs (hSr.le (Le.refl (D := D) _)) _ [] dotB (fun s' x hx => dot_ac D _ s' x (by have := mem_size hx; omega))) ?_
     rintro _ _ s14 h14 ⟨rfl, rfl⟩
     refine JO_q (QE_add' (c := (nn : Int)) rfl rfl (by rw [w64 (by omega) (by omega)]; exact hnn)) rfl ?_
     refine JO_q (QE_as rfl) rfl ?_
     refine JO_nil ?_
     refine thenQ_n ?_
     refine JC_seq ?_
     refine JC_region ?_
     refine JO_q (QE_as rfl) rfl ?_
     refine JO_nil ?_
     refine thenQ_n ?_
     refine JC_seq ?_
     refine JC_seq ?_
     refine JC_region ?_
     refine JO_q (QE_mv rfl) rfl ?_
     refine JO_nil ?_
     refine thenQ_n ?_
     refine JC_block ?_
     refine JC_loop (γ := Nat) (fun k => [(2, _), (3, _), (6, _), (7, _), (8, _), (9, _), (53, .int .i64 (k : Int))]) (fun _ => _) (fun k tw => Le D s14 tw ∧ (k ≤ 20 ∧ ∀ j, j < k → rdA j (rs.take nn) = none)) (fun k => 20 - k) (fun _ _ _ h hl => ⟨h.1.trans hl, h.2⟩) 0 (Keeps.cons rfl (Keeps.cons rfl (Keeps.cons rfl (Keeps.cons rfl (Keeps.cons rfl (Keeps.cons rfl (Keeps.cons rfl (Keeps.nil _)))))))) rfl ⟨Le.refl _, ⟨Nat.zero_le _, fun j hj => by omega⟩⟩ ?_
     intro k s15 I15
     have hk0 := I15.2.1
     have hI := I15.2.2
     refine JC_seq ?_
     refine JC_region ?_
     refine JO_q (QE_lt rfl rfl) rfl ?_
     refine JO_nil ?_
     refine thenQ_n ?_
     refine JC_seq ?_
     refine JC_ifD rfl (fun c16 => ?_) (fun c16 => ?_)
     ·
      have hk : k < 20 := by omega
      refine JC_skip ?_
      refine thenQ_n ?_
      refine JC_seq ?_
      refine JC_block ?_
      refine JC_seq ?_
      refine JC_region ?_
      refine JO_q (QE_mv rfl) rfl ?_
      refine JO_q (QE_as rfl) rfl ?_
      refine JO_nil ?_
      refine thenQ_n ?_
      refine JC_seq ?_
      refine JC_region ?_
      refine JO_q (QE_mv rfl) rfl ?_
      refine JO_q (QE_mv rfl) rfl ?_
      refine JO_q (QE_mv rfl) rfl ?_
      refine JO_q (QE_slH rfl rfl rfl rfl rfl (by omega)) rfl ?_
      refine JO_call (first := []) (captured := []) rfl rfl rfl (readAction_ac D _ _ (hG.le (Le.trans (Le.trans (Le.trans (Le.trans (Le.trans (Le.trans (Le.trans (Le.trans (Le.trans (Le.trans h1 h3) h4) h5) h6) h8) h9) h10) I12.1) h14) I15.1)) k (by omega) A' nn c' (rs.take nn) (hSt.le (Le.trans h14 I15.1)) hwz) ?_
      rintro _ _ s17 h17 ⟨rfl, a, rfl, hra⟩
      refine JO_q (QE_mv rfl) rfl ?_
      refine JO_q (QE_ext rfl rfl) rfl ?_
      refine JO_q (QE_ext rfl rfl) rfl ?_
      refine JO_allocZ rfl [_, _, _, _, _, _] rfl rfl ?_
      intro β18 s18 h18
      refine JO_st 0 [_, _, _, _, _, _] rfl rfl rfl rfl rfl rfl rfl rfl rfl ?_
      refine JO_q (QE_as rfl) rfl ?_
      refine JO_nil ?_
      refine thenQ_n ?_
      refine JC_seq ?_
      refine JC_region ?_
      refine JO_q (QE_mv rfl) rfl ?_
      refine JO_nil ?_
      refine thenQ_n ?_
      refine JC_if rfl (fun c19 => ?_) (fun c19 => ?_)
      ·
       obtain ⟨a', ha'⟩ := Option.isSome_iff_exists.1 c19
       obtain rfl := hra a' ha'
       obtain ⟨haC, _⟩ := rdAny_some (rd_first hk hI ha')
       obtain ⟨hn0, hsnn⟩ := hsn2 a (rd_first hk hI ha')
       refine JC_seq ?_
       refine JC_region ?_
       refine JO_q (QE_faB rfl rfl rfl rfl) rfl ?_
       refine JO_q (QE_ld1 1 rfl rfl rfl rfl rfl) rfl ?_
       refine JO_q (QE_ldA 0 [_, _, _, _, _, _] rfl rfl rfl rfl rfl) rfl ?_
       refine JO_bs [(_, _)] [_, _, _, _, _, _] rfl rfl rfl rfl rfl rfl rfl rfl rfl ?_
       intro βn s20 h20 hcb
       refine JO_app (sz := 6) [_, _, _] Mo L rfl rfl rfl rfl rfl rfl rfl hO (Row.of_cells (hcb.le (Le.refl (D := D) _)) rfl rfl) ⟨by simp [ti68]; omega, by omega⟩ rfl ?_
       intro vq Mq s21 h21 oq
       obtain ⟨Avq, cvq, rfl, _, _⟩ := Own.slice oq
       simp only [List.cons_append, List.nil_append]
       refine JO_q (QE_faB rfl rfl rfl rfl) rfl ?_
       refine JO_st 1 [_, _, _, _] rfl rfl rfl rfl rfl rfl rfl rfl rfl ?_
       refine JO_q (QE_as rfl) rfl ?_
       refine JO_nil ?_
       refine thenQ_n ?_
       refine JC_exit ?_
       refine blockQ_xo rfl ?_
       refine thenQ_x ?_
       refine thenQ_x ?_
       refine blockQ_x ?_
       refine thenQ_n ?_
       refine JC_seq ?_
       refine JC_seq ?_
       refine JC_region ?_
       refine JO_q (QE_mv rfl) rfl ?_
       refine JO_q (QE_notT rfl) rfl ?_
       refine JO_nil ?_
       refine thenQ_n ?_
       refine JC_ifF rfl ?_
       refine JC_skip ?_
       refine thenQ_n ?_
       refine JC_region ?_
       refine JO_q (QE_mv rfl) rfl ?_
       refine JO_q (QE_mv rfl) rfl ?_
       refine JO_q (QE_slL rfl rfl rfl rfl rfl (by omega)) rfl ?_
       refine JO_q (QE_as rfl) rfl ?_
       refine JO_nil ?_
       refine blockQ_n ?_
       refine thenQ_n ⟨(_, rs.drop nn, .slice Avq (acc.length + 1) cvq, Mq, acc ++ [a]), [_], (Keeps.cons rfl (Keeps.cons rfl (Keeps.cons rfl (Keeps.cons rfl (Keeps.nil _))))), rfl, ⟨(Le.trans (Le.trans (Le.trans (Le.trans (Le.trans (Le.trans I12.1 h14) I15.1) h17) h18) h20) h21), ⟨⟨An, _, cn, hEn, hSn.le (Le.trans (Le.trans (Le.trans (Le.trans (Le.trans h14 I15.1) h17) h18) h20) h21)⟩, by simp only; rw [List.length_append, acv_snoc]; exact oq, (fun y hy => by
         rcases List.mem_append.1 hy with h | h
         · exact hacc y h
         · rw [List.mem_singleton.1 h]; exact haC), by simp only; rw [hsn, hsnn, Option.map_map]; congr 1; funext z; simp, by simp only; omega, by simp only [List.length_append, List.length_drop, List.length_cons, List.length_nil]; omega⟩⟩, (by simp only; rw [List.length_drop]; omega)⟩
      ·
       have hno : rdA k (rs.take nn) = none := by simpa using c19
       refine JC_skip ?_
       refine blockQ_n ?_
       refine thenQ_n ?_
       refine JC_region ?_
       refine JO_q (QE_add' rfl rfl (w64 (by omega) (by omega))) rfl ?_
       refine JO_q (QE_mv rfl) rfl ?_
       refine JO_nil ?_
       refine thenQ_n ⟨(k + 1), [_], (Keeps.cons rfl (Keeps.cons rfl (Keeps.cons rfl (Keeps.cons rfl (Keeps.cons rfl (Keeps.cons rfl (Keeps.cons rfl (Keeps.nil _)))))))), rfl, ⟨(Le.trans (Le.trans I15.1 h17) h18), ⟨by omega, fun j hj => by
         rcases Nat.lt_succ_iff_lt_or_eq.1 hj with h | rfl
         · exact hI j h
         · exact hno⟩⟩, (by omega)⟩
     ·
      have hk20 : k = 20 := by omega
      subst hk20
      have hnone := hsn1 (rd_all hI)
      have hR0 : rdIns ws = none := by rw [hmid, hsn, hnone]; rfl
      refine JC_exit ?_
      refine thenQ_x ?_
      refine thenQ_x ?_
      refine blockQ_x ?_
      refine thenQ_n ?_
      refine JC_seq ?_
      refine JC_seq ?_
      refine JC_region ?_
      refine JO_q (QE_mv rfl) rfl ?_
      refine JO_q (QE_notF rfl) rfl ?_
      refine JO_nil ?_
      refine thenQ_n ?_
      refine JC_ifT rfl ?_
      refine JC_seq ?_
      refine JC_region ?_
      refine JO_q (QE_build [] [_, _, _, _] rfl rfl rfl rfl rfl rfl) rfl ?_
      refine JO_st 1 [_, _, _, _] rfl rfl rfl rfl rfl rfl rfl rfl rfl ?_
      refine JO_q (QE_as rfl) rfl ?_
      refine JO_nil ?_
      refine thenQ_n ?_
      refine JC_ret ?_
      refine thenQ_r ?_
      refine blockQ_r ?_
      refine thenQ_r ?_
      refine blockQ_r ?_
      refine thenQ_r ?_
      refine retQ_mk [_, _] _ (.inr rfl) (.agg (us := [_, _, _, _]) 1 rfl rfl rfl rfl rfl (.tmp rfl (.nil))) rfl (Le.trans (Le.trans (Le.trans (Le.trans (Le.trans (Le.trans (Le.trans (Le.trans (Le.trans (Le.trans h1 h3) h4) h5) h6) h8) h9) h10) I12.1) h14) I15.1) (fun sR hS2 => ?_)
      first
        | exact ⟨[], rfl, fun s2 hs2 hp => ⟨⟨[], 0, false, []⟩, none, 0, 0, by rw [hR0]; rfl, acs_nil _, by decide, ⟨by decide, by decide⟩, fun y hy => by rw [hR0] at hy; cases hy⟩⟩
        | exact ⟨Mo, rfl, fun s2 hs2 hp => ⟨⟨[], 0, false, []⟩, none, 0, 0, by rw [hR0]; rfl, acs_nil _, by decide, ⟨by decide, by decide⟩, fun y hy => by rw [hR0] at hy; cases hy⟩⟩
        | exact ⟨Mo, rfl, fun s2 hs2 hp => ⟨⟨w4, kn, decide (w7 = [97, 110]), acc⟩, Ao, acc.length, co, by rw [hfin]; rfl, Own.acs hO (fun a ha => ⟨(hacc a ha).2.1.2.1.u32, (hacc a ha).2.1.2.2.u32⟩) hp rfl, by simp only; omega, hku, fun y hy => by rw [hfin] at hy; injection hy⟩⟩
    ·
     have hrs : rs = [] := List.eq_nil_of_length_eq_zero (by omega)
     subst hrs
     have hfin : rdIns ws = some ⟨w4, kn, decide (w7 = [97, 110]), acc⟩ := by rw [hmid, hsn]; simp [sn]
     obtain ⟨Ao, co, hvo, _, _⟩ := Own.slice hO
     subst hvo
     refine JC_exit ?_
     refine thenQ_x ?_
     refine thenQ_x ?_
     refine blockQ_x ?_
     refine thenQ_n ?_
     refine JC_seq ?_
     refine JC_region ?_
     refine JO_q (QE_ldA 0 [_, _, _, _] rfl rfl rfl rfl rfl) rfl ?_
     refine JO_st 1 [_, _, _, _] rfl rfl rfl rfl rfl rfl rfl rfl rfl ?_
     refine JO_q (QE_as rfl) rfl ?_
     refine JO_nil ?_
     refine thenQ_n ?_
     refine JC_ret ?_
     refine retQ_mk [_, _] _ (.inr rfl) (.agg (us := [_, _, _, _]) 1 rfl rfl rfl rfl rfl (.tmp rfl (.nil))) rfl (Le.trans (Le.trans (Le.trans (Le.trans (Le.trans (Le.trans (Le.trans (Le.trans h1 h3) h4) h5) h6) h8) h9) h10) I12.1) (fun sR hS2 => ?_)
     first
       | exact ⟨[], rfl, fun s2 hs2 hp => ⟨⟨[], 0, false, []⟩, none, 0, 0, by rw [hR0]; rfl, acs_nil _, by decide, ⟨by decide, by decide⟩, fun y hy => by rw [hR0] at hy; cases hy⟩⟩
       | exact ⟨Mo, rfl, fun s2 hs2 hp => ⟨⟨[], 0, false, []⟩, none, 0, 0, by rw [hR0]; rfl, acs_nil _, by decide, ⟨by decide, by decide⟩, fun y hy => by rw [hR0] at hy; cases hy⟩⟩
       | exact ⟨Mo, rfl, fun s2 hs2 hp => ⟨⟨w4, kn, decide (w7 = [97, 110]), acc⟩, Ao, acc.length, co, by rw [hfin]; rfl, Own.acs hO (fun a ha => ⟨(hacc a ha).2.1.2.1.u32, (hacc a ha).2.1.2.2.u32⟩) hp rfl, by simp only; omega, hku, fun y hy => by rw [hfin] at hy; injection hy⟩⟩
theorem readIns_ac (D : Nat) (L : Hl) (s : World) (hG : GP s) (A : Option Addr) (n c : Nat) (ws : List (List UInt8)) (hS : Strs s A n c ws) (hz : sizeW ws ≤ 1000000) (hok : okT (joinW ws) = true) (hb : ∀ w ∈ ws, bare1 w) : AC Tryz.prog D 38 [.slice A n c] L s fun v L' s' => L = L' ∧ ∃ (x : Ins) (Ai : Option Addr) (ni ci : Nat), v = .tuple #[.agg #[St x.name, .int .u32 x.code, .bool x.operand, .slice Ai ni ci], .bool (rdIns ws).isSome] ∧ Acs s' Ai ni ci x.acts ∧ x.name.length ≤ 1000000 ∧ U32 x.code ∧ ∀ y, rdIns ws = some y → x = y := AC.pubW (readInsO_ac D L s hG A n c ws hS hz hok hb)
end Go.Proofs.YtoeeblegplghmaaGreatDoor
namespace Go.FL
open Go Go.RowKit
def fro (ro : Option Nat) : Fence := { Fence.wide with round := ro }
theorem calls_fro {P : Program} {f : FuncId} {args : Array Value} {w : World} {R : Ending → World → Prop} (ro : Option Nat) (n : Nat) (h : Calls P f args w R) : CallsIn (fro ro) n P f args w R := by
  cases ro with
  | none => exact callsIn_wide.2 h
  | some l => exact CallsIn.inRound l (callsIn_wide.2 h)
theorem fro_depth (ro : Option Nat) (n : Nat) : (fro ro).depth.isSome = true → 1 ≤ n := fun h => by cases h
theorem fro_fn (ro : Option Nat) (f : FuncId) : (fro ro).fn f := trivial
structure FrD (ds : List Deferred) (n : Nat) (a : Act) (fr : Fr) : Prop where
  rel : FrRel n { a with defers := [] } fr
  defers : a.defers = ds
theorem FrD.ev {ds : List Deferred} {n : Nat} {a : Act} {fr : Fr} (h : FrD ds n a fr) {x : Operand} {v : Value} (hx : lk fr x = some v) : a.eval x = v := h.rel.ev hx
theorem FrD.put {ds : List Deferred} {n : Nat} {a : Act} {fr : Fr} (h : FrD ds n a fr) {d : Nat} (hd : Nat.blt d n = true) (v : Value) : FrD ds n (a.put (some d) v) ((d, v) :: fr) :=
  ⟨h.rel.put hd v, h.defers⟩
theorem FrD.sub {ds : List Deferred} {n : Nat} {a : Act} {fr l : Fr} (h : FrD ds n a fr) (hs : Keeps fr l) : FrD ds n a l := ⟨h.rel.sub hs, h.defers⟩
abbrev GPost := Exit → List Deferred → Fr → Hl → World → Prop
def concG (D n : Nat) (Q : GPost) : Exit → Act → World → Prop := fun e a w => ∃ ds fr L s, FrD ds n a fr ∧ OKL D L s ∧ w = fill L s ∧ Q e ds fr L s
def RC (P : Program) (TT : TyTab) (D n : Nat) (ro : Option Nat) (Q : GPost) (c : Code) (ds : List Deferred) (fr : Fr) (L : Hl) (s : World) : Prop :=
  TabOK P TT → ∀ a, FrD ds n a fr → OKL D L s → c.wpIn (fro ro) 0 P (concG D n Q) a (fill L s)
def RO (P : Program) (TT : TyTab) (D n : Nat) (ro : Option Nat) (ops : Array Oper) (Q : GPost) (l : List Oper) (ds : List Deferred) (fr : Fr) (L : Hl) (s : World) : Prop :=
  TabOK P TT → ∀ a, FrD ds n a fr → OKL D L s → wpListIn (fro ro) 0 P ops (concG D n Q) l a (fill L s)
section control
variable {P : Program} {TT : TyTab} {D n : Nat} {ro : Option Nat} {Q : GPost} {ds : List Deferred} {fr : Fr} {L : Hl} {s : World}
def thenG (J : List Deferred → Fr → Hl → World → Prop) (Q : GPost) : GPost
  | .normal, ds, fr, L, s => J ds fr L s
  | e, ds, fr, L, s => Q e ds fr L s
def blockG (id : Nat) (Q : GPost) : GPost
  | .exit i, ds, fr, L, s => if i = id then Q .normal ds fr L s else Q (.exit i) ds fr L s
  | e, ds, fr, L, s => Q e ds fr L s
theorem RC_skip (h : Q .normal ds fr L s) : RC P TT D n ro Q .skip ds fr L s := fun _ _ hr ho => wpIn_skip ⟨ds, fr, L, s, hr, ho, rfl, h⟩
theorem RC_exit {id : Nat} (h : Q (.exit id) ds fr L s) : RC P TT D n ro Q (.exit id) ds fr L s := fun _ _ hr ho => wpIn_exit ⟨ds, fr, L, s, hr, ho, rfl, h⟩
theorem RC_ret (h : Q .ret ds fr L s) : RC P TT D n ro Q .ret ds fr L s := fun _ _ hr ho => wpIn_ret ⟨ds, fr, L, s, hr, ho, rfl, h⟩
theorem RC_seq {x y : Code} (h : RC P TT D n ro (thenG (RC P TT D n ro Q y) Q) x ds fr L s) : RC P TT D n ro Q (.seq x y) ds fr L s := fun ht a hr ho =>
  wpIn_seq (wpIn_mono (h ht a hr ho) fun e a w ⟨ds', fr', L', s', h1, h2, h3, h4⟩ => by
    cases e with
    | normal => subst h3; exact h4 ht a h1 h2
    | _ => exact ⟨ds', fr', L', s', h1, h2, h3, h4⟩)
theorem RC_block {id : Nat} {c : Code} (h : RC P TT D n ro (blockG id Q) c ds fr L s) : RC P TT D n ro Q (.block id c) ds fr L s := fun ht a hr ho =>
  wpIn_block (wpIn_mono (h ht a hr ho) fun e a w ⟨ds', fr', L', s', h1, h2, h3, h4⟩ => by
    cases e with
    | exit i =>
      simp only [blockG] at h4
      simp only [Exit.inBlock]
      by_cases hi : i = id
      · simp only [hi, if_true] at h4 ⊢; exact ⟨ds', fr', L', s', h1, h2, h3, h4⟩
      · simp only [hi, if_false] at h4 ⊢; exact ⟨ds', fr', L', s', h1, h2, h3, h4⟩
    | _ => exact ⟨ds', fr', L', s', h1, h2, h3, h4⟩)
theorem RC_if {c : Operand} {x y : Code} {b : Bool} (hc : lk fr c = some (.bool b)) (h1 : b = true → RC P TT D n ro Q x ds fr L s) (h2 : b = false → RC P TT D n ro Q y ds fr L s) : RC P TT D n ro Q (.cond c x y) ds fr L s :=
  fun ht a hr ho => wpIn_cond_split (hr.ev hc) (fun hb => h1 hb ht a hr ho) (fun hb => h2 hb ht a hr ho)
theorem RC_ifD {c : Operand} {x y : Code} {p : Prop} [Decidable p] (hc : lk fr c = some (.bool (decide p))) (h1 : p → RC P TT D n ro Q x ds fr L s) (h2 : ¬ p → RC P TT D n ro Q y ds fr L s) : RC P TT D n ro Q (.cond c x y) ds fr L s :=
  RC_if hc (fun hb => h1 (of_decide_eq_true hb)) (fun hb => h2 (of_decide_eq_false hb))
theorem RC_ifN {c : Operand} {x y : Code} {p : Prop} [Decidable p] (hc : lk fr c = some (.bool (!decide p))) (h1 : ¬ p → RC P TT D n ro Q x ds fr L s) (h2 : p → RC P TT D n ro Q y ds fr L s) : RC P TT D n ro Q (.cond c x y) ds fr L s :=
  RC_if hc (fun hb => h1 (by simpa using hb)) (fun hb => h2 (by simpa using hb))
theorem RC_ifM {c : Operand} {x y : Code} {b : Bool} (hc : lk fr c = some (.bool (!b))) (h1 : b = false → RC P TT D n ro Q x ds fr L s) (h2 : b = true → RC P TT D n ro Q y ds fr L s) : RC P TT D n ro Q (.cond c x y) ds fr L s :=
  RC_if hc (fun hb => h1 (by simpa using hb)) (fun hb => h2 (by simpa using hb))
theorem RC_ifT {c : Operand} {x y : Code} (hc : lk fr c = some (.bool true)) (h1 : RC P TT D n ro Q x ds fr L s) : RC P TT D n ro Q (.cond c x y) ds fr L s :=
  RC_if hc (fun _ => h1) (fun hb => by cases hb)
theorem RC_region {id : Nat} {l : List Oper} (h : RO P TT D n ro l.toArray Q l ds fr L s) : RC P TT D n ro Q (.region id l.toArray false) ds fr L s :=
  fun ht a hr ho => wpIn_region_lit (h ht a hr ho)
theorem RO_nil {ops : Array Oper} (h : Q .normal ds fr L s) : RO P TT D n ro ops Q [] ds fr L s := fun _ _ hr ho => ⟨ds, fr, L, s, hr, ho, rfl, h⟩
theorem RC_loop {γ : Type} {c : Code} (S : γ → Fr) (H : γ → Hl) (I : γ → World → Prop) (μ : γ → Nat) (mono : ∀ g s s', I g s → Le D s s' → I g s') (g0 : γ)
    (hS : Keeps fr (S g0)) (hL : L = H g0) (hI : I g0 s)
    (round : ∀ g s, I g s → RC P TT D n ro (thenG (fun ds' fr' L' s' => ds' = ds ∧ ∃ g' A, Keeps fr' (S g') ∧ L' = A ++ H g' ∧ I g' s' ∧ μ g' < μ g) Q) c ds (S g) (H g) s) :
    RC P TT D n ro Q (.loop c) ds fr L s := fun ht a hr ho => by
  refine wpIn_loop_ghost (fun m a w => ∃ g s, μ g = m ∧ FrD ds n a (S g) ∧ OKL D (H g) s ∧ w = fill (H g) s ∧ I g s) (μ g0) ⟨g0, s, rfl, hr.sub hS, hL ▸ ho, hL ▸ rfl, hI⟩ ?_
  rintro m a w ⟨g, s, rfl, h1, h2, rfl, h4⟩
  refine wpIn_mono (round g s h4 ht a h1 h2) ?_
  rintro e a' w' ⟨ds', fr', L', s', k1, k2, rfl, k4⟩
  cases e with
  | normal =>
    obtain ⟨rfl, g', A, j1, rfl, j3, j4⟩ := k4
    obtain ⟨e, d1, d2⟩ := drop_own k2
    exact ⟨μ g', j4, g', _, rfl, k1.sub j1, d1, e, mono _ _ _ j3 d2⟩
  | _ => exact ⟨ds', fr', L', s', k1, k2, rfl, k4⟩
theorem thenG_n {J : List Deferred → Fr → Hl → World → Prop} (h : J ds fr L s) : thenG J Q .normal ds fr L s := h
theorem thenG_r {J : List Deferred → Fr → Hl → World → Prop} (h : Q .ret ds fr L s) : thenG J Q .ret ds fr L s := h
theorem thenG_x {J : List Deferred → Fr → Hl → World → Prop} {i : Nat} (h : Q (.exit i) ds fr L s) : thenG J Q (.exit i) ds fr L s := h
theorem blockG_n {id : Nat} (h : Q .normal ds fr L s) : blockG id Q .normal ds fr L s := h
theorem blockG_r {id : Nat} (h : Q .ret ds fr L s) : blockG id Q .ret ds fr L s := h
theorem blockG_x {id : Nat} (h : Q .normal ds fr L s) : blockG id Q (.exit id) ds fr L s := by simpa [blockG] using h
end control
section ops
variable {P : Program} {TT : TyTab} {D n : Nat} {ro : Option Nat} {Q : GPost} {ds : List Deferred} {fr : Fr} {L L' : Hl} {s s' : World} {ops : Array Oper} {rest : List Oper} {d ty : Nat} {op : Op} {pos : String} {af : Array Edge} {v : Value}
theorem RO_ev (hnd : ∀ c, op ≠ .defer c) (hd : Nat.blt d n = true) (h : Ev P TT D fr op ty L s (.value v) L' s') (k : RO P TT D n ro ops Q rest ds ((d, v) :: fr) L' s') :
    RO P TT D n ro ops Q (⟨some d, op, ty, pos, af, none⟩ :: rest) ds fr L s := fun ht a hr ho => by
  obtain ⟨h1, h2⟩ := h ht ho (some d) pos af none a.eval (fun x v hx => hr.ev hx)
  simp only [wpListIn, Region.wanted, if_true]
  refine ⟨fun f _ => fro_fn ro f, ?_⟩
  rw [Oper.semAt_eq _ _ _ hnd, h1, Oper.uponIn_value]
  exact k ht _ (hr.put hd v) h2
theorem RO_sk (hnd : ∀ c, op ≠ .defer c) (h : Ev P TT D fr op ty L s .skip L' s') (k : RO P TT D n ro ops Q rest ds fr L' s') :
    RO P TT D n ro ops Q (⟨none, op, ty, pos, af, none⟩ :: rest) ds fr L s := fun ht a hr ho => by
  obtain ⟨h1, h2⟩ := h ht ho none pos af none a.eval (fun x v hx => hr.ev hx)
  simp only [wpListIn, Region.wanted, if_true]
  refine ⟨fun f _ => fro_fn ro f, ?_⟩
  rw [Oper.semAt_eq _ _ _ hnd, h1, Oper.uponIn_skip]
  exact k ht _ hr h2
theorem RO_q (h : QE P TT D fr op ty L s v) (hd : Nat.blt d n = true) (k : RO P TT D n ro ops Q rest ds ((d, v) :: fr) L s) (hnd : ∀ c, op ≠ .defer c := by nofun) : RO P TT D n ro ops Q (⟨some d, op, ty, pos, af, none⟩ :: rest) ds fr L s :=
  RO_ev hnd hd (fun ht ho dst pos af g ρ hρ => ⟨h ht dst pos af g ρ hρ L s ho (Le.refl _) (fun _ hx => hx), ho⟩) k
theorem RO_call {f : FuncId} {x : Operand} {xs : List Operand} {first captured vs : List Value} {ts : Array TypeId} {R : Value → Hl → World → Prop} (hx : lk fr x = some (.func (.func f) first.toArray captured.toArray)) (hv : lks fr xs = some vs)
    (hd : Nat.blt d n = true) (h : AC P D f (first ++ vs ++ captured) L s R) (k : ∀ v L' s', Le D s s' → R v L' s' → RO P TT D n ro ops Q rest ds ((d, v) :: fr) L' s') :
    RO P TT D n ro ops Q (⟨some d, .call { callee := .value x, args := xs.toArray, argTypes := ts }, ty, pos, af, none⟩ :: rest) ds fr L s := fun hT a hr ho => by
  obtain ⟨⟨fn, h1, h2, h3⟩, hc⟩ := h
  have hρ : ∀ x v, lk fr x = some v → a.eval x = v := fun x v hx => hr.ev hx
  simp only [wpListIn, Region.wanted, if_true]
  refine ⟨fun f _ => fro_fn ro f, ?_⟩
  have hrun : (execOp a.eval ⟨some d, .call { callee := .value x, args := xs.toArray, argTypes := ts }, ty, pos, af, none⟩).run P (fill L s) = .ok (.enter f (first ++ vs ++ captured).toArray) (fill L s) := by
    have h2' : ¬ fn.name = "runtime.NumGoroutine" := by simpa using h2
    have h3' : ¬ fn.body = none := by intro e; simp [e] at h3
    simp [execOp, resolve, Deferred.ofValue, invoke, callFunc, hρ x _ hx, lks_map hρ hv, h1, h2', h3']
  rw [Oper.semAt_eq _ _ _ (by nofun), hrun, Oper.uponIn_enter]
  refine ⟨fro_depth ro 0, (calls_fro ro _ (hc ho)).mono ?_⟩
  rintro e w' ⟨v, L', s', rfl, rfl, h4, h5, h6⟩
  exact k v L' s' h5 h6 hT _ (hr.put hd v) h4
def YC (P : Program) (D : Nat) (l : Nat) (args : List Value) (L : Hl) (s : World) (R : Value → Hl → World → Prop) : Prop :=
  OKL D L s → ∃ fn tmps assign body, (Instr.yield l args.toArray).run P (fill L s) = .ok (.round l fn tmps assign body) (fill L s) ∧
    RoundIn Fence.wide 0 P l fn tmps assign body (fill L s) fun e w' => ∃ v L' s', e = .returned v ∧ w' = fill L' s' ∧ OKL D L' s' ∧ Le D s s' ∧ R v L' s'
theorem RO_yield {l : Nat} {x : Operand} {xs : List Operand} {vs : List Value} {ts : Array TypeId} {R : Value → Hl → World → Prop} (hx : lk fr x = some (.func (.yield l) #[] #[])) (hv : lks fr xs = some vs)
    (hd : Nat.blt d n = true) (h : YC P D l vs L s R) (k : ∀ v L' s', Le D s s' → R v L' s' → RO P TT D n none ops Q rest ds ((d, v) :: fr) L' s') :
    RO P TT D n none ops Q (⟨some d, .call { callee := .value x, args := xs.toArray, argTypes := ts }, ty, pos, af, none⟩ :: rest) ds fr L s := fun hT a hr ho => by
  obtain ⟨fn, tmps, assign, body, hy, hR⟩ := h ho
  have hρ : ∀ x v, lk fr x = some v → a.eval x = v := fun x v hx => hr.ev hx
  simp only [wpListIn, Region.wanted, if_true]
  refine ⟨fun f _ => fro_fn none f, ?_⟩
  have hrun : (execOp a.eval ⟨some d, .call { callee := .value x, args := xs.toArray, argTypes := ts }, ty, pos, af, none⟩).run P (fill L s) = .ok (.round l fn tmps assign body) (fill L s) := by
    simp [execOp, resolve, Deferred.ofValue, invoke, hρ x _ hx, lks_map hρ hv, hy]
  rw [Oper.semAt_eq _ _ _ (by nofun), hrun, Oper.uponIn_round]
  refine ⟨fro_depth none 0, RoundIn.mono hR ?_⟩
  rintro e w' ⟨v, L', s', rfl, rfl, h4, h5, h6⟩
  exact k v L' s' h5 h6 hT _ (hr.put hd v) h4
theorem RO_alloc {t : Nat} {ti : TI} (ht : tlook TT t = some ti) (hd : Nat.blt d n = true)
    (k : ∀ β s', Le D s s' → RO P TT D n ro ops Q rest ds ((d, .pointer (some ⟨β, 0, none⟩)) :: fr) ((β, cb ti.zeros t) :: L) s') : RO P TT D n ro ops Q (⟨some d, .alloc t, ty, pos, af, none⟩ :: rest) ds fr L s := fun hT a hr ho =>
  RO_ev (by nofun) hd (Ev_alloc ht ho) (k _ _ (alloc_fill ho (cb ti.zeros t)).2.2) hT a hr ho
theorem RO_allocZ {t : Nat} {ti : TI} (ht : tlook TT t = some ti) (zs : List Value) (hz : ti.zeros = zs) (hd : Nat.blt d n = true)
    (k : ∀ β s', Le D s s' → RO P TT D n ro ops Q rest ds ((d, .pointer (some ⟨β, 0, none⟩)) :: fr) ((β, cb zs t) :: L) s') : RO P TT D n ro ops Q (⟨some d, .alloc t, ty, pos, af, none⟩ :: rest) ds fr L s := by subst hz; exact RO_alloc ht hd k
theorem RO_st {t b off : Nat} {x y : Operand} {ti : TI} {t' : Nat} {zs : List Value} (i : Nat) (zs' : List Value) {L' : Hl} (hx : lk fr x = some (.pointer (some ⟨b, off, none⟩))) (hy : lk fr y = some v) (hi : L[i]? = some (b, cb zs t')) (ht : tlook TT t = some ti)
    (hl : (cellsL v).length = ti.size) (hle : Nat.ble (off + ti.size) zs.length = true) (h1 : (cellsL v).all (·.oneCell') = true) (hs : splice zs off (cellsL v) = zs') (hL : setL L i (cb zs' t') = L')
    (k : RO P TT D n ro ops Q rest ds fr L' s) : RO P TT D n ro ops Q (⟨none, .store t x y, ty, pos, af, none⟩ :: rest) ds fr L s := by
  subst hL; exact RO_sk (by nofun) (Ev_st i zs' hx hy hi ht hl hle h1 hs) k
theorem RO_bs {t e len : Nat} {ti te : TI} {ps : List (Nat × Operand)} (vals : List (Nat × Value)) (vs : List Value) (ht : tlook TT t = some ti) (hk : ti.kind = .sl e) (he : tlook TT e = some te) (hv : lkp fr ps = some vals) (hsz : Nat.ble (len * te.size) 16777216 = true) (hpos : Nat.blt 0 len = true) (hp : vals.all (fun x => Nat.blt x.1 len) = true)
    (hb : bld (rowPl te.size 0 len) (List.replicate len te.zeros).flatten vals = some vs) (hd : Nat.blt d n = true) (k : ∀ β s', Le D s s' → CellsAt s' β 0 vs → RO P TT D n ro ops Q rest ds ((d, .slice (some ⟨β, 0, none⟩) len len) :: fr) L s') :
    RO P TT D n ro ops Q (⟨some d, .buildSlice t len ps.toArray, ty, pos, af, none⟩ :: rest) ds fr L s := fun hT a hr ho => by
  obtain ⟨h1, h2, h3⟩ := alloc_fill ho (cb vs e)
  obtain ⟨d1, d2, d3⟩ := drop_own (A := [(s.heap.size, cb vs e)]) (B := L) h2
  refine RO_ev (by nofun) (L' := L) (s' := fill [(s.heap.size, cb vs e)] (s.alloc (dum D))) hd (fun hT _ dst pos af g ρ hρ => ⟨?_, d2⟩) (k _ _ (h3.trans d3) (cells_drop h2)) hT a hr ho
  rw [← d1]
  exact (Ev_bs vals vs ht hk he hv hsz hpos hp hb ho hT ho dst pos af g ρ hρ).1
theorem RO_app {t e m c k sz : Nat} {x y : Operand} {ti te : TI} {A1 : Option Addr} {news xs : List Value} (B A L0 : Hl) (hL : L = B ++ (A ++ L0)) (hx : lk fr x = some v) (hy : lk fr y = some (.slice A1 m c)) (ht : tlook TT t = some ti) (hk : ti.kind = .sl e) (he : tlook TT e = some te) (hsz : te.size = sz)
    (hO : FL.Own e sz A v k xs) (hR : Row s A1 m sz news) (h63 : (k + m) * te.bytes ≤ 140737488355328 ∧ k + m ≤ 9223372036854775807) (hd : Nat.blt d n = true)
    (kk : ∀ v' A' s', Le D s s' → FL.Own e sz A' v' (k + m) (xs ++ news) → RO P TT D n ro ops Q rest ds ((d, v') :: fr) (B ++ (A' ++ L0)) s') :
    RO P TT D n ro ops Q (⟨some d, .call { callee := .builtin .append, args := #[x, y], argTypes := #[t, t] }, ty, pos, af, none⟩ :: rest) ds fr L s := fun hT a hr ho => by
  subst hL
  obtain ⟨v', A', s', h1, h2, h3⟩ := Ev_app (ty := ty) B A L0 hT hx hy ht hk he hsz hO hR h63 ho
  exact RO_ev (by nofun) hd h1 (kk v' A' s' h2 h3) hT a hr ho
theorem RO_gT {dst : Option Nat} {j t : Nat} {w : Bool} (hj : gslot ops j = some t) (hv : flook fr t = some (.bool w))
    (k : RO P TT D n ro ops Q (⟨dst, op, ty, pos, af, none⟩ :: rest) ds fr L s) : RO P TT D n ro ops Q (⟨dst, op, ty, pos, af, some (j, w)⟩ :: rest) ds fr L s := fun ht a hr ho => by
  have k1 := k ht a hr ho
  have hy : yielded ops a.tmps j = some w := by
    have h1 := hr.rel.slot t (hr.rel.top _ _ hv) _ hv
    unfold gslot at hj
    simp only at h1
    simp [yielded, hj, h1]
  simp only [wpListIn, Region.wanted, if_true] at k1
  simp only [wpListIn, Region.wanted, hy, beq_self_eq_true, if_true]
  exact k1
theorem RO_gF {d : Nat} {j t : Nat} {w b : Bool} (hd : Nat.blt d n = true) (hj : gslot ops j = some t) (hv : flook fr t = some (.bool b)) (hb : (b != w) = true)
    (k : RO P TT D n ro ops Q rest ds ((d, undef) :: fr) L s) : RO P TT D n ro ops Q (⟨some d, op, ty, pos, af, some (j, w)⟩ :: rest) ds fr L s := fun ht a hr ho => by
  have hy : yielded ops a.tmps j = some b := by
    have h1 := hr.rel.slot t (hr.rel.top _ _ hv) _ hv
    unfold gslot at hj
    simp only at h1
    simp [yielded, hj, h1]
  have hne : (some b == some w) = false := by cases b <;> cases w <;> simp_all
  simp only [wpListIn, Region.wanted, hy, hne, Bool.false_eq_true, if_false]
  exact ⟨fun f _ => fro_fn ro f, k ht _ (hr.put hd undef) ho⟩
theorem RO_case {l : List Oper} {t : Nat} {b : Bool} (hv : flook fr t = some (.bool b)) (h1 : b = true → RO P TT D n ro ops Q l ds ((t, .bool true) :: fr) L s) (h2 : b = false → RO P TT D n ro ops Q l ds ((t, .bool false) :: fr) L s) :
    RO P TT D n ro ops Q l ds fr L s := fun ht a hr ho => by
  cases b with
  | true => exact h1 rfl ht a (hr.sub fun t' v' h => by rw [flook_cons] at h; split at h <;> simp_all) ho
  | false => exact h2 rfl ht a (hr.sub fun t' v' h => by rw [flook_cons] at h; split at h <;> simp_all) ho
theorem RO_caseD {l : List Oper} {t : Nat} {p : Prop} [Decidable p] (hv : flook fr t = some (.bool (decide p))) (h1 : p → RO P TT D n ro ops Q l ds ((t, .bool true) :: fr) L s) (h2 : ¬ p → RO P TT D n ro ops Q l ds ((t, .bool false) :: fr) L s) :
    RO P TT D n ro ops Q l ds fr L s := RO_case hv (fun h => h1 (of_decide_eq_true h)) (fun h => h2 (of_decide_eq_false h))
end ops
theorem RC_pubX {P : Program} {TT : TyTab} {D n : Nat} {ro : Option Nat} {Q : GPost} {ds : List Deferred} {fr : Fr} {s : World} {c : Code} (X A Y : Hl) (h : ∀ s', Le D s s' → Pub A s' → RC P TT D n ro Q c ds fr (X ++ Y) s') : RC P TT D n ro Q c ds fr (X ++ (A ++ Y)) s := fun ht a hr ho => by
  have hp : (X ++ (A ++ Y)).Perm (A ++ (X ++ Y)) := by
    rw [← List.append_assoc, ← List.append_assoc]
    exact (List.perm_append_comm).append_right Y
  rw [fill_perm hp _ ho]
  have ho2 := ho.perm hp
  obtain ⟨e, d1, d2⟩ := drop_own ho2
  rw [e]
  refine h _ d2 (fun b zs t hm j u hj => ?_) ht a hr d1
  rw [mem_cell ho2.left hm, Nat.zero_add]; exact hj
section anyorder
variable {P : Program} {TT : TyTab} {D n : Nat} {ro : Option Nat} {Q : GPost} {ds : List Deferred} {fr : Fr} {L L' : Hl} {s s' : World} {ops : Array Oper} {d ty fuel : Nat} {op : Op} {pos : String} {af : Array Edge} {v : Value} {listed : Array Bool}
def RA (P : Program) (TT : TyTab) (D n : Nat) (ro : Option Nat) (ops : Array Oper) (Q : GPost) (fuel : Nat) (listed : Array Bool) (ds : List Deferred) (fr : Fr) (L : Hl) (s : World) : Prop :=
  TabOK P TT → ∀ a, FrD ds n a fr → OKL D L s → wpAnyIn (fro ro) 0 P .any ops (concG D n Q) fuel listed a (fill L s)
def RB (P : Program) (TT : TyTab) (D n : Nat) (ro : Option Nat) (ops : Array Oper) (Q : GPost) (fuel : Nat) (listed : Array Bool) (i : Nat) (ds : List Deferred) (fr : Fr) (L : Hl) (s : World) : Prop :=
  TabOK P TT → ∀ a, FrD ds n a fr → OKL D L s → wpOpIn (fro ro) 0 P ops (concG D n Q) i (wpAnyIn (fro ro) 0 P .any ops (concG D n Q) fuel (listed.setIfInBounds i true)) a (fill L s)
theorem RC_draw {id : Nat} {l : List Oper} (hm : P.follows .mixedOrders = true) (N : Nat) (hN : l.length = N) (h : ∀ s', Le D s s' → RA P TT D n ro l.toArray Q N (Array.replicate N false) ds fr L s') : RC P TT D n ro Q (.region id l.toArray true) ds fr L s := fun ht a hr ho => by
  subst hN
  have h1 := h s.drew (Le.drew s) ht a hr ho.drew
  refine wpIn_region_any hm ?_
  rw [← drew_fill] at h1
  simpa using h1
theorem RA_done (hr : Region.ready .any ops listed = []) (h : Q .normal ds fr L s) : RA P TT D n ro ops Q fuel listed ds fr L s := fun _ a hf ho => by
  have hq : concG D n Q .normal a (fill L s) := ⟨ds, fr, L, s, hf, ho, rfl, h⟩
  cases fuel with
  | zero => exact ⟨hr, hq⟩
  | succ fuel => exact ⟨fun _ => hq, fun i hi => by rw [hr] at hi; cases hi⟩
theorem RA_all {is : List Nat} (hr : Region.ready .any ops listed = is) (hne : is ≠ []) (h : ∀ i ∈ is, RB P TT D n ro ops Q fuel listed i ds fr L s) : RA P TT D n ro ops Q (fuel + 1) listed ds fr L s := fun ht a hf ho =>
  ⟨fun e => absurd (hr.symm.trans e) hne, fun i hi => by rw [hr] at hi; exact h i hi ht a hf ho⟩
theorem RA_1 (i : Nat) (hr : Region.ready .any ops listed = [i]) (h : RB P TT D n ro ops Q fuel listed i ds fr L s) : RA P TT D n ro ops Q (fuel + 1) listed ds fr L s := RA_all hr (by simp) (by simpa using h)
theorem RA_2 (i j : Nat) (hr : Region.ready .any ops listed = [i, j]) (h : RB P TT D n ro ops Q fuel listed i ds fr L s) (h' : RB P TT D n ro ops Q fuel listed j ds fr L s) : RA P TT D n ro ops Q (fuel + 1) listed ds fr L s := RA_all hr (by simp) (by simpa using ⟨h, h'⟩)
theorem RB_ev {i : Nat} (hi : ops[i]? = some ⟨some d, op, ty, pos, af, none⟩) (hnd : ∀ c, op ≠ .defer c) (hd : Nat.blt d n = true) (h : Ev P TT D fr op ty L s (.value v) L' s') (k : RA P TT D n ro ops Q fuel (listed.setIfInBounds i true) ds ((d, v) :: fr) L' s') :
    RB P TT D n ro ops Q fuel listed i ds fr L s := fun ht a hr ho => by
  obtain ⟨h1, h2⟩ := h ht ho (some d) pos af none a.eval (fun x v hx => hr.ev hx)
  simp only [wpOpIn, hi, Region.wanted, if_true]
  refine ⟨fun f _ => fro_fn ro f, ?_⟩
  rw [Oper.semAt_eq _ _ _ hnd, h1, Oper.uponIn_value]
  exact k ht _ (hr.put hd v) h2
theorem RB_sk {i : Nat} (hi : ops[i]? = some ⟨none, op, ty, pos, af, none⟩) (hnd : ∀ c, op ≠ .defer c) (h : Ev P TT D fr op ty L s .skip L' s') (k : RA P TT D n ro ops Q fuel (listed.setIfInBounds i true) ds fr L' s') :
    RB P TT D n ro ops Q fuel listed i ds fr L s := fun ht a hr ho => by
  obtain ⟨h1, h2⟩ := h ht ho none pos af none a.eval (fun x v hx => hr.ev hx)
  simp only [wpOpIn, hi, Region.wanted, if_true]
  refine ⟨fun f _ => fro_fn ro f, ?_⟩
  rw [Oper.semAt_eq _ _ _ hnd, h1, Oper.uponIn_skip]
  exact k ht _ hr h2
theorem RB_q {i : Nat} (hi : ops[i]? = some ⟨some d, op, ty, pos, af, none⟩) (h : QE P TT D fr op ty L s v) (hd : Nat.blt d n = true) (k : RA P TT D n ro ops Q fuel (listed.setIfInBounds i true) ds ((d, v) :: fr) L s) (hnd : ∀ c, op ≠ .defer c := by nofun) :
    RB P TT D n ro ops Q fuel listed i ds fr L s := RB_ev hi hnd hd (fun ht ho dst pos af g ρ hρ => ⟨h ht dst pos af g ρ hρ L s ho (Le.refl _) (fun _ hx => hx), ho⟩) k
theorem RB_st {i0 t b off : Nat} {x y : Operand} {ti : TI} {t' : Nat} {zs : List Value} (hi0 : ops[i0]? = some ⟨none, .store t x y, ty, pos, af, none⟩) (i : Nat) (zs' : List Value) {L' : Hl} (hx : lk fr x = some (.pointer (some ⟨b, off, none⟩))) (hy : lk fr y = some v) (hi : L[i]? = some (b, cb zs t')) (ht : tlook TT t = some ti)
    (hl : (cellsL v).length = ti.size) (hle : Nat.ble (off + ti.size) zs.length = true) (h1 : (cellsL v).all (·.oneCell') = true) (hs : splice zs off (cellsL v) = zs') (hL : setL L i (cb zs' t') = L')
    (k : RA P TT D n ro ops Q fuel (listed.setIfInBounds i0 true) ds fr L' s) : RB P TT D n ro ops Q fuel listed i0 ds fr L s := by
  subst hL; exact RB_sk hi0 (by nofun) (Ev_st i zs' hx hy hi ht hl hle h1 hs) k
end anyorder
section calls
variable {P : Program} {TT : TyTab} {D n : Nat} {Q : GPost} {ds : List Deferred} {fr : Fr} {L : Hl} {s : World}
def markD (b : Nat) : Deferred := { target := .collected b, args := #[] }
def retG (TT : TyTab) (D : Nat) (rs : List ResultVar) (s0 : World) (R : Value → Hl → World → Prop) : GPost := fun e ds fr L s =>
  (e = .normal ∨ e = .ret) ∧ ∃ vs A L', Res TT fr L rs vs ∧ L = A ++ L' ∧ Le D s0 s ∧ (∀ s', Le D s s' → R (resV vs) L' s') ∧ (ds = [] ∨ ∃ b, ds = [markD b] ∧ (b, Obj.deferred (some [])) ∈ A)
theorem Res.set {fr : Fr} {L L' : Hl} (hL : ∀ (i : Nat) b zs t, L[i]? = some (b, cb zs t) → L'[i]? = some (b, cb zs t)) {rs : List ResultVar} {vs : List Value} (h : Res TT fr L rs vs) : Res TT fr L' rs vs := by
  induction h with
  | nil => exact .nil
  | tmp h _ ih => exact .tmp h ih
  | one i h hi ht hk hv _ ih => exact .one i h (hL _ _ _ _ hi) ht hk hv ih
  | agg i h hi ht hk hv _ ih => exact .agg i h (hL _ _ _ _ hi) ht hk hv ih
theorem setL_get (L : Hl) (i j : Nat) (o : Obj) (h : i ≠ j) : (setL L i o)[j]? = L[j]? := by
  induction L generalizing i j with
  | nil => cases i <;> rfl
  | cons x L ih =>
    cases i with
    | zero => cases j with
      | zero => exact absurd rfl h
      | succ j => rfl
    | succ i => cases j with
      | zero => rfl
      | succ j => simp only [setL, List.getElem?_cons_succ]; exact ih i j (by omega)
theorem setL_app {A L' : Hl} {i : Nat} (o : Obj) (h : i < A.length) : setL (A ++ L') i o = setL A i o ++ L' := by
  induction A generalizing i with
  | nil => cases h
  | cons x A ih =>
    cases i with
    | zero => rfl
    | succ i => simp only [List.cons_append, setL]; rw [ih (by simpa using h)]
theorem putObj_setBlk (w : World) (b : Nat) (o : Obj) : w.putObj b o = setBlk w b o := rfl
theorem AC_enterR {f : FuncId} {fn : Func} {c : Code} {args : List Value} {R : Value → Hl → World → Prop} (hT : TabOK P TT) (hf : P.funcs[f]? = some fn) (hn : (fn.name == "runtime.NumGoroutine") = false) (hb : fn.body = some c) (hnt : fn.ntmps = n) (hle : Nat.ble args.length n = true) {rs : List ResultVar} (hrs : fn.results.toList = rs) (fr0 : Fr) (hfr : slots 0 args = fr0)
    (h : RC P TT D n none (retG TT D rs s R) c [] fr0 L s) : AC P D f args L s R := by
  subst hfr; subst hrs
  refine ⟨⟨fn, hf, hn, by simp [hb]⟩, fun ho => (callsIn_wide (n := 0)).1 (callsIn_of_wp_marks hf hb trivial ?_)⟩
  have hle' : args.length ≤ n := Nat.le_of_ble_eq_true hle
  have hr : FrD [] n { tmps := args.toArray ++ Array.replicate (fn.ntmps - args.toArray.size) undef, defers := [] } (slots 0 args) := by
    refine ⟨⟨by simp [hnt]; omega, rfl, fun t ht v hv => ?_, fun t v hv => ?_⟩, rfl⟩
    · rw [flook_slots] at hv
      simp at hv
      obtain ⟨hlt, _⟩ := List.getElem?_eq_some_iff.1 hv
      simp [Array.getElem?_append, hlt]
      exact (List.getElem?_eq_some_iff.1 hv).2
    · rw [flook_slots] at hv
      simp at hv
      obtain ⟨hlt, _⟩ := List.getElem?_eq_some_iff.1 hv
      omega
  refine wpIn_mono (h hT _ hr ho) ?_
  rintro e a w ⟨ds, fr', L1, s1, k1, k2, rfl, he, vs, A, L', hres, rfl, hle1, hR, hds⟩
  have fin : ∀ (A2 : Hl), OKL D (A2 ++ L') s1 → Res TT fr' (A2 ++ L') fn.results.toList vs → LeavesIn Fence.wide 0 P fn a.tmps (fun e w' => ∃ v L' s', e = .returned v ∧ w' = fill L' s' ∧ OKL D L' s' ∧ Le D s s' ∧ R v L' s') [] .returning (fill (A2 ++ L') s1) := fun A2 ho2 hres2 => by
    obtain ⟨d1, d2, d3⟩ := drop_own ho2
    have hrun : (results fn a.tmps).run P (fill (A2 ++ L') s1) = .ok (resV vs) (fill (A2 ++ L') s1) := by
      have h1 := Res.run hT k1.rel ho2 hres2
      have h2 : (fn.results.mapM (resF a.tmps)).run P (fill (A2 ++ L') s1) = .ok vs.toArray (fill (A2 ++ L') s1) := by
        rw [Array.mapM_eq_mapM_toList]
        simp only [map_eq_pure_bind, Sem.run_bind, h1, Result.andThen_ok, Sem.run_pure]
      rw [results_eq]
      simp only [Sem.run_bind, h2, Result.andThen_ok, Sem.run_pure]
      congr 1
      match vs with
      | [] => rfl
      | [v] => rfl
      | v :: u :: r => simp [resV]
    exact ⟨_, hrun, _, L', fill A2 s1, rfl, d1, d2, hle1.trans d3, hR _ d3⟩
  have key : LeavesInM Fence.wide 0 P fn a.tmps (fun e w' => ∃ v L' s', e = .returned v ∧ w' = fill L' s' ∧ OKL D L' s' ∧ Le D s s' ∧ R v L' s') a.defers .returning (fill (A ++ L') s1) := by
    rw [k1.defers]
    rcases hds with rfl | ⟨b, rfl, hb⟩
    · exact fin A k2 hres
    · obtain ⟨i, hi, hie⟩ := List.getElem_of_mem hb
      have hig : (A ++ L')[i]? = some (b, Obj.deferred (some [])) := by rw [List.getElem?_append_left hi, List.getElem?_eq_getElem hi, hie]
      have hw : (fill (A ++ L') s1).heap[b]? = some (.deferred (some [])) := fill_mem k2 (List.mem_of_getElem? hig)
      refine ⟨(fun h => by cases h), .inl ⟨b, _, rfl, run_takeDeferred hw, ?_⟩⟩
      rw [putObj_setBlk, ← fill_setL k2 hig, setL_app _ hi]
      have ho2 := setL_ok k2 i (Obj.deferred none)
      rw [setL_app _ hi] at ho2
      refine fin (setL A i (.deferred none)) ho2 (Res.set (fun j c zs t hj => ?_) hres)
      rw [← setL_app _ hi, setL_get _ _ _ _ (fun e => by subst e; rw [hig] at hj; cases hj)]
      exact hj
  rcases he with rfl | rfl
  · exact key
  · exact key
theorem retG_mk {rs : List ResultVar} {s0 : World} {R : Value → Hl → World → Prop} {e : Exit} {vs : List Value} (A L' : Hl) (he : e = .normal ∨ e = .ret) (h : Res TT fr L rs vs) (hL : L = A ++ L') (hl : Le D s0 s) (hds : ds = [] ∨ ∃ b, ds = [markD b] ∧ (b, Obj.deferred (some [])) ∈ A) (hR : ∀ s', Le D s s' → R (resV vs) L' s') : retG TT D rs s0 R e ds fr L s :=
  ⟨he, vs, A, L', h, hL, hl, hR, hds⟩
def jmp : Exit → Option (Option Code)
  | .normal => some none
  | .ret => some (some .ret)
  | .exit id => some (some (.exit id))
  | _ => none
def exitOf : Option Code → Exit
  | none => .normal
  | some .ret => .ret
  | some (.exit id) => .exit id
  | _ => .normal
def putAll (fr : Fr) (ps : List Nat) (vs : List Value) : Fr := (ps.zip vs).foldl (fun fr x => (x.1, x.2) :: fr) fr
theorem putAll_rel (n : Nat) : ∀ (l : List (Nat × Value)) (fr : Fr) (a : Act), FrRel n { a with defers := [] } fr → l.all (fun x => Nat.blt x.1 n) = true →
    FrRel n { tmps := l.foldl (fun tmps x => tmps.setIfInBounds x.1 x.2) a.tmps, defers := [] } (l.foldl (fun fr x => (x.1, x.2) :: fr) fr) := by
  intro l
  induction l with
  | nil => intro fr a h _; exact h
  | cons x l ih =>
    intro fr a h hl
    simp only [List.all_cons, Bool.and_eq_true] at hl
    exact ih _ { a with tmps := a.tmps.setIfInBounds x.1 x.2 } (h.put hl.1 x.2) hl.2
section range
variable {σ α : Type} (H : σ → Hl) (I : σ → World → Prop) (pend : σ → Option Code) (St : σ → α → σ → Prop) (enc : α → List Value) (Pre : σ → α → World → Prop) (Fin : σ → Prop)
theorem RC_range {g : Operand} {ps : List Nat} {assign body : Code} {fi : FuncId} {cap : List Value} (hg : lk fr g = some (.func (.func fi) #[] cap.toArray)) (g0 : σ) (hL : L = H g0) (hI0 : I g0 s) (hp0 : pend g0 = none)
    (mono : ∀ g s s', I g s → Le D s s' → I g s') (hpd : ∀ g, pend g = none ∨ pend g = some .ret ∨ ∃ id, pend g = some (.exit id))
    (hps : ∀ p, (enc p).length = ps.length) (hpn : ps.all (fun t => Nat.blt t n) = true)
    (fb : α → Fr) (hassign : ∀ (l : Nat) (p : α) (L' : Hl) (s' : World), RC P TT D n (some l) (fun e ds' fr' L1 s1 => e = .normal ∧ ds' = [] ∧ Keeps fr' (fb p) ∧ L1 = L' ∧ s1 = s') assign [] (putAll fr ps (enc p)) L' s')
    (hbody : ∀ (l dk : Nat) (o1 o2 : Obj) (g : σ) (p : α) (s' : World), Le D s s' → I g s' → pend g = none → Pre g p s' →
      RC P TT D n (some l) (fun e _ _ L1 s1 => ∃ g1, St g p g1 ∧ jmp e = some (pend g1) ∧ ∃ A, L1 = A ++ ((l, o1) :: (dk, o2) :: H g1) ∧ Le D s' s1 ∧ I g1 s1) body [] (fb p) ((l, o1) :: (dk, o2) :: H g) s')
    (hit : ∀ (l : Nat) (HH : σ → Hl) (s' : World), Le D s s' → (∀ g p s'', Le D s s'' → I g s'' → pend g = none → Pre g p s'' → YC P D l (enc p) (HH g) s'' fun v L' s3 => ∃ g1, St g p g1 ∧ v = .bool (pend g1).isNone ∧ L' = HH g1 ∧ I g1 s3) →
      AC P D fi (.func (.yield l) #[] #[] :: cap) (HH g0) s' fun _ L' s3 => ∃ g', Fin g' ∧ L' = HH g' ∧ I g' s3)
    (hpost : ∀ (dk : Nat) (g' : σ) (s3 : World), Le D s s3 → Fin g' → I g' s3 → Q (exitOf (pend g')) [markD dk] fr ((dk, Obj.deferred (some [])) :: H g') s3) :
    RC P TT D n none Q (.rangeFunc g ps.toArray assign body) [] fr L s := fun hT a hr ho => by
  subst hL
  refine wpIn_rangeFunc ?_
  intro fn _
  have hro : (fro none).round = none := rfl
  rw [hro]
  -- the two blocks
  obtain ⟨a1, a2, a3⟩ := alloc_fill ho (Obj.deferred (some []))
  obtain ⟨rec, hrec⟩ : ∃ rec : LoopState → Option Code → Loop, rec = fun st pe => { state := st, pending := pe, fn, tmps := a.tmps, params := ps.toArray, assign, body, defers := (fill (H g0) s).heap.size } := ⟨_, rfl⟩
  obtain ⟨b1, b2, b3⟩ := alloc_fill a2 (Obj.loop (rec .ready none))
  obtain ⟨dk, hdk⟩ : ∃ dk, dk = s.heap.size := ⟨_, rfl⟩
  obtain ⟨l, hl⟩ : ∃ l, l = (s.alloc (dum D)).heap.size := ⟨_, rfl⟩
  rw [← hdk, ← hl] at b1 b2
  rw [← hdk] at a1
  have hfs : (fill (H g0) s).heap.size = dk := by rw [fill_size, hdk]
  obtain ⟨HH, hHH⟩ : ∃ HH : σ → Hl, HH = fun g => (l, Obj.loop (rec (if (pend g).isNone then .ready else .done) (pend g))) :: (dk, Obj.deferred (some [])) :: H g := ⟨_, rfl⟩
  have hst0 : HH g0 = (l, Obj.loop (rec .ready none)) :: (dk, Obj.deferred (some [])) :: H g0 := by rw [hHH]; simp only [hp0, Option.isNone_none, if_true]
  obtain ⟨s2, hs2⟩ : ∃ s2, s2 = (s.alloc (dum D)).alloc (dum D) := ⟨_, rfl⟩
  rw [← hs2] at b1 b2 b3
  have hle2 : Le D s s2 := a3.trans b3
  -- a round
  have hY : ∀ g p s'', Le D s s'' → I g s'' → pend g = none → Pre g p s'' → YC P D l (enc p) (HH g) s'' fun v L' s3 => ∃ g1, St g p g1 ∧ v = .bool (pend g1).isNone ∧ L' = HH g1 ∧ I g1 s3 := by
    intro g p s'' hls hI hpn0 hPre hoY
    have eH : HH g = (l, Obj.loop (rec .ready none)) :: (dk, Obj.deferred (some [])) :: H g := by rw [hHH]; simp only [hpn0, Option.isNone_none, if_true]
    rw [eH] at hoY ⊢
    have hrl : (fill ((l, Obj.loop (rec .ready none)) :: (dk, Obj.deferred (some [])) :: H g) s'').heap[l]? = some (.loop (rec .ready none)) := fill_mem hoY (List.mem_cons_self ..)
    have hsz : ((enc p).toArray).size = (rec .ready none).params.size := by rw [hrec]; simp [hps p]
    refine ⟨_, _, _, _, run_yield hrl hsz, ?_⟩
    have hro2 : RoundIn (fro none) 0 P l (rec .ready none).fn (((rec .ready none).params.zip (enc p).toArray).foldl (fun tmps x => tmps.setIfInBounds x.1 x.2) (rec .ready none).tmps) (rec .ready none).assign (rec .ready none).body (fill ((l, Obj.loop (rec .ready none)) :: (dk, Obj.deferred (some [])) :: H g) s'') fun e w' => ∃ v L' s', e = .returned v ∧ w' = fill L' s' ∧ OKL D L' s' ∧ Le D s'' s' ∧ (∃ g1, St g p g1 ∧ v = .bool (pend g1).isNone ∧ L' = HH g1 ∧ I g1 s') := by
      refine roundIn_of_wpIn trivial ?_
      have e1 : (rec .ready none).assign = assign := by rw [hrec]
      have e2 : (rec .ready none).body = body := by rw [hrec]
      have e3 : ((rec .ready none).params.zip (enc p).toArray).foldl (fun tmps x => tmps.setIfInBounds x.1 x.2) (rec .ready none).tmps = (ps.zip (enc p)).foldl (fun tmps x => tmps.setIfInBounds x.1 x.2) a.tmps := by
        rw [hrec]; simp
      rw [e1, e2, e3]
      have hfr : FrD [] n { tmps := (ps.zip (enc p)).foldl (fun tmps x => tmps.setIfInBounds x.1 x.2) a.tmps, defers := [] } (putAll fr ps (enc p)) := by
        refine ⟨putAll_rel n (ps.zip (enc p)) fr a hr.rel ?_, rfl⟩
        rw [List.all_eq_true] at hpn ⊢
        intro x hx
        exact hpn x.1 (List.of_mem_zip hx).1
      refine wpIn_mono (hassign l p _ s'' hT _ hfr hoY) ?_
      rintro e a1 w1 ⟨ds1, fr1, L1, s1, k1, k2, rfl, rfl, rfl, k3, rfl, rfl⟩
      -- the round begins
      have hrl1 : (fill ((l, Obj.loop (rec .ready none)) :: (dk, Obj.deferred (some [])) :: H g) s1).heap[l]? = some (.loop (rec .ready none)) := fill_mem k2 (List.mem_cons_self ..)
      have hst : (rec .ready none).state = .ready := by rw [hrec]
      refine ⟨_, run_beginRound hrl1 hst, ?_⟩
      obtain ⟨ob, hob⟩ : ∃ ob, ob = Obj.loop { rec .ready none with state := .busy } := ⟨_, rfl⟩
      rw [putObj_setBlk, ← hob, ← fill_setL k2 (i := 0) rfl ob]
      have ho3 := setL_ok k2 0 ob
      simp only [setL] at ho3 ⊢
      refine wpIn_mono (hbody l dk ob (Obj.deferred (some [])) g p s1 hls hI hpn0 hPre hT _ (k1.sub k3) ho3) ?_
      rintro e2 a2 w2 ⟨ds2, fr2, L2, s2', j1, j2, rfl, g1, jst, jj, A, rfl, jle, jI⟩
      obtain ⟨d1, d2, d3⟩ := drop_own j2
      have hend : ∀ j : Option Code, pend g1 = j → ∃ v w', (Instr.endRound l j).run P (fill (A ++ ((l, ob) :: (dk, Obj.deferred (some [])) :: H g1)) s2') = .ok v w' ∧ (∃ v' L' s', Ending.returned v = .returned v' ∧ w' = fill L' s' ∧ OKL D L' s' ∧ Le D s1 s' ∧ (∃ g1, St g p g1 ∧ v' = .bool (pend g1).isNone ∧ L' = HH g1 ∧ I g1 s')) := by
        intro j hj
        have hrl2 : (fill ((l, ob) :: (dk, Obj.deferred (some [])) :: H g1) (fill A s2')).heap[l]? = some (.loop { rec .ready none with state := .busy }) := by rw [fill_mem d2 (List.mem_cons_self ..), hob]
        rw [d1]
        refine ⟨_, _, run_endRound j hrl2, _, HH g1, fill A s2', rfl, ?_, ?_, jle.trans d3, g1, jst, by rw [hj], rfl, mono _ _ _ jI d3⟩
        · rw [putObj_setBlk, ← fill_setL d2 (i := 0) rfl]
          simp only [setL, hHH, hj]
          congr 3
          rw [hrec]
        · have := setL_ok d2 0 (Obj.loop (rec (if (pend g1).isNone then .ready else .done) (pend g1)))
          simp only [setL] at this
          rw [hHH]; exact this
      cases e2 with
      | normal => exact hend none (by simpa [jmp] using jj.symm)
      | ret => exact hend (some .ret) (by simpa [jmp] using jj.symm)
      | exit id => exact hend (some (.exit id)) (by simpa [jmp] using jj.symm)
      | goto t => cases jj
      | panic c => cases jj
      | outgrown => cases jj
    exact hro2
  have hAC := hit l HH s2 hle2 hY
  obtain ⟨⟨fn0, h1, h2, h3⟩, hc⟩ := hAC
  have h2' : ¬ fn0.name = "runtime.NumGoroutine" := by simpa using h2
  have h3' : ¬ fn0.body = none := by intro e; simp [e] at h3
  have hev := hr.ev hg
  have hworld : ((fill (H g0) s).alloc (.deferred (some []))).alloc (.loop (rec .ready none)) = fill (HH g0) s2 := by rw [hst0, ← b1, ← a1]
  have hen : (Instr.enterLoop fn a.tmps ps.toArray assign body none).run P (fill (H g0) s) = .ok (l, [markD dk]) (fill (HH g0) s2) := by
    rw [run_enterLoop_outer, ← hworld]
    have e1 : (fill (H g0) s).heap.size + 1 = l := by rw [hfs, hl, World.size_alloc, hdk]
    rw [e1, markD, ← hfs, hrec]
  refine ⟨l, [markD dk], fill (HH g0) s2, { target := .fn (.func fi) cap.toArray, args := #[.func (.yield l) #[] #[]] }, fill (HH g0) s2, fi, (.func (.yield l) #[] #[] :: cap).toArray, fill (HH g0) s2, hen, ?_, fun f _ => fro_fn none f, ?_, fro_depth none 0, ?_⟩
  · simp only [resolve, hev]
    simp [go_sem]
  · simp [invoke, callFunc, h1, h2', h3']
  · have hoH : OKL D (HH g0) s2 := by rw [hst0]; exact b2
    refine (calls_fro none _ (hc hoH)).mono ?_
    rintro e w' ⟨v, L', s3, rfl, rfl, q1, q2, g', q3, rfl, q4⟩
    have eH : HH g' = (l, Obj.loop (rec (if (pend g').isNone then .ready else .done) (pend g'))) :: (dk, Obj.deferred (some [])) :: H g' := by rw [hHH]
    rw [eH] at q1 ⊢
    have hrl : (fill ((l, Obj.loop (rec (if (pend g').isNone then .ready else .done) (pend g'))) :: (dk, Obj.deferred (some [])) :: H g') s3).heap[l]? = some (.loop (rec (if (pend g').isNone then .ready else .done) (pend g'))) := fill_mem q1 (List.mem_cons_self ..)
    have hnb : (rec (if (pend g').isNone then .ready else .done) (pend g')).state ≠ .busy := by
      rw [hrec]; simp only; split <;> (intro h; cases h)
    have hpe : (rec (if (pend g').isNone then .ready else .done) (pend g')).pending = pend g' := by rw [hrec]
    have hrun := run_endLoop (P := P) hrl hnb
    rw [hpe] at hrun
    obtain ⟨oe, hoe⟩ : ∃ oe, (Instr.endLoop l).run P (fill ((l, Obj.loop (rec (if (pend g').isNone then .ready else .done) (pend g'))) :: (dk, Obj.deferred (some [])) :: H g') s3) = .ok (pend g') (setBlk (fill ((l, Obj.loop (rec (if (pend g').isNone then .ready else .done) (pend g'))) :: (dk, Obj.deferred (some [])) :: H g') s3) l oe) := ⟨_, hrun⟩
    refine ⟨pend g', _, hoe, ?_⟩
    rw [← fill_setL q1 (i := 0) rfl oe]
    have ho4 := setL_ok q1 0 oe
    simp only [setL] at ho4 ⊢
    obtain ⟨d1, d2, d3⟩ := drop_own (A := [(l, oe)]) (B := (dk, Obj.deferred (some [])) :: H g') ho4
    simp only [List.cons_append, List.nil_append] at d1
    rw [d1]
    have hQ := hpost dk g' (fill [(l, oe)] s3) (hle2.trans (q2.trans d3)) q3 (mono _ _ _ q4 d3)
    have hfr2 : FrD [markD dk] n { a with defers := [markD dk] ++ a.defers } fr := ⟨hr.rel, by show [markD dk] ++ a.defers = _; rw [hr.defers]; rfl⟩
    rcases hpd g' with hp | hp | ⟨id, hp⟩
    · rw [hp] at hQ ⊢
      exact ⟨_, _, _, _, hfr2, d2, rfl, hQ⟩
    · rw [hp] at hQ ⊢
      exact wpIn_ret ⟨_, _, _, _, hfr2, d2, rfl, hQ⟩
    · rw [hp] at hQ ⊢
      exact wpIn_exit ⟨_, _, _, _, hfr2, d2, rfl, hQ⟩
end range
end calls
end Go.FL
namespace Go.Proofs.YtoeeblegplghmaaGreatDoor
open Go.FL
attribute [local irreducible] JC JO JA JB thenQ blockQ retQ AC fill CellsAt QE Ev Mid
abbrev Par := List (List UInt8) × Option (List UInt8)
def runY {σ : Type} (pend : σ → Option Code) (St : σ → Par → σ → Prop) : σ → List Par → σ → Prop
  | g, [], g' => g' = g
  | g, p :: r, g' => ∃ g1, St g p g1 ∧ if (pend g1).isNone = true then runY pend St g1 r g' else g' = g1
def chain {σ : Type} (pend : σ → Option Code) (St : σ → Par → σ → Prop) : σ → List Par → σ → Prop
  | g, [], g' => g' = g
  | g, p :: r, g' => ∃ g1, St g p g1 ∧ pend g1 = none ∧ chain pend St g1 r g'
theorem chain_snoc {σ : Type} {pend : σ → Option Code} {St : σ → Par → σ → Prop} {p : Par} {g1 g2 : σ} (h2 : St g1 p g2) (h3 : pend g2 = none) : ∀ (dn : List Par) (g : σ), chain pend St g dn g1 → chain pend St g (dn ++ [p]) g2
  | [], g, h => by
    have h : g1 = g := h
    subst h; exact ⟨g2, h2, h3, rfl⟩
  | q :: r, g, ⟨g', k1, k2, k3⟩ => ⟨g', k1, k2, chain_snoc h2 h3 r g' k3⟩
theorem take_pw {rs : List (List UInt8)} {i : Nat} {l : List UInt8} (h1 : rs[i]? = some checkB) (h2 : rs[i + 1]? = some l) : rs.take (i + 2) = pw (rs.take i, some l) := by
  obtain ⟨k1, e1⟩ := List.getElem?_eq_some_iff.1 h1
  obtain ⟨k2, e2⟩ := List.getElem?_eq_some_iff.1 h2
  rw [pw, List.take_succ_eq_append_getElem k2, List.take_succ_eq_append_getElem k1, e1, e2]; simp
theorem idx_lt {l : List (List UInt8)} {w : List UInt8} : ∀ k : Nat, idxOf (fun x => decide (w = x)) l k = -1 ∧ (∀ (j : Nat) (x : List UInt8), l[j]? = some x → ¬ w = x) ∨ ∃ i : Nat, idxOf (fun x => decide (w = x)) l k = ((k + i : Nat) : Int) ∧ l[i]? = some w ∧ ∀ (j : Nat) (x : List UInt8), j < i → l[j]? = some x → ¬ w = x := by
  induction l with
  | nil => intro k; exact .inl ⟨rfl, fun j x h => by cases h⟩
  | cons y l ih =>
    intro k
    by_cases hy : w = y
    · refine .inr ⟨0, by simp [idxOf, hy], by simp [hy], fun j x hj => by omega⟩
    · rcases ih (k + 1) with ⟨h1, h2⟩ | ⟨i, h1, h2, h3⟩
      · refine .inl ⟨by simp [idxOf, hy, h1], fun j x hx => ?_⟩
        cases j with
        | zero => simp at hx; subst hx; exact hy
        | succ j => exact h2 j x (by simpa using hx)
      · refine .inr ⟨i + 1, by simp only [idxOf, hy, decide_false, Bool.false_eq_true, if_false, h1]; congr 1; omega, by simpa using h2, fun j x hj hx => ?_⟩
        cases j with
        | zero => simp at hx; subst hx; exact hy
        | succ j => exact h3 j x (by omega) (by simpa using hx)
theorem idx_bd (l : List (List UInt8)) (w : List UInt8) : -1 ≤ idxOf (fun x => decide (w = x)) l 0 ∧ idxOf (fun x => decide (w = x)) l 0 < l.length := by
  rcases idx_lt (l := l) (w := w) 0 with ⟨h, _⟩ | ⟨i, h, h2, _⟩
  · omega
  · have := (List.getElem?_eq_some_iff.1 h2).1; omega
set_option maxHeartbeats 2000000 in
set_option maxRecDepth 100000 in
theorem divide2_ac (D : Nat) (s : World) {σ : Type} (H : σ → Hl) (I : σ → World → Prop) (mono : ∀ g s s', I g s → Le D s s' → I g s') (pend : σ → Option Code) (St : σ → Par → σ → Prop) (l : Nat) (g0 : σ) (ws : List (List UInt8)) (hY : ∀ (g : σ) (p : Par) (A : Option Addr) (n c : Nat) (s' : World), Le D s s' → I g s' → pend g = none → Strs s' A n c (pw p) → (∃ dn rt, dvF [] ws = dn ++ p :: rt ∧ chain pend St g0 dn g) → YC Tryz.prog D l [.slice A n c, .bool p.2.isSome] (H g) s' fun v L' s3 => ∃ g1, St g p g1 ∧ v = .bool (pend g1).isNone ∧ L' = H g1 ∧ I g1 s3) (hI : I g0 s) (hp : pend g0 = none) (b : Nat) (A : Option Addr) (n c : Nat) (hcb : CellsAt s b 0 [.slice A n c]) (hS : Strs s A n c ws) (hws : ws.length ≤ 4000000) : AC Tryz.prog D 64 [.func (.yield l) #[] #[], .pointer (some ⟨b, 0, none⟩)] (H g0) s fun _ L' s3 => ∃ g', runY pend St g0 (dvF [] ws) g' ∧ L' = H g' ∧ I g' s3 := by
 refine AC_enterR (TT := TT) (fn := Tryz.f64) TT_ok Tryz.func64 (by kernel_rfl) rfl Tryz.ntmps64 rfl (rs := []) rfl [(0, _), (1, _)] rfl ?_
 refine RC_seq ?_
 refine RC_region ?_
 refine RO_q (QE_ldsR0 rfl rfl rfl (hcb.le (Le.refl (D := D) _)) rfl) rfl ?_
 refine RO_q (QE_as rfl) rfl ?_
 refine RO_nil ?_
 refine thenG_n ?_
 refine RC_block ?_
 refine RC_loop (γ := σ × Value × List (List UInt8)) (fun g => [(0, _), (3, g.2.1)]) (fun g => H g.1) (fun g tw => Le D s tw ∧ (g.2.2.length ≤ ws.length ∧ I g.1 tw ∧ pend g.1 = none ∧ (∃ A' n' c', g.2.1 = .slice A' n' c' ∧ Strs tw A' n' c' g.2.2) ∧ (∀ g', runY pend St g.1 (dvF [] g.2.2) g' → runY pend St g0 (dvF [] ws) g') ∧ ∃ dn, dvF [] ws = dn ++ dvF [] g.2.2 ∧ chain pend St g0 dn g.1)) (fun g => g.2.2.length) (fun _ _ _ h hl => ⟨h.1.trans hl, by obtain ⟨_, k0, k1, k2, ⟨A', n', c', k3, k4⟩, k5⟩ := h; exact ⟨k0, mono _ _ _ k1 hl, k2, ⟨A', n', c', k3, k4.le hl⟩, k5⟩⟩) (g0, .slice A n c, ws) (Keeps.cons rfl (Keeps.cons rfl (Keeps.nil _))) rfl ⟨Le.refl _, ⟨Nat.le_refl _, mono _ _ _ hI (Le.refl (D := D) _), hp, ⟨_, _, _, rfl, hS.le (Le.refl (D := D) _)⟩, fun _ h => h, [], rfl, rfl⟩⟩ ?_
 intro g s1 I1
 obtain ⟨g, vr, rs⟩ := g
 obtain ⟨hrl, hIg, hpg, ⟨A', n', c', hvr, hSr⟩, hrun, dn, hdn, hch⟩ := I1.2
 simp only at hrl hIg hpg hvr hSr hrun hdn hch
 subst hvr
 dsimp only
 have hn' := hSr.1
 have hc1 := hSr.2.1
 have hc2 := hSr.2.2.1
 refine RC_seq ?_
 refine RC_seq ?_
 refine RC_region ?_
 refine RO_q (QE_mv rfl) rfl ?_
 refine RO_q (QE_lenS rfl rfl rfl) rfl ?_
 refine RO_q (QE_gt rfl rfl) rfl ?_
 refine RO_nil ?_
 refine thenG_n ?_
 refine RC_ifD rfl (fun c2 => ?_) (fun c2 => ?_)
 ·
  have hne : 0 < rs.length := by omega
  have hidx := idx_lt (l := rs) (w := checkB) 0
  have hib1 := idx_bd rs checkB
  refine RC_skip ?_
  refine thenG_n ?_
  refine RC_block ?_
  refine RC_seq ?_
  refine RC_region ?_
  refine RO_q (QE_mv rfl) rfl ?_
  refine RO_call (first := []) (captured := []) rfl rfl rfl (sidx_ac D _ _ A' n' c' rs (hSr.le (Le.refl (D := D) _)) checkB) ?_
  rintro _ _ s3 h3 ⟨rfl, rfl⟩
  refine RO_q (QE_as rfl) rfl ?_
  refine RO_nil ?_
  refine thenG_n ?_
  refine RC_seq ?_
  refine RC_seq ?_
  refine RC_region ?_
  refine RO_q (QE_mv rfl) rfl ?_
  refine RO_q (QE_lt rfl rfl) rfl ?_
  refine RO_q (QE_mv rfl) rfl ?_
  refine RO_caseD (t := 13) rfl (fun c4 => ?_) (fun c4 => ?_)
  ·
   refine RO_gF rfl rfl rfl rfl ?_
   refine RO_gF rfl rfl rfl rfl ?_
   refine RO_gF rfl rfl rfl rfl ?_
   refine RO_gF rfl rfl rfl rfl ?_
   refine RO_gF rfl rfl rfl rfl ?_
   refine RO_q (QE_pickT rfl rfl) rfl ?_
   refine RO_nil ?_
   refine thenG_n ?_
   refine RC_ifT rfl ?_
   have hdv : dvF [] rs = [(rs, none)] := by
     have := dv_first rs [] (.inl (fun e => by rw [e] at hne; cases hne)) (fun j w hj hw => by
       rcases hidx with ⟨h1, h2⟩ | ⟨i, h1, h2, h3⟩
       · exact absurd hw.symm (h2 j w hj)
       · by_cases hji : j < i
         · exact absurd hw.symm (h3 j w hji hj)
         · omega)
     simpa using this
   refine RC_seq ?_
   refine RC_region ?_
   refine RO_q (QE_mv rfl) rfl ?_
   refine RO_q (QE_mv rfl) rfl ?_
   refine RO_yield rfl rfl rfl (hY g (rs, none) A' n' c' _ (Le.trans I1.1 h3) (mono _ _ _ hIg h3) hpg (hSr.le h3) ⟨dn, [], by rw [hdn, hdv], hch⟩) ?_
   rintro _ _ s5 h5 ⟨g1, hst, rfl, rfl, hIn⟩
   refine RO_nil ?_
   refine thenG_n ?_
   refine RC_ret ?_
   refine thenG_r ?_
   refine blockG_r ?_
   refine thenG_r ?_
   refine blockG_r ?_
   refine retG_mk [] _ (.inr rfl) (.nil) rfl (Le.trans (Le.trans I1.1 h3) h5) (.inl rfl) (fun sR hS2 => ?_)
   first
     | exact ⟨g1, hrun g1 (by rw [hdv]; exact ⟨g1, hst, by split <;> rfl⟩), rfl, mono _ _ _ hIn (Le.trans (Le.refl (D := D) _) hS2)⟩
     | exact ⟨g1, hrun g1 (by rw [dv_at hiw hib hil]; exact ⟨g1, hst, by rw [if_neg (by rw [hpn]; decide)]⟩), rfl, mono _ _ _ hIn (Le.trans (noSuchMark) hS2)⟩
     | exact ⟨g, hrun g rfl, rfl, mono _ _ _ hIg (Le.trans (Le.trans h3 h5) hS2)⟩
  ·
   refine RO_gT rfl rfl ?_
   refine RO_q (QE_mv rfl) rfl ?_
   refine RO_gT rfl rfl ?_
   refine RO_q (QE_add' rfl rfl (w64 (by omega) (by omega))) rfl ?_
   refine RO_gT rfl rfl ?_
   refine RO_q (QE_mv rfl) rfl ?_
   refine RO_gT rfl rfl ?_
   refine RO_q (QE_lenS rfl rfl rfl) rfl ?_
   refine RO_gT rfl rfl ?_
   refine RO_q (QE_gt rfl rfl) rfl ?_
   refine RO_q (QE_pickF rfl rfl) rfl ?_
   refine RO_nil ?_
   refine thenG_n ?_
   refine RC_ifD rfl (fun c6 => ?_) (fun c6 => ?_)
   ·
    have hdv : dvF [] rs = [(rs, none)] := by
      have := dv_first rs [] (.inl (fun e => by rw [e] at hne; cases hne)) (fun j w hj hw => by
        rcases hidx with ⟨h1, h2⟩ | ⟨i, h1, h2, h3⟩
        · exact absurd hw.symm (h2 j w hj)
        · by_cases hji : j < i
          · exact absurd hw.symm (h3 j w hji hj)
          · omega)
      simpa using this
    refine RC_seq ?_
    refine RC_region ?_
    refine RO_q (QE_mv rfl) rfl ?_
    refine RO_q (QE_mv rfl) rfl ?_
    refine RO_yield rfl rfl rfl (hY g (rs, none) A' n' c' _ (Le.trans I1.1 h3) (mono _ _ _ hIg h3) hpg (hSr.le h3) ⟨dn, [], by rw [hdn, hdv], hch⟩) ?_
    rintro _ _ s7 h7 ⟨g1, hst, rfl, rfl, hIn⟩
    refine RO_nil ?_
    refine thenG_n ?_
    refine RC_ret ?_
    refine thenG_r ?_
    refine blockG_r ?_
    refine thenG_r ?_
    refine blockG_r ?_
    refine retG_mk [] _ (.inr rfl) (.nil) rfl (Le.trans (Le.trans I1.1 h3) h7) (.inl rfl) (fun sR hS2 => ?_)
    first
      | exact ⟨g1, hrun g1 (by rw [hdv]; exact ⟨g1, hst, by split <;> rfl⟩), rfl, mono _ _ _ hIn (Le.trans (Le.refl (D := D) _) hS2)⟩
      | exact ⟨g1, hrun g1 (by rw [dv_at hiw hib hil]; exact ⟨g1, hst, by rw [if_neg (by rw [hpn]; decide)]⟩), rfl, mono _ _ _ hIn (Le.trans (noSuchMark) hS2)⟩
      | exact ⟨g, hrun g rfl, rfl, mono _ _ _ hIg (Le.trans (Le.trans h3 h7) hS2)⟩
   ·
    obtain ⟨i, hix, hiw, hib0⟩ := hidx.resolve_left (fun h => by have := h.1; omega)
    rw [Nat.zero_add] at hix
    have hi2 : i + 2 ≤ n' := by omega
    have hib : ∀ (j : Nat) (w : List UInt8), j < i → rs[j]? = some w → w ≠ checkB := fun j w hj hw e => hib0 j w hj hw e.symm
    obtain ⟨lw, hil⟩ : ∃ lw, rs[i + 1]? = some lw := ⟨_, List.getElem?_eq_getElem (by omega)⟩
    have hSt := Strs.take hSr hi2
    rw [take_pw hiw hil] at hSt
    obtain ⟨A1, c1, hE, hSd⟩ := Strs.drop hSr hi2
    refine RC_skip ?_
    refine thenG_n ?_
    refine RC_seq ?_
    refine RC_seq ?_
    refine RC_region ?_
    refine RO_q (QE_mv rfl) rfl ?_
    refine RO_q (QE_mv rfl) rfl ?_
    refine RO_q (QE_mv rfl) rfl ?_
    refine RO_q (QE_add' (c := ((i + 2 : Nat) : Int)) rfl rfl (by rw [hix, w64 (by omega) (by omega)]; omega)) rfl ?_
    refine RO_q (QE_slH rfl rfl rfl rfl rfl (by omega)) rfl ?_
    refine RO_yield rfl rfl rfl (hY g (rs.take i, some lw) A' (i + 2) c' _ (Le.trans I1.1 h3) (mono _ _ _ hIg h3) hpg (hSt.le h3) ⟨dn, _, by rw [hdn, dv_at hiw hib hil], hch⟩) ?_
    rintro _ _ s8 h8 ⟨g1, hst, rfl, rfl, hIn⟩
    refine RO_q (QE_not rfl) rfl ?_
    refine RO_nil ?_
    refine thenG_n ?_
    refine RC_ifM rfl (fun c9 => ?_) (fun c9 => ?_)
    ·
     have hpn := c9
     refine RC_ret ?_
     refine thenG_r ?_
     refine blockG_r ?_
     refine thenG_r ?_
     refine blockG_r ?_
     refine retG_mk [] _ (.inr rfl) (.nil) rfl (Le.trans (Le.trans I1.1 h3) h8) (.inl rfl) (fun sR hS2 => ?_)
     first
       | exact ⟨g1, hrun g1 (by rw [hdv]; exact ⟨g1, hst, by split <;> rfl⟩), rfl, mono _ _ _ hIn (Le.trans (noSuchMark) hS2)⟩
       | exact ⟨g1, hrun g1 (by rw [dv_at hiw hib hil]; exact ⟨g1, hst, by rw [if_neg (by rw [hpn]; decide)]⟩), rfl, mono _ _ _ hIn (Le.trans (Le.refl (D := D) _) hS2)⟩
       | exact ⟨g, hrun g rfl, rfl, mono _ _ _ hIg (Le.trans (Le.trans h3 h8) hS2)⟩
    ·
     have hpn : pend g1 = none := Option.isNone_iff_eq_none.1 c9
     refine RC_skip ?_
     refine thenG_n ?_
     refine RC_region ?_
     refine RO_q (QE_mv rfl) rfl ?_
     refine RO_q (QE_mv rfl) rfl ?_
     refine RO_q (QE_add' (c := ((i + 2 : Nat) : Int)) rfl rfl (by rw [hix, w64 (by omega) (by omega)]; omega)) rfl ?_
     refine RO_q (QE_slL rfl rfl rfl rfl rfl (by omega)) rfl ?_
     refine RO_q (QE_as rfl) rfl ?_
     refine RO_nil ?_
     refine blockG_n ?_
     refine thenG_n ⟨rfl, (g1, _, rs.drop (i + 2)), [], (Keeps.cons rfl (Keeps.cons rfl (Keeps.nil _))), rfl, ⟨(Le.trans (Le.trans I1.1 h3) h8), ⟨by simp only; rw [List.length_drop]; omega, mono _ _ _ hIn (Le.refl (D := D) _), hpn, ⟨A1, _, c1, hE, hSd.le (Le.trans h3 h8)⟩, fun g' h => hrun g' (by rw [dv_at hiw hib hil]; exact ⟨g1, hst, by rw [if_pos (by rw [hpn]; rfl)]; exact h⟩), dn ++ [(rs.take i, some lw)], by simp only; rw [hdn, dv_at hiw hib hil]; simp, chain_snoc hst hpn dn g0 hch⟩⟩, (by simp only; rw [List.length_drop]; omega)⟩
 ·
  have hrs : rs = [] := List.eq_nil_of_length_eq_zero (by omega)
  subst hrs
  refine RC_exit ?_
  refine thenG_x ?_
  refine thenG_x ?_
  refine blockG_x ?_
  refine retG_mk [] _ (.inl rfl) (.nil) rfl I1.1 (.inl rfl) (fun sR hS2 => ?_)
  first
    | exact ⟨g1, hrun g1 (by rw [hdv]; exact ⟨g1, hst, by split <;> rfl⟩), rfl, mono _ _ _ hIn (Le.trans (noSuchMark) hS2)⟩
    | exact ⟨g1, hrun g1 (by rw [dv_at hiw hib hil]; exact ⟨g1, hst, by rw [if_neg (by rw [hpn]; decide)]⟩), rfl, mono _ _ _ hIn (Le.trans (noSuchMark) hS2)⟩
    | exact ⟨g, hrun g rfl, rfl, mono _ _ _ hIg (Le.trans (Le.refl (D := D) _) hS2)⟩
end Go.Proofs.YtoeeblegplghmaaGreatDoor
namespace Go.Proofs.YtoeeblegplghmaaGreatDoor
open Go.FL
attribute [local irreducible] JC JO JA JB thenQ blockQ retQ AC fill CellsAt QE Ev Mid
def itv (l : List Int) : List Value := (l.map fun x => [Value.int .i64 x]).flatten
theorem itv_snoc (l : List Int) (x : Int) : itv (l ++ [x]) = itv l ++ [.int .i64 x] := by simp [itv]
def Its (s : World) (A : Option Addr) (n c : Nat) (l : List Int) : Prop := Sl 1 (fun _ x cs => cs = [.int .i64 x]) s A n c l
theorem Its.le {D : Nat} {s s' : World} {A : Option Addr} {n c : Nat} {l : List Int} (h : Its s A n c l) (hl : Le D s s') : Its s' A n c l := Sl.le (fun _ _ h => h) h hl
theorem Its.at_ {s : World} {A : Option Addr} {n c k : Nat} {l : List Int} (h : Its s A n c l) (hk : k < n) : ∃ b off x, A = some ⟨b, off, none⟩ ∧ l[k]? = some x ∧ CellsAt s b (off + k) [.int .i64 x] ∧ True := by
  have hl : k < l.length := by rw [← h.1]; exact hk
  obtain ⟨b, off, cs, h1, h2, _, rfl⟩ := h.2.2.2 k l[k] (List.getElem?_eq_getElem hl)
  exact ⟨b, off, l[k], h1, List.getElem?_eq_getElem hl, by simpa using h2, trivial⟩
theorem all2_mapI {α β : Type} {R : α → β → Prop} (f : α → β) (l : List α) (h : ∀ x ∈ l, R x (f x)) : All2 R l (l.map f) := by
  induction l with
  | nil => exact All2.nil
  | cons x l ih => exact All2.cons (h x (List.mem_cons_self ..)) (ih fun y hy => h y (List.mem_cons_of_mem _ hy))
theorem Own.its {e : Nat} {A : Hl} {Ad : Option Addr} {n c : Nat} {l : List Int} {s : World} (h : FL.Own e 1 A (.slice Ad n c) n (itv l)) (hp : Pub A s) (hn : n = l.length) : Its s Ad n c l :=
  Own.rows (R := fun _ (x : Int) cs => cs = [Value.int .i64 x]) h hp (all2_mapI (fun (x : Int) => [Value.int .i64 x]) l fun x hx => ⟨rfl, rfl⟩) hn
theorem its_nil (s : World) : Its s none 0 0 [] := ⟨rfl, Nat.le_refl _, by omega, fun i x h => by cases h⟩
theorem dv_size : ∀ (ws now : List (List UInt8)) (p : Par), p ∈ dvF now ws → sizeW (pw p) ≤ sizeW now + sizeW ws ∧ ∀ w ∈ pw p, w ∈ now ∨ w ∈ ws
  | [], now, p, h => by
    rw [dvF] at h
    split at h
    · cases h
    · simp only [List.mem_singleton] at h; subst h; exact ⟨by simp [pw], fun w hw => .inl hw⟩
  | [w], now, p, h => by
    rw [dvF] at h
    simp only [List.mem_singleton] at h; subst h
    exact ⟨by simp only [pw]; rw [sizeW_app]; omega, fun x hx => by simpa [pw] using hx⟩
  | w :: l :: r, now, p, h => by
    rw [dvF] at h
    split at h
    · rename_i hc
      rcases List.mem_cons.1 h with rfl | h
      · refine ⟨by simp only [pw, sizeW_app, sizeW_cons, sizeW_nil, hc]; omega, fun x hx => ?_⟩
        simp only [pw, List.mem_append, List.mem_cons, List.not_mem_nil, or_false] at hx
        rcases hx with hx | rfl | rfl
        · exact .inl hx
        · exact .inr (by simp [hc])
        · exact .inr (by simp)
      · have := dv_size r [] p h
        refine ⟨by have h1 := this.1; simp only [sizeW_cons, sizeW_nil] at h1 ⊢; omega, fun x hx => .inr ?_⟩
        rcases this.2 x hx with h | h
        · cases h
        · exact List.mem_cons_of_mem _ (List.mem_cons_of_mem _ h)
    · have := dv_size (l :: r) (now ++ [w]) p h
      refine ⟨by have h1 := this.1; simp only [sizeW_app, sizeW_cons, sizeW_nil] at h1 ⊢; omega, fun x hx => ?_⟩
      rcases this.2 x hx with h | h
      · rcases List.mem_append.1 h with h | h
        · exact .inl h
        · rw [List.mem_singleton.1 h]; exact .inr (List.mem_cons_self ..)
      · exact .inr (List.mem_cons_of_mem _ h)
theorem dv_len : ∀ (ws now : List (List UInt8)), (dvF now ws).length ≤ ws.length + 1
  | [], now => by rw [dvF]; split <;> simp
  | [w], now => by rw [dvF]; simp
  | w :: l :: r, now => by
    rw [dvF]
    split
    · have := dv_len r []; simp only [List.length_cons]; omega
    · have := dv_len (l :: r) (now ++ [w]); simp only [List.length_cons] at this ⊢; omega
theorem fw_size : ∀ (l cur : List UInt8), sizeW (fw cur l) ≤ cur.length + l.length + 1
  | [], cur => by
    rw [fw]; split
    · simp [sizeW_nil]
    · simp only [sizeW_cons, sizeW_nil, List.length_nil]; omega
  | c :: l, cur => by
    rw [fw]
    split
    · split
      · have := fw_size l []; simp only [List.length_nil, List.length_cons] at this ⊢; omega
      · have := fw_size l []; simp only [sizeW_cons, List.length_nil, List.length_cons] at this ⊢; omega
    · have := fw_size l (cur ++ [c]); simp only [List.length_append, List.length_cons, List.length_nil] at this ⊢; omega
theorem flds_size (l : List UInt8) : sizeW (flds l) ≤ l.length + 1 := by have := fw_size l []; rw [flds]; simpa using this
abbrev DmG := Nat × Value × Hl × List Int
def dmSt (g : DmG) (p : Par) (g1 : DmG) : Prop := g1.1 = g.1 + 1 ∧ g1.2.2.2 = if codeP p ≠ 0 then g.2.2.2 ++ [(g.1 : Int)] else g.2.2.2
theorem dm_run : ∀ (l : List Par) (g g' : DmG), runY (fun _ => none) dmSt g l g' → g'.2.2.2 = g.2.2.2 ++ damF g.1 l
  | [], g, g', h => by
    have h : g' = g := h
    subst h; simp [damF]
  | p :: r, g, g', ⟨g1, h1, h2⟩ => by
    have h2 : runY (fun _ => none) dmSt g1 r g' := h2
    rw [dm_run r g1 g' h2, h1.1, h1.2, damF]
    by_cases hc : codeP p ≠ 0
    · rw [if_pos hc, if_pos hc]; simp
    · rw [if_neg hc, if_neg hc]
theorem dm_cnt : ∀ (l : List Par) (g g' : DmG), chain (fun _ => none) dmSt g l g' → g'.1 = g.1 + l.length
  | [], g, g', h => by
    have h : g' = g := h
    subst h; rfl
  | p :: r, g, g', ⟨g1, h1, _, h2⟩ => by rw [dm_cnt r g1 g' h2, h1.1, List.length_cons]; omega
theorem pre_cnt {ps dn rt : List Par} {p : Par} (h : ps = dn ++ p :: rt) : dn.length < ps.length ∧ p ∈ ps := by subst h; simp
def damW (tx : List UInt8) : List Int := if 50000 < tx.length then [] else damR tx
def damE (tx : List UInt8) : Int × Int := if 50000 < tx.length then (3, -1) else (0, 0)
set_option maxHeartbeats 4000000 in
set_option maxRecDepth 100000 in
theorem damagedO_ac (D : Nat) (L : Hl) (s : World) (hG : GP s) (tx : List UInt8) : AC Tryz.prog D 14 [St tx] L s fun v L' s' => ∃ M', L' = M' ++ L ∧ ∀ s2, Le D s' s2 → Pub M' s2 → ∃ A n c, v = .tuple #[.slice A n c, .agg #[.int .i64 (damE tx).1, .int .i64 (damE tx).2]] ∧ Its s2 A n c (damW tx) := by
 refine AC_enterR (TT := TT) (fn := Tryz.f14) TT_ok Tryz.func14 (by kernel_rfl) rfl Tryz.ntmps14 rfl (rs := [.tmp 2, .cell 3 26]) rfl [(0, _)] rfl ?_
 refine RC_seq ?_
 refine RC_region ?_
 refine RO_q (QE_as rfl) rfl ?_
 refine RO_allocZ rfl [_, _] rfl rfl ?_
 intro β1 s1 h1
 refine RO_nil ?_
 refine thenG_n ?_
 refine RC_seq ?_
 refine RC_seq ?_
 refine RC_region ?_
 refine RO_q (QE_mv rfl) rfl ?_
 refine RO_q (QE_lenT rfl rfl rfl) rfl ?_
 refine RO_q (QE_gt rfl rfl) rfl ?_
 refine RO_nil ?_
 refine thenG_n ?_
 refine RC_ifD rfl (fun c2 => ?_) (fun c2 => ?_)
 ·
  have hlong : 50000 < tx.length := by omega
  have hE : damE tx = (3, -1) := if_pos hlong
  have hW : damW tx = [] := if_pos hlong
  refine RC_seq ?_
  refine RC_region ?_
  refine RO_call (first := []) (captured := []) rfl rfl rfl (pfault_ac D _ _ _ _) ?_
  rintro _ _ s3 h3 ⟨rfl, rfl⟩
  refine RO_q (QE_as rfl) rfl ?_
  refine RO_st 0 [_, _] rfl rfl rfl rfl rfl rfl rfl rfl rfl ?_
  refine RO_nil ?_
  refine thenG_n ?_
  refine RC_ret ?_
  refine thenG_r ?_
  refine retG_mk [_] _ (.inr rfl) (.tmp rfl (.agg (us := [_, _]) 0 rfl rfl rfl rfl rfl (.nil))) rfl (Le.trans h1 h3) (.inl rfl) (fun sR hS2 => ?_)
  first
    | (rw [hE, hW]; exact ⟨[], rfl, fun s2 hs2 hp => ⟨none, 0, 0, rfl, its_nil _⟩⟩)
    | (rw [hE, hW]; refine ⟨Mo, rfl, fun s2 hs2 hp => ⟨Ao, acc.length, co, rfl, ?_⟩⟩
       rw [← hF]; exact Own.its hO hp rfl)
 ·
  have hshort : ¬ 50000 < tx.length := by omega
  have hE : damE tx = (0, 0) := if_neg hshort
  have hW : damW tx = damR tx := if_neg hshort
  have hfs := flds_size tx
  have hfl := flds_len tx
  have hdl := dv_len (flds tx) []
  refine RC_skip ?_
  refine thenG_n ?_
  refine RC_seq ?_
  refine RC_region ?_
  refine RO_allocZ rfl [_] rfl rfl ?_
  intro β4 s4 h4
  refine RO_nil ?_
  refine thenG_n ?_
  refine RC_seq ?_
  refine RC_region ?_
  refine RO_allocZ rfl [_] rfl rfl ?_
  intro β5 s5 h5
  refine RO_st 0 [_] rfl rfl rfl rfl rfl rfl rfl rfl rfl ?_
  refine RO_nil ?_
  refine thenG_n ?_
  refine RC_seq ?_
  refine RC_seq ?_
  refine RC_region ?_
  refine RO_q (QE_mv rfl) rfl ?_
  refine RO_call (first := []) (captured := []) rfl rfl rfl (divide_ac D _ _ tx (by omega)) ?_
  rintro _ _ s6 h6 ⟨rfl, bw, Aw, nw, cw, rfl, hcb, hSw⟩
  refine RO_nil ?_
  refine thenG_n ?_
  refine RC_block ?_
  refine RC_range (σ := DmG) (α := Par × Option Addr × Nat × Nat) (fun g => (β5, cb [.int .i64 (g.1 : Int)] 3) :: (β4, cb [g.2.1] 35) :: (β1, cb [.int .i64 0, .int .i64 0] 26) :: (g.2.2.1 ++ L)) (fun g tw => FL.Own 3 1 g.2.2.1 g.2.1 g.2.2.2.length (itv g.2.2.2) ∧ g.2.2.2.length ≤ g.1) (fun g => none) (fun g x g1 => dmSt g x.1 g1) (fun x => [.slice x.2.1 x.2.2.1 x.2.2.2, .bool x.1.2.isSome]) (fun g x tw => Strs tw x.2.1 x.2.2.1 x.2.2.2 (pw x.1) ∧ x.1 ∈ dvF [] (flds tx) ∧ g.1 < 4000000) (fun g1 => g1.2.2.2 = damR tx) (cap := [_]) rfl (0, .slice none 0 0, [], []) rfl (⟨FL.Own.nil, Nat.le_refl _⟩) rfl (fun _ _ _ h _ => h) (fun _ => .inl rfl) (fun _ => rfl) rfl (fun x => [(6, .slice x.2.1 x.2.2.1 x.2.2.2), (7, .bool x.1.2.isSome), (4, .pointer (some ⟨β4, 0, none⟩)), (5, .pointer (some ⟨β5, 0, none⟩))]) ?_ ?_ ?_ ?_
  ·
   intro l7 x7 L7 s7
   refine RC_seq ?_
   refine RC_region ?_
   refine RO_q (QE_as rfl) rfl ?_
   refine RO_nil ?_
   refine thenG_n ?_
   refine RC_region ?_
   refine RO_q (QE_as rfl) rfl ?_
   refine RO_nil ?_
   exact ⟨rfl, rfl, (Keeps.cons rfl (Keeps.cons rfl (Keeps.cons rfl (Keeps.cons rfl (Keeps.nil _))))), rfl, rfl⟩
  ·
   intro l8 d8 o8 p8 g x s8 h8 I8 hp8 P8
   obtain ⟨kk, vo, Mo, acc⟩ := g
   obtain ⟨p, A, n, c⟩ := x
   obtain ⟨hO, hol⟩ := I8
   obtain ⟨hSp, hpm, hkk⟩ := P8
   simp only at hO hol hSp hpm hkk
   dsimp only
   have hpz := (dv_size (flds tx) [] p hpm).1
   rw [sizeW_nil] at hpz
   refine RC_block ?_
   refine RC_seq ?_
   refine RC_seq ?_
   refine RC_region ?_
   refine RO_q (QE_mv rfl) rfl ?_
   refine RO_q (QE_mv rfl) rfl ?_
   refine RO_call (first := []) (captured := []) rfl rfl rfl (check_ac D _ _ (hG.le (Le.trans (Le.trans (Le.trans (Le.trans h1 h4) h5) h6) h8)) p A n c (hSp.le (Le.refl (D := D) _)) (by omega)) ?_
   rintro _ _ s9 h9 ⟨rfl, rfl⟩
   refine RO_q (QE_ne rfl rfl) rfl ?_
   refine RO_nil ?_
   refine thenG_n ?_
   refine RC_ifN rfl (fun c10 => ?_) (fun c10 => ?_)
   ·
    have hc : codeP p ≠ 0 := c10
    refine RC_region ?_
    refine RO_q (QE_ld1 3 rfl rfl rfl rfl rfl) rfl ?_
    refine RO_q (QE_ld1 2 rfl rfl rfl rfl rfl) rfl ?_
    refine RO_bs [(_, _)] [_] rfl rfl rfl rfl rfl rfl rfl rfl rfl ?_
    intro βn s11 h11 hcb
    refine RO_app (sz := 1) [_, _, _, _, _] Mo L rfl rfl rfl rfl rfl rfl rfl hO (Row.of_cells (hcb.le (Le.refl (D := D) _)) rfl rfl) ⟨by simp [ti3]; omega, by omega⟩ rfl ?_
    intro vq Mq s12 h12 oq
    obtain ⟨Avq, cvq, rfl, _, _⟩ := Own.slice oq
    refine RO_st 3 [_] rfl rfl rfl rfl rfl rfl rfl rfl rfl ?_
    refine RO_nil ?_
    refine thenG_n ?_
    refine RC_region ?_
    refine RO_q (QE_ld1 2 rfl rfl rfl rfl rfl) rfl ?_
    refine RO_q (QE_add' rfl rfl (w64 (by omega) (by omega))) rfl ?_
    refine RO_st 2 [_] rfl rfl rfl rfl rfl rfl rfl rfl rfl ?_
    refine RO_nil ?_
    refine blockG_n ?_
    refine ⟨(kk + 1, .slice Avq (acc.length + 1) cvq, Mq, acc ++ [(kk : Int)]), ⟨rfl, (if_pos hc).symm⟩, rfl, [], rfl, (Le.trans (Le.trans h9 h11) h12), ⟨by simp only; rw [List.length_append, itv_snoc]; exact oq, by simp only [List.length_append, List.length_cons, List.length_nil]; omega⟩⟩
   ·
    have hc : ¬ codeP p ≠ 0 := fun h => h c10
    refine RC_skip ?_
    refine thenG_n ?_
    refine RC_region ?_
    refine RO_q (QE_ld1 2 rfl rfl rfl rfl rfl) rfl ?_
    refine RO_q (QE_add' rfl rfl (w64 (by omega) (by omega))) rfl ?_
    refine RO_st 2 [_] rfl rfl rfl rfl rfl rfl rfl rfl rfl ?_
    refine RO_nil ?_
    refine blockG_n ?_
    refine ⟨(kk + 1, vo, Mo, acc), ⟨rfl, (if_neg hc).symm⟩, rfl, [], rfl, h9, ⟨hO, by simp only; omega⟩⟩
  ·
   intro l13 HH s13 h13 hY
   refine (divide2_ac D _ HH (fun (g : DmG) _ => FL.Own 3 1 g.2.2.1 g.2.1 g.2.2.2.length (itv g.2.2.2) ∧ g.2.2.2.length ≤ g.1) (fun _ _ _ h _ => h) (fun _ => none) dmSt l13 (0, .slice none 0 0, [], []) (flds tx) ?_ ⟨FL.Own.nil, Nat.le_refl _⟩ rfl bw Aw nw cw (hcb.le h13) (hSw.le h13) (by omega)).mono ?_
   · intro g p A n c s2 hl2 hI2 hp2 hS2 hc2
     obtain ⟨dn, rt, hd, hch⟩ := hc2
     have h1 := dm_cnt dn _ _ hch
     have h2 := pre_cnt hd
     simp only at h1
     exact hY g (p, A, n, c) s2 (h13.trans hl2) hI2 rfl ⟨hS2, h2.2, by omega⟩
   · rintro v L' s3 _ ⟨g', h1, h2, h3⟩
     exact ⟨g', by have := dm_run _ _ _ h1; simpa [damR] using this, h2, h3⟩
  ·
   intro d14 g s14 h14 F14 I14
   obtain ⟨kk, vo, Mo, acc⟩ := g
   obtain ⟨hO, hol⟩ := I14
   have hF := F14
   simp only at hO hol hF
   dsimp only
   obtain ⟨Ao, co, rfl, _, _⟩ := Own.slice hO
   refine blockG_n ?_
   refine thenG_n ?_
   refine RC_seq ?_
   refine RC_region ?_
   refine RO_q (QE_ld1 2 rfl rfl rfl rfl rfl) rfl ?_
   refine RO_q (QE_build [] [_, _] rfl rfl rfl rfl rfl rfl) rfl ?_
   refine RO_q (QE_as rfl) rfl ?_
   refine RO_st 3 [_, _] rfl rfl rfl rfl rfl rfl rfl rfl rfl ?_
   refine RO_nil ?_
   refine thenG_n ?_
   refine RC_ret ?_
   refine retG_mk [_, _, _, _] _ (.inr rfl) (.tmp rfl (.agg (us := [_, _]) 3 rfl rfl rfl rfl rfl (.nil))) rfl (Le.trans (Le.trans (Le.trans (Le.trans h1 h4) h5) h6) h14) (.inr ⟨_, rfl, List.mem_cons_self ..⟩) (fun sR hS2 => ?_)
   first
     | (rw [hE, hW]; exact ⟨[], rfl, fun s2 hs2 hp => ⟨none, 0, 0, rfl, its_nil _⟩⟩)
     | (rw [hE, hW]; refine ⟨Mo, rfl, fun s2 hs2 hp => ⟨Ao, acc.length, co, rfl, ?_⟩⟩
        rw [← hF]; exact Own.its hO hp rfl)
end Go.Proofs.YtoeeblegplghmaaGreatDoor
namespace Go.Proofs.YtoeeblegplghmaaGreatDoor
open Go.FL
attribute [local irreducible] JC JO JA JB thenQ blockQ retQ AC fill CellsAt QE Ev Mid
def rdS (k : Nat) (c : Int) (acc : List Ins) (p : Par) : (Int × Int) ⊕ (Nat × Int × List Ins) := if codeP p ≠ 0 then .inl (codeP p, (k : Int)) else if k = 0 then (match rdCells p.1 with
  | none => .inl (1, 0)
  | some c' => .inr (1, c', acc)) else (match rdIns p.1 with
  | none => .inl (1, (k : Int))
  | some x => .inr (k + 1, c, acc ++ [x]))
theorem rdT_step (k : Nat) (c : Int) (acc : List Ins) (p : Par) (r : List Par) : rdT k c acc (p :: r) = match rdS k c acc p with
  | .inl f => .inl f
  | .inr (k', c', acc') => rdT k' c' acc' r := by
  rw [rdT, rdS]
  by_cases h1 : codeP p ≠ 0
  · rw [if_pos h1, if_pos h1]
  · rw [if_neg h1, if_neg h1]
    by_cases h2 : k = 0
    · rw [if_pos h2, if_pos h2]; cases rdCells p.1 <;> rfl
    · rw [if_neg h2, if_neg h2]; cases rdIns p.1 <;> rfl
abbrev RdG := Option (Int × Int) × Nat × Int × Value × Hl × List Ins
def rdPend (g : RdG) : Option Code := g.1.map fun _ => .ret
def rdSt (g : RdG) (p : Par) (g1 : RdG) : Prop := match rdS g.2.1 g.2.2.1 g.2.2.2.2.2 p with
  | .inl f => g1.1 = some f
  | .inr (k, c, acc) => g1.1 = none ∧ g1.2.1 = k ∧ g1.2.2.1 = c ∧ g1.2.2.2.2.2 = acc
theorem rd_run : ∀ (l : List Par) (g g' : RdG), g.1 = none → runY rdPend rdSt g l g' → (∃ f, g'.1 = some f ∧ rdT g.2.1 g.2.2.1 g.2.2.2.2.2 l = .inl f) ∨ (g'.1 = none ∧ rdT g.2.1 g.2.2.1 g.2.2.2.2.2 l = if g'.2.1 = 0 then .inl (1, 0) else .inr ⟨g'.2.2.1, g'.2.2.2.2.2⟩)
  | [], g, g', h0, h => by
    have h : g' = g := h
    subst h; exact .inr ⟨h0, rfl⟩
  | p :: r, g, g', h0, ⟨g1, h1, h2⟩ => by
    rw [rdT_step]
    unfold rdSt at h1
    cases e : rdS g.2.1 g.2.2.1 g.2.2.2.2.2 p with
    | inl f =>
      rw [e] at h1
      simp only at h1 ⊢
      rw [if_neg (by rw [rdPend, h1]; simp)] at h2
      subst h2
      exact .inl ⟨f, h1, rfl⟩
    | inr x =>
      obtain ⟨k, c, acc⟩ := x
      rw [e] at h1
      simp only at h1 ⊢
      obtain ⟨j1, j2, j3, j4⟩ := h1
      rw [if_pos (by rw [rdPend, j1]; rfl)] at h2
      have := rd_run r g1 g' j1 h2
      rw [j2, j3, j4] at this
      exact this
theorem rdS_cnt {k : Nat} {c : Int} {acc : List Ins} {p : Par} {k' : Nat} {c' : Int} {acc' : List Ins} (h : rdS k c acc p = .inr (k', c', acc')) : k' = k + 1 := by
  unfold rdS at h
  split at h
  · cases h
  · split at h
    · split at h
      · cases h
      · injection h with h; injection h with h; omega
    · split at h
      · cases h
      · injection h with h; injection h with h; omega
theorem rd_cnt : ∀ (l : List Par) (g g' : RdG), chain rdPend rdSt g l g' → g'.2.1 = g.2.1 + l.length
  | [], g, g', h => by
    have h : g' = g := h
    subst h; rfl
  | p :: r, g, g', ⟨g1, h1, h2, h3⟩ => by
    rw [rd_cnt r g1 g' h3]
    unfold rdSt at h1
    cases e : rdS g.2.1 g.2.2.1 g.2.2.2.2.2 p with
    | inl f => rw [e] at h1; simp only at h1; rw [rdPend, h1] at h2; cases h2
    | inr x =>
      obtain ⟨k, c, acc⟩ := x
      rw [e] at h1
      simp only at h1
      have := rdS_cnt e
      rw [List.length_cons]; omega
theorem code_parts {p : Par} (h : codeP p = 0) : ∃ ws l, p = (ws, some l) ∧ okT (joinW ws) = true := by
  obtain ⟨ws, o⟩ := p
  cases o with
  | none => cases h
  | some l =>
    refine ⟨ws, l, rfl, ?_⟩
    cases e : okT (joinW ws) with
    | true => rfl
    | false => rw [codeP] at h; simp only at h; rw [if_pos (.inr (.inr e))] at h; cases h
variable {tx : List UInt8}
theorem rr_long (h : 50000 < tx.length) : readR tx = (tab0, 3, -1) := if_pos h
theorem rr_fault {f : Int × Int} (h : ¬ 50000 < tx.length) (h2 : rdT 0 0 [] (dvF [] (flds tx)) = .inl f) : readR tx = (tab0, f) := by rw [readR, if_neg h, h2]
theorem rr_bad {t : Tab} (h : ¬ 50000 < tx.length) (h2 : rdT 0 0 [] (dvF [] (flds tx)) = .inr t) (h3 : (tabFault t).1 ≠ 0) : readR tx = (tab0, tabFault t) := by rw [readR, if_neg h, h2]; exact if_pos h3
theorem rr_good {t : Tab} (h : ¬ 50000 < tx.length) (h2 : rdT 0 0 [] (dvF [] (flds tx)) = .inr t) (h3 : (tabFault t).1 = 0) : readR tx = (t, 0, 0) := by rw [readR, if_neg h, h2]; exact if_neg (fun e => e h3)
theorem inss_nil (s : World) : Inss s none 0 0 [] := ⟨rfl, Nat.le_refl _, by omega, fun i x h => by cases h⟩
abbrev InR (s : World) (x : Ins) (cs : List Value) : Prop := cs.length = 4 ∧ InsR s x cs
def RdI (tw : World) (g : RdG) : Prop := ∃ css, FL.Own 63 4 g.2.2.2.2.1 g.2.2.2.1 g.2.2.2.2.2.length css.flatten ∧ All2 (InR tw) g.2.2.2.2.2 css ∧ (g.1 = none → g.2.2.2.2.2.length ≤ g.2.1)
theorem RdI.le {D : Nat} {s s' : World} {g : RdG} (h : RdI s g) (hl : Le D s s') : RdI s' g := by
  obtain ⟨css, h1, h2, h3⟩ := h
  exact ⟨css, h1, h2.mono fun x cs k => ⟨k.1, k.2.le hl⟩, h3⟩
theorem flat_snocI (css : List (List Value)) (cs : List Value) : (css ++ [cs]).flatten = css.flatten ++ cs := by simp
set_option maxHeartbeats 4000000 in
set_option maxRecDepth 100000 in
theorem readO_ac (D : Nat) (L : Hl) (s : World) (hG : GP s) (tx : List UInt8) : AC Tryz.prog D 13 [St tx] L s fun v L' s' => ∃ M', L' = M' ++ L ∧ ∀ s2, Le D s' s2 → Pub M' s2 → ∃ A n c, v = .tuple #[.agg #[.int .i64 (readR tx).1.cells, .slice A n c], .agg #[.int .i64 (readR tx).2.1, .int .i64 (readR tx).2.2]] ∧ Inss s2 A n c (readR tx).1.ins := by
 refine AC_enterR (TT := TT) (fn := Tryz.f13) TT_ok Tryz.func13 (by kernel_rfl) rfl Tryz.ntmps13 rfl (rs := [.cell 2 24, .cell 3 26]) rfl [(0, _)] rfl ?_
 refine RC_seq ?_
 refine RC_region ?_
 refine RO_allocZ rfl [_, _] rfl rfl ?_
 intro β1 s1 h1
 refine RO_allocZ rfl [_, _] rfl rfl ?_
 intro β2 s2 h2
 refine RO_nil ?_
 refine thenG_n ?_
 refine RC_seq ?_
 refine RC_seq ?_
 refine RC_region ?_
 refine RO_q (QE_mv rfl) rfl ?_
 refine RO_q (QE_lenT rfl rfl rfl) rfl ?_
 refine RO_q (QE_gt rfl rfl) rfl ?_
 refine RO_nil ?_
 refine thenG_n ?_
 refine RC_ifD rfl (fun c3 => ?_) (fun c3 => ?_)
 ·
  have hlong : 50000 < tx.length := by omega
  have hR := rr_long hlong
  refine RC_seq ?_
  refine RC_region ?_
  refine RO_q (QE_build [] [_, _] rfl rfl rfl rfl rfl rfl) rfl ?_
  refine RO_call (first := []) (captured := []) rfl rfl rfl (pfault_ac D _ _ _ _) ?_
  rintro _ _ s4 h4 ⟨rfl, rfl⟩
  refine RO_st 1 [_, _] rfl rfl rfl rfl rfl rfl rfl rfl rfl ?_
  refine RO_st 0 [_, _] rfl rfl rfl rfl rfl rfl rfl rfl rfl ?_
  refine RO_nil ?_
  refine thenG_n ?_
  refine RC_ret ?_
  refine thenG_r ?_
  refine retG_mk [_, _] _ (.inr rfl) (.agg (us := [_, _]) 1 rfl rfl rfl rfl rfl (.agg (us := [_, _]) 0 rfl rfl rfl rfl rfl (.nil))) rfl (Le.trans (Le.trans h1 h2) h4) (.inl rfl) (fun sR hS2 => ?_)
  rw [hR]
  first
    | exact ⟨[], rfl, fun s2 hs2 hp => ⟨none, 0, 0, rfl, inss_nil _⟩⟩
    | exact ⟨Mo, rfl, fun s2 hs2 hp => ⟨none, 0, 0, rfl, inss_nil _⟩⟩
    | exact ⟨[], rfl, fun s2 hs2 hp => ⟨Ao, acc.length, co, rfl, hIn.le (Le.trans (noSuchMark) (Le.trans hS2 hs2))⟩⟩
 ·
  have hshort : ¬ 50000 < tx.length := by omega
  have hfs := flds_size tx
  have hfl := flds_len tx
  have hdl := dv_len (flds tx) []
  refine RC_skip ?_
  refine thenG_n ?_
  refine RC_seq ?_
  refine RC_region ?_
  refine RO_allocZ rfl [_, _] rfl rfl ?_
  intro β5 s5 h5
  refine RO_nil ?_
  refine thenG_n ?_
  refine RC_seq ?_
  refine RC_region ?_
  refine RO_allocZ rfl [_] rfl rfl ?_
  intro β6 s6 h6
  refine RO_st 0 [_] rfl rfl rfl rfl rfl rfl rfl rfl rfl ?_
  refine RO_nil ?_
  refine thenG_n ?_
  refine RC_seq ?_
  refine RC_seq ?_
  refine RC_region ?_
  refine RO_q (QE_mv rfl) rfl ?_
  refine RO_call (first := []) (captured := []) rfl rfl rfl (divide_ac D _ _ tx (by omega)) ?_
  rintro _ _ s7 h7 ⟨rfl, bw, Aw, nw, cw, rfl, hcb, hSw⟩
  refine RO_nil ?_
  refine thenG_n ?_
  refine RC_block ?_
  refine RC_range (σ := RdG) (α := Par × Option Addr × Nat × Nat) (fun g => (β6, cb [.int .i64 (g.2.1 : Int)] 3) :: (β5, cb [.int .i64 g.2.2.1, g.2.2.2.1] 24) :: (β2, cb [.int .i64 (g.1.getD (0, 0)).1, .int .i64 (g.1.getD (0, 0)).2] 26) :: (β1, cb [.int .i64 0, .slice none 0 0] 24) :: (g.2.2.2.2.1 ++ L)) (fun g tw => RdI tw g) (fun g => rdPend g) (fun g x g1 => rdSt g x.1 g1) (fun x => [.slice x.2.1 x.2.2.1 x.2.2.2, .bool x.1.2.isSome]) (fun g x tw => Strs tw x.2.1 x.2.2.1 x.2.2.2 (pw x.1) ∧ x.1 ∈ dvF [] (flds tx) ∧ g.2.1 < 4000000) (fun g1 => (∃ f, g1.1 = some f ∧ rdT 0 0 [] (dvF [] (flds tx)) = .inl f) ∨ (g1.1 = none ∧ rdT 0 0 [] (dvF [] (flds tx)) = if g1.2.1 = 0 then .inl (1, 0) else .inr ⟨g1.2.2.1, g1.2.2.2.2.2⟩)) (cap := [_]) rfl (none, 0, 0, .slice none 0 0, [], []) rfl (⟨[], FL.Own.nil, .nil, fun _ => Nat.le_refl _⟩) rfl (fun _ _ _ h hl => h.le hl) (fun g => by obtain ⟨o, _⟩ := g; cases o with
    | none => exact .inl rfl
    | some f => exact .inr (.inl rfl)) (fun _ => rfl) rfl (fun x => [(6, .slice x.2.1 x.2.2.1 x.2.2.2), (7, .bool x.1.2.isSome), (2, .pointer (some ⟨β1, 0, none⟩)), (3, .pointer (some ⟨β2, 0, none⟩)), (4, .pointer (some ⟨β5, 0, none⟩)), (5, .pointer (some ⟨β6, 0, none⟩))]) ?_ ?_ ?_ ?_
  ·
   intro l8 x8 L8 s8
   refine RC_seq ?_
   refine RC_region ?_
   refine RO_q (QE_as rfl) rfl ?_
   refine RO_nil ?_
   refine thenG_n ?_
   refine RC_region ?_
   refine RO_q (QE_as rfl) rfl ?_
   refine RO_nil ?_
   exact ⟨rfl, rfl, (Keeps.cons rfl (Keeps.cons rfl (Keeps.cons rfl (Keeps.cons rfl (Keeps.cons rfl (Keeps.cons rfl (Keeps.nil _))))))), rfl, rfl⟩
  ·
   intro l9 d9 o9 p9 g x s9 h9 I9 hp9 P9
   obtain ⟨out, kk, cc, vo, Mo, acc⟩ := g
   obtain ⟨p, A, n, c⟩ := x
   obtain ⟨css, hO, hcs, hol⟩ := I9
   obtain ⟨hSp, hpm, hkk⟩ := P9
   have hout : out = none := by
     cases out with
     | none => rfl
     | some f => cases hp9
   subst hout
   simp only at hO hcs hol hSp hpm hkk
   have hol : acc.length ≤ kk := by first | exact hol rfl | exact hol trivial | exact hol
   dsimp only
   have hpz := (dv_size (flds tx) [] p hpm).1
   rw [sizeW_nil] at hpz
   refine RC_block ?_
   refine RC_seq ?_
   refine RC_seq ?_
   refine RC_region ?_
   refine RO_q (QE_mv rfl) rfl ?_
   refine RO_q (QE_mv rfl) rfl ?_
   refine RO_call (first := []) (captured := []) rfl rfl rfl (check_ac D _ _ (hG.le (Le.trans (Le.trans (Le.trans (Le.trans (Le.trans h1 h2) h5) h6) h7) h9)) p A n c (hSp.le (Le.refl (D := D) _)) (by omega)) ?_
   rintro _ _ s10 h10 ⟨rfl, rfl⟩
   refine RO_q (QE_as rfl) rfl ?_
   refine RO_nil ?_
   refine thenG_n ?_
   refine RC_seq ?_
   refine RC_region ?_
   refine RO_q (QE_mv rfl) rfl ?_
   refine RO_q (QE_ne rfl rfl) rfl ?_
   refine RO_nil ?_
   refine thenG_n ?_
   refine RC_ifN rfl (fun c11 => ?_) (fun c11 => ?_)
   ·
    have hc : codeP p ≠ 0 := c11
    refine RC_seq ?_
    refine RC_region ?_
    refine RO_q (QE_build [] [_, _] rfl rfl rfl rfl rfl rfl) rfl ?_
    refine RO_q (QE_mv rfl) rfl ?_
    refine RO_q (QE_ld1 2 rfl rfl rfl rfl rfl) rfl ?_
    refine RO_call (first := []) (captured := []) rfl rfl rfl (pfault_ac D _ _ _ _) ?_
    rintro _ _ s12 h12 ⟨rfl, rfl⟩
    refine RO_st 5 [_, _] rfl rfl rfl rfl rfl rfl rfl rfl rfl ?_
    refine RO_st 4 [_, _] rfl rfl rfl rfl rfl rfl rfl rfl rfl ?_
    refine RO_nil ?_
    refine thenG_n ?_
    refine RC_ret ?_
    refine thenG_r ?_
    refine blockG_r ?_
    refine ⟨(some (codeP p, (kk : Int)), kk, cc, vo, Mo, acc), (by simp only [rdSt, rdS]; rw [if_pos hc]), rfl, [], rfl, (Le.trans h10 h12), ⟨css, hO, hcs.mono fun y cs k => ⟨k.1, k.2.le (Le.trans h10 h12)⟩, fun h => by cases h⟩⟩
   ·
    have hc : codeP p = 0 := by first | exact c11 | simpa using c11
    obtain ⟨ws, lw, rfl, hokT⟩ := code_parts hc
    have hpwn : n = ws.length + 2 := by rw [hSp.1]; simp [pw]
    have hSw2 := Strs.take hSp (show ws.length ≤ n by omega)
    rw [show (pw (ws, some lw)).take ws.length = ws by simp [pw]] at hSw2
    have hzz : sizeW ws ≤ sizeW (pw (ws, some lw)) := by simp only [pw, sizeW_app]; omega
    have hbare : ∀ w ∈ ws, bare1 w := fun w hw => by
      rcases (dv_size (flds tx) [] (ws, some lw) hpm).2 w (by simp only [pw]; exact List.mem_append_left _ hw) with h | h
      · cases h
      · exact flds_bare tx w h
    have hn2 := hSp.2.1
    have hn3 := hSp.2.2.1
    refine RC_skip ?_
    refine thenG_n ?_
    refine RC_seq ?_
    refine RC_region ?_
    refine RO_q (QE_mv rfl) rfl ?_
    refine RO_q (QE_mv rfl) rfl ?_
    refine RO_q (QE_lenS rfl rfl rfl) rfl ?_
    refine RO_q (QE_sub' (c := ((ws.length : Nat) : Int)) rfl rfl (by rw [w64 (by omega) (by omega)]; omega)) rfl ?_
    refine RO_q (QE_slH rfl rfl rfl rfl rfl (by omega)) rfl ?_
    refine RO_q (QE_as rfl) rfl ?_
    refine RO_nil ?_
    refine thenG_n ?_
    refine RC_seq ?_
    refine RC_region ?_
    refine RO_q (QE_as rfl) rfl ?_
    refine RO_nil ?_
    refine thenG_n ?_
    refine RC_seq ?_
    refine RC_seq ?_
    refine RC_region ?_
    refine RO_q (QE_ld1 2 rfl rfl rfl rfl rfl) rfl ?_
    refine RO_q (QE_eq rfl rfl) rfl ?_
    refine RO_nil ?_
    refine thenG_n ?_
    refine RC_ifD rfl (fun c13 => ?_) (fun c13 => ?_)
    ·
     have hk0 : kk = 0 := by omega
     refine RC_region ?_
     refine RO_q (QE_mv rfl) rfl ?_
     refine RO_call (first := []) (captured := []) rfl rfl rfl (readCells_ac D _ _ (hG.le (Le.trans (Le.trans (Le.trans (Le.trans (Le.trans (Le.trans h1 h2) h5) h6) h7) h9) h10)) _ _ _ ws (hSw2.le h10) (by omega)) ?_
     rintro _ _ s14 h14 ⟨rfl, kc, rfl, hrc⟩
     refine RO_q (QE_mv rfl) rfl ?_
     refine RO_q (QE_ext rfl rfl) rfl ?_
     refine RO_q (QE_ext rfl rfl) rfl ?_
     refine RO_q (QE_fa0 rfl rfl rfl rfl) rfl ?_
     refine RO_st 3 [_, _] rfl rfl rfl rfl rfl rfl rfl rfl rfl ?_
     refine RO_q (QE_as rfl) rfl ?_
     refine RO_nil ?_
     refine thenG_n ?_
     refine RC_seq ?_
     refine RC_seq ?_
     refine RC_region ?_
     refine RO_q (QE_mv rfl) rfl ?_
     refine RO_q (QE_not rfl) rfl ?_
     refine RO_nil ?_
     refine thenG_n ?_
     refine RC_ifM rfl (fun c15 => ?_) (fun c15 => ?_)
     ·
      have hno := c15
      refine RC_seq ?_
      refine RC_region ?_
      refine RO_q (QE_build [] [_, _] rfl rfl rfl rfl rfl rfl) rfl ?_
      refine RO_q (QE_ld1 2 rfl rfl rfl rfl rfl) rfl ?_
      refine RO_call (first := []) (captured := []) rfl rfl rfl (pfault_ac D _ _ _ _) ?_
      rintro _ _ s16 h16 ⟨rfl, rfl⟩
      refine RO_st 5 [_, _] rfl rfl rfl rfl rfl rfl rfl rfl rfl ?_
      refine RO_st 4 [_, _] rfl rfl rfl rfl rfl rfl rfl rfl rfl ?_
      refine RO_nil ?_
      refine thenG_n ?_
      refine RC_ret ?_
      refine thenG_r ?_
      refine blockG_r ?_
      refine ⟨(some (1, (kk : Int)), kk, kc, vo, Mo, acc), (by simp only [rdSt, rdS]; rw [if_neg (fun h => h hc), if_pos hk0, show rdCells ws = none by simpa using hno, hk0]; rfl), rfl, [], rfl, (Le.trans (Le.trans h10 h14) h16), ⟨css, hO, hcs.mono fun y cs k => ⟨k.1, k.2.le (Le.trans (Le.trans h10 h14) h16)⟩, fun h => by cases h⟩⟩
     ·
      have hyes := c15
      refine RC_skip ?_
      refine thenG_n ?_
      refine RC_region ?_
      refine RO_q (QE_ld1 2 rfl rfl rfl rfl rfl) rfl ?_
      refine RO_q (QE_add' rfl rfl (w64 (by omega) (by omega))) rfl ?_
      refine RO_st 2 [_] rfl rfl rfl rfl rfl rfl rfl rfl rfl ?_
      refine RO_nil ?_
      refine blockG_n ?_
      refine ⟨(none, kk + 1, kc, vo, Mo, acc), (by simp only [rdSt, rdS]; obtain ⟨y, hy⟩ := Option.isSome_iff_exists.1 hyes; rw [if_neg (fun h => h hc), if_pos hk0, hy, hk0, hrc y hy]; first | exact ⟨rfl, rfl, rfl, rfl⟩ | exact ⟨trivial, rfl, rfl, rfl⟩), rfl, [], rfl, (Le.trans h10 h14), ⟨css, hO, hcs.mono fun y cs k => ⟨k.1, k.2.le (Le.trans h10 h14)⟩, fun _ => by simp only; omega⟩⟩
    ·
     have hk0 : ¬ kk = 0 := by omega
     refine RC_seq ?_
     refine RC_region ?_
     refine RO_allocZ rfl [_, _, _, _] rfl rfl ?_
     intro β17 s17 h17
     refine RO_nil ?_
     refine thenG_n ?_
     refine RC_seq ?_
     refine RC_region ?_
     refine RO_q (QE_mv rfl) rfl ?_
     refine RO_call (first := []) (captured := []) rfl rfl rfl (readIns_ac D _ _ (hG.le (Le.trans (Le.trans (Le.trans (Le.trans (Le.trans (Le.trans (Le.trans h1 h2) h5) h6) h7) h9) h10) h17)) _ _ _ ws (hSw2.le (Le.trans h10 h17)) (by omega) hokT hbare) ?_
     rintro _ _ s18 h18 ⟨rfl, x, Ai, ni, ci, rfl, hAc, hxn, hxu, hrx⟩
     refine RO_q (QE_mv rfl) rfl ?_
     refine RO_q (QE_ext rfl rfl) rfl ?_
     refine RO_q (QE_ext rfl rfl) rfl ?_
     refine RO_st 0 [_, _, _, _] rfl rfl rfl rfl rfl rfl rfl rfl rfl ?_
     refine RO_q (QE_as rfl) rfl ?_
     refine RO_nil ?_
     refine thenG_n ?_
     refine RC_region ?_
     refine RO_q (QE_faB rfl rfl rfl rfl) rfl ?_
     refine RO_q (QE_ld1 4 rfl rfl rfl rfl rfl) rfl ?_
     refine RO_q (QE_ldA 0 [_, _, _, _] rfl rfl rfl rfl rfl) rfl ?_
     refine RO_bs [(_, _)] [_, _, _, _] rfl rfl rfl rfl rfl rfl rfl rfl rfl ?_
     intro βn s19 h19 hcb2
     refine RO_app (sz := 4) [_, _, _, _, _, _, _] Mo L rfl rfl rfl rfl rfl rfl rfl hO (Row.of_cells (hcb2.le (Le.refl (D := D) _)) rfl rfl) ⟨by simp [ti63]; omega, by omega⟩ rfl ?_
     intro vq Mq s20 h20 oq
     obtain ⟨Avq, cvq, rfl, _, _⟩ := Own.slice oq
     simp only [List.cons_append, List.nil_append]
     refine RO_q (QE_faB rfl rfl rfl rfl) rfl ?_
     refine RO_st 4 [_, _] rfl rfl rfl rfl rfl rfl rfl rfl rfl ?_
     refine RO_nil ?_
     refine thenG_n ?_
     refine RC_seq ?_
     refine RC_seq ?_
     refine RC_region ?_
     refine RO_q (QE_mv rfl) rfl ?_
     refine RO_q (QE_not rfl) rfl ?_
     refine RO_nil ?_
     refine thenG_n ?_
     refine RC_ifM rfl (fun c21 => ?_) (fun c21 => ?_)
     ·
      have hno := c21
      refine RC_seq ?_
      refine RC_region ?_
      refine RO_q (QE_build [] [_, _] rfl rfl rfl rfl rfl rfl) rfl ?_
      refine RO_q (QE_ld1 3 rfl rfl rfl rfl rfl) rfl ?_
      refine RO_call (first := []) (captured := []) rfl rfl rfl (pfault_ac D _ _ _ _) ?_
      rintro _ _ s22 h22 ⟨rfl, rfl⟩
      refine RO_st 6 [_, _] rfl rfl rfl rfl rfl rfl rfl rfl rfl ?_
      refine RO_st 5 [_, _] rfl rfl rfl rfl rfl rfl rfl rfl rfl ?_
      refine RO_nil ?_
      refine thenG_n ?_
      refine RC_ret ?_
      refine thenG_r ?_
      refine blockG_r ?_
      refine ⟨(some (1, (kk : Int)), kk, cc, .slice Avq (acc.length + 1) cvq, Mq, acc ++ [x]), (by simp only [rdSt, rdS]; rw [if_neg (fun h => h hc), if_neg hk0, show rdIns ws = none by simpa using hno]), rfl, [_], rfl, (Le.trans (Le.trans (Le.trans (Le.trans (Le.trans h10 h17) h18) h19) h20) h22), ⟨css ++ [[St x.name, .int .u32 x.code, .bool x.operand, .slice Ai ni ci]], by simp only; rw [List.length_append, flat_snocI]; exact oq, All2.snoc (hcs.mono fun y cs k => ⟨k.1, k.2.le (Le.trans (Le.trans (Le.trans (Le.trans (Le.trans h10 h17) h18) h19) h20) h22)⟩) ⟨rfl, Ai, ni, ci, rfl, hAc.le (Le.trans (Le.trans h19 h20) h22), by omega, hxu⟩, fun h => by cases h⟩⟩
     ·
      have hyes := c21
      refine RC_skip ?_
      refine thenG_n ?_
      refine RC_region ?_
      refine RO_q (QE_ld1 3 rfl rfl rfl rfl rfl) rfl ?_
      refine RO_q (QE_add' rfl rfl (w64 (by omega) (by omega))) rfl ?_
      refine RO_st 3 [_] rfl rfl rfl rfl rfl rfl rfl rfl rfl ?_
      refine RO_nil ?_
      refine blockG_n ?_
      refine ⟨(none, kk + 1, cc, .slice Avq (acc.length + 1) cvq, Mq, acc ++ [x]), (by simp only [rdSt, rdS]; obtain ⟨y, hy⟩ := Option.isSome_iff_exists.1 hyes; rw [if_neg (fun h => h hc), if_neg hk0, hy, hrx y hy]; first | exact ⟨rfl, rfl, rfl, rfl⟩ | exact ⟨trivial, rfl, rfl, rfl⟩), rfl, [_], rfl, (Le.trans (Le.trans (Le.trans (Le.trans h10 h17) h18) h19) h20), ⟨css ++ [[St x.name, .int .u32 x.code, .bool x.operand, .slice Ai ni ci]], by simp only; rw [List.length_append, flat_snocI]; exact oq, All2.snoc (hcs.mono fun y cs k => ⟨k.1, k.2.le (Le.trans (Le.trans (Le.trans (Le.trans h10 h17) h18) h19) h20)⟩) ⟨rfl, Ai, ni, ci, rfl, hAc.le (Le.trans h19 h20), by omega, hxu⟩, fun _ => by simp only [List.length_append, List.length_cons, List.length_nil]; omega⟩⟩
  ·
   intro l23 HH s23 h23 hY
   refine (divide2_ac D _ HH (fun g tw => RdI tw g) (fun _ _ _ h hl => h.le hl) rdPend rdSt l23 (none, 0, 0, .slice none 0 0, [], []) (flds tx) ?_ ⟨[], FL.Own.nil, .nil, fun _ => Nat.le_refl _⟩ rfl bw Aw nw cw (hcb.le h23) (hSw.le h23) (by omega)).mono ?_
   · intro g p A n c s2 hl2 hI2 hp2 hS2 hc2
     obtain ⟨dn, rt, hd, hch⟩ := hc2
     have h1 := rd_cnt dn _ _ hch
     have h2 := pre_cnt hd
     simp only at h1
     exact hY g (p, A, n, c) s2 (h23.trans hl2) hI2 hp2 ⟨hS2, h2.2, by omega⟩
   · rintro v L' s3 _ ⟨g', h1, h2, h3⟩
     exact ⟨g', rd_run _ _ _ rfl h1, h2, h3⟩
  ·
   intro d24 g s24 h24 F24 I24
   obtain ⟨out, kk, cc, vo, Mo, acc⟩ := g
   obtain ⟨css, hO, hcs, hol⟩ := I24
   have hF := F24
   simp only at hO hcs hol hF
   dsimp only
   obtain ⟨Ao, co, hvo, _, _⟩ := Own.slice hO
   subst hvo
   cases out with
   | some f =>
    have hR : readR tx = (tab0, f) := by
      rcases hF with ⟨f2, h1, h2⟩ | ⟨h1, _⟩
      · injection h1 with h1; subst h1; exact rr_fault hshort h2
      · cases h1
    refine blockG_r ?_
    refine thenG_r ?_
    refine retG_mk [_, _, _, _, _] _ (.inr rfl) (.agg (us := [_, _]) 4 rfl rfl rfl rfl rfl (.agg (us := [_, _]) 3 rfl rfl rfl rfl rfl (.nil))) rfl (Le.trans (Le.trans (Le.trans (Le.trans (Le.trans h1 h2) h5) h6) h7) h24) (.inr ⟨_, rfl, List.mem_cons_self ..⟩) (fun sR hS2 => ?_)
    rw [hR]
    first
      | exact ⟨[], rfl, fun s2 hs2 hp => ⟨none, 0, 0, rfl, inss_nil _⟩⟩
      | exact ⟨Mo, rfl, fun s2 hs2 hp => ⟨none, 0, 0, rfl, inss_nil _⟩⟩
      | exact ⟨[], rfl, fun s2 hs2 hp => ⟨Ao, acc.length, co, rfl, hIn.le (Le.trans (noSuchMark) (Le.trans hS2 hs2))⟩⟩
   | none =>
    have hF2 : rdT 0 0 [] (dvF [] (flds tx)) = if kk = 0 then .inl (1, 0) else .inr ⟨cc, acc⟩ := by
      rcases hF with ⟨f2, h1, h2⟩ | ⟨_, h2⟩
      · cases h1
      · exact h2
    clear hF
    refine blockG_n ?_
    refine thenG_n ?_
    refine RC_seq ?_
    refine RC_seq ?_
    refine RC_region ?_
    refine RO_q (QE_ld1 1 rfl rfl rfl rfl rfl) rfl ?_
    refine RO_q (QE_eq rfl rfl) rfl ?_
    refine RO_nil ?_
    refine thenG_n ?_
    refine RC_ifD rfl (fun c25 => ?_) (fun c25 => ?_)
    ·
     have hk0 : kk = 0 := by omega
     rw [if_pos hk0] at hF2
     have hR := rr_fault hshort hF2
     refine RC_seq ?_
     refine RC_region ?_
     refine RO_q (QE_build [] [_, _] rfl rfl rfl rfl rfl rfl) rfl ?_
     refine RO_call (first := []) (captured := []) rfl rfl rfl (pfault_ac D _ _ _ _) ?_
     rintro _ _ s26 h26 ⟨rfl, rfl⟩
     refine RO_st 4 [_, _] rfl rfl rfl rfl rfl rfl rfl rfl rfl ?_
     refine RO_st 3 [_, _] rfl rfl rfl rfl rfl rfl rfl rfl rfl ?_
     refine RO_nil ?_
     refine thenG_n ?_
     refine RC_ret ?_
     refine thenG_r ?_
     refine retG_mk [_, _, _, _, _] _ (.inr rfl) (.agg (us := [_, _]) 4 rfl rfl rfl rfl rfl (.agg (us := [_, _]) 3 rfl rfl rfl rfl rfl (.nil))) rfl (Le.trans (Le.trans (Le.trans (Le.trans (Le.trans (Le.trans h1 h2) h5) h6) h7) h24) h26) (.inr ⟨_, rfl, List.mem_cons_self ..⟩) (fun sR hS2 => ?_)
     rw [hR]
     first
       | exact ⟨[], rfl, fun s2 hs2 hp => ⟨none, 0, 0, rfl, inss_nil _⟩⟩
       | exact ⟨Mo, rfl, fun s2 hs2 hp => ⟨none, 0, 0, rfl, inss_nil _⟩⟩
       | exact ⟨[], rfl, fun s2 hs2 hp => ⟨Ao, acc.length, co, rfl, hIn.le (Le.trans (noSuchMark) (Le.trans hS2 hs2))⟩⟩
    ·
     have hk0 : ¬ kk = 0 := by omega
     rw [if_neg hk0] at hF2
     refine RC_skip ?_
     refine thenG_n ?_
     refine RC_seq ?_
     refine RC_seq ?_
     refine RC_pubX [_, _, _, _, _] Mo _ ?_
     intro s27 h27 hpub27
     simp only [List.cons_append, List.nil_append]
     have hIn : Inss s27 Ao acc.length co acc := Own.rows hO hpub27 (hcs.mono fun y cs q => ⟨q.1, q.2.le h27⟩) rfl
     refine RC_region ?_
     refine RO_q (QE_ldA 2 [_, _] rfl rfl rfl rfl rfl) rfl ?_
     refine RO_call (first := []) (captured := []) rfl rfl rfl (validate_ac D _ _ ⟨cc, acc⟩ _ _ _ (hIn.le (Le.refl (D := D) _))) ?_
     rintro _ _ s28 h28 ⟨rfl, rfl⟩
     refine RO_allocZ rfl [_, _] rfl rfl ?_
     intro β29 s29 h29
     refine RO_st 0 [_, _] rfl rfl rfl rfl rfl rfl rfl rfl rfl ?_
     refine RO_nil ?_
     refine thenG_n ?_
     refine RC_seq ?_
     refine RC_region ?_
     refine RO_q (QE_ldA 0 [_, _] rfl rfl rfl rfl rfl) rfl ?_
     refine RO_q (QE_build [] [_, _] rfl rfl rfl rfl rfl rfl) rfl ?_
     refine RO_q (QE_ane rfl rfl (eqFault _ _ _ _)) rfl ?_
     refine RO_nil ?_
     refine thenG_n ?_
     refine RC_ifN rfl (fun c30 => ?_) (fun c30 => ?_)
     ·
      have hbad : (tabFault ⟨cc, acc⟩).1 ≠ 0 := fun h => c30 ⟨h, tab_zero _ h⟩
      have hR := rr_bad hshort hF2 hbad
      refine RC_seq ?_
      refine RC_draw drawsMixed 4 rfl ?_
      intro s31 h31
      refine RA_2 0 1 (by kernel_rfl) ?_ ?_
      ·
       refine RB_q rfl (QE_build [] [_, _] rfl rfl rfl rfl rfl rfl) rfl ?_
       refine RA_2 1 2 (by kernel_rfl) ?_ ?_
       ·
        refine RB_q rfl (QE_ldA 0 [_, _] rfl rfl rfl rfl rfl) rfl ?_
        refine RA_1 2 (by kernel_rfl) ?_
        refine RB_st rfl 5 [_, _] rfl rfl rfl rfl rfl rfl rfl rfl rfl ?_
        refine RA_1 3 (by kernel_rfl) ?_
        refine RB_st rfl 4 [_, _] rfl rfl rfl rfl rfl rfl rfl rfl rfl ?_
        refine RA_done (by kernel_rfl) ?_
        refine thenG_n ?_
        refine RC_ret ?_
        refine thenG_r ?_
        refine retG_mk [_, _, _, _, _, _] _ (.inr rfl) (.agg (us := [_, _]) 5 rfl rfl rfl rfl rfl (.agg (us := [_, _]) 4 rfl rfl rfl rfl rfl (.nil))) rfl (Le.trans (Le.trans (Le.trans (Le.trans (Le.trans (Le.trans (Le.trans (Le.trans (Le.trans h1 h2) h5) h6) h7) h24) h27) h28) h29) h31) (.inr ⟨_, rfl, List.mem_cons_of_mem _ (List.mem_cons_self ..)⟩) (fun sR hS2 => ?_)
        rw [hR]
        first
          | exact ⟨[], rfl, fun s2 hs2 hp => ⟨none, 0, 0, rfl, inss_nil _⟩⟩
          | exact ⟨Mo, rfl, fun s2 hs2 hp => ⟨none, 0, 0, rfl, inss_nil _⟩⟩
          | exact ⟨[], rfl, fun s2 hs2 hp => ⟨Ao, acc.length, co, rfl, hIn.le (Le.trans (Le.trans (Le.trans h28 h29) h31) (Le.trans hS2 hs2))⟩⟩
       ·
        refine RB_st rfl 5 [_, _] rfl rfl rfl rfl rfl rfl rfl rfl rfl ?_
        refine RA_1 1 (by kernel_rfl) ?_
        refine RB_q rfl (QE_ldA 0 [_, _] rfl rfl rfl rfl rfl) rfl ?_
        refine RA_1 3 (by kernel_rfl) ?_
        refine RB_st rfl 4 [_, _] rfl rfl rfl rfl rfl rfl rfl rfl rfl ?_
        refine RA_done (by kernel_rfl) ?_
        refine thenG_n ?_
        refine RC_ret ?_
        refine thenG_r ?_
        refine retG_mk [_, _, _, _, _, _] _ (.inr rfl) (.agg (us := [_, _]) 5 rfl rfl rfl rfl rfl (.agg (us := [_, _]) 4 rfl rfl rfl rfl rfl (.nil))) rfl (Le.trans (Le.trans (Le.trans (Le.trans (Le.trans (Le.trans (Le.trans (Le.trans (Le.trans h1 h2) h5) h6) h7) h24) h27) h28) h29) h31) (.inr ⟨_, rfl, List.mem_cons_of_mem _ (List.mem_cons_self ..)⟩) (fun sR hS2 => ?_)
        rw [hR]
        first
          | exact ⟨[], rfl, fun s2 hs2 hp => ⟨none, 0, 0, rfl, inss_nil _⟩⟩
          | exact ⟨Mo, rfl, fun s2 hs2 hp => ⟨none, 0, 0, rfl, inss_nil _⟩⟩
          | exact ⟨[], rfl, fun s2 hs2 hp => ⟨Ao, acc.length, co, rfl, hIn.le (Le.trans (Le.trans (Le.trans h28 h29) h31) (Le.trans hS2 hs2))⟩⟩
      ·
       refine RB_q rfl (QE_ldA 0 [_, _] rfl rfl rfl rfl rfl) rfl ?_
       refine RA_1 0 (by kernel_rfl) ?_
       refine RB_q rfl (QE_build [] [_, _] rfl rfl rfl rfl rfl rfl) rfl ?_
       refine RA_1 2 (by kernel_rfl) ?_
       refine RB_st rfl 5 [_, _] rfl rfl rfl rfl rfl rfl rfl rfl rfl ?_
       refine RA_1 3 (by kernel_rfl) ?_
       refine RB_st rfl 4 [_, _] rfl rfl rfl rfl rfl rfl rfl rfl rfl ?_
       refine RA_done (by kernel_rfl) ?_
       refine thenG_n ?_
       refine RC_ret ?_
       refine thenG_r ?_
       refine retG_mk [_, _, _, _, _, _] _ (.inr rfl) (.agg (us := [_, _]) 5 rfl rfl rfl rfl rfl (.agg (us := [_, _]) 4 rfl rfl rfl rfl rfl (.nil))) rfl (Le.trans (Le.trans (Le.trans (Le.trans (Le.trans (Le.trans (Le.trans (Le.trans (Le.trans h1 h2) h5) h6) h7) h24) h27) h28) h29) h31) (.inr ⟨_, rfl, List.mem_cons_of_mem _ (List.mem_cons_self ..)⟩) (fun sR hS2 => ?_)
       rw [hR]
       first
         | exact ⟨[], rfl, fun s2 hs2 hp => ⟨none, 0, 0, rfl, inss_nil _⟩⟩
         | exact ⟨Mo, rfl, fun s2 hs2 hp => ⟨none, 0, 0, rfl, inss_nil _⟩⟩
         | exact ⟨[], rfl, fun s2 hs2 hp => ⟨Ao, acc.length, co, rfl, hIn.le (Le.trans (Le.trans (Le.trans h28 h29) h31) (Le.trans hS2 hs2))⟩⟩
     ·
      have h0 : (tabFault ⟨cc, acc⟩).1 = 0 := c30.1
      have hR := rr_good hshort hF2 h0
      refine RC_skip ?_
      refine thenG_n ?_
      refine RC_seq ?_
      refine RC_region ?_
      refine RO_q (QE_ldA 3 [_, _] rfl rfl rfl rfl rfl) rfl ?_
      refine RO_q (QE_build [] [_, _] rfl rfl rfl rfl rfl rfl) rfl ?_
      refine RO_st 5 [_, _] rfl rfl rfl rfl rfl rfl rfl rfl rfl ?_
      refine RO_st 4 [_, _] rfl rfl rfl rfl rfl rfl rfl rfl rfl ?_
      refine RO_nil ?_
      refine thenG_n ?_
      refine RC_ret ?_
      refine retG_mk [_, _, _, _, _, _] _ (.inr rfl) (.agg (us := [_, _]) 5 rfl rfl rfl rfl rfl (.agg (us := [_, _]) 4 rfl rfl rfl rfl rfl (.nil))) rfl (Le.trans (Le.trans (Le.trans (Le.trans (Le.trans (Le.trans (Le.trans (Le.trans h1 h2) h5) h6) h7) h24) h27) h28) h29) (.inr ⟨_, rfl, List.mem_cons_of_mem _ (List.mem_cons_self ..)⟩) (fun sR hS2 => ?_)
      rw [hR]
      first
        | exact ⟨[], rfl, fun s2 hs2 hp => ⟨none, 0, 0, rfl, inss_nil _⟩⟩
        | exact ⟨Mo, rfl, fun s2 hs2 hp => ⟨none, 0, 0, rfl, inss_nil _⟩⟩
        | exact ⟨[], rfl, fun s2 hs2 hp => ⟨Ao, acc.length, co, rfl, hIn.le (Le.trans (Le.trans h28 h29) (Le.trans hS2 hs2))⟩⟩
theorem read_ac (D : Nat) (L : Hl) (s : World) (hG : GP s) (tx : List UInt8) : AC Tryz.prog D 13 [St tx] L s fun v L' s' => L = L' ∧ ∃ A n c, v = .tuple #[.agg #[.int .i64 (readR tx).1.cells, .slice A n c], .agg #[.int .i64 (readR tx).2.1, .int .i64 (readR tx).2.2]] ∧ Inss s' A n c (readR tx).1.ins := AC.pubW (readO_ac D L s hG tx)
theorem damaged_ac (D : Nat) (L : Hl) (s : World) (hG : GP s) (tx : List UInt8) : AC Tryz.prog D 14 [St tx] L s fun v L' s' => L = L' ∧ ∃ A n c, v = .tuple #[.slice A n c, .agg #[.int .i64 (damE tx).1, .int .i64 (damE tx).2]] ∧ Its s' A n c (damW tx) := AC.pubW (damagedO_ac D L s hG tx)
end Go.Proofs.YtoeeblegplghmaaGreatDoor
namespace Go.Proofs.YtoeeblegplghmaaGreatDoor
open Go.FL
attribute [local irreducible] JC JO JA JB thenQ blockQ retQ AC fill CellsAt QE Ev Mid
set_option maxHeartbeats 1000000 in
set_option maxRecDepth 100000 in
theorem ints_ac (D : Nat) (L : Hl) (s : World) (A : Option Addr) (n c : Nat) (l : List Int) (hA : Its s A n c l) (A1 : Option Addr) (n1 c1 : Nat) (l1 : List Int) (hB : Its s A1 n1 c1 l1) : AC Tryz.prog D 17 [.slice A n c, .slice A1 n1 c1] L s fun v L' _ => v = .bool (decide (l = l1)) ∧ L = L' := by
 have hn := hA.1
 have hc1 := hA.2.1
 have hc2 := hA.2.2.1
 have hn1 := hB.1
 refine AC_enter (TT := TT) (fn := Tryz.f17) TT_ok Tryz.func17 (by kernel_rfl) rfl Tryz.ntmps17 rfl (rs := [.tmp 4]) rfl [(0, _), (1, _)] rfl ?_
 refine JC_seq ?_
 refine JC_region ?_
 refine JO_q (QE_as rfl) rfl ?_
 refine JO_nil ?_
 refine thenQ_n ?_
 refine JC_seq ?_
 refine JC_seq ?_
 refine JC_region ?_
 refine JO_q (QE_mv rfl) rfl ?_
 refine JO_q (QE_lenS rfl rfl rfl) rfl ?_
 refine JO_q (QE_mv rfl) rfl ?_
 refine JO_q (QE_lenS rfl rfl rfl) rfl ?_
 refine JO_q (QE_ne rfl rfl) rfl ?_
 refine JO_nil ?_
 refine thenQ_n ?_
 refine JC_ifN rfl (fun c1 => ?_) (fun c1 => ?_)
 ·
  refine JC_seq ?_
  refine JC_region ?_
  refine JO_q (QE_as rfl) rfl ?_
  refine JO_nil ?_
  refine thenQ_n ?_
  refine JC_ret ?_
  refine thenQ_r ?_
  refine retQ_mk [] L (.inr rfl) (.tmp rfl (.nil)) rfl (Le.refl (D := D) _) (fun sR hS2 => ?_)
  refine ⟨?_, rfl⟩
  first
    | (have h0 : l ≠ l1 := diff_lists hx hy hE
       simp [resV, h0]; done)
    | (have h0 : l ≠ l1 := fun e => by subst e; omega
       simp [resV, h0]; done)
    | (have h0 : l = l1 := same_lists (by omega) (fun i x hi h => hI i x (by omega) h)
       simp [resV, h0]; done)
 ·
  refine JC_skip ?_
  refine thenQ_n ?_
  refine JC_seq ?_
  refine JC_seq ?_
  refine JC_region ?_
  refine JO_q (QE_as rfl) rfl ?_
  refine JO_nil ?_
  refine thenQ_n ?_
  refine JC_block ?_
  refine JC_loop (γ := Nat) (fun k => [(0, _), (1, _), (4, _), (5, .int .i64 (k : Int))]) (fun _ => _) (fun k tw => Le D s tw ∧ (k ≤ n ∧ ∀ i x, i < k → l[i]? = some x → l1[i]? = some x)) (fun k => n - k) (fun _ _ _ h hl => ⟨h.1.trans hl, h.2⟩) 0 (Keeps.cons rfl (Keeps.cons rfl (Keeps.cons rfl (Keeps.cons rfl (Keeps.nil _))))) rfl ⟨Le.refl _, ⟨Nat.zero_le _, fun i c hi => by omega⟩⟩ ?_
  intro k s2 I2
  have hk0 := I2.2.1
  have hI := I2.2.2
  refine JC_seq ?_
  refine JC_seq ?_
  refine JC_region ?_
  refine JO_q (QE_mv rfl) rfl ?_
  refine JO_q (QE_mv rfl) rfl ?_
  refine JO_q (QE_lenS rfl rfl rfl) rfl ?_
  refine JO_q (QE_lt rfl rfl) rfl ?_
  refine JO_nil ?_
  refine thenQ_n ?_
  refine JC_ifD rfl (fun c3 => ?_) (fun c3 => ?_)
  ·
   have hk : k < n := by omega
   obtain ⟨b, off, x, rfl, hx, hcx, _⟩ := Its.at_ (hA.le I2.1) hk
   obtain ⟨b1, off1, y, rfl, hy, hcy, _⟩ := Its.at_ (hB.le I2.1) (show k < n1 by omega)
   refine JC_skip ?_
   refine thenQ_n ?_
   refine JC_seq ?_
   refine JC_block ?_
   refine JC_seq ?_
   refine JC_draw drawsMixed 9 rfl _ (fun _ h => h) ?_
   intro s4 h4
   refine JA_q 0 rfl (by kernel_rfl) (by kernel_rfl) (by kernel_rfl) trivial (QE_mv rfl) rfl ?_
   refine JA_q 1 rfl (by kernel_rfl) (by kernel_rfl) (by kernel_rfl) trivial (QE_mv rfl) rfl ?_
   refine JA_q 2 rfl (by kernel_rfl) (by kernel_rfl) (by kernel_rfl) trivial (QE_ia1 rfl rfl rfl rfl rfl rfl hk) rfl ?_
   refine JA_q 3 rfl (by kernel_rfl) (by kernel_rfl) (by kernel_rfl) trivial (QE_ldsR0 rfl rfl rfl (hcx.le h4) rfl) rfl ?_
   refine JA_q 4 rfl (by kernel_rfl) (by kernel_rfl) (by kernel_rfl) trivial (QE_mv rfl) rfl ?_
   refine JA_q 5 rfl (by kernel_rfl) (by kernel_rfl) (by kernel_rfl) trivial (QE_mv rfl) rfl ?_
   refine JA_q 6 rfl (by kernel_rfl) (by kernel_rfl) (by kernel_rfl) trivial (QE_ia1 rfl rfl rfl rfl rfl rfl (show k < n1 by omega)) rfl ?_
   refine JA_q 7 rfl (by kernel_rfl) (by kernel_rfl) (by kernel_rfl) trivial (QE_ldsR0 rfl rfl rfl (hcy.le h4) rfl) rfl ?_
   refine JA_q 8 rfl (by kernel_rfl) (by kernel_rfl) (by kernel_rfl) trivial (QE_ne rfl rfl) rfl ?_
   refine JA_done (by kernel_rfl) ?_
   refine thenQ_n ?_
   refine JC_ifN rfl (fun c5 => ?_) (fun c5 => ?_)
   ·
    have hE : x ≠ y := by assumption
    refine JC_seq ?_
    refine JC_region ?_
    refine JO_q (QE_as rfl) rfl ?_
    refine JO_nil ?_
    refine thenQ_n ?_
    refine JC_ret ?_
    refine blockQ_r ?_
    refine thenQ_r ?_
    refine thenQ_r ?_
    refine blockQ_r ?_
    refine thenQ_r ?_
    refine retQ_mk [] L (.inr rfl) (.tmp rfl (.nil)) rfl (Le.trans I2.1 h4) (fun sR hS2 => ?_)
    refine ⟨?_, rfl⟩
    first
      | (have h0 : l ≠ l1 := diff_lists hx hy hE
         simp [resV, h0]; done)
      | (have h0 : l ≠ l1 := fun e => by subst e; omega
         simp [resV, h0]; done)
      | (have h0 : l = l1 := same_lists (by omega) (fun i x hi h => hI i x (by omega) h)
         simp [resV, h0]; done)
   ·
    have hE : x = y := by simpa using c5
    refine JC_skip ?_
    refine blockQ_n ?_
    refine thenQ_n ?_
    refine JC_region ?_
    refine JO_q (QE_mv rfl) rfl ?_
    refine JO_q (QE_add' rfl rfl (w64 (by omega) (by omega))) rfl ?_
    refine JO_q (QE_as rfl) rfl ?_
    refine JO_nil ?_
    refine thenQ_n ⟨(k + 1), [], (Keeps.cons rfl (Keeps.cons rfl (Keeps.cons rfl (Keeps.cons rfl (Keeps.nil _))))), rfl, ⟨(Le.trans I2.1 h4), ⟨by omega, below_succ hI hx (hE ▸ hy)⟩⟩, (by omega)⟩
  ·
   refine JC_exit ?_
   refine thenQ_x ?_
   refine thenQ_x ?_
   refine blockQ_x ?_
   refine thenQ_n ?_
   refine JC_seq ?_
   refine JC_region ?_
   refine JO_q (QE_as rfl) rfl ?_
   refine JO_nil ?_
   refine thenQ_n ?_
   refine JC_ret ?_
   refine retQ_mk [] L (.inr rfl) (.tmp rfl (.nil)) rfl I2.1 (fun sR hS2 => ?_)
   refine ⟨?_, rfl⟩
   first
     | (have h0 : l ≠ l1 := diff_lists hx hy hE
        simp [resV, h0]; done)
     | (have h0 : l ≠ l1 := fun e => by subst e; omega
        simp [resV, h0]; done)
     | (have h0 : l = l1 := same_lists (by omega) (fun i x hi h => hI i x (by omega) h)
        simp [resV, h0]; done)
theorem its_lit {s : World} {b : Nat} {x : Int} (h : CellsAt s b 0 [.int .i64 x]) : Its s (some ⟨b, 0, none⟩) 1 1 [x] :=
  ⟨rfl, Nat.le_refl _, by omega, fun i y hi => by
    cases i with
    | zero => simp at hi; subst hi; exact ⟨b, 0, _, rfl, h, rfl, rfl⟩
    | succ i => simp at hi⟩
def t1W : Tab := ⟨1, []⟩
theorem ex_t1 : tabFault t1W = (0, 0) := by decide +kernel
theorem ex_tu : TabU t1W := fun x h => by cases h
theorem ex_tp : TabP t1W := tabP ex_tu (by rw [ex_t1])
theorem text_good {t : Tab} (h : (tabFault t).1 = 0) : textR t = pageT t := if_neg (fun e => e h)
theorem ex_rd : readR (textR t1W) = (t1W, 0, 0) := by rw [text_good (by rw [ex_t1])]; exact read_page ex_tp ex_t1
def chkT : List UInt8 := [84, 104, 101, 32, 67, 104, 101, 99, 107, 32, 49, 46]
theorem ex_dm : damW chkT = [0] ∧ damE chkT = (0, 0) := by decide +kernel
theorem ex_pg : 1000 < (pageT t1W).length ∧ (pageT t1W).take 17 = [84, 104, 101, 32, 109, 97, 99, 104, 105, 110, 101, 32, 104, 97, 115, 32, 49] := by decide +kernel
theorem ex_len : (1000 : Int) < ((textR t1W).length : Int) ∧ 17 ≤ (textR t1W).length := by rw [text_good (by rw [ex_t1])]; have := ex_pg.1; omega
theorem ex_17 : (textR t1W).take 17 = [84, 104, 101, 32, 109, 97, 99, 104, 105, 110, 101, 32, 104, 97, 115, 32, 49] := by rw [text_good (by rw [ex_t1])]; exact ex_pg.2
set_option maxHeartbeats 4000000 in
set_option maxRecDepth 100000 in
theorem worded_ac (D : Nat) (L : Hl) (s : World) (hG : GP s) : AC Tryz.prog D 11 [] L s fun v L' _ => v = .bool true ∧ L = L' := by
 refine AC_enter (TT := TT) (fn := Tryz.f11) TT_ok Tryz.func11 (by kernel_rfl) rfl Tryz.ntmps11 rfl (rs := [.tmp 0]) rfl [] rfl ?_
 refine JC_seq ?_
 refine JC_region ?_
 refine JO_q (QE_as rfl) rfl ?_
 refine JO_nil ?_
 refine thenQ_n ?_
 refine JC_seq ?_
 refine JC_region ?_
 refine JO_q (QE_build [(_, _)] [_, _] rfl rfl rfl rfl rfl rfl) rfl ?_
 refine JO_allocZ rfl [_, _] rfl rfl ?_
 intro β1 s1 h1
 refine JO_st 0 [_, _] rfl rfl rfl rfl rfl rfl rfl rfl rfl ?_
 refine JO_nil ?_
 refine thenQ_n ?_
 refine JC_seq ?_
 refine JC_region ?_
 refine JO_q (QE_ldA 0 [_, _] rfl rfl rfl rfl rfl) rfl ?_
 refine JO_call (first := []) (captured := []) rfl rfl rfl (text_ac D _ _ (hG.le h1) t1W none 0 0 (inss_nil _)) ?_
 rintro _ _ s2 h2 ⟨rfl, rfl⟩
 refine JO_q (QE_mv rfl) rfl ?_
 refine JO_q (QE_ext rfl rfl) rfl ?_
 refine JO_q (QE_ext rfl rfl) rfl ?_
 refine JO_allocZ rfl [_, _] rfl rfl ?_
 intro β3 s3 h3
 refine JO_q (QE_as rfl) rfl ?_
 refine JO_st 0 [_, _] rfl rfl rfl rfl rfl rfl rfl rfl rfl ?_
 refine JO_nil ?_
 refine thenQ_n ?_
 refine JC_seq ?_
 refine JC_region ?_
 refine JO_q (QE_mv rfl) rfl ?_
 refine JO_call (first := []) (captured := []) rfl rfl rfl (read_ac D _ _ (hG.le (Le.trans (Le.trans h1 h2) h3)) (textR t1W)) ?_
 rintro _ _ s4 h4 ⟨rfl, Ara, nra, cra, rfl, hra⟩
 refine JO_q (QE_mv rfl) rfl ?_
 refine JO_q (QE_ext rfl rfl) rfl ?_
 refine JO_q (QE_ext rfl rfl) rfl ?_
 refine JO_allocZ rfl [_, _] rfl rfl ?_
 intro β5 s5 h5
 refine JO_allocZ rfl [_, _] rfl rfl ?_
 intro β6 s6 h6
 refine JO_st 1 [_, _] rfl rfl rfl rfl rfl rfl rfl rfl rfl ?_
 refine JO_st 0 [_, _] rfl rfl rfl rfl rfl rfl rfl rfl rfl ?_
 refine JO_nil ?_
 refine thenQ_n ?_
 refine JC_seq ?_
 refine JC_region ?_
 refine JO_call (first := []) (captured := []) rfl rfl rfl (damaged_ac D _ _ (hG.le (Le.trans (Le.trans (Le.trans (Le.trans (Le.trans h1 h2) h3) h4) h5) h6)) chkT) ?_
 rintro _ _ s7 h7 ⟨rfl, Ama, nma, cma, rfl, hma⟩
 refine JO_q (QE_mv rfl) rfl ?_
 refine JO_q (QE_ext rfl rfl) rfl ?_
 refine JO_q (QE_ext rfl rfl) rfl ?_
 refine JO_allocZ rfl [_, _] rfl rfl ?_
 intro β8 s8 h8
 refine JO_q (QE_as rfl) rfl ?_
 refine JO_st 0 [_, _] rfl rfl rfl rfl rfl rfl rfl rfl rfl ?_
 refine JO_nil ?_
 refine thenQ_n ?_
 refine JC_seq ?_
 refine JC_region ?_
 refine JO_q (QE_fa0 rfl rfl rfl rfl) rfl ?_
 refine JO_q (QE_ld1 3 rfl rfl rfl rfl rfl) rfl ?_
 refine JO_q (QE_cast (v' := .bool true) (QE_eq rfl rfl) (bT (by rw [ex_t1]))) rfl ?_
 refine JO_q (QE_mv rfl) rfl ?_
 refine JO_gT rfl rfl ?_
 refine JO_q (QE_fa0 rfl rfl rfl rfl) rfl ?_
 refine JO_gT rfl rfl ?_
 refine JO_q (QE_ld1 1 rfl rfl rfl rfl rfl) rfl ?_
 refine JO_gT rfl rfl ?_
 refine JO_q (QE_cast (v' := .bool true) (QE_eq rfl rfl) (bT (by rw [ex_rd]))) rfl ?_
 refine JO_q (QE_pickT rfl rfl) rfl ?_
 refine JO_q (QE_mv rfl) rfl ?_
 refine JO_gT rfl rfl ?_
 refine JO_q (QE_fa0 rfl rfl rfl rfl) rfl ?_
 refine JO_gT rfl rfl ?_
 refine JO_q (QE_ld1 0 rfl rfl rfl rfl rfl) rfl ?_
 refine JO_gT rfl rfl ?_
 refine JO_q (QE_cast (v' := .bool true) (QE_eq rfl rfl) (bT (by rw [ex_dm.2]))) rfl ?_
 refine JO_q (QE_pickT rfl rfl) rfl ?_
 refine JO_q (QE_mv rfl) rfl ?_
 refine JO_gT rfl rfl ?_
 refine JO_q (QE_ldA 4 [_, _] rfl rfl rfl rfl rfl) rfl ?_
 refine JO_gT rfl rfl ?_
 refine JO_q (QE_ldA 2 [_, _] rfl rfl rfl rfl rfl) rfl ?_
 refine JO_gT rfl rfl ?_
 refine JO_call (first := []) (captured := []) rfl rfl rfl (AC.isT (sameTable_ac D _ _ t1W none 0 0 (inss_nil _) (readR (textR t1W)).1 _ _ _ (hra.le (Le.trans (Le.trans (Le.trans h5 h6) h7) h8))) (by rw [ex_rd])) ?_
 rintro _ _ s9 h9 ⟨rfl, rfl⟩
 refine JO_q (QE_pickT rfl rfl) rfl ?_
 refine JO_q (QE_mv rfl) rfl ?_
 refine JO_gT rfl rfl ?_
 refine JO_q (QE_mv rfl) rfl ?_
 refine JO_gT rfl rfl ?_
 refine JO_q (QE_lenT rfl rfl rfl) rfl ?_
 refine JO_gT rfl rfl ?_
 refine JO_q (QE_cast (v' := .bool true) (QE_gt rfl rfl) (bT ex_len.1)) rfl ?_
 refine JO_q (QE_pickT rfl rfl) rfl ?_
 refine JO_q (QE_mv rfl) rfl ?_
 refine JO_gT rfl rfl ?_
 refine JO_q (QE_mv rfl) rfl ?_
 refine JO_gT rfl rfl ?_
 refine JO_q (QE_stH rfl rfl rfl rfl (show (17 : Nat) ≤ (textR t1W).length from ex_len.2)) rfl ?_
 refine JO_gT rfl rfl ?_
 refine JO_q (QE_cast (v' := .bool true) (QE_seq rfl rfl) (bT ex_17)) rfl ?_
 refine JO_q (QE_pickT rfl rfl) rfl ?_
 refine JO_q (QE_mv rfl) rfl ?_
 refine JO_gT rfl rfl ?_
 refine JO_q (QE_mv rfl) rfl ?_
 refine JO_gT rfl rfl ?_
 refine JO_bs [(_, _)] [_] rfl rfl rfl rfl rfl rfl rfl rfl rfl ?_
 intro βn s10 h10 hci
 refine JO_gT rfl rfl ?_
 refine JO_call (first := []) (captured := []) rfl rfl rfl (AC.isT (ints_ac D _ _ _ _ _ (damW chkT) (hma.le (Le.trans (Le.trans h8 h9) h10)) _ _ _ [0] (its_lit (hci.le (Le.refl (D := D) _)))) ex_dm.1) ?_
 rintro _ _ s11 h11 ⟨rfl, rfl⟩
 refine JO_q (QE_pickT rfl rfl) rfl ?_
 refine JO_q (QE_as rfl) rfl ?_
 refine JO_nil ?_
 refine thenQ_n ?_
 refine JC_ret ?_
 refine retQ_mk [_, _, _, _, _] L (.inr rfl) (.tmp rfl (.nil)) rfl (Le.trans (Le.trans (Le.trans (Le.trans (Le.trans (Le.trans (Le.trans (Le.trans (Le.trans (Le.trans h1 h2) h3) h4) h5) h6) h7) h8) h9) h10) h11) (fun sR hS2 => ?_)
 exact ⟨rfl, rfl⟩
end Go.Proofs.YtoeeblegplghmaaGreatDoor
