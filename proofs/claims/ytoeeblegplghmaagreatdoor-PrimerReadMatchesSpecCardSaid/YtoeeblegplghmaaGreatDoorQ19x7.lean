/- Part 7 of the proof of primerReadMatchesSpec_holds: texts P28, P29, P19, P30. -/
import Derived.Test.YtoeeblegplghmaaGreatDoorQ19x6
set_option linter.unusedVariables false
set_option linter.unusedSimpArgs false
set_option linter.unnecessarySimpa false
namespace Go.Proofs.YtoeeblegplghmaaGreatDoor
open Go.FL
attribute [local irreducible] JC JO JA JB thenQ blockQ retQ AC fill CellsAt QE Ev Mid
def tmv (l : List Tm) : List Value := (l.map fun x => [Value.int .i64 x.kind, Value.int .u32 x.val]).flatten
theorem tmv_snoc (l : List Tm) (x : Tm) : tmv (l ++ [x]) = tmv l ++ [.int .i64 x.kind, .int .u32 x.val] := by simp [tmv]
theorem Own.tms {e : Nat} {A : Hl} {Ad : Option Addr} {n c : Nat} {l : List Tm} {s : World} (h : FL.Own e 2 A (.slice Ad n c) n (tmv l)) (hu : ∀ x ∈ l, U32 x.val) (hp : Pub A s) (hn : n = l.length) : Tms s Ad n c l :=
  Own.rows (R := fun _ (x : Tm) cs => cs = [Value.int .i64 x.kind, Value.int .u32 x.val] ∧ U32 x.val) h hp (all2_mapI (fun (x : Tm) => [Value.int .i64 x.kind, Value.int .u32 x.val]) l fun x hx => ⟨rfl, rfl, hu x hx⟩) hn
theorem terms_len (l : List (List UInt8)) : (termsR l).length ≤ l.length + 1 := by
  rw [termsR, List.length_cons]
  have := List.length_filterMap_le termW l
  omega
theorem terms_yes {ws : List (List UInt8)} {i : Nat} {w : List UInt8} {t : Tm} (hw : ws[i]? = some w) (h : termW w = some t) : termsR (ws.take (i + 1)) = termsR (ws.take i) ++ [t] := by
  obtain ⟨hi, he⟩ := List.getElem?_eq_some_iff.1 hw
  rw [List.take_succ_eq_append_getElem hi, he, termsR, termsR, List.filterMap_append]; simp [h]
theorem terms_no {ws : List (List UInt8)} {i : Nat} {w : List UInt8} (hw : ws[i]? = some w) (h : (termW w).isSome = false) : termsR (ws.take (i + 1)) = termsR (ws.take i) := by
  obtain ⟨hi, he⟩ := List.getElem?_eq_some_iff.1 hw
  have h2 : termW w = none := by simpa using h
  rw [List.take_succ_eq_append_getElem hi, he, termsR, termsR, List.filterMap_append]; simp [h2]
set_option maxHeartbeats 4000000 in
set_option maxRecDepth 100000 in
theorem ractIn_ac (D : Nat) (L : Hl) (s : World) (A : Option Addr) (n c : Nat) (ws : List (List UInt8)) (hS : Strs s A n c ws) (hz : sizeW ws ≤ 1000000) (hb : ∀ w ∈ ws, bare1 w) : AC Tryz.prog D 73 [.slice A n c] L s fun v L' _ => ∃ a : Ac, a = (rdAny ws).getD (ac0 0) ∧ v = .tuple #[.agg #[.int .i64 a.kind, .int .i64 a.tgt, .int .i64 a.x.kind, .int .u32 a.x.val, .int .i64 a.y.kind, .int .u32 a.y.val], .bool (rdAny ws).isSome] ∧ L = L' := by
 have hn := hS.1
 have hc1 := hS.2.1
 have hc2 := hS.2.2.1
 refine AC_enter (TT := TT) (fn := Tryz.f73) TT_ok Tryz.func73 (by kernel_rfl) rfl Tryz.ntmps73 rfl (rs := [.cell 2 68, .tmp 3]) rfl [(0, _)] rfl ?_
 refine JC_seq ?_
 refine JC_region ?_
 refine JO_allocZ rfl [_, _, _, _, _, _] rfl rfl ?_
 intro β1 s1 h1
 refine JO_q (QE_as rfl) rfl ?_
 refine JO_nil ?_
 refine thenQ_n ?_
 refine JC_seq ?_
 refine JC_region ?_
 refine JO_q (QE_as rfl) rfl ?_
 refine JO_nil ?_
 refine thenQ_n ?_
 refine JC_seq ?_
 refine JC_region ?_
 refine JO_q (QE_mv rfl) rfl ?_
 refine JO_q (QE_build [] [_, _] rfl rfl rfl rfl rfl rfl) rfl ?_
 refine JO_bs [(_, _)] [_, _] rfl rfl rfl rfl rfl rfl rfl rfl rfl ?_
 intro βn s2 h2 hcb
 refine JO_app (sz := 2) [_] [] L rfl rfl rfl rfl rfl rfl rfl FL.Own.nil (Row.of_cells (hcb.le (Le.refl (D := D) _)) rfl rfl) ⟨by simp [ti66], by omega⟩ rfl ?_
 intro vz Mz s3 h3 oz
 obtain ⟨Avz, cvz, rfl, _, _⟩ := Own.slice oz
 simp only [List.cons_append, List.nil_append] at *
 refine JO_q (QE_as rfl) rfl ?_
 refine JO_nil ?_
 refine thenQ_n ?_
 refine JC_seq ?_
 refine JC_seq ?_
 refine JC_region ?_
 refine JO_q (QE_mv rfl) rfl ?_
 refine JO_q (QE_lenS rfl rfl rfl) rfl ?_
 refine JO_q (QE_gt rfl rfl) rfl ?_
 refine JO_nil ?_
 refine thenQ_n ?_
 refine JC_ifD rfl (fun c4 => ?_) (fun c4 => ?_)
 ·
  have hR := rd_long (ws := ws) (by omega)
  refine JC_seq ?_
  refine JC_region ?_
  refine JO_q (QE_build [] [_, _, _, _, _, _] rfl rfl rfl rfl rfl rfl) rfl ?_
  refine JO_st 0 [_, _, _, _, _, _] rfl rfl rfl rfl rfl rfl rfl rfl rfl ?_
  refine JO_q (QE_as rfl) rfl ?_
  refine JO_nil ?_
  refine thenQ_n ?_
  refine JC_ret ?_
  refine thenQ_r ?_
  refine retQ_mk (_ :: Mz) L (.inr rfl) (.agg (us := [_, _, _, _, _, _]) 0 rfl rfl rfl rfl rfl (.tmp rfl (.nil))) rfl (Le.trans (Le.trans h1 h2) h3) (fun sR hS2 => ?_)
  exact ⟨_, rfl, by rw [hR]; rfl, rfl⟩
 ·
  have h14 : ws.length ≤ 14 := by omega
  refine JC_skip ?_
  refine thenQ_n ?_
  refine JC_seq ?_
  refine JC_seq ?_
  refine JC_region ?_
  refine JO_q (QE_as rfl) rfl ?_
  refine JO_nil ?_
  refine thenQ_n ?_
  refine JC_block ?_
  refine JC_loop (γ := Nat × Value × Hl) (fun g => [(0, _), (2, _), (3, _), (4, g.2.1), (5, .int .i64 (g.1 : Int))]) (fun g => (β1, cb [.int .i64 0, .int .i64 0, .int .i64 0, .int .u32 0, .int .i64 0, .int .u32 0] 68) :: (g.2.2 ++ L)) (fun g tw => Le D s3 tw ∧ (g.1 ≤ n ∧ FL.Own 66 2 g.2.2 g.2.1 (termsR (ws.take g.1)).length (tmv (termsR (ws.take g.1))))) (fun g => n - g.1) (fun _ _ _ h hl => ⟨h.1.trans hl, h.2⟩) (0, _, Mz) (Keeps.cons rfl (Keeps.cons rfl (Keeps.cons rfl (Keeps.cons rfl (Keeps.cons rfl (Keeps.nil _)))))) rfl ⟨Le.refl _, ⟨Nat.zero_le _, oz⟩⟩ ?_
  intro g s5 I5
  obtain ⟨i, vo, Mo⟩ := g
  obtain ⟨hi0, hO⟩ := I5.2
  simp only at hi0 hO
  dsimp only
  have htl := terms_len (ws.take i)
  rw [List.length_take] at htl
  refine JC_seq ?_
  refine JC_seq ?_
  refine JC_region ?_
  refine JO_q (QE_mv rfl) rfl ?_
  refine JO_q (QE_mv rfl) rfl ?_
  refine JO_q (QE_lenS rfl rfl rfl) rfl ?_
  refine JO_q (QE_lt rfl rfl) rfl ?_
  refine JO_nil ?_
  refine thenQ_n ?_
  refine JC_ifD rfl (fun c6 => ?_) (fun c6 => ?_)
  ·
   have hk : i < n := by omega
   obtain ⟨b, off, w, rfl, hw, hcw, _⟩ := Strs.at_ (hS.le (Le.trans (Le.trans (Le.trans h1 h2) h3) I5.1)) hk
   have hwl := mem_size (List.mem_of_getElem? hw)
   refine JC_skip ?_
   refine thenQ_n ?_
   refine JC_seq ?_
   refine JC_block ?_
   refine JC_seq ?_
   refine JC_region ?_
   refine JO_q (QE_mv rfl) rfl ?_
   refine JO_q (QE_mv rfl) rfl ?_
   refine JO_q (QE_ia1 rfl rfl rfl rfl rfl rfl hk) rfl ?_
   refine JO_q (QE_ldsR0 rfl rfl rfl (hcw.le (Le.refl (D := D) _)) rfl) rfl ?_
   refine JO_call (first := []) (captured := []) rfl rfl rfl (rtermIn_ac D _ _ w (by omega)) ?_
   rintro _ _ s7 h7 ⟨rfl, rfl⟩
   refine JO_q (QE_mv rfl) rfl ?_
   refine JO_q (QE_ext rfl rfl) rfl ?_
   refine JO_q (QE_ext rfl rfl) rfl ?_
   refine JO_allocZ rfl [_, _] rfl rfl ?_
   intro β8 s8 h8
   refine JO_st 0 [_, _] rfl rfl rfl rfl rfl rfl rfl rfl rfl ?_
   refine JO_q (QE_as rfl) rfl ?_
   refine JO_nil ?_
   refine thenQ_n ?_
   refine JC_seq ?_
   refine JC_region ?_
   refine JO_q (QE_mv rfl) rfl ?_
   refine JO_nil ?_
   refine thenQ_n ?_
   refine JC_if rfl (fun c9 => ?_) (fun c9 => ?_)
   ·
    obtain ⟨tw, htw⟩ := Option.isSome_iff_exists.1 c9
    have hnx := terms_yes hw htw
    have hg : (termW w).getD tmZ = tw := by rw [htw]; rfl
    rw [hg]
    refine JC_region ?_
    refine JO_q (QE_mv rfl) rfl ?_
    refine JO_q (QE_ldA 0 [_, _] rfl rfl rfl rfl rfl) rfl ?_
    refine JO_bs [(_, _)] [_, _] rfl rfl rfl rfl rfl rfl rfl rfl rfl ?_
    intro βn s10 h10 hcb2
    refine JO_app (sz := 2) [_, _] Mo L rfl rfl rfl rfl rfl rfl rfl hO (Row.of_cells (hcb2.le (Le.refl (D := D) _)) rfl rfl) ⟨by simp [ti66]; omega, by omega⟩ rfl ?_
    intro vq Mq s11 h11 oq
    obtain ⟨Avq, cvq, rfl, _, _⟩ := Own.slice oq
    simp only [List.cons_append, List.nil_append]
    refine JO_q (QE_as rfl) rfl ?_
    refine JO_nil ?_
    refine blockQ_n ?_
    refine thenQ_n ?_
    refine JC_region ?_
    refine JO_q (QE_mv rfl) rfl ?_
    refine JO_q (QE_add' rfl rfl (w64 (by omega) (by omega))) rfl ?_
    refine JO_q (QE_as rfl) rfl ?_
    refine JO_nil ?_
    refine thenQ_n ⟨(i + 1, .slice Avq ((termsR (ws.take i)).length + 1) cvq, Mq), [_], (Keeps.cons rfl (Keeps.cons rfl (Keeps.cons rfl (Keeps.cons rfl (Keeps.cons rfl (Keeps.nil _)))))), rfl, ⟨(Le.trans (Le.trans (Le.trans (Le.trans I5.1 h7) h8) h10) h11), by first | exact ⟨by simp only; omega, by simp only; rw [hnx, List.length_append, tmv_snoc]; exact oq⟩ | exact ⟨by simp only; omega, by simp only; rw [hnx]; exact hO⟩⟩, (by simp only; omega)⟩
   ·
    have hnx := terms_no hw c9
    refine JC_skip ?_
    refine blockQ_n ?_
    refine thenQ_n ?_
    refine JC_region ?_
    refine JO_q (QE_mv rfl) rfl ?_
    refine JO_q (QE_add' rfl rfl (w64 (by omega) (by omega))) rfl ?_
    refine JO_q (QE_as rfl) rfl ?_
    refine JO_nil ?_
    refine thenQ_n ⟨(i + 1, vo, Mo), [_], (Keeps.cons rfl (Keeps.cons rfl (Keeps.cons rfl (Keeps.cons rfl (Keeps.cons rfl (Keeps.nil _)))))), rfl, ⟨(Le.trans (Le.trans I5.1 h7) h8), by first | exact ⟨by simp only; omega, by simp only; rw [hnx, List.length_append, tmv_snoc]; exact oq⟩ | exact ⟨by simp only; omega, by simp only; rw [hnx]; exact hO⟩⟩, (by simp only; omega)⟩
  ·
   have hiE : i = n := by omega
   rw [hiE, hn, List.take_length] at hO
   obtain ⟨Ao, co, hvo, _, _⟩ := Own.slice hO
   subst hvo
   refine JC_exit ?_
   refine thenQ_x ?_
   refine thenQ_x ?_
   refine blockQ_x ?_
   refine thenQ_n ?_
   refine JC_seq ?_
   refine JC_pubX [_] Mo _ ?_
   intro s12 h12 hpub12
   simp only [List.cons_append, List.nil_append]
   have hTm : Tms s12 Ao (termsR ws).length co (termsR ws) := Own.tms hO (fun x hx => (terms_good hx).u32) hpub12 rfl
   refine JC_region ?_
   refine JO_q (QE_mv rfl) rfl ?_
   refine JO_call (first := []) (captured := []) rfl rfl rfl (rjoined_ac D _ _ A n c ws (hS.le (Le.trans (Le.trans (Le.trans (Le.trans h1 h2) h3) I5.1) h12)) (by omega)) ?_
   rintro _ _ s13 h13 ⟨rfl, rfl⟩
   refine JO_q (QE_as rfl) rfl ?_
   refine JO_nil ?_
   refine thenQ_n ?_
   refine JC_seq ?_
   refine JC_seq ?_
   refine JC_region ?_
   refine JO_q (QE_as rfl) rfl ?_
   refine JO_nil ?_
   refine thenQ_n ?_
   refine JC_block ?_
   refine JC_loop (γ := Nat) (fun kd => [(2, _), (3, _), (4, _), (8, _), (9, .int .i64 (kd : Int))]) (fun _ => _) (fun kd tw => Le D s13 tw ∧ (kd ≤ 20 ∧ ∀ k tt x y, k < kd → tt < 5 → x < (termsR ws).length → y < (termsR ws).length → ¬ Cand ws k tt x y)) (fun kd => 20 - kd) (fun _ _ _ h hl => ⟨h.1.trans hl, h.2⟩) 0 (Keeps.cons rfl (Keeps.cons rfl (Keeps.cons rfl (Keeps.cons rfl (Keeps.cons rfl (Keeps.nil _)))))) rfl ⟨Le.refl _, ⟨Nat.zero_le _, fun k tt x y h => by omega⟩⟩ ?_
   intro kd s14 I14
   have hk0 := I14.2.1
   have HK := I14.2.2
   refine JC_seq ?_
   refine JC_seq ?_
   refine JC_region ?_
   refine JO_q (QE_mv rfl) rfl ?_
   refine JO_q (QE_lt rfl rfl) rfl ?_
   refine JO_nil ?_
   refine thenQ_n ?_
   refine JC_ifD rfl (fun c15 => ?_) (fun c15 => ?_)
   ·
    have hkd : kd < 20 := by omega
    refine JC_skip ?_
    refine thenQ_n ?_
    refine JC_seq ?_
    refine JC_block ?_
    refine JC_seq ?_
    refine JC_region ?_
    refine JO_q (QE_mv rfl) rfl ?_
    refine JO_call (first := []) (captured := []) rfl rfl rfl (needs_ac D _ _ (kd : Int)) ?_
    rintro _ _ s16 h16 ⟨rfl, rfl⟩
    refine JO_q (QE_as rfl) rfl ?_
    refine JO_nil ?_
    refine thenQ_n ?_
    refine JC_seq ?_
    refine JC_region ?_
    refine JO_q (QE_as rfl) rfl ?_
    refine JO_nil ?_
    refine thenQ_n ?_
    refine JC_block ?_
    refine JC_loop (γ := Nat) (fun tq => [(2, _), (3, _), (4, _), (8, _), (9, _), (10, _), (11, .int .i64 (tq : Int))]) (fun _ => _) (fun tq tw => Le D s16 tw ∧ (tq ≤ 5 ∧ ∀ tt x y, tt < tq → x < (termsR ws).length → y < (termsR ws).length → ¬ Cand ws kd tt x y)) (fun tq => 5 - tq) (fun _ _ _ h hl => ⟨h.1.trans hl, h.2⟩) 0 (Keeps.cons rfl (Keeps.cons rfl (Keeps.cons rfl (Keeps.cons rfl (Keeps.cons rfl (Keeps.cons rfl (Keeps.cons rfl (Keeps.nil _)))))))) rfl ⟨Le.refl _, ⟨Nat.zero_le _, fun tt x y h => by omega⟩⟩ ?_
    intro tq s17 I17
    have ht0 := I17.2.1
    have HT := I17.2.2
    refine JC_seq ?_
    refine JC_seq ?_
    refine JC_region ?_
    refine JO_q (QE_mv rfl) rfl ?_
    refine JO_q (QE_lt rfl rfl) rfl ?_
    refine JO_nil ?_
    refine thenQ_n ?_
    refine JC_ifD rfl (fun c18 => ?_) (fun c18 => ?_)
    ·
     have htq : tq < 5 := by omega
     refine JC_skip ?_
     refine thenQ_n ?_
     refine JC_seq ?_
     refine JC_block ?_
     refine JC_seq ?_
     refine JC_seq ?_
     refine JC_region ?_
     refine JO_q (QE_mv rfl) rfl ?_
     refine JO_q (QE_gt rfl rfl) rfl ?_
     refine JO_q (QE_mv rfl) rfl ?_
     refine JO_caseD (t := 56) rfl (fun c19 => ?_) (fun c19 => ?_)
     ·
      refine JO_gT rfl rfl ?_
      refine JO_q (QE_mv rfl) rfl ?_
      refine JO_gT rfl rfl ?_
      refine JO_call (first := []) (captured := []) rfl rfl rfl (hasT_ac D _ _ (kd : Int)) ?_
      rintro _ _ s20 h20 ⟨rfl, rfl⟩
      refine JO_gT rfl rfl ?_
      refine JO_q (QE_not rfl) rfl ?_
      refine JO_q (QE_pickT rfl rfl) rfl ?_
      refine JO_nil ?_
      refine thenQ_n ?_
      refine JC_ifM rfl (fun c21 => ?_) (fun c21 => ?_)
      ·
       have hsk : usesT (kd : Int) = false := c21
       refine JC_exit ?_
       refine thenQ_x ?_
       refine blockQ_x ?_
       refine thenQ_n ?_
       refine JC_region ?_
       refine JO_q (QE_mv rfl) rfl ?_
       refine JO_q (QE_add' rfl rfl (w64 (by omega) (by omega))) rfl ?_
       refine JO_q (QE_as rfl) rfl ?_
       refine JO_nil ?_
       refine thenQ_n ⟨(tq + 1), [], (Keeps.cons rfl (Keeps.cons rfl (Keeps.cons rfl (Keeps.cons rfl (Keeps.cons rfl (Keeps.cons rfl (Keeps.cons rfl (Keeps.nil _)))))))), rfl, ⟨(Le.trans I17.1 h20), ⟨by omega, fun tt x y h1 h3 h4 => by
         rcases Nat.lt_succ_iff_lt_or_eq.1 h1 with h | rfl
         · exact HT tt x y h h3 h4
         · first
           | exact HX x y (by omega) h4
           | exact fun e => by have h5 := e.1 (by omega); rw [hsk] at h5; cases h5⟩⟩, (by omega)⟩
      ·
       have hcT : 0 < tq → usesT (kd : Int) = true := fun h => by
         first
         | assumption
         | (exfalso; omega)
       refine JC_skip ?_
       refine thenQ_n ?_
       refine JC_seq ?_
       refine JC_region ?_
       refine JO_q (QE_as rfl) rfl ?_
       refine JO_nil ?_
       refine thenQ_n ?_
       refine JC_block ?_
       refine JC_loop (γ := Nat) (fun xq => [(2, _), (3, _), (4, _), (8, _), (9, _), (10, _), (11, _), (12, .int .i64 (xq : Int))]) (fun _ => _) (fun xq tw => Le D s20 tw ∧ (xq ≤ (termsR ws).length ∧ ∀ x y, x < xq → y < (termsR ws).length → ¬ Cand ws kd tq x y)) (fun xq => (termsR ws).length - xq) (fun _ _ _ h hl => ⟨h.1.trans hl, h.2⟩) 0 (Keeps.cons rfl (Keeps.cons rfl (Keeps.cons rfl (Keeps.cons rfl (Keeps.cons rfl (Keeps.cons rfl (Keeps.cons rfl (Keeps.cons rfl (Keeps.nil _))))))))) rfl ⟨Le.refl _, ⟨Nat.zero_le _, fun x y h => by omega⟩⟩ ?_
       intro xq s22 I22
       have hx0 := I22.2.1
       have HX := I22.2.2
       refine JC_seq ?_
       refine JC_seq ?_
       refine JC_region ?_
       refine JO_q (QE_mv rfl) rfl ?_
       refine JO_q (QE_mv rfl) rfl ?_
       refine JO_q (QE_lenS rfl rfl rfl) rfl ?_
       refine JO_q (QE_lt rfl rfl) rfl ?_
       refine JO_nil ?_
       refine thenQ_n ?_
       refine JC_ifD rfl (fun c23 => ?_) (fun c23 => ?_)
       ·
        have hxq : xq < (termsR ws).length := by omega
        obtain ⟨bx, offx, ta, hEx, hta, hcxa, _⟩ := Tms.at_ (hTm.le (Le.trans (Le.trans (Le.trans (Le.trans (Le.trans h13 I14.1) h16) I17.1) h20) I22.1)) hxq
        subst hEx
        have hga := terms_good (List.mem_of_getElem? hta)
        refine JC_skip ?_
        refine thenQ_n ?_
        refine JC_seq ?_
        refine JC_block ?_
        refine JC_seq ?_
        refine JC_seq ?_
        refine JC_region ?_
        refine JO_q (QE_mv rfl) rfl ?_
        refine JO_q (QE_gt rfl rfl) rfl ?_
        refine JO_q (QE_mv rfl) rfl ?_
        refine JO_caseD (t := 69) rfl (fun c24 => ?_) (fun c24 => ?_)
        ·
         refine JO_gT rfl rfl ?_
         refine JO_q (QE_mv rfl) rfl ?_
         refine JO_gT rfl rfl ?_
         refine JO_call (first := []) (captured := []) rfl rfl rfl (hasX_ac D _ _ (kd : Int)) ?_
         rintro _ _ s25 h25 ⟨rfl, rfl⟩
         refine JO_gT rfl rfl ?_
         refine JO_q (QE_not rfl) rfl ?_
         refine JO_q (QE_pickT rfl rfl) rfl ?_
         refine JO_nil ?_
         refine thenQ_n ?_
         refine JC_ifM rfl (fun c26 => ?_) (fun c26 => ?_)
         ·
          have hsk : usesX (kd : Int) = false := c26
          refine JC_exit ?_
          refine thenQ_x ?_
          refine blockQ_x ?_
          refine thenQ_n ?_
          refine JC_region ?_
          refine JO_q (QE_mv rfl) rfl ?_
          refine JO_q (QE_add' rfl rfl (w64 (by omega) (by omega))) rfl ?_
          refine JO_q (QE_as rfl) rfl ?_
          refine JO_nil ?_
          refine thenQ_n ⟨(xq + 1), [], (Keeps.cons rfl (Keeps.cons rfl (Keeps.cons rfl (Keeps.cons rfl (Keeps.cons rfl (Keeps.cons rfl (Keeps.cons rfl (Keeps.cons rfl (Keeps.nil _))))))))), rfl, ⟨(Le.trans I22.1 h25), ⟨by omega, fun x y h1 h4 => by
            rcases Nat.lt_succ_iff_lt_or_eq.1 h1 with h | rfl
            · exact HX x y h h4
            · first
              | exact HY y (by omega)
              | exact fun e => by have h5 := e.2.1; rw [hsk, decide_eq_true (by omega)] at h5; cases h5⟩⟩, (by omega)⟩
         ·
          refine JC_skip ?_
          refine thenQ_n ?_
          refine JC_seq ?_
          refine JC_region ?_
          refine JO_q (QE_as rfl) rfl ?_
          refine JO_nil ?_
          refine thenQ_n ?_
          refine JC_block ?_
          refine JC_loop (γ := Nat) (fun yq => [(2, _), (3, _), (4, _), (8, _), (9, _), (10, _), (11, _), (12, _), (13, .int .i64 (yq : Int))]) (fun _ => _) (fun yq tw => Le D s25 tw ∧ (yq ≤ (termsR ws).length ∧ ∀ y, y < yq → ¬ Cand ws kd tq xq y)) (fun yq => (termsR ws).length - yq) (fun _ _ _ h hl => ⟨h.1.trans hl, h.2⟩) 0 (Keeps.cons rfl (Keeps.cons rfl (Keeps.cons rfl (Keeps.cons rfl (Keeps.cons rfl (Keeps.cons rfl (Keeps.cons rfl (Keeps.cons rfl (Keeps.cons rfl (Keeps.nil _)))))))))) rfl ⟨Le.refl _, ⟨Nat.zero_le _, fun y h => by omega⟩⟩ ?_
          intro yq s27 I27
          have hy0 := I27.2.1
          have HY := I27.2.2
          refine JC_seq ?_
          refine JC_seq ?_
          refine JC_region ?_
          refine JO_q (QE_mv rfl) rfl ?_
          refine JO_q (QE_mv rfl) rfl ?_
          refine JO_q (QE_lenS rfl rfl rfl) rfl ?_
          refine JO_q (QE_lt rfl rfl) rfl ?_
          refine JO_nil ?_
          refine thenQ_n ?_
          refine JC_ifD rfl (fun c28 => ?_) (fun c28 => ?_)
          ·
           have hyq : yq < (termsR ws).length := by omega
           obtain ⟨by2, offy, tb, hEy, htb, hcyb, _⟩ := Tms.at_ (hTm.le (Le.trans (Le.trans (Le.trans (Le.trans (Le.trans (Le.trans (Le.trans h13 I14.1) h16) I17.1) h20) I22.1) h25) I27.1)) hyq
           cases hEy
           have hgb := terms_good (List.mem_of_getElem? htb)
           refine JC_skip ?_
           refine thenQ_n ?_
           refine JC_seq ?_
           refine JC_block ?_
           refine JC_seq ?_
           refine JC_seq ?_
           refine JC_region ?_
           refine JO_q (QE_mv rfl) rfl ?_
           refine JO_q (QE_gt rfl rfl) rfl ?_
           refine JO_q (QE_mv rfl) rfl ?_
           refine JO_caseD (t := 82) rfl (fun c29 => ?_) (fun c29 => ?_)
           ·
            refine JO_gT rfl rfl ?_
            refine JO_q (QE_mv rfl) rfl ?_
            refine JO_gT rfl rfl ?_
            refine JO_call (first := []) (captured := []) rfl rfl rfl (hasY_ac D _ _ (kd : Int)) ?_
            rintro _ _ s30 h30 ⟨rfl, rfl⟩
            refine JO_gT rfl rfl ?_
            refine JO_q (QE_not rfl) rfl ?_
            refine JO_q (QE_pickT rfl rfl) rfl ?_
            refine JO_nil ?_
            refine thenQ_n ?_
            refine JC_ifM rfl (fun c31 => ?_) (fun c31 => ?_)
            ·
             have hsk : usesY (kd : Int) = false := c31
             refine JC_exit ?_
             refine thenQ_x ?_
             refine blockQ_x ?_
             refine thenQ_n ?_
             refine JC_region ?_
             refine JO_q (QE_mv rfl) rfl ?_
             refine JO_q (QE_add' rfl rfl (w64 (by omega) (by omega))) rfl ?_
             refine JO_q (QE_as rfl) rfl ?_
             refine JO_nil ?_
             refine thenQ_n ⟨(yq + 1), [], (Keeps.cons rfl (Keeps.cons rfl (Keeps.cons rfl (Keeps.cons rfl (Keeps.cons rfl (Keeps.cons rfl (Keeps.cons rfl (Keeps.cons rfl (Keeps.cons rfl (Keeps.nil _)))))))))), rfl, ⟨(Le.trans I27.1 h30), ⟨by omega, fun y h1 => by
               rcases Nat.lt_succ_iff_lt_or_eq.1 h1 with h | rfl
               · exact HY y h
               · first
                 | exact hNC
                 | exact fun e => by have h5 := e.2.2.1; rw [hsk, decide_eq_true (by omega)] at h5; cases h5⟩⟩, (by omega)⟩
            ·
             refine JC_skip ?_
             refine thenQ_n ?_
             refine JC_seq ?_
             refine JC_draw drawsMixed 13 rfl _ (fun _ h => h) ?_
             intro s32 h32
             refine JA_q 0 rfl (by kernel_rfl) (by kernel_rfl) (by kernel_rfl) trivial (QE_mv rfl) rfl ?_
             refine JA_q 1 rfl (by kernel_rfl) (by kernel_rfl) (by kernel_rfl) trivial (QE_mv rfl) rfl ?_
             refine JA_q 2 rfl (by kernel_rfl) (by kernel_rfl) (by kernel_rfl) trivial (QE_mv rfl) rfl ?_
             refine JA_q 3 rfl (by kernel_rfl) (by kernel_rfl) (by kernel_rfl) trivial (QE_mv rfl) rfl ?_
             refine JA_q 4 rfl (by kernel_rfl) (by kernel_rfl) (by kernel_rfl) trivial (QE_iaN rfl rfl rfl rfl rfl rfl hxq) rfl ?_
             refine JA_q 5 rfl (by kernel_rfl) (by kernel_rfl) (by kernel_rfl) trivial (QE_ldsA rfl rfl rfl (hcxa.le (Le.trans (Le.trans (Le.trans h25 I27.1) h30) h32)) rfl) rfl ?_
             refine JA_q 6 rfl (by kernel_rfl) (by kernel_rfl) (by kernel_rfl) trivial (QE_mv rfl) rfl ?_
             refine JA_q 7 rfl (by kernel_rfl) (by kernel_rfl) (by kernel_rfl) trivial (QE_mv rfl) rfl ?_
             refine JA_q 8 rfl (by kernel_rfl) (by kernel_rfl) (by kernel_rfl) trivial (QE_iaN rfl rfl rfl rfl rfl rfl hyq) rfl ?_
             refine JA_q 9 rfl (by kernel_rfl) (by kernel_rfl) (by kernel_rfl) trivial (QE_ldsA rfl rfl rfl (hcyb.le (Le.trans h30 h32)) rfl) rfl ?_
             refine JA_q 10 rfl (by kernel_rfl) (by kernel_rfl) (by kernel_rfl) trivial (QE_build [(_, _), (_, _), (_, _), (_, _)] [_, _, _, _, _, _] rfl rfl rfl rfl rfl rfl) rfl ?_
             refine JA_1 11 (by kernel_rfl) ?_
             refine JB_alloc rfl trivial rfl [_, _, _, _, _, _] rfl rfl ?_
             intro β33 s33 h33
             refine JA_1 12 (by kernel_rfl) ?_
             refine JB_st rfl trivial 0 [_, _, _, _, _, _] rfl rfl rfl rfl rfl rfl rfl rfl rfl (fun _ hx => sub_mem (sbY (sbE _)) hx) ?_
             refine JA_done (by kernel_rfl) ?_
             refine thenQ_n ?_
             refine JC_seq ?_
             refine JC_region ?_
             refine JO_q (QE_mv rfl) rfl ?_
             refine JO_call (first := []) (captured := []) rfl rfl rfl (hasX_ac D _ _ (kd : Int)) ?_
             rintro _ _ s34 h34 ⟨rfl, rfl⟩
             refine JO_q (QE_mv rfl) rfl ?_
             refine JO_q (QE_cast (v' := .bool (decide (0 < xq))) (QE_gt rfl rfl) (congrArg Value.bool (decide_eq_decide.2 (by omega)))) rfl ?_
             refine JO_q (QE_beq rfl rfl rfl rfl) rfl ?_
             refine JO_q (QE_mv rfl) rfl ?_
             refine JO_caseD (t := 103) rfl (fun c35 => ?_) (fun c35 => ?_)
             ·
              refine JO_gT rfl rfl ?_
              refine JO_q (QE_mv rfl) rfl ?_
              refine JO_gT rfl rfl ?_
              refine JO_call (first := []) (captured := []) rfl rfl rfl (hasY_ac D _ _ (kd : Int)) ?_
              rintro _ _ s36 h36 ⟨rfl, rfl⟩
              refine JO_gT rfl rfl ?_
              refine JO_q (QE_mv rfl) rfl ?_
              refine JO_gT rfl rfl ?_
              refine JO_q (QE_cast (v' := .bool (decide (0 < yq))) (QE_gt rfl rfl) (congrArg Value.bool (decide_eq_decide.2 (by omega)))) rfl ?_
              refine JO_gT rfl rfl ?_
              refine JO_q (QE_beq rfl rfl rfl rfl) rfl ?_
              refine JO_q (QE_pickT rfl rfl) rfl ?_
              refine JO_q (QE_mv rfl) rfl ?_
              refine JO_caseD (t := 110) rfl (fun c37 => ?_) (fun c37 => ?_)
              ·
               refine JO_gT rfl rfl ?_
               refine JO_q (QE_ldA 0 [_, _, _, _, _, _] rfl rfl rfl rfl rfl) rfl ?_
               refine JO_gT rfl rfl ?_
               refine JO_call (first := []) (captured := []) rfl rfl rfl (rsent_ac D _ _ ⟨(kd : Int), (tq : Int), ta, tb⟩ ⟨by simp only; omega, by simp only; omega⟩ ⟨⟨by simp only; omega, by simp only; omega⟩, hga, hgb⟩) ?_
               rintro _ _ s38 h38 ⟨rfl, rfl⟩
               refine JO_gT rfl rfl ?_
               refine JO_q (QE_mv rfl) rfl ?_
               refine JO_gT rfl rfl ?_
               refine JO_q (QE_seq rfl rfl) rfl ?_
               refine JO_q (QE_pickT rfl rfl) rfl ?_
               refine JO_nil ?_
               refine thenQ_n ?_
               refine JC_ifD rfl (fun c39 => ?_) (fun c39 => ?_)
               ·
                have hR := cand_rd (ws := ws) hb hkd htq hcT (by assumption) (by assumption) hta htb (by assumption)
                refine JC_seq ?_
                refine JC_region ?_
                refine JO_q (QE_ldA 0 [_, _, _, _, _, _] rfl rfl rfl rfl rfl) rfl ?_
                refine JO_st 1 [_, _, _, _, _, _] rfl rfl rfl rfl rfl rfl rfl rfl rfl ?_
                refine JO_q (QE_as rfl) rfl ?_
                refine JO_nil ?_
                refine thenQ_n ?_
                refine JC_ret ?_
                refine blockQ_r ?_
                refine thenQ_r ?_
                refine thenQ_r ?_
                refine blockQ_r ?_
                refine blockQ_r ?_
                refine thenQ_r ?_
                refine thenQ_r ?_
                refine blockQ_r ?_
                refine blockQ_r ?_
                refine thenQ_r ?_
                refine thenQ_r ?_
                refine blockQ_r ?_
                refine blockQ_r ?_
                refine thenQ_r ?_
                refine thenQ_r ?_
                refine blockQ_r ?_
                refine thenQ_r ?_
                refine retQ_mk [_, _] L (.inr rfl) (.agg (us := [_, _, _, _, _, _]) 1 rfl rfl rfl rfl rfl (.tmp rfl (.nil))) rfl (Le.trans (Le.trans (Le.trans (Le.trans (Le.trans (Le.trans (Le.trans (Le.trans (Le.trans (Le.trans (Le.trans (Le.trans (Le.trans (Le.trans (Le.trans (Le.trans (Le.trans (Le.trans h1 h2) h3) I5.1) h12) h13) I14.1) h16) I17.1) h20) I22.1) h25) I27.1) h30) h32) h33) h34) h36) h38) (fun sR hS2 => ?_)
                exact ⟨_, rfl, by rw [hR]; rfl, rfl⟩
               ·
                have hNC : ¬ Cand ws kd tq xq yq := by
                  rintro ⟨e1, e2, e3, a2, b2, e4, e5, e6⟩
                  first
                  | exact absurd e2 (by assumption)
                  | exact absurd e3 (by assumption)
                  | (rw [hta] at e4; rw [htb] at e5; cases e4; cases e5; exact absurd e6 (by assumption))
                refine JC_skip ?_
                refine blockQ_n ?_
                refine thenQ_n ?_
                refine JC_region ?_
                refine JO_q (QE_mv rfl) rfl ?_
                refine JO_q (QE_add' rfl rfl (w64 (by omega) (by omega))) rfl ?_
                refine JO_q (QE_as rfl) rfl ?_
                refine JO_nil ?_
                refine thenQ_n ⟨(yq + 1), [_], (Keeps.cons rfl (Keeps.cons rfl (Keeps.cons rfl (Keeps.cons rfl (Keeps.cons rfl (Keeps.cons rfl (Keeps.cons rfl (Keeps.cons rfl (Keeps.cons rfl (Keeps.nil _)))))))))), rfl, ⟨(Le.trans (Le.trans (Le.trans (Le.trans (Le.trans (Le.trans I27.1 h30) h32) h33) h34) h36) h38), ⟨by omega, fun y h1 => by
                  rcases Nat.lt_succ_iff_lt_or_eq.1 h1 with h | rfl
                  · exact HY y h
                  · first
                    | exact hNC
                    | exact fun e => by have h5 := e.2.2.1; rw [hsk, decide_eq_true (by omega)] at h5; cases h5⟩⟩, (by omega)⟩
              ·
               refine JO_gF rfl rfl rfl rfl ?_
               refine JO_gF rfl rfl rfl rfl ?_
               refine JO_gF rfl rfl rfl rfl ?_
               refine JO_gF rfl rfl rfl rfl ?_
               refine JO_q (QE_pickF rfl rfl) rfl ?_
               refine JO_nil ?_
               refine thenQ_n ?_
               refine JC_ifF rfl ?_
               have hNC : ¬ Cand ws kd tq xq yq := by
                 rintro ⟨e1, e2, e3, a2, b2, e4, e5, e6⟩
                 first
                 | exact absurd e2 (by assumption)
                 | exact absurd e3 (by assumption)
                 | (rw [hta] at e4; rw [htb] at e5; cases e4; cases e5; exact absurd e6 (by assumption))
               refine JC_skip ?_
               refine blockQ_n ?_
               refine thenQ_n ?_
               refine JC_region ?_
               refine JO_q (QE_mv rfl) rfl ?_
               refine JO_q (QE_add' rfl rfl (w64 (by omega) (by omega))) rfl ?_
               refine JO_q (QE_as rfl) rfl ?_
               refine JO_nil ?_
               refine thenQ_n ⟨(yq + 1), [_], (Keeps.cons rfl (Keeps.cons rfl (Keeps.cons rfl (Keeps.cons rfl (Keeps.cons rfl (Keeps.cons rfl (Keeps.cons rfl (Keeps.cons rfl (Keeps.cons rfl (Keeps.nil _)))))))))), rfl, ⟨(Le.trans (Le.trans (Le.trans (Le.trans (Le.trans I27.1 h30) h32) h33) h34) h36), ⟨by omega, fun y h1 => by
                 rcases Nat.lt_succ_iff_lt_or_eq.1 h1 with h | rfl
                 · exact HY y h
                 · first
                   | exact hNC
                   | exact fun e => by have h5 := e.2.2.1; rw [hsk, decide_eq_true (by omega)] at h5; cases h5⟩⟩, (by omega)⟩
             ·
              refine JO_gF rfl rfl rfl rfl ?_
              refine JO_gF rfl rfl rfl rfl ?_
              refine JO_gF rfl rfl rfl rfl ?_
              refine JO_gF rfl rfl rfl rfl ?_
              refine JO_gF rfl rfl rfl rfl ?_
              refine JO_q (QE_pickF rfl rfl) rfl ?_
              refine JO_q (QE_mv rfl) rfl ?_
              refine JO_gF rfl rfl rfl rfl ?_
              refine JO_gF rfl rfl rfl rfl ?_
              refine JO_gF rfl rfl rfl rfl ?_
              refine JO_gF rfl rfl rfl rfl ?_
              refine JO_q (QE_pickF rfl rfl) rfl ?_
              refine JO_nil ?_
              refine thenQ_n ?_
              refine JC_ifF rfl ?_
              have hNC : ¬ Cand ws kd tq xq yq := by
                rintro ⟨e1, e2, e3, a2, b2, e4, e5, e6⟩
                first
                | exact absurd e2 (by assumption)
                | exact absurd e3 (by assumption)
                | (rw [hta] at e4; rw [htb] at e5; cases e4; cases e5; exact absurd e6 (by assumption))
              refine JC_skip ?_
              refine blockQ_n ?_
              refine thenQ_n ?_
              refine JC_region ?_
              refine JO_q (QE_mv rfl) rfl ?_
              refine JO_q (QE_add' rfl rfl (w64 (by omega) (by omega))) rfl ?_
              refine JO_q (QE_as rfl) rfl ?_
              refine JO_nil ?_
              refine thenQ_n ⟨(yq + 1), [_], (Keeps.cons rfl (Keeps.cons rfl (Keeps.cons rfl (Keeps.cons rfl (Keeps.cons rfl (Keeps.cons rfl (Keeps.cons rfl (Keeps.cons rfl (Keeps.cons rfl (Keeps.nil _)))))))))), rfl, ⟨(Le.trans (Le.trans (Le.trans (Le.trans I27.1 h30) h32) h33) h34), ⟨by omega, fun y h1 => by
                rcases Nat.lt_succ_iff_lt_or_eq.1 h1 with h | rfl
                · exact HY y h
                · first
                  | exact hNC
                  | exact fun e => by have h5 := e.2.2.1; rw [hsk, decide_eq_true (by omega)] at h5; cases h5⟩⟩, (by omega)⟩
           ·
            refine JO_gF rfl rfl rfl rfl ?_
            refine JO_gF rfl rfl rfl rfl ?_
            refine JO_gF rfl rfl rfl rfl ?_
            refine JO_q (QE_pickF rfl rfl) rfl ?_
            refine JO_nil ?_
            refine thenQ_n ?_
            refine JC_ifF rfl ?_
            refine JC_skip ?_
            refine thenQ_n ?_
            refine JC_seq ?_
            refine JC_draw drawsMixed 13 rfl _ (fun _ h => h) ?_
            intro s40 h40
            refine JA_q 0 rfl (by kernel_rfl) (by kernel_rfl) (by kernel_rfl) trivial (QE_mv rfl) rfl ?_
            refine JA_q 1 rfl (by kernel_rfl) (by kernel_rfl) (by kernel_rfl) trivial (QE_mv rfl) rfl ?_
            refine JA_q 2 rfl (by kernel_rfl) (by kernel_rfl) (by kernel_rfl) trivial (QE_mv rfl) rfl ?_
            refine JA_q 3 rfl (by kernel_rfl) (by kernel_rfl) (by kernel_rfl) trivial (QE_mv rfl) rfl ?_
            refine JA_q 4 rfl (by kernel_rfl) (by kernel_rfl) (by kernel_rfl) trivial (QE_iaN rfl rfl rfl rfl rfl rfl hxq) rfl ?_
            refine JA_q 5 rfl (by kernel_rfl) (by kernel_rfl) (by kernel_rfl) trivial (QE_ldsA rfl rfl rfl (hcxa.le (Le.trans (Le.trans h25 I27.1) h40)) rfl) rfl ?_
            refine JA_q 6 rfl (by kernel_rfl) (by kernel_rfl) (by kernel_rfl) trivial (QE_mv rfl) rfl ?_
            refine JA_q 7 rfl (by kernel_rfl) (by kernel_rfl) (by kernel_rfl) trivial (QE_mv rfl) rfl ?_
            refine JA_q 8 rfl (by kernel_rfl) (by kernel_rfl) (by kernel_rfl) trivial (QE_iaN rfl rfl rfl rfl rfl rfl hyq) rfl ?_
            refine JA_q 9 rfl (by kernel_rfl) (by kernel_rfl) (by kernel_rfl) trivial (QE_ldsA rfl rfl rfl (hcyb.le h40) rfl) rfl ?_
            refine JA_q 10 rfl (by kernel_rfl) (by kernel_rfl) (by kernel_rfl) trivial (QE_build [(_, _), (_, _), (_, _), (_, _)] [_, _, _, _, _, _] rfl rfl rfl rfl rfl rfl) rfl ?_
            refine JA_1 11 (by kernel_rfl) ?_
            refine JB_alloc rfl trivial rfl [_, _, _, _, _, _] rfl rfl ?_
            intro β41 s41 h41
            refine JA_1 12 (by kernel_rfl) ?_
            refine JB_st rfl trivial 0 [_, _, _, _, _, _] rfl rfl rfl rfl rfl rfl rfl rfl rfl (fun _ hx => sub_mem (sbY (sbE _)) hx) ?_
            refine JA_done (by kernel_rfl) ?_
            refine thenQ_n ?_
            refine JC_seq ?_
            refine JC_region ?_
            refine JO_q (QE_mv rfl) rfl ?_
            refine JO_call (first := []) (captured := []) rfl rfl rfl (hasX_ac D _ _ (kd : Int)) ?_
            rintro _ _ s42 h42 ⟨rfl, rfl⟩
            refine JO_q (QE_mv rfl) rfl ?_
            refine JO_q (QE_cast (v' := .bool (decide (0 < xq))) (QE_gt rfl rfl) (congrArg Value.bool (decide_eq_decide.2 (by omega)))) rfl ?_
            refine JO_q (QE_beq rfl rfl rfl rfl) rfl ?_
            refine JO_q (QE_mv rfl) rfl ?_
            refine JO_caseD (t := 103) rfl (fun c43 => ?_) (fun c43 => ?_)
            ·
             refine JO_gT rfl rfl ?_
             refine JO_q (QE_mv rfl) rfl ?_
             refine JO_gT rfl rfl ?_
             refine JO_call (first := []) (captured := []) rfl rfl rfl (hasY_ac D _ _ (kd : Int)) ?_
             rintro _ _ s44 h44 ⟨rfl, rfl⟩
             refine JO_gT rfl rfl ?_
             refine JO_q (QE_mv rfl) rfl ?_
             refine JO_gT rfl rfl ?_
             refine JO_q (QE_cast (v' := .bool (decide (0 < yq))) (QE_gt rfl rfl) (congrArg Value.bool (decide_eq_decide.2 (by omega)))) rfl ?_
             refine JO_gT rfl rfl ?_
             refine JO_q (QE_beq rfl rfl rfl rfl) rfl ?_
             refine JO_q (QE_pickT rfl rfl) rfl ?_
             refine JO_q (QE_mv rfl) rfl ?_
             refine JO_caseD (t := 110) rfl (fun c45 => ?_) (fun c45 => ?_)
             ·
              refine JO_gT rfl rfl ?_
              refine JO_q (QE_ldA 0 [_, _, _, _, _, _] rfl rfl rfl rfl rfl) rfl ?_
              refine JO_gT rfl rfl ?_
              refine JO_call (first := []) (captured := []) rfl rfl rfl (rsent_ac D _ _ ⟨(kd : Int), (tq : Int), ta, tb⟩ ⟨by simp only; omega, by simp only; omega⟩ ⟨⟨by simp only; omega, by simp only; omega⟩, hga, hgb⟩) ?_
              rintro _ _ s46 h46 ⟨rfl, rfl⟩
              refine JO_gT rfl rfl ?_
              refine JO_q (QE_mv rfl) rfl ?_
              refine JO_gT rfl rfl ?_
              refine JO_q (QE_seq rfl rfl) rfl ?_
              refine JO_q (QE_pickT rfl rfl) rfl ?_
              refine JO_nil ?_
              refine thenQ_n ?_
              refine JC_ifD rfl (fun c47 => ?_) (fun c47 => ?_)
              ·
               have hR := cand_rd (ws := ws) hb hkd htq hcT (by assumption) (by assumption) hta htb (by assumption)
               refine JC_seq ?_
               refine JC_region ?_
               refine JO_q (QE_ldA 0 [_, _, _, _, _, _] rfl rfl rfl rfl rfl) rfl ?_
               refine JO_st 1 [_, _, _, _, _, _] rfl rfl rfl rfl rfl rfl rfl rfl rfl ?_
               refine JO_q (QE_as rfl) rfl ?_
               refine JO_nil ?_
               refine thenQ_n ?_
               refine JC_ret ?_
               refine blockQ_r ?_
               refine thenQ_r ?_
               refine thenQ_r ?_
               refine blockQ_r ?_
               refine blockQ_r ?_
               refine thenQ_r ?_
               refine thenQ_r ?_
               refine blockQ_r ?_
               refine blockQ_r ?_
               refine thenQ_r ?_
               refine thenQ_r ?_
               refine blockQ_r ?_
               refine blockQ_r ?_
               refine thenQ_r ?_
               refine thenQ_r ?_
               refine blockQ_r ?_
               refine thenQ_r ?_
               refine retQ_mk [_, _] L (.inr rfl) (.agg (us := [_, _, _, _, _, _]) 1 rfl rfl rfl rfl rfl (.tmp rfl (.nil))) rfl (Le.trans (Le.trans (Le.trans (Le.trans (Le.trans (Le.trans (Le.trans (Le.trans (Le.trans (Le.trans (Le.trans (Le.trans (Le.trans (Le.trans (Le.trans (Le.trans (Le.trans h1 h2) h3) I5.1) h12) h13) I14.1) h16) I17.1) h20) I22.1) h25) I27.1) h40) h41) h42) h44) h46) (fun sR hS2 => ?_)
               exact ⟨_, rfl, by rw [hR]; rfl, rfl⟩
              ·
               have hNC : ¬ Cand ws kd tq xq yq := by
                 rintro ⟨e1, e2, e3, a2, b2, e4, e5, e6⟩
                 first
                 | exact absurd e2 (by assumption)
                 | exact absurd e3 (by assumption)
                 | (rw [hta] at e4; rw [htb] at e5; cases e4; cases e5; exact absurd e6 (by assumption))
               refine JC_skip ?_
               refine blockQ_n ?_
               refine thenQ_n ?_
               refine JC_region ?_
               refine JO_q (QE_mv rfl) rfl ?_
               refine JO_q (QE_add' rfl rfl (w64 (by omega) (by omega))) rfl ?_
               refine JO_q (QE_as rfl) rfl ?_
               refine JO_nil ?_
               refine thenQ_n ⟨(yq + 1), [_], (Keeps.cons rfl (Keeps.cons rfl (Keeps.cons rfl (Keeps.cons rfl (Keeps.cons rfl (Keeps.cons rfl (Keeps.cons rfl (Keeps.cons rfl (Keeps.cons rfl (Keeps.nil _)))))))))), rfl, ⟨(Le.trans (Le.trans (Le.trans (Le.trans (Le.trans I27.1 h40) h41) h42) h44) h46), ⟨by omega, fun y h1 => by
                 rcases Nat.lt_succ_iff_lt_or_eq.1 h1 with h | rfl
                 · exact HY y h
                 · first
                   | exact hNC
                   | exact fun e => by have h5 := e.2.2.1; rw [hsk, decide_eq_true (by omega)] at h5; cases h5⟩⟩, (by omega)⟩
             ·
              refine JO_gF rfl rfl rfl rfl ?_
              refine JO_gF rfl rfl rfl rfl ?_
              refine JO_gF rfl rfl rfl rfl ?_
              refine JO_gF rfl rfl rfl rfl ?_
              refine JO_q (QE_pickF rfl rfl) rfl ?_
              refine JO_nil ?_
              refine thenQ_n ?_
              refine JC_ifF rfl ?_
              have hNC : ¬ Cand ws kd tq xq yq := by
                rintro ⟨e1, e2, e3, a2, b2, e4, e5, e6⟩
                first
                | exact absurd e2 (by assumption)
                | exact absurd e3 (by assumption)
                | (rw [hta] at e4; rw [htb] at e5; cases e4; cases e5; exact absurd e6 (by assumption))
              refine JC_skip ?_
              refine blockQ_n ?_
              refine thenQ_n ?_
              refine JC_region ?_
              refine JO_q (QE_mv rfl) rfl ?_
              refine JO_q (QE_add' rfl rfl (w64 (by omega) (by omega))) rfl ?_
              refine JO_q (QE_as rfl) rfl ?_
              refine JO_nil ?_
              refine thenQ_n ⟨(yq + 1), [_], (Keeps.cons rfl (Keeps.cons rfl (Keeps.cons rfl (Keeps.cons rfl (Keeps.cons rfl (Keeps.cons rfl (Keeps.cons rfl (Keeps.cons rfl (Keeps.cons rfl (Keeps.nil _)))))))))), rfl, ⟨(Le.trans (Le.trans (Le.trans (Le.trans I27.1 h40) h41) h42) h44), ⟨by omega, fun y h1 => by
                rcases Nat.lt_succ_iff_lt_or_eq.1 h1 with h | rfl
                · exact HY y h
                · first
                  | exact hNC
                  | exact fun e => by have h5 := e.2.2.1; rw [hsk, decide_eq_true (by omega)] at h5; cases h5⟩⟩, (by omega)⟩
            ·
             refine JO_gF rfl rfl rfl rfl ?_
             refine JO_gF rfl rfl rfl rfl ?_
             refine JO_gF rfl rfl rfl rfl ?_
             refine JO_gF rfl rfl rfl rfl ?_
             refine JO_gF rfl rfl rfl rfl ?_
             refine JO_q (QE_pickF rfl rfl) rfl ?_
             refine JO_q (QE_mv rfl) rfl ?_
             refine JO_gF rfl rfl rfl rfl ?_
             refine JO_gF rfl rfl rfl rfl ?_
             refine JO_gF rfl rfl rfl rfl ?_
             refine JO_gF rfl rfl rfl rfl ?_
             refine JO_q (QE_pickF rfl rfl) rfl ?_
             refine JO_nil ?_
             refine thenQ_n ?_
             refine JC_ifF rfl ?_
             have hNC : ¬ Cand ws kd tq xq yq := by
               rintro ⟨e1, e2, e3, a2, b2, e4, e5, e6⟩
               first
               | exact absurd e2 (by assumption)
               | exact absurd e3 (by assumption)
               | (rw [hta] at e4; rw [htb] at e5; cases e4; cases e5; exact absurd e6 (by assumption))
             refine JC_skip ?_
             refine blockQ_n ?_
             refine thenQ_n ?_
             refine JC_region ?_
             refine JO_q (QE_mv rfl) rfl ?_
             refine JO_q (QE_add' rfl rfl (w64 (by omega) (by omega))) rfl ?_
             refine JO_q (QE_as rfl) rfl ?_
             refine JO_nil ?_
             refine thenQ_n ⟨(yq + 1), [_], (Keeps.cons rfl (Keeps.cons rfl (Keeps.cons rfl (Keeps.cons rfl (Keeps.cons rfl (Keeps.cons rfl (Keeps.cons rfl (Keeps.cons rfl (Keeps.cons rfl (Keeps.nil _)))))))))), rfl, ⟨(Le.trans (Le.trans (Le.trans I27.1 h40) h41) h42), ⟨by omega, fun y h1 => by
               rcases Nat.lt_succ_iff_lt_or_eq.1 h1 with h | rfl
               · exact HY y h
               · first
                 | exact hNC
                 | exact fun e => by have h5 := e.2.2.1; rw [hsk, decide_eq_true (by omega)] at h5; cases h5⟩⟩, (by omega)⟩
          ·
           have hyq : yq = (termsR ws).length := by omega
           refine JC_exit ?_
           refine thenQ_x ?_
           refine thenQ_x ?_
           refine blockQ_x ?_
           refine blockQ_n ?_
           refine thenQ_n ?_
           refine JC_region ?_
           refine JO_q (QE_mv rfl) rfl ?_
           refine JO_q (QE_add' rfl rfl (w64 (by omega) (by omega))) rfl ?_
           refine JO_q (QE_as rfl) rfl ?_
           refine JO_nil ?_
           refine thenQ_n ⟨(xq + 1), [], (Keeps.cons rfl (Keeps.cons rfl (Keeps.cons rfl (Keeps.cons rfl (Keeps.cons rfl (Keeps.cons rfl (Keeps.cons rfl (Keeps.cons rfl (Keeps.nil _))))))))), rfl, ⟨(Le.trans (Le.trans I22.1 h25) I27.1), ⟨by omega, fun x y h1 h4 => by
             rcases Nat.lt_succ_iff_lt_or_eq.1 h1 with h | rfl
             · exact HX x y h h4
             · first
               | exact HY y (by omega)
               | exact fun e => by have h5 := e.2.1; rw [hsk, decide_eq_true (by omega)] at h5; cases h5⟩⟩, (by omega)⟩
        ·
         refine JO_gF rfl rfl rfl rfl ?_
         refine JO_gF rfl rfl rfl rfl ?_
         refine JO_gF rfl rfl rfl rfl ?_
         refine JO_q (QE_pickF rfl rfl) rfl ?_
         refine JO_nil ?_
         refine thenQ_n ?_
         refine JC_ifF rfl ?_
         refine JC_skip ?_
         refine thenQ_n ?_
         refine JC_seq ?_
         refine JC_region ?_
         refine JO_q (QE_as rfl) rfl ?_
         refine JO_nil ?_
         refine thenQ_n ?_
         refine JC_block ?_
         refine JC_loop (γ := Nat) (fun yq => [(2, _), (3, _), (4, _), (8, _), (9, _), (10, _), (11, _), (12, _), (13, .int .i64 (yq : Int))]) (fun _ => _) (fun yq tw => Le D s22 tw ∧ (yq ≤ (termsR ws).length ∧ ∀ y, y < yq → ¬ Cand ws kd tq xq y)) (fun yq => (termsR ws).length - yq) (fun _ _ _ h hl => ⟨h.1.trans hl, h.2⟩) 0 (Keeps.cons rfl (Keeps.cons rfl (Keeps.cons rfl (Keeps.cons rfl (Keeps.cons rfl (Keeps.cons rfl (Keeps.cons rfl (Keeps.cons rfl (Keeps.cons rfl (Keeps.nil _)))))))))) rfl ⟨Le.refl _, ⟨Nat.zero_le _, fun y h => by omega⟩⟩ ?_
         intro yq s48 I48
         have hy0 := I48.2.1
         have HY := I48.2.2
         refine JC_seq ?_
         refine JC_seq ?_
         refine JC_region ?_
         refine JO_q (QE_mv rfl) rfl ?_
         refine JO_q (QE_mv rfl) rfl ?_
         refine JO_q (QE_lenS rfl rfl rfl) rfl ?_
         refine JO_q (QE_lt rfl rfl) rfl ?_
         refine JO_nil ?_
         refine thenQ_n ?_
         refine JC_ifD rfl (fun c49 => ?_) (fun c49 => ?_)
         ·
          have hyq : yq < (termsR ws).length := by omega
          obtain ⟨by2, offy, tb, hEy, htb, hcyb, _⟩ := Tms.at_ (hTm.le (Le.trans (Le.trans (Le.trans (Le.trans (Le.trans (Le.trans h13 I14.1) h16) I17.1) h20) I22.1) I48.1)) hyq
          cases hEy
          have hgb := terms_good (List.mem_of_getElem? htb)
          refine JC_skip ?_
          refine thenQ_n ?_
          refine JC_seq ?_
          refine JC_block ?_
          refine JC_seq ?_
          refine JC_seq ?_
          refine JC_region ?_
          refine JO_q (QE_mv rfl) rfl ?_
          refine JO_q (QE_gt rfl rfl) rfl ?_
          refine JO_q (QE_mv rfl) rfl ?_
          refine JO_caseD (t := 82) rfl (fun c50 => ?_) (fun c50 => ?_)
          ·
           refine JO_gT rfl rfl ?_
           refine JO_q (QE_mv rfl) rfl ?_
           refine JO_gT rfl rfl ?_
           refine JO_call (first := []) (captured := []) rfl rfl rfl (hasY_ac D _ _ (kd : Int)) ?_
           rintro _ _ s51 h51 ⟨rfl, rfl⟩
           refine JO_gT rfl rfl ?_
           refine JO_q (QE_not rfl) rfl ?_
           refine JO_q (QE_pickT rfl rfl) rfl ?_
           refine JO_nil ?_
           refine thenQ_n ?_
           refine JC_ifM rfl (fun c52 => ?_) (fun c52 => ?_)
           ·
            have hsk : usesY (kd : Int) = false := c52
            refine JC_exit ?_
            refine thenQ_x ?_
            refine blockQ_x ?_
            refine thenQ_n ?_
            refine JC_region ?_
            refine JO_q (QE_mv rfl) rfl ?_
            refine JO_q (QE_add' rfl rfl (w64 (by omega) (by omega))) rfl ?_
            refine JO_q (QE_as rfl) rfl ?_
            refine JO_nil ?_
            refine thenQ_n ⟨(yq + 1), [], (Keeps.cons rfl (Keeps.cons rfl (Keeps.cons rfl (Keeps.cons rfl (Keeps.cons rfl (Keeps.cons rfl (Keeps.cons rfl (Keeps.cons rfl (Keeps.cons rfl (Keeps.nil _)))))))))), rfl, ⟨(Le.trans I48.1 h51), ⟨by omega, fun y h1 => by
              rcases Nat.lt_succ_iff_lt_or_eq.1 h1 with h | rfl
              · exact HY y h
              · first
                | exact hNC
                | exact fun e => by have h5 := e.2.2.1; rw [hsk, decide_eq_true (by omega)] at h5; cases h5⟩⟩, (by omega)⟩
           ·
            refine JC_skip ?_
            refine thenQ_n ?_
            refine JC_seq ?_
            refine JC_draw drawsMixed 13 rfl _ (fun _ h => h) ?_
            intro s53 h53
            refine JA_q 0 rfl (by kernel_rfl) (by kernel_rfl) (by kernel_rfl) trivial (QE_mv rfl) rfl ?_
            refine JA_q 1 rfl (by kernel_rfl) (by kernel_rfl) (by kernel_rfl) trivial (QE_mv rfl) rfl ?_
            refine JA_q 2 rfl (by kernel_rfl) (by kernel_rfl) (by kernel_rfl) trivial (QE_mv rfl) rfl ?_
            refine JA_q 3 rfl (by kernel_rfl) (by kernel_rfl) (by kernel_rfl) trivial (QE_mv rfl) rfl ?_
            refine JA_q 4 rfl (by kernel_rfl) (by kernel_rfl) (by kernel_rfl) trivial (QE_iaN rfl rfl rfl rfl rfl rfl hxq) rfl ?_
            refine JA_q 5 rfl (by kernel_rfl) (by kernel_rfl) (by kernel_rfl) trivial (QE_ldsA rfl rfl rfl (hcxa.le (Le.trans (Le.trans I48.1 h51) h53)) rfl) rfl ?_
            refine JA_q 6 rfl (by kernel_rfl) (by kernel_rfl) (by kernel_rfl) trivial (QE_mv rfl) rfl ?_
            refine JA_q 7 rfl (by kernel_rfl) (by kernel_rfl) (by kernel_rfl) trivial (QE_mv rfl) rfl ?_
            refine JA_q 8 rfl (by kernel_rfl) (by kernel_rfl) (by kernel_rfl) trivial (QE_iaN rfl rfl rfl rfl rfl rfl hyq) rfl ?_
            refine JA_q 9 rfl (by kernel_rfl) (by kernel_rfl) (by kernel_rfl) trivial (QE_ldsA rfl rfl rfl (hcyb.le (Le.trans h51 h53)) rfl) rfl ?_
            refine JA_q 10 rfl (by kernel_rfl) (by kernel_rfl) (by kernel_rfl) trivial (QE_build [(_, _), (_, _), (_, _), (_, _)] [_, _, _, _, _, _] rfl rfl rfl rfl rfl rfl) rfl ?_
            refine JA_1 11 (by kernel_rfl) ?_
            refine JB_alloc rfl trivial rfl [_, _, _, _, _, _] rfl rfl ?_
            intro β54 s54 h54
            refine JA_1 12 (by kernel_rfl) ?_
            refine JB_st rfl trivial 0 [_, _, _, _, _, _] rfl rfl rfl rfl rfl rfl rfl rfl rfl (fun _ hx => sub_mem (sbY (sbE _)) hx) ?_
            refine JA_done (by kernel_rfl) ?_
            refine thenQ_n ?_
            refine JC_seq ?_
            refine JC_region ?_
            refine JO_q (QE_mv rfl) rfl ?_
            refine JO_call (first := []) (captured := []) rfl rfl rfl (hasX_ac D _ _ (kd : Int)) ?_
            rintro _ _ s55 h55 ⟨rfl, rfl⟩
            refine JO_q (QE_mv rfl) rfl ?_
            refine JO_q (QE_cast (v' := .bool (decide (0 < xq))) (QE_gt rfl rfl) (congrArg Value.bool (decide_eq_decide.2 (by omega)))) rfl ?_
            refine JO_q (QE_beq rfl rfl rfl rfl) rfl ?_
            refine JO_q (QE_mv rfl) rfl ?_
            refine JO_caseD (t := 103) rfl (fun c56 => ?_) (fun c56 => ?_)
            ·
             refine JO_gT rfl rfl ?_
             refine JO_q (QE_mv rfl) rfl ?_
             refine JO_gT rfl rfl ?_
             refine JO_call (first := []) (captured := []) rfl rfl rfl (hasY_ac D _ _ (kd : Int)) ?_
             rintro _ _ s57 h57 ⟨rfl, rfl⟩
             refine JO_gT rfl rfl ?_
             refine JO_q (QE_mv rfl) rfl ?_
             refine JO_gT rfl rfl ?_
             refine JO_q (QE_cast (v' := .bool (decide (0 < yq))) (QE_gt rfl rfl) (congrArg Value.bool (decide_eq_decide.2 (by omega)))) rfl ?_
             refine JO_gT rfl rfl ?_
             refine JO_q (QE_beq rfl rfl rfl rfl) rfl ?_
             refine JO_q (QE_pickT rfl rfl) rfl ?_
             refine JO_q (QE_mv rfl) rfl ?_
             refine JO_caseD (t := 110) rfl (fun c58 => ?_) (fun c58 => ?_)
             ·
              refine JO_gT rfl rfl ?_
              refine JO_q (QE_ldA 0 [_, _, _, _, _, _] rfl rfl rfl rfl rfl) rfl ?_
              refine JO_gT rfl rfl ?_
              refine JO_call (first := []) (captured := []) rfl rfl rfl (rsent_ac D _ _ ⟨(kd : Int), (tq : Int), ta, tb⟩ ⟨by simp only; omega, by simp only; omega⟩ ⟨⟨by simp only; omega, by simp only; omega⟩, hga, hgb⟩) ?_
              rintro _ _ s59 h59 ⟨rfl, rfl⟩
              refine JO_gT rfl rfl ?_
              refine JO_q (QE_mv rfl) rfl ?_
              refine JO_gT rfl rfl ?_
              refine JO_q (QE_seq rfl rfl) rfl ?_
              refine JO_q (QE_pickT rfl rfl) rfl ?_
              refine JO_nil ?_
              refine thenQ_n ?_
              refine JC_ifD rfl (fun c60 => ?_) (fun c60 => ?_)
              ·
               have hR := cand_rd (ws := ws) hb hkd htq hcT (by assumption) (by assumption) hta htb (by assumption)
               refine JC_seq ?_
               refine JC_region ?_
               refine JO_q (QE_ldA 0 [_, _, _, _, _, _] rfl rfl rfl rfl rfl) rfl ?_
               refine JO_st 1 [_, _, _, _, _, _] rfl rfl rfl rfl rfl rfl rfl rfl rfl ?_
               refine JO_q (QE_as rfl) rfl ?_
               refine JO_nil ?_
               refine thenQ_n ?_
               refine JC_ret ?_
               refine blockQ_r ?_
               refine thenQ_r ?_
               refine thenQ_r ?_
               refine blockQ_r ?_
               refine blockQ_r ?_
               refine thenQ_r ?_
               refine thenQ_r ?_
               refine blockQ_r ?_
               refine blockQ_r ?_
               refine thenQ_r ?_
               refine thenQ_r ?_
               refine blockQ_r ?_
               refine blockQ_r ?_
               refine thenQ_r ?_
               refine thenQ_r ?_
               refine blockQ_r ?_
               refine thenQ_r ?_
               refine retQ_mk [_, _] L (.inr rfl) (.agg (us := [_, _, _, _, _, _]) 1 rfl rfl rfl rfl rfl (.tmp rfl (.nil))) rfl (Le.trans (Le.trans (Le.trans (Le.trans (Le.trans (Le.trans (Le.trans (Le.trans (Le.trans (Le.trans (Le.trans (Le.trans (Le.trans (Le.trans (Le.trans (Le.trans (Le.trans h1 h2) h3) I5.1) h12) h13) I14.1) h16) I17.1) h20) I22.1) I48.1) h51) h53) h54) h55) h57) h59) (fun sR hS2 => ?_)
               exact ⟨_, rfl, by rw [hR]; rfl, rfl⟩
              ·
               have hNC : ¬ Cand ws kd tq xq yq := by
                 rintro ⟨e1, e2, e3, a2, b2, e4, e5, e6⟩
                 first
                 | exact absurd e2 (by assumption)
                 | exact absurd e3 (by assumption)
                 | (rw [hta] at e4; rw [htb] at e5; cases e4; cases e5; exact absurd e6 (by assumption))
               refine JC_skip ?_
               refine blockQ_n ?_
               refine thenQ_n ?_
               refine JC_region ?_
               refine JO_q (QE_mv rfl) rfl ?_
               refine JO_q (QE_add' rfl rfl (w64 (by omega) (by omega))) rfl ?_
               refine JO_q (QE_as rfl) rfl ?_
               refine JO_nil ?_
               refine thenQ_n ⟨(yq + 1), [_], (Keeps.cons rfl (Keeps.cons rfl (Keeps.cons rfl (Keeps.cons rfl (Keeps.cons rfl (Keeps.cons rfl (Keeps.cons rfl (Keeps.cons rfl (Keeps.cons rfl (Keeps.nil _)))))))))), rfl, ⟨(Le.trans (Le.trans (Le.trans (Le.trans (Le.trans (Le.trans I48.1 h51) h53) h54) h55) h57) h59), ⟨by omega, fun y h1 => by
                 rcases Nat.lt_succ_iff_lt_or_eq.1 h1 with h | rfl
                 · exact HY y h
                 · first
                   | exact hNC
                   | exact fun e => by have h5 := e.2.2.1; rw [hsk, decide_eq_true (by omega)] at h5; cases h5⟩⟩, (by omega)⟩
             ·
              refine JO_gF rfl rfl rfl rfl ?_
              refine JO_gF rfl rfl rfl rfl ?_
              refine JO_gF rfl rfl rfl rfl ?_
              refine JO_gF rfl rfl rfl rfl ?_
              refine JO_q (QE_pickF rfl rfl) rfl ?_
              refine JO_nil ?_
              refine thenQ_n ?_
              refine JC_ifF rfl ?_
              have hNC : ¬ Cand ws kd tq xq yq := by
                rintro ⟨e1, e2, e3, a2, b2, e4, e5, e6⟩
                first
                | exact absurd e2 (by assumption)
                | exact absurd e3 (by assumption)
                | (rw [hta] at e4; rw [htb] at e5; cases e4; cases e5; exact absurd e6 (by assumption))
              refine JC_skip ?_
              refine blockQ_n ?_
              refine thenQ_n ?_
              refine JC_region ?_
              refine JO_q (QE_mv rfl) rfl ?_
              refine JO_q (QE_add' rfl rfl (w64 (by omega) (by omega))) rfl ?_
              refine JO_q (QE_as rfl) rfl ?_
              refine JO_nil ?_
              refine thenQ_n ⟨(yq + 1), [_], (Keeps.cons rfl (Keeps.cons rfl (Keeps.cons rfl (Keeps.cons rfl (Keeps.cons rfl (Keeps.cons rfl (Keeps.cons rfl (Keeps.cons rfl (Keeps.cons rfl (Keeps.nil _)))))))))), rfl, ⟨(Le.trans (Le.trans (Le.trans (Le.trans (Le.trans I48.1 h51) h53) h54) h55) h57), ⟨by omega, fun y h1 => by
                rcases Nat.lt_succ_iff_lt_or_eq.1 h1 with h | rfl
                · exact HY y h
                · first
                  | exact hNC
                  | exact fun e => by have h5 := e.2.2.1; rw [hsk, decide_eq_true (by omega)] at h5; cases h5⟩⟩, (by omega)⟩
            ·
             refine JO_gF rfl rfl rfl rfl ?_
             refine JO_gF rfl rfl rfl rfl ?_
             refine JO_gF rfl rfl rfl rfl ?_
             refine JO_gF rfl rfl rfl rfl ?_
             refine JO_gF rfl rfl rfl rfl ?_
             refine JO_q (QE_pickF rfl rfl) rfl ?_
             refine JO_q (QE_mv rfl) rfl ?_
             refine JO_gF rfl rfl rfl rfl ?_
             refine JO_gF rfl rfl rfl rfl ?_
             refine JO_gF rfl rfl rfl rfl ?_
             refine JO_gF rfl rfl rfl rfl ?_
             refine JO_q (QE_pickF rfl rfl) rfl ?_
             refine JO_nil ?_
             refine thenQ_n ?_
             refine JC_ifF rfl ?_
             have hNC : ¬ Cand ws kd tq xq yq := by
               rintro ⟨e1, e2, e3, a2, b2, e4, e5, e6⟩
               first
               | exact absurd e2 (by assumption)
               | exact absurd e3 (by assumption)
               | (rw [hta] at e4; rw [htb] at e5; cases e4; cases e5; exact absurd e6 (by assumption))
             refine JC_skip ?_
             refine blockQ_n ?_
             refine thenQ_n ?_
             refine JC_region ?_
             refine JO_q (QE_mv rfl) rfl ?_
             refine JO_q (QE_add' rfl rfl (w64 (by omega) (by omega))) rfl ?_
             refine JO_q (QE_as rfl) rfl ?_
             refine JO_nil ?_
             refine thenQ_n ⟨(yq + 1), [_], (Keeps.cons rfl (Keeps.cons rfl (Keeps.cons rfl (Keeps.cons rfl (Keeps.cons rfl (Keeps.cons rfl (Keeps.cons rfl (Keeps.cons rfl (Keeps.cons rfl (Keeps.nil _)))))))))), rfl, ⟨(Le.trans (Le.trans (Le.trans (Le.trans I48.1 h51) h53) h54) h55), ⟨by omega, fun y h1 => by
               rcases Nat.lt_succ_iff_lt_or_eq.1 h1 with h | rfl
               · exact HY y h
               · first
                 | exact hNC
                 | exact fun e => by have h5 := e.2.2.1; rw [hsk, decide_eq_true (by omega)] at h5; cases h5⟩⟩, (by omega)⟩
          ·
           refine JO_gF rfl rfl rfl rfl ?_
           refine JO_gF rfl rfl rfl rfl ?_
           refine JO_gF rfl rfl rfl rfl ?_
           refine JO_q (QE_pickF rfl rfl) rfl ?_
           refine JO_nil ?_
           refine thenQ_n ?_
           refine JC_ifF rfl ?_
           refine JC_skip ?_
           refine thenQ_n ?_
           refine JC_seq ?_
           refine JC_draw drawsMixed 13 rfl _ (fun _ h => h) ?_
           intro s61 h61
           refine JA_q 0 rfl (by kernel_rfl) (by kernel_rfl) (by kernel_rfl) trivial (QE_mv rfl) rfl ?_
           refine JA_q 1 rfl (by kernel_rfl) (by kernel_rfl) (by kernel_rfl) trivial (QE_mv rfl) rfl ?_
           refine JA_q 2 rfl (by kernel_rfl) (by kernel_rfl) (by kernel_rfl) trivial (QE_mv rfl) rfl ?_
           refine JA_q 3 rfl (by kernel_rfl) (by kernel_rfl) (by kernel_rfl) trivial (QE_mv rfl) rfl ?_
           refine JA_q 4 rfl (by kernel_rfl) (by kernel_rfl) (by kernel_rfl) trivial (QE_iaN rfl rfl rfl rfl rfl rfl hxq) rfl ?_
           refine JA_q 5 rfl (by kernel_rfl) (by kernel_rfl) (by kernel_rfl) trivial (QE_ldsA rfl rfl rfl (hcxa.le (Le.trans I48.1 h61)) rfl) rfl ?_
           refine JA_q 6 rfl (by kernel_rfl) (by kernel_rfl) (by kernel_rfl) trivial (QE_mv rfl) rfl ?_
           refine JA_q 7 rfl (by kernel_rfl) (by kernel_rfl) (by kernel_rfl) trivial (QE_mv rfl) rfl ?_
           refine JA_q 8 rfl (by kernel_rfl) (by kernel_rfl) (by kernel_rfl) trivial (QE_iaN rfl rfl rfl rfl rfl rfl hyq) rfl ?_
           refine JA_q 9 rfl (by kernel_rfl) (by kernel_rfl) (by kernel_rfl) trivial (QE_ldsA rfl rfl rfl (hcyb.le h61) rfl) rfl ?_
           refine JA_q 10 rfl (by kernel_rfl) (by kernel_rfl) (by kernel_rfl) trivial (QE_build [(_, _), (_, _), (_, _), (_, _)] [_, _, _, _, _, _] rfl rfl rfl rfl rfl rfl) rfl ?_
           refine JA_1 11 (by kernel_rfl) ?_
           refine JB_alloc rfl trivial rfl [_, _, _, _, _, _] rfl rfl ?_
           intro β62 s62 h62
           refine JA_1 12 (by kernel_rfl) ?_
           refine JB_st rfl trivial 0 [_, _, _, _, _, _] rfl rfl rfl rfl rfl rfl rfl rfl rfl (fun _ hx => sub_mem (sbY (sbE _)) hx) ?_
           refine JA_done (by kernel_rfl) ?_
           refine thenQ_n ?_
           refine JC_seq ?_
           refine JC_region ?_
           refine JO_q (QE_mv rfl) rfl ?_
           refine JO_call (first := []) (captured := []) rfl rfl rfl (hasX_ac D _ _ (kd : Int)) ?_
           rintro _ _ s63 h63 ⟨rfl, rfl⟩
           refine JO_q (QE_mv rfl) rfl ?_
           refine JO_q (QE_cast (v' := .bool (decide (0 < xq))) (QE_gt rfl rfl) (congrArg Value.bool (decide_eq_decide.2 (by omega)))) rfl ?_
           refine JO_q (QE_beq rfl rfl rfl rfl) rfl ?_
           refine JO_q (QE_mv rfl) rfl ?_
           refine JO_caseD (t := 103) rfl (fun c64 => ?_) (fun c64 => ?_)
           ·
            refine JO_gT rfl rfl ?_
            refine JO_q (QE_mv rfl) rfl ?_
            refine JO_gT rfl rfl ?_
            refine JO_call (first := []) (captured := []) rfl rfl rfl (hasY_ac D _ _ (kd : Int)) ?_
            rintro _ _ s65 h65 ⟨rfl, rfl⟩
            refine JO_gT rfl rfl ?_
            refine JO_q (QE_mv rfl) rfl ?_
            refine JO_gT rfl rfl ?_
            refine JO_q (QE_cast (v' := .bool (decide (0 < yq))) (QE_gt rfl rfl) (congrArg Value.bool (decide_eq_decide.2 (by omega)))) rfl ?_
            refine JO_gT rfl rfl ?_
            refine JO_q (QE_beq rfl rfl rfl rfl) rfl ?_
            refine JO_q (QE_pickT rfl rfl) rfl ?_
            refine JO_q (QE_mv rfl) rfl ?_
            refine JO_caseD (t := 110) rfl (fun c66 => ?_) (fun c66 => ?_)
            ·
             refine JO_gT rfl rfl ?_
             refine JO_q (QE_ldA 0 [_, _, _, _, _, _] rfl rfl rfl rfl rfl) rfl ?_
             refine JO_gT rfl rfl ?_
             refine JO_call (first := []) (captured := []) rfl rfl rfl (rsent_ac D _ _ ⟨(kd : Int), (tq : Int), ta, tb⟩ ⟨by simp only; omega, by simp only; omega⟩ ⟨⟨by simp only; omega, by simp only; omega⟩, hga, hgb⟩) ?_
             rintro _ _ s67 h67 ⟨rfl, rfl⟩
             refine JO_gT rfl rfl ?_
             refine JO_q (QE_mv rfl) rfl ?_
             refine JO_gT rfl rfl ?_
             refine JO_q (QE_seq rfl rfl) rfl ?_
             refine JO_q (QE_pickT rfl rfl) rfl ?_
             refine JO_nil ?_
             refine thenQ_n ?_
             refine JC_ifD rfl (fun c68 => ?_) (fun c68 => ?_)
             ·
              have hR := cand_rd (ws := ws) hb hkd htq hcT (by assumption) (by assumption) hta htb (by assumption)
              refine JC_seq ?_
              refine JC_region ?_
              refine JO_q (QE_ldA 0 [_, _, _, _, _, _] rfl rfl rfl rfl rfl) rfl ?_
              refine JO_st 1 [_, _, _, _, _, _] rfl rfl rfl rfl rfl rfl rfl rfl rfl ?_
              refine JO_q (QE_as rfl) rfl ?_
              refine JO_nil ?_
              refine thenQ_n ?_
              refine JC_ret ?_
              refine blockQ_r ?_
              refine thenQ_r ?_
              refine thenQ_r ?_
              refine blockQ_r ?_
              refine blockQ_r ?_
              refine thenQ_r ?_
              refine thenQ_r ?_
              refine blockQ_r ?_
              refine blockQ_r ?_
              refine thenQ_r ?_
              refine thenQ_r ?_
              refine blockQ_r ?_
              refine blockQ_r ?_
              refine thenQ_r ?_
              refine thenQ_r ?_
              refine blockQ_r ?_
              refine thenQ_r ?_
              refine retQ_mk [_, _] L (.inr rfl) (.agg (us := [_, _, _, _, _, _]) 1 rfl rfl rfl rfl rfl (.tmp rfl (.nil))) rfl (Le.trans (Le.trans (Le.trans (Le.trans (Le.trans (Le.trans (Le.trans (Le.trans (Le.trans (Le.trans (Le.trans (Le.trans (Le.trans (Le.trans (Le.trans (Le.trans h1 h2) h3) I5.1) h12) h13) I14.1) h16) I17.1) h20) I22.1) I48.1) h61) h62) h63) h65) h67) (fun sR hS2 => ?_)
              exact ⟨_, rfl, by rw [hR]; rfl, rfl⟩
             ·
              have hNC : ¬ Cand ws kd tq xq yq := by
                rintro ⟨e1, e2, e3, a2, b2, e4, e5, e6⟩
                first
                | exact absurd e2 (by assumption)
                | exact absurd e3 (by assumption)
                | (rw [hta] at e4; rw [htb] at e5; cases e4; cases e5; exact absurd e6 (by assumption))
              refine JC_skip ?_
              refine blockQ_n ?_
              refine thenQ_n ?_
              refine JC_region ?_
              refine JO_q (QE_mv rfl) rfl ?_
              refine JO_q (QE_add' rfl rfl (w64 (by omega) (by omega))) rfl ?_
              refine JO_q (QE_as rfl) rfl ?_
              refine JO_nil ?_
              refine thenQ_n ⟨(yq + 1), [_], (Keeps.cons rfl (Keeps.cons rfl (Keeps.cons rfl (Keeps.cons rfl (Keeps.cons rfl (Keeps.cons rfl (Keeps.cons rfl (Keeps.cons rfl (Keeps.cons rfl (Keeps.nil _)))))))))), rfl, ⟨(Le.trans (Le.trans (Le.trans (Le.trans (Le.trans I48.1 h61) h62) h63) h65) h67), ⟨by omega, fun y h1 => by
                rcases Nat.lt_succ_iff_lt_or_eq.1 h1 with h | rfl
                · exact HY y h
                · first
                  | exact hNC
                  | exact fun e => by have h5 := e.2.2.1; rw [hsk, decide_eq_true (by omega)] at h5; cases h5⟩⟩, (by omega)⟩
            ·
             refine JO_gF rfl rfl rfl rfl ?_
             refine JO_gF rfl rfl rfl rfl ?_
             refine JO_gF rfl rfl rfl rfl ?_
             refine JO_gF rfl rfl rfl rfl ?_
             refine JO_q (QE_pickF rfl rfl) rfl ?_
             refine JO_nil ?_
             refine thenQ_n ?_
             refine JC_ifF rfl ?_
             have hNC : ¬ Cand ws kd tq xq yq := by
               rintro ⟨e1, e2, e3, a2, b2, e4, e5, e6⟩
               first
               | exact absurd e2 (by assumption)
               | exact absurd e3 (by assumption)
               | (rw [hta] at e4; rw [htb] at e5; cases e4; cases e5; exact absurd e6 (by assumption))
             refine JC_skip ?_
             refine blockQ_n ?_
             refine thenQ_n ?_
             refine JC_region ?_
             refine JO_q (QE_mv rfl) rfl ?_
             refine JO_q (QE_add' rfl rfl (w64 (by omega) (by omega))) rfl ?_
             refine JO_q (QE_as rfl) rfl ?_
             refine JO_nil ?_
             refine thenQ_n ⟨(yq + 1), [_], (Keeps.cons rfl (Keeps.cons rfl (Keeps.cons rfl (Keeps.cons rfl (Keeps.cons rfl (Keeps.cons rfl (Keeps.cons rfl (Keeps.cons rfl (Keeps.cons rfl (Keeps.nil _)))))))))), rfl, ⟨(Le.trans (Le.trans (Le.trans (Le.trans I48.1 h61) h62) h63) h65), ⟨by omega, fun y h1 => by
               rcases Nat.lt_succ_iff_lt_or_eq.1 h1 with h | rfl
               · exact HY y h
               · first
                 | exact hNC
                 | exact fun e => by have h5 := e.2.2.1; rw [hsk, decide_eq_true (by omega)] at h5; cases h5⟩⟩, (by omega)⟩
           ·
            refine JO_gF rfl rfl rfl rfl ?_
            refine JO_gF rfl rfl rfl rfl ?_
            refine JO_gF rfl rfl rfl rfl ?_
            refine JO_gF rfl rfl rfl rfl ?_
            refine JO_gF rfl rfl rfl rfl ?_
            refine JO_q (QE_pickF rfl rfl) rfl ?_
            refine JO_q (QE_mv rfl) rfl ?_
            refine JO_gF rfl rfl rfl rfl ?_
            refine JO_gF rfl rfl rfl rfl ?_
            refine JO_gF rfl rfl rfl rfl ?_
            refine JO_gF rfl rfl rfl rfl ?_
            refine JO_q (QE_pickF rfl rfl) rfl ?_
            refine JO_nil ?_
            refine thenQ_n ?_
            refine JC_ifF rfl ?_
            have hNC : ¬ Cand ws kd tq xq yq := by
              rintro ⟨e1, e2, e3, a2, b2, e4, e5, e6⟩
              first
              | exact absurd e2 (by assumption)
              | exact absurd e3 (by assumption)
              | (rw [hta] at e4; rw [htb] at e5; cases e4; cases e5; exact absurd e6 (by assumption))
            refine JC_skip ?_
            refine blockQ_n ?_
            refine thenQ_n ?_
            refine JC_region ?_
            refine JO_q (QE_mv rfl) rfl ?_
            refine JO_q (QE_add' rfl rfl (w64 (by omega) (by omega))) rfl ?_
            refine JO_q (QE_as rfl) rfl ?_
            refine JO_nil ?_
            refine thenQ_n ⟨(yq + 1), [_], (Keeps.cons rfl (Keeps.cons rfl (Keeps.cons rfl (Keeps.cons rfl (Keeps.cons rfl (Keeps.cons rfl (Keeps.cons rfl (Keeps.cons rfl (Keeps.cons rfl (Keeps.nil _)))))))))), rfl, ⟨(Le.trans (Le.trans (Le.trans I48.1 h61) h62) h63), ⟨by omega, fun y h1 => by
              rcases Nat.lt_succ_iff_lt_or_eq.1 h1 with h | rfl
              · exact HY y h
              · first
                | exact hNC
                | exact fun e => by have h5 := e.2.2.1; rw [hsk, decide_eq_true (by omega)] at h5; cases h5⟩⟩, (by omega)⟩
         ·
          have hyq : yq = (termsR ws).length := by omega
          refine JC_exit ?_
          refine thenQ_x ?_
          refine thenQ_x ?_
          refine blockQ_x ?_
          refine blockQ_n ?_
          refine thenQ_n ?_
          refine JC_region ?_
          refine JO_q (QE_mv rfl) rfl ?_
          refine JO_q (QE_add' rfl rfl (w64 (by omega) (by omega))) rfl ?_
          refine JO_q (QE_as rfl) rfl ?_
          refine JO_nil ?_
          refine thenQ_n ⟨(xq + 1), [], (Keeps.cons rfl (Keeps.cons rfl (Keeps.cons rfl (Keeps.cons rfl (Keeps.cons rfl (Keeps.cons rfl (Keeps.cons rfl (Keeps.cons rfl (Keeps.nil _))))))))), rfl, ⟨(Le.trans I22.1 I48.1), ⟨by omega, fun x y h1 h4 => by
            rcases Nat.lt_succ_iff_lt_or_eq.1 h1 with h | rfl
            · exact HX x y h h4
            · first
              | exact HY y (by omega)
              | exact fun e => by have h5 := e.2.1; rw [hsk, decide_eq_true (by omega)] at h5; cases h5⟩⟩, (by omega)⟩
       ·
        have hxq : xq = (termsR ws).length := by omega
        refine JC_exit ?_
        refine thenQ_x ?_
        refine thenQ_x ?_
        refine blockQ_x ?_
        refine blockQ_n ?_
        refine thenQ_n ?_
        refine JC_region ?_
        refine JO_q (QE_mv rfl) rfl ?_
        refine JO_q (QE_add' rfl rfl (w64 (by omega) (by omega))) rfl ?_
        refine JO_q (QE_as rfl) rfl ?_
        refine JO_nil ?_
        refine thenQ_n ⟨(tq + 1), [], (Keeps.cons rfl (Keeps.cons rfl (Keeps.cons rfl (Keeps.cons rfl (Keeps.cons rfl (Keeps.cons rfl (Keeps.cons rfl (Keeps.nil _)))))))), rfl, ⟨(Le.trans (Le.trans I17.1 h20) I22.1), ⟨by omega, fun tt x y h1 h3 h4 => by
          rcases Nat.lt_succ_iff_lt_or_eq.1 h1 with h | rfl
          · exact HT tt x y h h3 h4
          · first
            | exact HX x y (by omega) h4
            | exact fun e => by have h5 := e.1 (by omega); rw [hsk] at h5; cases h5⟩⟩, (by omega)⟩
     ·
      refine JO_gF rfl rfl rfl rfl ?_
      refine JO_gF rfl rfl rfl rfl ?_
      refine JO_gF rfl rfl rfl rfl ?_
      refine JO_q (QE_pickF rfl rfl) rfl ?_
      refine JO_nil ?_
      refine thenQ_n ?_
      refine JC_ifF rfl ?_
      have hcT : 0 < tq → usesT (kd : Int) = true := fun h => by
        first
        | assumption
        | (exfalso; omega)
      refine JC_skip ?_
      refine thenQ_n ?_
      refine JC_seq ?_
      refine JC_region ?_
      refine JO_q (QE_as rfl) rfl ?_
      refine JO_nil ?_
      refine thenQ_n ?_
      refine JC_block ?_
      refine JC_loop (γ := Nat) (fun xq => [(2, _), (3, _), (4, _), (8, _), (9, _), (10, _), (11, _), (12, .int .i64 (xq : Int))]) (fun _ => _) (fun xq tw => Le D s17 tw ∧ (xq ≤ (termsR ws).length ∧ ∀ x y, x < xq → y < (termsR ws).length → ¬ Cand ws kd tq x y)) (fun xq => (termsR ws).length - xq) (fun _ _ _ h hl => ⟨h.1.trans hl, h.2⟩) 0 (Keeps.cons rfl (Keeps.cons rfl (Keeps.cons rfl (Keeps.cons rfl (Keeps.cons rfl (Keeps.cons rfl (Keeps.cons rfl (Keeps.cons rfl (Keeps.nil _))))))))) rfl ⟨Le.refl _, ⟨Nat.zero_le _, fun x y h => by omega⟩⟩ ?_
      intro xq s69 I69
      have hx0 := I69.2.1
      have HX := I69.2.2
      refine JC_seq ?_
      refine JC_seq ?_
      refine JC_region ?_
      refine JO_q (QE_mv rfl) rfl ?_
      refine JO_q (QE_mv rfl) rfl ?_
      refine JO_q (QE_lenS rfl rfl rfl) rfl ?_
      refine JO_q (QE_lt rfl rfl) rfl ?_
      refine JO_nil ?_
      refine thenQ_n ?_
      refine JC_ifD rfl (fun c70 => ?_) (fun c70 => ?_)
      ·
       have hxq : xq < (termsR ws).length := by omega
       obtain ⟨bx, offx, ta, hEx, hta, hcxa, _⟩ := Tms.at_ (hTm.le (Le.trans (Le.trans (Le.trans (Le.trans h13 I14.1) h16) I17.1) I69.1)) hxq
       subst hEx
       have hga := terms_good (List.mem_of_getElem? hta)
       refine JC_skip ?_
       refine thenQ_n ?_
       refine JC_seq ?_
       refine JC_block ?_
       refine JC_seq ?_
       refine JC_seq ?_
       refine JC_region ?_
       refine JO_q (QE_mv rfl) rfl ?_
       refine JO_q (QE_gt rfl rfl) rfl ?_
       refine JO_q (QE_mv rfl) rfl ?_
       refine JO_caseD (t := 69) rfl (fun c71 => ?_) (fun c71 => ?_)
       ·
        refine JO_gT rfl rfl ?_
        refine JO_q (QE_mv rfl) rfl ?_
        refine JO_gT rfl rfl ?_
        refine JO_call (first := []) (captured := []) rfl rfl rfl (hasX_ac D _ _ (kd : Int)) ?_
        rintro _ _ s72 h72 ⟨rfl, rfl⟩
        refine JO_gT rfl rfl ?_
        refine JO_q (QE_not rfl) rfl ?_
        refine JO_q (QE_pickT rfl rfl) rfl ?_
        refine JO_nil ?_
        refine thenQ_n ?_
        refine JC_ifM rfl (fun c73 => ?_) (fun c73 => ?_)
        ·
         have hsk : usesX (kd : Int) = false := c73
         refine JC_exit ?_
         refine thenQ_x ?_
         refine blockQ_x ?_
         refine thenQ_n ?_
         refine JC_region ?_
         refine JO_q (QE_mv rfl) rfl ?_
         refine JO_q (QE_add' rfl rfl (w64 (by omega) (by omega))) rfl ?_
         refine JO_q (QE_as rfl) rfl ?_
         refine JO_nil ?_
         refine thenQ_n ⟨(xq + 1), [], (Keeps.cons rfl (Keeps.cons rfl (Keeps.cons rfl (Keeps.cons rfl (Keeps.cons rfl (Keeps.cons rfl (Keeps.cons rfl (Keeps.cons rfl (Keeps.nil _))))))))), rfl, ⟨(Le.trans I69.1 h72), ⟨by omega, fun x y h1 h4 => by
           rcases Nat.lt_succ_iff_lt_or_eq.1 h1 with h | rfl
           · exact HX x y h h4
           · first
             | exact HY y (by omega)
             | exact fun e => by have h5 := e.2.1; rw [hsk, decide_eq_true (by omega)] at h5; cases h5⟩⟩, (by omega)⟩
        ·
         refine JC_skip ?_
         refine thenQ_n ?_
         refine JC_seq ?_
         refine JC_region ?_
         refine JO_q (QE_as rfl) rfl ?_
         refine JO_nil ?_
         refine thenQ_n ?_
         refine JC_block ?_
         refine JC_loop (γ := Nat) (fun yq => [(2, _), (3, _), (4, _), (8, _), (9, _), (10, _), (11, _), (12, _), (13, .int .i64 (yq : Int))]) (fun _ => _) (fun yq tw => Le D s72 tw ∧ (yq ≤ (termsR ws).length ∧ ∀ y, y < yq → ¬ Cand ws kd tq xq y)) (fun yq => (termsR ws).length - yq) (fun _ _ _ h hl => ⟨h.1.trans hl, h.2⟩) 0 (Keeps.cons rfl (Keeps.cons rfl (Keeps.cons rfl (Keeps.cons rfl (Keeps.cons rfl (Keeps.cons rfl (Keeps.cons rfl (Keeps.cons rfl (Keeps.cons rfl (Keeps.nil _)))))))))) rfl ⟨Le.refl _, ⟨Nat.zero_le _, fun y h => by omega⟩⟩ ?_
         intro yq s74 I74
         have hy0 := I74.2.1
         have HY := I74.2.2
         refine JC_seq ?_
         refine JC_seq ?_
         refine JC_region ?_
         refine JO_q (QE_mv rfl) rfl ?_
         refine JO_q (QE_mv rfl) rfl ?_
         refine JO_q (QE_lenS rfl rfl rfl) rfl ?_
         refine JO_q (QE_lt rfl rfl) rfl ?_
         refine JO_nil ?_
         refine thenQ_n ?_
         refine JC_ifD rfl (fun c75 => ?_) (fun c75 => ?_)
         ·
          have hyq : yq < (termsR ws).length := by omega
          obtain ⟨by2, offy, tb, hEy, htb, hcyb, _⟩ := Tms.at_ (hTm.le (Le.trans (Le.trans (Le.trans (Le.trans (Le.trans (Le.trans h13 I14.1) h16) I17.1) I69.1) h72) I74.1)) hyq
          cases hEy
          have hgb := terms_good (List.mem_of_getElem? htb)
          refine JC_skip ?_
          refine thenQ_n ?_
          refine JC_seq ?_
          refine JC_block ?_
          refine JC_seq ?_
          refine JC_seq ?_
          refine JC_region ?_
          refine JO_q (QE_mv rfl) rfl ?_
          refine JO_q (QE_gt rfl rfl) rfl ?_
          refine JO_q (QE_mv rfl) rfl ?_
          refine JO_caseD (t := 82) rfl (fun c76 => ?_) (fun c76 => ?_)
          ·
           refine JO_gT rfl rfl ?_
           refine JO_q (QE_mv rfl) rfl ?_
           refine JO_gT rfl rfl ?_
           refine JO_call (first := []) (captured := []) rfl rfl rfl (hasY_ac D _ _ (kd : Int)) ?_
           rintro _ _ s77 h77 ⟨rfl, rfl⟩
           refine JO_gT rfl rfl ?_
           refine JO_q (QE_not rfl) rfl ?_
           refine JO_q (QE_pickT rfl rfl) rfl ?_
           refine JO_nil ?_
           refine thenQ_n ?_
           refine JC_ifM rfl (fun c78 => ?_) (fun c78 => ?_)
           ·
            have hsk : usesY (kd : Int) = false := c78
            refine JC_exit ?_
            refine thenQ_x ?_
            refine blockQ_x ?_
            refine thenQ_n ?_
            refine JC_region ?_
            refine JO_q (QE_mv rfl) rfl ?_
            refine JO_q (QE_add' rfl rfl (w64 (by omega) (by omega))) rfl ?_
            refine JO_q (QE_as rfl) rfl ?_
            refine JO_nil ?_
            refine thenQ_n ⟨(yq + 1), [], (Keeps.cons rfl (Keeps.cons rfl (Keeps.cons rfl (Keeps.cons rfl (Keeps.cons rfl (Keeps.cons rfl (Keeps.cons rfl (Keeps.cons rfl (Keeps.cons rfl (Keeps.nil _)))))))))), rfl, ⟨(Le.trans I74.1 h77), ⟨by omega, fun y h1 => by
              rcases Nat.lt_succ_iff_lt_or_eq.1 h1 with h | rfl
              · exact HY y h
              · first
                | exact hNC
                | exact fun e => by have h5 := e.2.2.1; rw [hsk, decide_eq_true (by omega)] at h5; cases h5⟩⟩, (by omega)⟩
           ·
            refine JC_skip ?_
            refine thenQ_n ?_
            refine JC_seq ?_
            refine JC_draw drawsMixed 13 rfl _ (fun _ h => h) ?_
            intro s79 h79
            refine JA_q 0 rfl (by kernel_rfl) (by kernel_rfl) (by kernel_rfl) trivial (QE_mv rfl) rfl ?_
            refine JA_q 1 rfl (by kernel_rfl) (by kernel_rfl) (by kernel_rfl) trivial (QE_mv rfl) rfl ?_
            refine JA_q 2 rfl (by kernel_rfl) (by kernel_rfl) (by kernel_rfl) trivial (QE_mv rfl) rfl ?_
            refine JA_q 3 rfl (by kernel_rfl) (by kernel_rfl) (by kernel_rfl) trivial (QE_mv rfl) rfl ?_
            refine JA_q 4 rfl (by kernel_rfl) (by kernel_rfl) (by kernel_rfl) trivial (QE_iaN rfl rfl rfl rfl rfl rfl hxq) rfl ?_
            refine JA_q 5 rfl (by kernel_rfl) (by kernel_rfl) (by kernel_rfl) trivial (QE_ldsA rfl rfl rfl (hcxa.le (Le.trans (Le.trans (Le.trans h72 I74.1) h77) h79)) rfl) rfl ?_
            refine JA_q 6 rfl (by kernel_rfl) (by kernel_rfl) (by kernel_rfl) trivial (QE_mv rfl) rfl ?_
            refine JA_q 7 rfl (by kernel_rfl) (by kernel_rfl) (by kernel_rfl) trivial (QE_mv rfl) rfl ?_
            refine JA_q 8 rfl (by kernel_rfl) (by kernel_rfl) (by kernel_rfl) trivial (QE_iaN rfl rfl rfl rfl rfl rfl hyq) rfl ?_
            refine JA_q 9 rfl (by kernel_rfl) (by kernel_rfl) (by kernel_rfl) trivial (QE_ldsA rfl rfl rfl (hcyb.le (Le.trans h77 h79)) rfl) rfl ?_
            refine JA_q 10 rfl (by kernel_rfl) (by kernel_rfl) (by kernel_rfl) trivial (QE_build [(_, _), (_, _), (_, _), (_, _)] [_, _, _, _, _, _] rfl rfl rfl rfl rfl rfl) rfl ?_
            refine JA_1 11 (by kernel_rfl) ?_
            refine JB_alloc rfl trivial rfl [_, _, _, _, _, _] rfl rfl ?_
            intro β80 s80 h80
            refine JA_1 12 (by kernel_rfl) ?_
            refine JB_st rfl trivial 0 [_, _, _, _, _, _] rfl rfl rfl rfl rfl rfl rfl rfl rfl (fun _ hx => sub_mem (sbY (sbE _)) hx) ?_
            refine JA_done (by kernel_rfl) ?_
            refine thenQ_n ?_
            refine JC_seq ?_
            refine JC_region ?_
            refine JO_q (QE_mv rfl) rfl ?_
            refine JO_call (first := []) (captured := []) rfl rfl rfl (hasX_ac D _ _ (kd : Int)) ?_
            rintro _ _ s81 h81 ⟨rfl, rfl⟩
            refine JO_q (QE_mv rfl) rfl ?_
            refine JO_q (QE_cast (v' := .bool (decide (0 < xq))) (QE_gt rfl rfl) (congrArg Value.bool (decide_eq_decide.2 (by omega)))) rfl ?_
            refine JO_q (QE_beq rfl rfl rfl rfl) rfl ?_
            refine JO_q (QE_mv rfl) rfl ?_
            refine JO_caseD (t := 103) rfl (fun c82 => ?_) (fun c82 => ?_)
            ·
             refine JO_gT rfl rfl ?_
             refine JO_q (QE_mv rfl) rfl ?_
             refine JO_gT rfl rfl ?_
             refine JO_call (first := []) (captured := []) rfl rfl rfl (hasY_ac D _ _ (kd : Int)) ?_
             rintro _ _ s83 h83 ⟨rfl, rfl⟩
             refine JO_gT rfl rfl ?_
             refine JO_q (QE_mv rfl) rfl ?_
             refine JO_gT rfl rfl ?_
             refine JO_q (QE_cast (v' := .bool (decide (0 < yq))) (QE_gt rfl rfl) (congrArg Value.bool (decide_eq_decide.2 (by omega)))) rfl ?_
             refine JO_gT rfl rfl ?_
             refine JO_q (QE_beq rfl rfl rfl rfl) rfl ?_
             refine JO_q (QE_pickT rfl rfl) rfl ?_
             refine JO_q (QE_mv rfl) rfl ?_
             refine JO_caseD (t := 110) rfl (fun c84 => ?_) (fun c84 => ?_)
             ·
              refine JO_gT rfl rfl ?_
              refine JO_q (QE_ldA 0 [_, _, _, _, _, _] rfl rfl rfl rfl rfl) rfl ?_
              refine JO_gT rfl rfl ?_
              refine JO_call (first := []) (captured := []) rfl rfl rfl (rsent_ac D _ _ ⟨(kd : Int), (tq : Int), ta, tb⟩ ⟨by simp only; omega, by simp only; omega⟩ ⟨⟨by simp only; omega, by simp only; omega⟩, hga, hgb⟩) ?_
              rintro _ _ s85 h85 ⟨rfl, rfl⟩
              refine JO_gT rfl rfl ?_
              refine JO_q (QE_mv rfl) rfl ?_
              refine JO_gT rfl rfl ?_
              refine JO_q (QE_seq rfl rfl) rfl ?_
              refine JO_q (QE_pickT rfl rfl) rfl ?_
              refine JO_nil ?_
              refine thenQ_n ?_
              refine JC_ifD rfl (fun c86 => ?_) (fun c86 => ?_)
              ·
               have hR := cand_rd (ws := ws) hb hkd htq hcT (by assumption) (by assumption) hta htb (by assumption)
               refine JC_seq ?_
               refine JC_region ?_
               refine JO_q (QE_ldA 0 [_, _, _, _, _, _] rfl rfl rfl rfl rfl) rfl ?_
               refine JO_st 1 [_, _, _, _, _, _] rfl rfl rfl rfl rfl rfl rfl rfl rfl ?_
               refine JO_q (QE_as rfl) rfl ?_
               refine JO_nil ?_
               refine thenQ_n ?_
               refine JC_ret ?_
               refine blockQ_r ?_
               refine thenQ_r ?_
               refine thenQ_r ?_
               refine blockQ_r ?_
               refine blockQ_r ?_
               refine thenQ_r ?_
               refine thenQ_r ?_
               refine blockQ_r ?_
               refine blockQ_r ?_
               refine thenQ_r ?_
               refine thenQ_r ?_
               refine blockQ_r ?_
               refine blockQ_r ?_
               refine thenQ_r ?_
               refine thenQ_r ?_
               refine blockQ_r ?_
               refine thenQ_r ?_
               refine retQ_mk [_, _] L (.inr rfl) (.agg (us := [_, _, _, _, _, _]) 1 rfl rfl rfl rfl rfl (.tmp rfl (.nil))) rfl (Le.trans (Le.trans (Le.trans (Le.trans (Le.trans (Le.trans (Le.trans (Le.trans (Le.trans (Le.trans (Le.trans (Le.trans (Le.trans (Le.trans (Le.trans (Le.trans (Le.trans h1 h2) h3) I5.1) h12) h13) I14.1) h16) I17.1) I69.1) h72) I74.1) h77) h79) h80) h81) h83) h85) (fun sR hS2 => ?_)
               exact ⟨_, rfl, by rw [hR]; rfl, rfl⟩
              ·
               have hNC : ¬ Cand ws kd tq xq yq := by
                 rintro ⟨e1, e2, e3, a2, b2, e4, e5, e6⟩
                 first
                 | exact absurd e2 (by assumption)
                 | exact absurd e3 (by assumption)
                 | (rw [hta] at e4; rw [htb] at e5; cases e4; cases e5; exact absurd e6 (by assumption))
               refine JC_skip ?_
               refine blockQ_n ?_
               refine thenQ_n ?_
               refine JC_region ?_
               refine JO_q (QE_mv rfl) rfl ?_
               refine JO_q (QE_add' rfl rfl (w64 (by omega) (by omega))) rfl ?_
               refine JO_q (QE_as rfl) rfl ?_
               refine JO_nil ?_
               refine thenQ_n ⟨(yq + 1), [_], (Keeps.cons rfl (Keeps.cons rfl (Keeps.cons rfl (Keeps.cons rfl (Keeps.cons rfl (Keeps.cons rfl (Keeps.cons rfl (Keeps.cons rfl (Keeps.cons rfl (Keeps.nil _)))))))))), rfl, ⟨(Le.trans (Le.trans (Le.trans (Le.trans (Le.trans (Le.trans I74.1 h77) h79) h80) h81) h83) h85), ⟨by omega, fun y h1 => by
                 rcases Nat.lt_succ_iff_lt_or_eq.1 h1 with h | rfl
                 · exact HY y h
                 · first
                   | exact hNC
                   | exact fun e => by have h5 := e.2.2.1; rw [hsk, decide_eq_true (by omega)] at h5; cases h5⟩⟩, (by omega)⟩
             ·
              refine JO_gF rfl rfl rfl rfl ?_
              refine JO_gF rfl rfl rfl rfl ?_
              refine JO_gF rfl rfl rfl rfl ?_
              refine JO_gF rfl rfl rfl rfl ?_
              refine JO_q (QE_pickF rfl rfl) rfl ?_
              refine JO_nil ?_
              refine thenQ_n ?_
              refine JC_ifF rfl ?_
              have hNC : ¬ Cand ws kd tq xq yq := by
                rintro ⟨e1, e2, e3, a2, b2, e4, e5, e6⟩
                first
                | exact absurd e2 (by assumption)
                | exact absurd e3 (by assumption)
                | (rw [hta] at e4; rw [htb] at e5; cases e4; cases e5; exact absurd e6 (by assumption))
              refine JC_skip ?_
              refine blockQ_n ?_
              refine thenQ_n ?_
              refine JC_region ?_
              refine JO_q (QE_mv rfl) rfl ?_
              refine JO_q (QE_add' rfl rfl (w64 (by omega) (by omega))) rfl ?_
              refine JO_q (QE_as rfl) rfl ?_
              refine JO_nil ?_
              refine thenQ_n ⟨(yq + 1), [_], (Keeps.cons rfl (Keeps.cons rfl (Keeps.cons rfl (Keeps.cons rfl (Keeps.cons rfl (Keeps.cons rfl (Keeps.cons rfl (Keeps.cons rfl (Keeps.cons rfl (Keeps.nil _)))))))))), rfl, ⟨(Le.trans (Le.trans (Le.trans (Le.trans (Le.trans I74.1 h77) h79) h80) h81) h83), ⟨by omega, fun y h1 => by
                rcases Nat.lt_succ_iff_lt_or_eq.1 h1 with h | rfl
                · exact HY y h
                · first
                  | exact hNC
                  | exact fun e => by have h5 := e.2.2.1; rw [hsk, decide_eq_true (by omega)] at h5; cases h5⟩⟩, (by omega)⟩
            ·
             refine JO_gF rfl rfl rfl rfl ?_
             refine JO_gF rfl rfl rfl rfl ?_
             refine JO_gF rfl rfl rfl rfl ?_
             refine JO_gF rfl rfl rfl rfl ?_
             refine JO_gF rfl rfl rfl rfl ?_
             refine JO_q (QE_pickF rfl rfl) rfl ?_
             refine JO_q (QE_mv rfl) rfl ?_
             refine JO_gF rfl rfl rfl rfl ?_
             refine JO_gF rfl rfl rfl rfl ?_
             refine JO_gF rfl rfl rfl rfl ?_
             refine JO_gF rfl rfl rfl rfl ?_
             refine JO_q (QE_pickF rfl rfl) rfl ?_
             refine JO_nil ?_
             refine thenQ_n ?_
             refine JC_ifF rfl ?_
             have hNC : ¬ Cand ws kd tq xq yq := by
               rintro ⟨e1, e2, e3, a2, b2, e4, e5, e6⟩
               first
               | exact absurd e2 (by assumption)
               | exact absurd e3 (by assumption)
               | (rw [hta] at e4; rw [htb] at e5; cases e4; cases e5; exact absurd e6 (by assumption))
             refine JC_skip ?_
             refine blockQ_n ?_
             refine thenQ_n ?_
             refine JC_region ?_
             refine JO_q (QE_mv rfl) rfl ?_
             refine JO_q (QE_add' rfl rfl (w64 (by omega) (by omega))) rfl ?_
             refine JO_q (QE_as rfl) rfl ?_
             refine JO_nil ?_
             refine thenQ_n ⟨(yq + 1), [_], (Keeps.cons rfl (Keeps.cons rfl (Keeps.cons rfl (Keeps.cons rfl (Keeps.cons rfl (Keeps.cons rfl (Keeps.cons rfl (Keeps.cons rfl (Keeps.cons rfl (Keeps.nil _)))))))))), rfl, ⟨(Le.trans (Le.trans (Le.trans (Le.trans I74.1 h77) h79) h80) h81), ⟨by omega, fun y h1 => by
               rcases Nat.lt_succ_iff_lt_or_eq.1 h1 with h | rfl
               · exact HY y h
               · first
                 | exact hNC
                 | exact fun e => by have h5 := e.2.2.1; rw [hsk, decide_eq_true (by omega)] at h5; cases h5⟩⟩, (by omega)⟩
          ·
           refine JO_gF rfl rfl rfl rfl ?_
           refine JO_gF rfl rfl rfl rfl ?_
           refine JO_gF rfl rfl rfl rfl ?_
           refine JO_q (QE_pickF rfl rfl) rfl ?_
           refine JO_nil ?_
           refine thenQ_n ?_
           refine JC_ifF rfl ?_
           refine JC_skip ?_
           refine thenQ_n ?_
           refine JC_seq ?_
           refine JC_draw drawsMixed 13 rfl _ (fun _ h => h) ?_
           intro s87 h87
           refine JA_q 0 rfl (by kernel_rfl) (by kernel_rfl) (by kernel_rfl) trivial (QE_mv rfl) rfl ?_
           refine JA_q 1 rfl (by kernel_rfl) (by kernel_rfl) (by kernel_rfl) trivial (QE_mv rfl) rfl ?_
           refine JA_q 2 rfl (by kernel_rfl) (by kernel_rfl) (by kernel_rfl) trivial (QE_mv rfl) rfl ?_
           refine JA_q 3 rfl (by kernel_rfl) (by kernel_rfl) (by kernel_rfl) trivial (QE_mv rfl) rfl ?_
           refine JA_q 4 rfl (by kernel_rfl) (by kernel_rfl) (by kernel_rfl) trivial (QE_iaN rfl rfl rfl rfl rfl rfl hxq) rfl ?_
           refine JA_q 5 rfl (by kernel_rfl) (by kernel_rfl) (by kernel_rfl) trivial (QE_ldsA rfl rfl rfl (hcxa.le (Le.trans (Le.trans h72 I74.1) h87)) rfl) rfl ?_
           refine JA_q 6 rfl (by kernel_rfl) (by kernel_rfl) (by kernel_rfl) trivial (QE_mv rfl) rfl ?_
           refine JA_q 7 rfl (by kernel_rfl) (by kernel_rfl) (by kernel_rfl) trivial (QE_mv rfl) rfl ?_
           refine JA_q 8 rfl (by kernel_rfl) (by kernel_rfl) (by kernel_rfl) trivial (QE_iaN rfl rfl rfl rfl rfl rfl hyq) rfl ?_
           refine JA_q 9 rfl (by kernel_rfl) (by kernel_rfl) (by kernel_rfl) trivial (QE_ldsA rfl rfl rfl (hcyb.le h87) rfl) rfl ?_
           refine JA_q 10 rfl (by kernel_rfl) (by kernel_rfl) (by kernel_rfl) trivial (QE_build [(_, _), (_, _), (_, _), (_, _)] [_, _, _, _, _, _] rfl rfl rfl rfl rfl rfl) rfl ?_
           refine JA_1 11 (by kernel_rfl) ?_
           refine JB_alloc rfl trivial rfl [_, _, _, _, _, _] rfl rfl ?_
           intro β88 s88 h88
           refine JA_1 12 (by kernel_rfl) ?_
           refine JB_st rfl trivial 0 [_, _, _, _, _, _] rfl rfl rfl rfl rfl rfl rfl rfl rfl (fun _ hx => sub_mem (sbY (sbE _)) hx) ?_
           refine JA_done (by kernel_rfl) ?_
           refine thenQ_n ?_
           refine JC_seq ?_
           refine JC_region ?_
           refine JO_q (QE_mv rfl) rfl ?_
           refine JO_call (first := []) (captured := []) rfl rfl rfl (hasX_ac D _ _ (kd : Int)) ?_
           rintro _ _ s89 h89 ⟨rfl, rfl⟩
           refine JO_q (QE_mv rfl) rfl ?_
           refine JO_q (QE_cast (v' := .bool (decide (0 < xq))) (QE_gt rfl rfl) (congrArg Value.bool (decide_eq_decide.2 (by omega)))) rfl ?_
           refine JO_q (QE_beq rfl rfl rfl rfl) rfl ?_
           refine JO_q (QE_mv rfl) rfl ?_
           refine JO_caseD (t := 103) rfl (fun c90 => ?_) (fun c90 => ?_)
           ·
            refine JO_gT rfl rfl ?_
            refine JO_q (QE_mv rfl) rfl ?_
            refine JO_gT rfl rfl ?_
            refine JO_call (first := []) (captured := []) rfl rfl rfl (hasY_ac D _ _ (kd : Int)) ?_
            rintro _ _ s91 h91 ⟨rfl, rfl⟩
            refine JO_gT rfl rfl ?_
            refine JO_q (QE_mv rfl) rfl ?_
            refine JO_gT rfl rfl ?_
            refine JO_q (QE_cast (v' := .bool (decide (0 < yq))) (QE_gt rfl rfl) (congrArg Value.bool (decide_eq_decide.2 (by omega)))) rfl ?_
            refine JO_gT rfl rfl ?_
            refine JO_q (QE_beq rfl rfl rfl rfl) rfl ?_
            refine JO_q (QE_pickT rfl rfl) rfl ?_
            refine JO_q (QE_mv rfl) rfl ?_
            refine JO_caseD (t := 110) rfl (fun c92 => ?_) (fun c92 => ?_)
            ·
             refine JO_gT rfl rfl ?_
             refine JO_q (QE_ldA 0 [_, _, _, _, _, _] rfl rfl rfl rfl rfl) rfl ?_
             refine JO_gT rfl rfl ?_
             refine JO_call (first := []) (captured := []) rfl rfl rfl (rsent_ac D _ _ ⟨(kd : Int), (tq : Int), ta, tb⟩ ⟨by simp only; omega, by simp only; omega⟩ ⟨⟨by simp only; omega, by simp only; omega⟩, hga, hgb⟩) ?_
             rintro _ _ s93 h93 ⟨rfl, rfl⟩
             refine JO_gT rfl rfl ?_
             refine JO_q (QE_mv rfl) rfl ?_
             refine JO_gT rfl rfl ?_
             refine JO_q (QE_seq rfl rfl) rfl ?_
             refine JO_q (QE_pickT rfl rfl) rfl ?_
             refine JO_nil ?_
             refine thenQ_n ?_
             refine JC_ifD rfl (fun c94 => ?_) (fun c94 => ?_)
             ·
              have hR := cand_rd (ws := ws) hb hkd htq hcT (by assumption) (by assumption) hta htb (by assumption)
              refine JC_seq ?_
              refine JC_region ?_
              refine JO_q (QE_ldA 0 [_, _, _, _, _, _] rfl rfl rfl rfl rfl) rfl ?_
              refine JO_st 1 [_, _, _, _, _, _] rfl rfl rfl rfl rfl rfl rfl rfl rfl ?_
              refine JO_q (QE_as rfl) rfl ?_
              refine JO_nil ?_
              refine thenQ_n ?_
              refine JC_ret ?_
              refine blockQ_r ?_
              refine thenQ_r ?_
              refine thenQ_r ?_
              refine blockQ_r ?_
              refine blockQ_r ?_
              refine thenQ_r ?_
              refine thenQ_r ?_
              refine blockQ_r ?_
              refine blockQ_r ?_
              refine thenQ_r ?_
              refine thenQ_r ?_
              refine blockQ_r ?_
              refine blockQ_r ?_
              refine thenQ_r ?_
              refine thenQ_r ?_
              refine blockQ_r ?_
              refine thenQ_r ?_
              refine retQ_mk [_, _] L (.inr rfl) (.agg (us := [_, _, _, _, _, _]) 1 rfl rfl rfl rfl rfl (.tmp rfl (.nil))) rfl (Le.trans (Le.trans (Le.trans (Le.trans (Le.trans (Le.trans (Le.trans (Le.trans (Le.trans (Le.trans (Le.trans (Le.trans (Le.trans (Le.trans (Le.trans (Le.trans h1 h2) h3) I5.1) h12) h13) I14.1) h16) I17.1) I69.1) h72) I74.1) h87) h88) h89) h91) h93) (fun sR hS2 => ?_)
              exact ⟨_, rfl, by rw [hR]; rfl, rfl⟩
             ·
              have hNC : ¬ Cand ws kd tq xq yq := by
                rintro ⟨e1, e2, e3, a2, b2, e4, e5, e6⟩
                first
                | exact absurd e2 (by assumption)
                | exact absurd e3 (by assumption)
                | (rw [hta] at e4; rw [htb] at e5; cases e4; cases e5; exact absurd e6 (by assumption))
              refine JC_skip ?_
              refine blockQ_n ?_
              refine thenQ_n ?_
              refine JC_region ?_
              refine JO_q (QE_mv rfl) rfl ?_
              refine JO_q (QE_add' rfl rfl (w64 (by omega) (by omega))) rfl ?_
              refine JO_q (QE_as rfl) rfl ?_
              refine JO_nil ?_
              refine thenQ_n ⟨(yq + 1), [_], (Keeps.cons rfl (Keeps.cons rfl (Keeps.cons rfl (Keeps.cons rfl (Keeps.cons rfl (Keeps.cons rfl (Keeps.cons rfl (Keeps.cons rfl (Keeps.cons rfl (Keeps.nil _)))))))))), rfl, ⟨(Le.trans (Le.trans (Le.trans (Le.trans (Le.trans I74.1 h87) h88) h89) h91) h93), ⟨by omega, fun y h1 => by
                rcases Nat.lt_succ_iff_lt_or_eq.1 h1 with h | rfl
                · exact HY y h
                · first
                  | exact hNC
                  | exact fun e => by have h5 := e.2.2.1; rw [hsk, decide_eq_true (by omega)] at h5; cases h5⟩⟩, (by omega)⟩
            ·
             refine JO_gF rfl rfl rfl rfl ?_
             refine JO_gF rfl rfl rfl rfl ?_
             refine JO_gF rfl rfl rfl rfl ?_
             refine JO_gF rfl rfl rfl rfl ?_
             refine JO_q (QE_pickF rfl rfl) rfl ?_
             refine JO_nil ?_
             refine thenQ_n ?_
             refine JC_ifF rfl ?_
             have hNC : ¬ Cand ws kd tq xq yq := by
               rintro ⟨e1, e2, e3, a2, b2, e4, e5, e6⟩
               first
               | exact absurd e2 (by assumption)
               | exact absurd e3 (by assumption)
               | (rw [hta] at e4; rw [htb] at e5; cases e4; cases e5; exact absurd e6 (by assumption))
             refine JC_skip ?_
             refine blockQ_n ?_
             refine thenQ_n ?_
             refine JC_region ?_
             refine JO_q (QE_mv rfl) rfl ?_
             refine JO_q (QE_add' rfl rfl (w64 (by omega) (by omega))) rfl ?_
             refine JO_q (QE_as rfl) rfl ?_
             refine JO_nil ?_
             refine thenQ_n ⟨(yq + 1), [_], (Keeps.cons rfl (Keeps.cons rfl (Keeps.cons rfl (Keeps.cons rfl (Keeps.cons rfl (Keeps.cons rfl (Keeps.cons rfl (Keeps.cons rfl (Keeps.cons rfl (Keeps.nil _)))))))))), rfl, ⟨(Le.trans (Le.trans (Le.trans (Le.trans I74.1 h87) h88) h89) h91), ⟨by omega, fun y h1 => by
               rcases Nat.lt_succ_iff_lt_or_eq.1 h1 with h | rfl
               · exact HY y h
               · first
                 | exact hNC
                 | exact fun e => by have h5 := e.2.2.1; rw [hsk, decide_eq_true (by omega)] at h5; cases h5⟩⟩, (by omega)⟩
           ·
            refine JO_gF rfl rfl rfl rfl ?_
            refine JO_gF rfl rfl rfl rfl ?_
            refine JO_gF rfl rfl rfl rfl ?_
            refine JO_gF rfl rfl rfl rfl ?_
            refine JO_gF rfl rfl rfl rfl ?_
            refine JO_q (QE_pickF rfl rfl) rfl ?_
            refine JO_q (QE_mv rfl) rfl ?_
            refine JO_gF rfl rfl rfl rfl ?_
            refine JO_gF rfl rfl rfl rfl ?_
            refine JO_gF rfl rfl rfl rfl ?_
            refine JO_gF rfl rfl rfl rfl ?_
            refine JO_q (QE_pickF rfl rfl) rfl ?_
            refine JO_nil ?_
            refine thenQ_n ?_
            refine JC_ifF rfl ?_
            have hNC : ¬ Cand ws kd tq xq yq := by
              rintro ⟨e1, e2, e3, a2, b2, e4, e5, e6⟩
              first
              | exact absurd e2 (by assumption)
              | exact absurd e3 (by assumption)
              | (rw [hta] at e4; rw [htb] at e5; cases e4; cases e5; exact absurd e6 (by assumption))
            refine JC_skip ?_
            refine blockQ_n ?_
            refine thenQ_n ?_
            refine JC_region ?_
            refine JO_q (QE_mv rfl) rfl ?_
            refine JO_q (QE_add' rfl rfl (w64 (by omega) (by omega))) rfl ?_
            refine JO_q (QE_as rfl) rfl ?_
            refine JO_nil ?_
            refine thenQ_n ⟨(yq + 1), [_], (Keeps.cons rfl (Keeps.cons rfl (Keeps.cons rfl (Keeps.cons rfl (Keeps.cons rfl (Keeps.cons rfl (Keeps.cons rfl (Keeps.cons rfl (Keeps.cons rfl (Keeps.nil _)))))))))), rfl, ⟨(Le.trans (Le.trans (Le.trans I74.1 h87) h88) h89), ⟨by omega, fun y h1 => by
              rcases Nat.lt_succ_iff_lt_or_eq.1 h1 with h | rfl
              · exact HY y h
              · first
                | exact hNC
                | exact fun e => by have h5 := e.2.2.1; rw [hsk, decide_eq_true (by omega)] at h5; cases h5⟩⟩, (by omega)⟩
         ·
          have hyq : yq = (termsR ws).length := by omega
          refine JC_exit ?_
          refine thenQ_x ?_
          refine thenQ_x ?_
          refine blockQ_x ?_
          refine blockQ_n ?_
          refine thenQ_n ?_
          refine JC_region ?_
          refine JO_q (QE_mv rfl) rfl ?_
          refine JO_q (QE_add' rfl rfl (w64 (by omega) (by omega))) rfl ?_
          refine JO_q (QE_as rfl) rfl ?_
          refine JO_nil ?_
          refine thenQ_n ⟨(xq + 1), [], (Keeps.cons rfl (Keeps.cons rfl (Keeps.cons rfl (Keeps.cons rfl (Keeps.cons rfl (Keeps.cons rfl (Keeps.cons rfl (Keeps.cons rfl (Keeps.nil _))))))))), rfl, ⟨(Le.trans (Le.trans I69.1 h72) I74.1), ⟨by omega, fun x y h1 h4 => by
            rcases Nat.lt_succ_iff_lt_or_eq.1 h1 with h | rfl
            · exact HX x y h h4
            · first
              | exact HY y (by omega)
              | exact fun e => by have h5 := e.2.1; rw [hsk, decide_eq_true (by omega)] at h5; cases h5⟩⟩, (by omega)⟩
       ·
        refine JO_gF rfl rfl rfl rfl ?_
        refine JO_gF rfl rfl rfl rfl ?_
        refine JO_gF rfl rfl rfl rfl ?_
        refine JO_q (QE_pickF rfl rfl) rfl ?_
        refine JO_nil ?_
        refine thenQ_n ?_
        refine JC_ifF rfl ?_
        refine JC_skip ?_
        refine thenQ_n ?_
        refine JC_seq ?_
        refine JC_region ?_
        refine JO_q (QE_as rfl) rfl ?_
        refine JO_nil ?_
        refine thenQ_n ?_
        refine JC_block ?_
        refine JC_loop (γ := Nat) (fun yq => [(2, _), (3, _), (4, _), (8, _), (9, _), (10, _), (11, _), (12, _), (13, .int .i64 (yq : Int))]) (fun _ => _) (fun yq tw => Le D s69 tw ∧ (yq ≤ (termsR ws).length ∧ ∀ y, y < yq → ¬ Cand ws kd tq xq y)) (fun yq => (termsR ws).length - yq) (fun _ _ _ h hl => ⟨h.1.trans hl, h.2⟩) 0 (Keeps.cons rfl (Keeps.cons rfl (Keeps.cons rfl (Keeps.cons rfl (Keeps.cons rfl (Keeps.cons rfl (Keeps.cons rfl (Keeps.cons rfl (Keeps.cons rfl (Keeps.nil _)))))))))) rfl ⟨Le.refl _, ⟨Nat.zero_le _, fun y h => by omega⟩⟩ ?_
        intro yq s95 I95
        have hy0 := I95.2.1
        have HY := I95.2.2
        refine JC_seq ?_
        refine JC_seq ?_
        refine JC_region ?_
        refine JO_q (QE_mv rfl) rfl ?_
        refine JO_q (QE_mv rfl) rfl ?_
        refine JO_q (QE_lenS rfl rfl rfl) rfl ?_
        refine JO_q (QE_lt rfl rfl) rfl ?_
        refine JO_nil ?_
        refine thenQ_n ?_
        refine JC_ifD rfl (fun c96 => ?_) (fun c96 => ?_)
        ·
         have hyq : yq < (termsR ws).length := by omega
         obtain ⟨by2, offy, tb, hEy, htb, hcyb, _⟩ := Tms.at_ (hTm.le (Le.trans (Le.trans (Le.trans (Le.trans (Le.trans h13 I14.1) h16) I17.1) I69.1) I95.1)) hyq
         cases hEy
         have hgb := terms_good (List.mem_of_getElem? htb)
         refine JC_skip ?_
         refine thenQ_n ?_
         refine JC_seq ?_
         refine JC_block ?_
         refine JC_seq ?_
         refine JC_seq ?_
         refine JC_region ?_
         refine JO_q (QE_mv rfl) rfl ?_
         refine JO_q (QE_gt rfl rfl) rfl ?_
         refine JO_q (QE_mv rfl) rfl ?_
         refine JO_caseD (t := 82) rfl (fun c97 => ?_) (fun c97 => ?_)
         ·
          refine JO_gT rfl rfl ?_
          refine JO_q (QE_mv rfl) rfl ?_
          refine JO_gT rfl rfl ?_
          refine JO_call (first := []) (captured := []) rfl rfl rfl (hasY_ac D _ _ (kd : Int)) ?_
          rintro _ _ s98 h98 ⟨rfl, rfl⟩
          refine JO_gT rfl rfl ?_
          refine JO_q (QE_not rfl) rfl ?_
          refine JO_q (QE_pickT rfl rfl) rfl ?_
          refine JO_nil ?_
          refine thenQ_n ?_
          refine JC_ifM rfl (fun c99 => ?_) (fun c99 => ?_)
          ·
           have hsk : usesY (kd : Int) = false := c99
           refine JC_exit ?_
           refine thenQ_x ?_
           refine blockQ_x ?_
           refine thenQ_n ?_
           refine JC_region ?_
           refine JO_q (QE_mv rfl) rfl ?_
           refine JO_q (QE_add' rfl rfl (w64 (by omega) (by omega))) rfl ?_
           refine JO_q (QE_as rfl) rfl ?_
           refine JO_nil ?_
           refine thenQ_n ⟨(yq + 1), [], (Keeps.cons rfl (Keeps.cons rfl (Keeps.cons rfl (Keeps.cons rfl (Keeps.cons rfl (Keeps.cons rfl (Keeps.cons rfl (Keeps.cons rfl (Keeps.cons rfl (Keeps.nil _)))))))))), rfl, ⟨(Le.trans I95.1 h98), ⟨by omega, fun y h1 => by
             rcases Nat.lt_succ_iff_lt_or_eq.1 h1 with h | rfl
             · exact HY y h
             · first
               | exact hNC
               | exact fun e => by have h5 := e.2.2.1; rw [hsk, decide_eq_true (by omega)] at h5; cases h5⟩⟩, (by omega)⟩
          ·
           refine JC_skip ?_
           refine thenQ_n ?_
           refine JC_seq ?_
           refine JC_draw drawsMixed 13 rfl _ (fun _ h => h) ?_
           intro s100 h100
           refine JA_q 0 rfl (by kernel_rfl) (by kernel_rfl) (by kernel_rfl) trivial (QE_mv rfl) rfl ?_
           refine JA_q 1 rfl (by kernel_rfl) (by kernel_rfl) (by kernel_rfl) trivial (QE_mv rfl) rfl ?_
           refine JA_q 2 rfl (by kernel_rfl) (by kernel_rfl) (by kernel_rfl) trivial (QE_mv rfl) rfl ?_
           refine JA_q 3 rfl (by kernel_rfl) (by kernel_rfl) (by kernel_rfl) trivial (QE_mv rfl) rfl ?_
           refine JA_q 4 rfl (by kernel_rfl) (by kernel_rfl) (by kernel_rfl) trivial (QE_iaN rfl rfl rfl rfl rfl rfl hxq) rfl ?_
           refine JA_q 5 rfl (by kernel_rfl) (by kernel_rfl) (by kernel_rfl) trivial (QE_ldsA rfl rfl rfl (hcxa.le (Le.trans (Le.trans I95.1 h98) h100)) rfl) rfl ?_
           refine JA_q 6 rfl (by kernel_rfl) (by kernel_rfl) (by kernel_rfl) trivial (QE_mv rfl) rfl ?_
           refine JA_q 7 rfl (by kernel_rfl) (by kernel_rfl) (by kernel_rfl) trivial (QE_mv rfl) rfl ?_
           refine JA_q 8 rfl (by kernel_rfl) (by kernel_rfl) (by kernel_rfl) trivial (QE_iaN rfl rfl rfl rfl rfl rfl hyq) rfl ?_
           refine JA_q 9 rfl (by kernel_rfl) (by kernel_rfl) (by kernel_rfl) trivial (QE_ldsA rfl rfl rfl (hcyb.le (Le.trans h98 h100)) rfl) rfl ?_
           refine JA_q 10 rfl (by kernel_rfl) (by kernel_rfl) (by kernel_rfl) trivial (QE_build [(_, _), (_, _), (_, _), (_, _)] [_, _, _, _, _, _] rfl rfl rfl rfl rfl rfl) rfl ?_
           refine JA_1 11 (by kernel_rfl) ?_
           refine JB_alloc rfl trivial rfl [_, _, _, _, _, _] rfl rfl ?_
           intro β101 s101 h101
           refine JA_1 12 (by kernel_rfl) ?_
           refine JB_st rfl trivial 0 [_, _, _, _, _, _] rfl rfl rfl rfl rfl rfl rfl rfl rfl (fun _ hx => sub_mem (sbY (sbE _)) hx) ?_
           refine JA_done (by kernel_rfl) ?_
           refine thenQ_n ?_
           refine JC_seq ?_
           refine JC_region ?_
           refine JO_q (QE_mv rfl) rfl ?_
           refine JO_call (first := []) (captured := []) rfl rfl rfl (hasX_ac D _ _ (kd : Int)) ?_
           rintro _ _ s102 h102 ⟨rfl, rfl⟩
           refine JO_q (QE_mv rfl) rfl ?_
           refine JO_q (QE_cast (v' := .bool (decide (0 < xq))) (QE_gt rfl rfl) (congrArg Value.bool (decide_eq_decide.2 (by omega)))) rfl ?_
           refine JO_q (QE_beq rfl rfl rfl rfl) rfl ?_
           refine JO_q (QE_mv rfl) rfl ?_
           refine JO_caseD (t := 103) rfl (fun c103 => ?_) (fun c103 => ?_)
           ·
            refine JO_gT rfl rfl ?_
            refine JO_q (QE_mv rfl) rfl ?_
            refine JO_gT rfl rfl ?_
            refine JO_call (first := []) (captured := []) rfl rfl rfl (hasY_ac D _ _ (kd : Int)) ?_
            rintro _ _ s104 h104 ⟨rfl, rfl⟩
            refine JO_gT rfl rfl ?_
            refine JO_q (QE_mv rfl) rfl ?_
            refine JO_gT rfl rfl ?_
            refine JO_q (QE_cast (v' := .bool (decide (0 < yq))) (QE_gt rfl rfl) (congrArg Value.bool (decide_eq_decide.2 (by omega)))) rfl ?_
            refine JO_gT rfl rfl ?_
            refine JO_q (QE_beq rfl rfl rfl rfl) rfl ?_
            refine JO_q (QE_pickT rfl rfl) rfl ?_
            refine JO_q (QE_mv rfl) rfl ?_
            refine JO_caseD (t := 110) rfl (fun c105 => ?_) (fun c105 => ?_)
            ·
             refine JO_gT rfl rfl ?_
             refine JO_q (QE_ldA 0 [_, _, _, _, _, _] rfl rfl rfl rfl rfl) rfl ?_
             refine JO_gT rfl rfl ?_
             refine JO_call (first := []) (captured := []) rfl rfl rfl (rsent_ac D _ _ ⟨(kd : Int), (tq : Int), ta, tb⟩ ⟨by simp only; omega, by simp only; omega⟩ ⟨⟨by simp only; omega, by simp only; omega⟩, hga, hgb⟩) ?_
             rintro _ _ s106 h106 ⟨rfl, rfl⟩
             refine JO_gT rfl rfl ?_
             refine JO_q (QE_mv rfl) rfl ?_
             refine JO_gT rfl rfl ?_
             refine JO_q (QE_seq rfl rfl) rfl ?_
             refine JO_q (QE_pickT rfl rfl) rfl ?_
             refine JO_nil ?_
             refine thenQ_n ?_
             refine JC_ifD rfl (fun c107 => ?_) (fun c107 => ?_)
             ·
              have hR := cand_rd (ws := ws) hb hkd htq hcT (by assumption) (by assumption) hta htb (by assumption)
              refine JC_seq ?_
              refine JC_region ?_
              refine JO_q (QE_ldA 0 [_, _, _, _, _, _] rfl rfl rfl rfl rfl) rfl ?_
              refine JO_st 1 [_, _, _, _, _, _] rfl rfl rfl rfl rfl rfl rfl rfl rfl ?_
              refine JO_q (QE_as rfl) rfl ?_
              refine JO_nil ?_
              refine thenQ_n ?_
              refine JC_ret ?_
              refine blockQ_r ?_
              refine thenQ_r ?_
              refine thenQ_r ?_
              refine blockQ_r ?_
              refine blockQ_r ?_
              refine thenQ_r ?_
              refine thenQ_r ?_
              refine blockQ_r ?_
              refine blockQ_r ?_
              refine thenQ_r ?_
              refine thenQ_r ?_
              refine blockQ_r ?_
              refine blockQ_r ?_
              refine thenQ_r ?_
              refine thenQ_r ?_
              refine blockQ_r ?_
              refine thenQ_r ?_
              refine retQ_mk [_, _] L (.inr rfl) (.agg (us := [_, _, _, _, _, _]) 1 rfl rfl rfl rfl rfl (.tmp rfl (.nil))) rfl (Le.trans (Le.trans (Le.trans (Le.trans (Le.trans (Le.trans (Le.trans (Le.trans (Le.trans (Le.trans (Le.trans (Le.trans (Le.trans (Le.trans (Le.trans (Le.trans h1 h2) h3) I5.1) h12) h13) I14.1) h16) I17.1) I69.1) I95.1) h98) h100) h101) h102) h104) h106) (fun sR hS2 => ?_)
              exact ⟨_, rfl, by rw [hR]; rfl, rfl⟩
             ·
              have hNC : ¬ Cand ws kd tq xq yq := by
                rintro ⟨e1, e2, e3, a2, b2, e4, e5, e6⟩
                first
                | exact absurd e2 (by assumption)
                | exact absurd e3 (by assumption)
                | (rw [hta] at e4; rw [htb] at e5; cases e4; cases e5; exact absurd e6 (by assumption))
              refine JC_skip ?_
              refine blockQ_n ?_
              refine thenQ_n ?_
              refine JC_region ?_
              refine JO_q (QE_mv rfl) rfl ?_
              refine JO_q (QE_add' rfl rfl (w64 (by omega) (by omega))) rfl ?_
              refine JO_q (QE_as rfl) rfl ?_
              refine JO_nil ?_
              refine thenQ_n ⟨(yq + 1), [_], (Keeps.cons rfl (Keeps.cons rfl (Keeps.cons rfl (Keeps.cons rfl (Keeps.cons rfl (Keeps.cons rfl (Keeps.cons rfl (Keeps.cons rfl (Keeps.cons rfl (Keeps.nil _)))))))))), rfl, ⟨(Le.trans (Le.trans (Le.trans (Le.trans (Le.trans (Le.trans I95.1 h98) h100) h101) h102) h104) h106), ⟨by omega, fun y h1 => by
                rcases Nat.lt_succ_iff_lt_or_eq.1 h1 with h | rfl
                · exact HY y h
                · first
                  | exact hNC
                  | exact fun e => by have h5 := e.2.2.1; rw [hsk, decide_eq_true (by omega)] at h5; cases h5⟩⟩, (by omega)⟩
            ·
             refine JO_gF rfl rfl rfl rfl ?_
             refine JO_gF rfl rfl rfl rfl ?_
             refine JO_gF rfl rfl rfl rfl ?_
             refine JO_gF rfl rfl rfl rfl ?_
             refine JO_q (QE_pickF rfl rfl) rfl ?_
             refine JO_nil ?_
             refine thenQ_n ?_
             refine JC_ifF rfl ?_
             have hNC : ¬ Cand ws kd tq xq yq := by
               rintro ⟨e1, e2, e3, a2, b2, e4, e5, e6⟩
               first
               | exact absurd e2 (by assumption)
               | exact absurd e3 (by assumption)
               | (rw [hta] at e4; rw [htb] at e5; cases e4; cases e5; exact absurd e6 (by assumption))
             refine JC_skip ?_
             refine blockQ_n ?_
             refine thenQ_n ?_
             refine JC_region ?_
             refine JO_q (QE_mv rfl) rfl ?_
             refine JO_q (QE_add' rfl rfl (w64 (by omega) (by omega))) rfl ?_
             refine JO_q (QE_as rfl) rfl ?_
             refine JO_nil ?_
             refine thenQ_n ⟨(yq + 1), [_], (Keeps.cons rfl (Keeps.cons rfl (Keeps.cons rfl (Keeps.cons rfl (Keeps.cons rfl (Keeps.cons rfl (Keeps.cons rfl (Keeps.cons rfl (Keeps.cons rfl (Keeps.nil _)))))))))), rfl, ⟨(Le.trans (Le.trans (Le.trans (Le.trans (Le.trans I95.1 h98) h100) h101) h102) h104), ⟨by omega, fun y h1 => by
               rcases Nat.lt_succ_iff_lt_or_eq.1 h1 with h | rfl
               · exact HY y h
               · first
                 | exact hNC
                 | exact fun e => by have h5 := e.2.2.1; rw [hsk, decide_eq_true (by omega)] at h5; cases h5⟩⟩, (by omega)⟩
           ·
            refine JO_gF rfl rfl rfl rfl ?_
            refine JO_gF rfl rfl rfl rfl ?_
            refine JO_gF rfl rfl rfl rfl ?_
            refine JO_gF rfl rfl rfl rfl ?_
            refine JO_gF rfl rfl rfl rfl ?_
            refine JO_q (QE_pickF rfl rfl) rfl ?_
            refine JO_q (QE_mv rfl) rfl ?_
            refine JO_gF rfl rfl rfl rfl ?_
            refine JO_gF rfl rfl rfl rfl ?_
            refine JO_gF rfl rfl rfl rfl ?_
            refine JO_gF rfl rfl rfl rfl ?_
            refine JO_q (QE_pickF rfl rfl) rfl ?_
            refine JO_nil ?_
            refine thenQ_n ?_
            refine JC_ifF rfl ?_
            have hNC : ¬ Cand ws kd tq xq yq := by
              rintro ⟨e1, e2, e3, a2, b2, e4, e5, e6⟩
              first
              | exact absurd e2 (by assumption)
              | exact absurd e3 (by assumption)
              | (rw [hta] at e4; rw [htb] at e5; cases e4; cases e5; exact absurd e6 (by assumption))
            refine JC_skip ?_
            refine blockQ_n ?_
            refine thenQ_n ?_
            refine JC_region ?_
            refine JO_q (QE_mv rfl) rfl ?_
            refine JO_q (QE_add' rfl rfl (w64 (by omega) (by omega))) rfl ?_
            refine JO_q (QE_as rfl) rfl ?_
            refine JO_nil ?_
            refine thenQ_n ⟨(yq + 1), [_], (Keeps.cons rfl (Keeps.cons rfl (Keeps.cons rfl (Keeps.cons rfl (Keeps.cons rfl (Keeps.cons rfl (Keeps.cons rfl (Keeps.cons rfl (Keeps.cons rfl (Keeps.nil _)))))))))), rfl, ⟨(Le.trans (Le.trans (Le.trans (Le.trans I95.1 h98) h100) h101) h102), ⟨by omega, fun y h1 => by
              rcases Nat.lt_succ_iff_lt_or_eq.1 h1 with h | rfl
              · exact HY y h
              · first
                | exact hNC
                | exact fun e => by have h5 := e.2.2.1; rw [hsk, decide_eq_true (by omega)] at h5; cases h5⟩⟩, (by omega)⟩
         ·
          refine JO_gF rfl rfl rfl rfl ?_
          refine JO_gF rfl rfl rfl rfl ?_
          refine JO_gF rfl rfl rfl rfl ?_
          refine JO_q (QE_pickF rfl rfl) rfl ?_
          refine JO_nil ?_
          refine thenQ_n ?_
          refine JC_ifF rfl ?_
          refine JC_skip ?_
          refine thenQ_n ?_
          refine JC_seq ?_
          refine JC_draw drawsMixed 13 rfl _ (fun _ h => h) ?_
          intro s108 h108
          refine JA_q 0 rfl (by kernel_rfl) (by kernel_rfl) (by kernel_rfl) trivial (QE_mv rfl) rfl ?_
          refine JA_q 1 rfl (by kernel_rfl) (by kernel_rfl) (by kernel_rfl) trivial (QE_mv rfl) rfl ?_
          refine JA_q 2 rfl (by kernel_rfl) (by kernel_rfl) (by kernel_rfl) trivial (QE_mv rfl) rfl ?_
          refine JA_q 3 rfl (by kernel_rfl) (by kernel_rfl) (by kernel_rfl) trivial (QE_mv rfl) rfl ?_
          refine JA_q 4 rfl (by kernel_rfl) (by kernel_rfl) (by kernel_rfl) trivial (QE_iaN rfl rfl rfl rfl rfl rfl hxq) rfl ?_
          refine JA_q 5 rfl (by kernel_rfl) (by kernel_rfl) (by kernel_rfl) trivial (QE_ldsA rfl rfl rfl (hcxa.le (Le.trans I95.1 h108)) rfl) rfl ?_
          refine JA_q 6 rfl (by kernel_rfl) (by kernel_rfl) (by kernel_rfl) trivial (QE_mv rfl) rfl ?_
          refine JA_q 7 rfl (by kernel_rfl) (by kernel_rfl) (by kernel_rfl) trivial (QE_mv rfl) rfl ?_
          refine JA_q 8 rfl (by kernel_rfl) (by kernel_rfl) (by kernel_rfl) trivial (QE_iaN rfl rfl rfl rfl rfl rfl hyq) rfl ?_
          refine JA_q 9 rfl (by kernel_rfl) (by kernel_rfl) (by kernel_rfl) trivial (QE_ldsA rfl rfl rfl (hcyb.le h108) rfl) rfl ?_
          refine JA_q 10 rfl (by kernel_rfl) (by kernel_rfl) (by kernel_rfl) trivial (QE_build [(_, _), (_, _), (_, _), (_, _)] [_, _, _, _, _, _] rfl rfl rfl rfl rfl rfl) rfl ?_
          refine JA_1 11 (by kernel_rfl) ?_
          refine JB_alloc rfl trivial rfl [_, _, _, _, _, _] rfl rfl ?_
          intro β109 s109 h109
          refine JA_1 12 (by kernel_rfl) ?_
          refine JB_st rfl trivial 0 [_, _, _, _, _, _] rfl rfl rfl rfl rfl rfl rfl rfl rfl (fun _ hx => sub_mem (sbY (sbE _)) hx) ?_
          refine JA_done (by kernel_rfl) ?_
          refine thenQ_n ?_
          refine JC_seq ?_
          refine JC_region ?_
          refine JO_q (QE_mv rfl) rfl ?_
          refine JO_call (first := []) (captured := []) rfl rfl rfl (hasX_ac D _ _ (kd : Int)) ?_
          rintro _ _ s110 h110 ⟨rfl, rfl⟩
          refine JO_q (QE_mv rfl) rfl ?_
          refine JO_q (QE_cast (v' := .bool (decide (0 < xq))) (QE_gt rfl rfl) (congrArg Value.bool (decide_eq_decide.2 (by omega)))) rfl ?_
          refine JO_q (QE_beq rfl rfl rfl rfl) rfl ?_
          refine JO_q (QE_mv rfl) rfl ?_
          refine JO_caseD (t := 103) rfl (fun c111 => ?_) (fun c111 => ?_)
          ·
           refine JO_gT rfl rfl ?_
           refine JO_q (QE_mv rfl) rfl ?_
           refine JO_gT rfl rfl ?_
           refine JO_call (first := []) (captured := []) rfl rfl rfl (hasY_ac D _ _ (kd : Int)) ?_
           rintro _ _ s112 h112 ⟨rfl, rfl⟩
           refine JO_gT rfl rfl ?_
           refine JO_q (QE_mv rfl) rfl ?_
           refine JO_gT rfl rfl ?_
           refine JO_q (QE_cast (v' := .bool (decide (0 < yq))) (QE_gt rfl rfl) (congrArg Value.bool (decide_eq_decide.2 (by omega)))) rfl ?_
           refine JO_gT rfl rfl ?_
           refine JO_q (QE_beq rfl rfl rfl rfl) rfl ?_
           refine JO_q (QE_pickT rfl rfl) rfl ?_
           refine JO_q (QE_mv rfl) rfl ?_
           refine JO_caseD (t := 110) rfl (fun c113 => ?_) (fun c113 => ?_)
           ·
            refine JO_gT rfl rfl ?_
            refine JO_q (QE_ldA 0 [_, _, _, _, _, _] rfl rfl rfl rfl rfl) rfl ?_
            refine JO_gT rfl rfl ?_
            refine JO_call (first := []) (captured := []) rfl rfl rfl (rsent_ac D _ _ ⟨(kd : Int), (tq : Int), ta, tb⟩ ⟨by simp only; omega, by simp only; omega⟩ ⟨⟨by simp only; omega, by simp only; omega⟩, hga, hgb⟩) ?_
            rintro _ _ s114 h114 ⟨rfl, rfl⟩
            refine JO_gT rfl rfl ?_
            refine JO_q (QE_mv rfl) rfl ?_
            refine JO_gT rfl rfl ?_
            refine JO_q (QE_seq rfl rfl) rfl ?_
            refine JO_q (QE_pickT rfl rfl) rfl ?_
            refine JO_nil ?_
            refine thenQ_n ?_
            refine JC_ifD rfl (fun c115 => ?_) (fun c115 => ?_)
            ·
             have hR := cand_rd (ws := ws) hb hkd htq hcT (by assumption) (by assumption) hta htb (by assumption)
             refine JC_seq ?_
             refine JC_region ?_
             refine JO_q (QE_ldA 0 [_, _, _, _, _, _] rfl rfl rfl rfl rfl) rfl ?_
             refine JO_st 1 [_, _, _, _, _, _] rfl rfl rfl rfl rfl rfl rfl rfl rfl ?_
             refine JO_q (QE_as rfl) rfl ?_
             refine JO_nil ?_
             refine thenQ_n ?_
             refine JC_ret ?_
             refine blockQ_r ?_
             refine thenQ_r ?_
             refine thenQ_r ?_
             refine blockQ_r ?_
             refine blockQ_r ?_
             refine thenQ_r ?_
             refine thenQ_r ?_
             refine blockQ_r ?_
             refine blockQ_r ?_
             refine thenQ_r ?_
             refine thenQ_r ?_
             refine blockQ_r ?_
             refine blockQ_r ?_
             refine thenQ_r ?_
             refine thenQ_r ?_
             refine blockQ_r ?_
             refine thenQ_r ?_
             refine retQ_mk [_, _] L (.inr rfl) (.agg (us := [_, _, _, _, _, _]) 1 rfl rfl rfl rfl rfl (.tmp rfl (.nil))) rfl (Le.trans (Le.trans (Le.trans (Le.trans (Le.trans (Le.trans (Le.trans (Le.trans (Le.trans (Le.trans (Le.trans (Le.trans (Le.trans (Le.trans (Le.trans h1 h2) h3) I5.1) h12) h13) I14.1) h16) I17.1) I69.1) I95.1) h108) h109) h110) h112) h114) (fun sR hS2 => ?_)
             exact ⟨_, rfl, by rw [hR]; rfl, rfl⟩
            ·
             have hNC : ¬ Cand ws kd tq xq yq := by
               rintro ⟨e1, e2, e3, a2, b2, e4, e5, e6⟩
               first
               | exact absurd e2 (by assumption)
               | exact absurd e3 (by assumption)
               | (rw [hta] at e4; rw [htb] at e5; cases e4; cases e5; exact absurd e6 (by assumption))
             refine JC_skip ?_
             refine blockQ_n ?_
             refine thenQ_n ?_
             refine JC_region ?_
             refine JO_q (QE_mv rfl) rfl ?_
             refine JO_q (QE_add' rfl rfl (w64 (by omega) (by omega))) rfl ?_
             refine JO_q (QE_as rfl) rfl ?_
             refine JO_nil ?_
             refine thenQ_n ⟨(yq + 1), [_], (Keeps.cons rfl (Keeps.cons rfl (Keeps.cons rfl (Keeps.cons rfl (Keeps.cons rfl (Keeps.cons rfl (Keeps.cons rfl (Keeps.cons rfl (Keeps.cons rfl (Keeps.nil _)))))))))), rfl, ⟨(Le.trans (Le.trans (Le.trans (Le.trans (Le.trans I95.1 h108) h109) h110) h112) h114), ⟨by omega, fun y h1 => by
               rcases Nat.lt_succ_iff_lt_or_eq.1 h1 with h | rfl
               · exact HY y h
               · first
                 | exact hNC
                 | exact fun e => by have h5 := e.2.2.1; rw [hsk, decide_eq_true (by omega)] at h5; cases h5⟩⟩, (by omega)⟩
           ·
            refine JO_gF rfl rfl rfl rfl ?_
            refine JO_gF rfl rfl rfl rfl ?_
            refine JO_gF rfl rfl rfl rfl ?_
            refine JO_gF rfl rfl rfl rfl ?_
            refine JO_q (QE_pickF rfl rfl) rfl ?_
            refine JO_nil ?_
            refine thenQ_n ?_
            refine JC_ifF rfl ?_
            have hNC : ¬ Cand ws kd tq xq yq := by
              rintro ⟨e1, e2, e3, a2, b2, e4, e5, e6⟩
              first
              | exact absurd e2 (by assumption)
              | exact absurd e3 (by assumption)
              | (rw [hta] at e4; rw [htb] at e5; cases e4; cases e5; exact absurd e6 (by assumption))
            refine JC_skip ?_
            refine blockQ_n ?_
            refine thenQ_n ?_
            refine JC_region ?_
            refine JO_q (QE_mv rfl) rfl ?_
            refine JO_q (QE_add' rfl rfl (w64 (by omega) (by omega))) rfl ?_
            refine JO_q (QE_as rfl) rfl ?_
            refine JO_nil ?_
            refine thenQ_n ⟨(yq + 1), [_], (Keeps.cons rfl (Keeps.cons rfl (Keeps.cons rfl (Keeps.cons rfl (Keeps.cons rfl (Keeps.cons rfl (Keeps.cons rfl (Keeps.cons rfl (Keeps.cons rfl (Keeps.nil _)))))))))), rfl, ⟨(Le.trans (Le.trans (Le.trans (Le.trans I95.1 h108) h109) h110) h112), ⟨by omega, fun y h1 => by
              rcases Nat.lt_succ_iff_lt_or_eq.1 h1 with h | rfl
              · exact HY y h
              · first
                | exact hNC
                | exact fun e => by have h5 := e.2.2.1; rw [hsk, decide_eq_true (by omega)] at h5; cases h5⟩⟩, (by omega)⟩
          ·
           refine JO_gF rfl rfl rfl rfl ?_
           refine JO_gF rfl rfl rfl rfl ?_
           refine JO_gF rfl rfl rfl rfl ?_
           refine JO_gF rfl rfl rfl rfl ?_
           refine JO_gF rfl rfl rfl rfl ?_
           refine JO_q (QE_pickF rfl rfl) rfl ?_
           refine JO_q (QE_mv rfl) rfl ?_
           refine JO_gF rfl rfl rfl rfl ?_
           refine JO_gF rfl rfl rfl rfl ?_
           refine JO_gF rfl rfl rfl rfl ?_
           refine JO_gF rfl rfl rfl rfl ?_
           refine JO_q (QE_pickF rfl rfl) rfl ?_
           refine JO_nil ?_
           refine thenQ_n ?_
           refine JC_ifF rfl ?_
           have hNC : ¬ Cand ws kd tq xq yq := by
             rintro ⟨e1, e2, e3, a2, b2, e4, e5, e6⟩
             first
             | exact absurd e2 (by assumption)
             | exact absurd e3 (by assumption)
             | (rw [hta] at e4; rw [htb] at e5; cases e4; cases e5; exact absurd e6 (by assumption))
           refine JC_skip ?_
           refine blockQ_n ?_
           refine thenQ_n ?_
           refine JC_region ?_
           refine JO_q (QE_mv rfl) rfl ?_
           refine JO_q (QE_add' rfl rfl (w64 (by omega) (by omega))) rfl ?_
           refine JO_q (QE_as rfl) rfl ?_
           refine JO_nil ?_
           refine thenQ_n ⟨(yq + 1), [_], (Keeps.cons rfl (Keeps.cons rfl (Keeps.cons rfl (Keeps.cons rfl (Keeps.cons rfl (Keeps.cons rfl (Keeps.cons rfl (Keeps.cons rfl (Keeps.cons rfl (Keeps.nil _)))))))))), rfl, ⟨(Le.trans (Le.trans (Le.trans I95.1 h108) h109) h110), ⟨by omega, fun y h1 => by
             rcases Nat.lt_succ_iff_lt_or_eq.1 h1 with h | rfl
             · exact HY y h
             · first
               | exact hNC
               | exact fun e => by have h5 := e.2.2.1; rw [hsk, decide_eq_true (by omega)] at h5; cases h5⟩⟩, (by omega)⟩
        ·
         have hyq : yq = (termsR ws).length := by omega
         refine JC_exit ?_
         refine thenQ_x ?_
         refine thenQ_x ?_
         refine blockQ_x ?_
         refine blockQ_n ?_
         refine thenQ_n ?_
         refine JC_region ?_
         refine JO_q (QE_mv rfl) rfl ?_
         refine JO_q (QE_add' rfl rfl (w64 (by omega) (by omega))) rfl ?_
         refine JO_q (QE_as rfl) rfl ?_
         refine JO_nil ?_
         refine thenQ_n ⟨(xq + 1), [], (Keeps.cons rfl (Keeps.cons rfl (Keeps.cons rfl (Keeps.cons rfl (Keeps.cons rfl (Keeps.cons rfl (Keeps.cons rfl (Keeps.cons rfl (Keeps.nil _))))))))), rfl, ⟨(Le.trans I69.1 I95.1), ⟨by omega, fun x y h1 h4 => by
           rcases Nat.lt_succ_iff_lt_or_eq.1 h1 with h | rfl
           · exact HX x y h h4
           · first
             | exact HY y (by omega)
             | exact fun e => by have h5 := e.2.1; rw [hsk, decide_eq_true (by omega)] at h5; cases h5⟩⟩, (by omega)⟩
      ·
       have hxq : xq = (termsR ws).length := by omega
       refine JC_exit ?_
       refine thenQ_x ?_
       refine thenQ_x ?_
       refine blockQ_x ?_
       refine blockQ_n ?_
       refine thenQ_n ?_
       refine JC_region ?_
       refine JO_q (QE_mv rfl) rfl ?_
       refine JO_q (QE_add' rfl rfl (w64 (by omega) (by omega))) rfl ?_
       refine JO_q (QE_as rfl) rfl ?_
       refine JO_nil ?_
       refine thenQ_n ⟨(tq + 1), [], (Keeps.cons rfl (Keeps.cons rfl (Keeps.cons rfl (Keeps.cons rfl (Keeps.cons rfl (Keeps.cons rfl (Keeps.cons rfl (Keeps.nil _)))))))), rfl, ⟨(Le.trans I17.1 I69.1), ⟨by omega, fun tt x y h1 h3 h4 => by
         rcases Nat.lt_succ_iff_lt_or_eq.1 h1 with h | rfl
         · exact HT tt x y h h3 h4
         · first
           | exact HX x y (by omega) h4
           | exact fun e => by have h5 := e.1 (by omega); rw [hsk] at h5; cases h5⟩⟩, (by omega)⟩
    ·
     have htq : tq = 5 := by omega
     refine JC_exit ?_
     refine thenQ_x ?_
     refine thenQ_x ?_
     refine blockQ_x ?_
     refine blockQ_n ?_
     refine thenQ_n ?_
     refine JC_region ?_
     refine JO_q (QE_mv rfl) rfl ?_
     refine JO_q (QE_add' rfl rfl (w64 (by omega) (by omega))) rfl ?_
     refine JO_q (QE_as rfl) rfl ?_
     refine JO_nil ?_
     refine thenQ_n ⟨(kd + 1), [], (Keeps.cons rfl (Keeps.cons rfl (Keeps.cons rfl (Keeps.cons rfl (Keeps.cons rfl (Keeps.nil _)))))), rfl, ⟨(Le.trans (Le.trans I14.1 h16) I17.1), ⟨by omega, fun k tt x y h1 h2 h3 h4 => by
       rcases Nat.lt_succ_iff_lt_or_eq.1 h1 with h | rfl
       · exact HK k tt x y h h2 h3 h4
       · exact HT tt x y (by omega) h3 h4⟩⟩, (by omega)⟩
   ·
    have hR := rd_none (ws := ws) (fun k tt x y h1 h2 h3 h4 => HK k tt x y (by omega) h2 h3 h4)
    refine JC_exit ?_
    refine thenQ_x ?_
    refine thenQ_x ?_
    refine blockQ_x ?_
    refine thenQ_n ?_
    refine JC_seq ?_
    refine JC_region ?_
    refine JO_q (QE_build [] [_, _, _, _, _, _] rfl rfl rfl rfl rfl rfl) rfl ?_
    refine JO_st 0 [_, _, _, _, _, _] rfl rfl rfl rfl rfl rfl rfl rfl rfl ?_
    refine JO_q (QE_as rfl) rfl ?_
    refine JO_nil ?_
    refine thenQ_n ?_
    refine JC_ret ?_
    refine retQ_mk [_] L (.inr rfl) (.agg (us := [_, _, _, _, _, _]) 0 rfl rfl rfl rfl rfl (.tmp rfl (.nil))) rfl (Le.trans (Le.trans (Le.trans (Le.trans (Le.trans (Le.trans h1 h2) h3) I5.1) h12) h13) I14.1) (fun sR hS2 => ?_)
    exact ⟨_, rfl, by rw [hR]; rfl, rfl⟩
end Go.Proofs.YtoeeblegplghmaaGreatDoor
namespace Go.Proofs.YtoeeblegplghmaaGreatDoor
open Go.FL
attribute [local irreducible] JC JO JA JB thenQ blockQ retQ AC fill CellsAt QE Ev Mid
theorem numL_lt {l : List UInt8} {u : Nat} (h : numL l = some u) : u < 4294967296 := by
  unfold numL at h
  split at h
  · rename_i hc; injection h with h; omega
  · cases h
theorem numL_u32 (l : List UInt8) : U32 (((numL l).getD 0 : Nat) : Int) := by
  cases h : numL l with
  | none => exact ⟨by simp, by simp⟩
  | some u => have := numL_lt h; exact ⟨by simp, by simp; omega⟩
theorem numL_get (l : List UInt8) : ∀ u : Nat, numL l = some u → (((numL l).getD 0 : Nat) : Int) = (u : Int) := fun u h => by rw [h]; rfl
theorem cur_next {ws : List (List UInt8)} {i fr : Nat} {w : List UInt8} (hw : ws[i]? = some w) (hf : fr ≤ i) : (ws.take (i + 1)).drop fr = (ws.take i).drop fr ++ [w] := by
  obtain ⟨hi, he⟩ := List.getElem?_eq_some_iff.1 hw
  rw [List.take_succ_eq_append_getElem hi, he, List.drop_append_of_le_length (by rw [List.length_take]; omega)]
theorem cur_nil (ws : List (List UInt8)) (i : Nat) : (ws.take i).drop i = [] := List.drop_of_length_le (by rw [List.length_take]; omega)
theorem sn_no {cur r : List (List UInt8)} {w : List UInt8} (h : dotB w = true) (h2 : rdAny (cur ++ [w]) = none) : sn cur (w :: r) = none := by rw [sn, if_pos h, h2]; rfl
theorem sn_yes {cur r : List (List UInt8)} {w : List UInt8} {a : Ac} (h : dotB w = true) (h2 : rdAny (cur ++ [w]) = some a) : sn cur (w :: r) = (sn [] r).map (a :: ·) := by rw [sn, if_pos h, h2]; rfl
theorem sn_go {cur r : List (List UInt8)} {w : List UInt8} (h : dotB w = false) : sn cur (w :: r) = sn (cur ++ [w]) r := by rw [sn, if_neg (by rw [h]; decide)]
theorem map_app1 (o : Option (List Ac)) (acc : List Ac) (a : Ac) : (o.map (a :: ·)).map (acc ++ ·) = o.map ((acc ++ [a]) ++ ·) := by cases o <;> simp
set_option maxHeartbeats 4000000 in
set_option maxRecDepth 100000 in
theorem rinsInO_ac (D : Nat) (L : Hl) (s : World) (A : Option Addr) (n c : Nat) (ws : List (List UInt8)) (hS : Strs s A n c ws) (hz : sizeW ws ≤ 1000000) (hok : okT (joinW ws) = true) (hb : ∀ w ∈ ws, bare1 w) : AC Tryz.prog D 40 [.slice A n c] L s fun v L' s' => ∃ M', L' = M' ++ L ∧ ∀ s2, Le D s' s2 → Pub M' s2 → ∃ (x : Ins) (Ai : Option Addr) (ni ci : Nat), v = .tuple #[.agg #[St x.name, .int .u32 x.code, .bool x.operand, .slice Ai ni ci], .bool (rdIns ws).isSome] ∧ Acs s2 Ai ni ci x.acts ∧ x.name.length ≤ 1000000 ∧ U32 x.code ∧ ∀ y, rdIns ws = some y → x = y := by
 have hn := hS.1
 have hc1 := hS.2.1
 have hc2 := hS.2.2.1
 have hsl := size_len ws
 refine AC_enter (TT := TT) (fn := Tryz.f40) TT_ok Tryz.func40 (by kernel_rfl) rfl Tryz.ntmps40 rfl (rs := [.cell 2 63, .tmp 3]) rfl [(0, _)] rfl ?_
 refine JC_seq ?_
 refine JC_region ?_
 refine JO_allocZ rfl [_, _, _, _] rfl rfl ?_
 intro β1 s1 h1
 refine JO_q (QE_as rfl) rfl ?_
 refine JO_nil ?_
 refine thenQ_n ?_
 refine JC_seq ?_
 refine JC_region ?_
 refine JO_allocZ rfl [_, _, _, _] rfl rfl ?_
 intro β2 s2 h2
 refine JO_nil ?_
 refine thenQ_n ?_
 refine JC_seq ?_
 refine JC_seq ?_
 refine JC_region ?_
 refine JO_q (QE_mv rfl) rfl ?_
 refine JO_q (QE_lenS rfl rfl rfl) rfl ?_
 refine JO_q (QE_lt rfl rfl) rfl ?_
 refine JO_nil ?_
 refine thenQ_n ?_
 refine JC_ifD rfl (fun c3 => ?_) (fun c3 => ?_)
 ·
  have hN9 : ws.length < 9 := by omega
  have hR0 : rdIns ws = none := if_pos hN9
  refine JC_seq ?_
  refine JC_region ?_
  refine JO_q (QE_ldA 0 [_, _, _, _] rfl rfl rfl rfl rfl) rfl ?_
  refine JO_st 1 [_, _, _, _] rfl rfl rfl rfl rfl rfl rfl rfl rfl ?_
  refine JO_q (QE_as rfl) rfl ?_
  refine JO_nil ?_
  refine thenQ_n ?_
  refine JC_ret ?_
  refine thenQ_r ?_
  refine retQ_mk [_, _] _ (.inr rfl) (.agg (us := [_, _, _, _]) 1 rfl rfl rfl rfl rfl (.tmp rfl (.nil))) rfl (Le.trans h1 h2) (fun sR hS2 => ?_)
  first
    | exact ⟨[], rfl, fun s2 hs2 hp => ⟨⟨[], 0, false, []⟩, none, 0, 0, by rw [hR0]; rfl, acs_nil _, by decide, ⟨by decide, by decide⟩, fun y hy => by rw [hR0] at hy; cases hy⟩⟩
    | exact ⟨[], rfl, fun s2 hs2 hp => ⟨⟨w4, (((numL w1).getD 0 : Nat) : Int), decide (w7 = [97, 110]), []⟩, none, 0, 0, by rw [hR0]; rfl, acs_nil _, by simp only; omega, numL_u32 w1, fun y hy => by rw [hR0] at hy; cases hy⟩⟩
    | (exact ⟨Mo, rfl, fun s2 hs2 hp => ⟨⟨w4, (((numL w1).getD 0 : Nat) : Int), decide (w7 = [97, 110]), acc⟩, Ao, acc.length, co, by rw [hR0]; rfl, Own.acs hO (fun a ha => ⟨(hacc a ha).2.1.2.1.u32, (hacc a ha).2.1.2.2.u32⟩) hp rfl, by simp only; omega, numL_u32 w1, fun y hy => by rw [hR0] at hy; cases hy⟩⟩)
    | (refine ⟨Mo, rfl, fun s2 hs2 hp => ⟨⟨w4, (((numL w1).getD 0 : Nat) : Int), decide (w7 = [97, 110]), acc⟩, Ao, acc.length, co, ?_, Own.acs hO (fun a ha => ⟨(hacc a ha).2.1.2.1.u32, (hacc a ha).2.1.2.2.u32⟩) hp rfl, by simp only; omega, numL_u32 w1, fun y hy => ?_⟩⟩
       · rw [hfin]
         by_cases e : fr = n
         · subst e; simp [resV]
         · have e2 : ¬ ((fr : Int) = (n : Int)) := by omega
           simp [resV, e, e2]
       · rw [hfin] at hy
         split at hy
         · injection hy
         · cases hy)
 ·
  have hN9 : ¬ ws.length < 9 := by omega
  obtain ⟨b1, off1, w1, hE1, hw1, hcw1, _⟩ := Strs.at_ (hS.le (Le.trans h1 h2)) (show 1 < n by omega)
  subst hE1
  obtain ⟨b4, off4, w4, hE4, hw4, hcw4, _⟩ := Strs.at_ (hS.le (Le.trans h1 h2)) (show 4 < n by omega)
  cases hE4
  obtain ⟨b7, off7, w7, hE7, hw7, hcw7, _⟩ := Strs.at_ (hS.le (Le.trans h1 h2)) (show 7 < n by omega)
  cases hE7
  have hl1 := mem_size (List.mem_of_getElem? hw1)
  have hl4 := mem_size (List.mem_of_getElem? hw4)
  have hS9 := Strs.take hS (show 9 ≤ n by omega)
  have hgen := head_gen (c := (((numL w1).getD 0 : Nat) : Int)) (o := (decide (w7 = [97, 110]))) (hb w4 (List.mem_of_getElem? hw4)) (join_okT hok w4 (List.mem_of_getElem? hw4))
  refine JC_skip ?_
  refine thenQ_n ?_
  refine JC_seq ?_
  refine JC_region ?_
  refine JO_q (QE_mv rfl) rfl ?_
  refine JO_q (QE_ia1 rfl rfl rfl rfl rfl rfl (show 1 < n by omega)) rfl ?_
  refine JO_q (QE_ldsR0 rfl rfl rfl (hcw1.le (Le.refl (D := D) _)) rfl) rfl ?_
  refine JO_call (first := []) (captured := []) rfl rfl rfl (numberOf_ac D _ _ w1 (by omega)) ?_
  rintro _ _ s4 h4 ⟨rfl, rfl⟩
  refine JO_q (QE_mv rfl) rfl ?_
  refine JO_q (QE_ext rfl rfl) rfl ?_
  refine JO_q (QE_ext rfl rfl) rfl ?_
  refine JO_q (QE_as rfl) rfl ?_
  refine JO_q (QE_as rfl) rfl ?_
  refine JO_nil ?_
  refine thenQ_n ?_
  refine JC_seq ?_
  refine JC_region ?_
  refine JO_q (QE_mv rfl) rfl ?_
  refine JO_q (QE_faB rfl rfl rfl rfl) rfl ?_
  refine JO_st 0 [_, _, _, _] rfl rfl rfl rfl rfl rfl rfl rfl rfl ?_
  refine JO_nil ?_
  refine thenQ_n ?_
  refine JC_seq ?_
  refine JC_region ?_
  refine JO_q (QE_mv rfl) rfl ?_
  refine JO_q (QE_ia1 rfl rfl rfl rfl rfl rfl (show 4 < n by omega)) rfl ?_
  refine JO_q (QE_ldsR0 rfl rfl rfl (hcw4.le h4) rfl) rfl ?_
  refine JO_q (QE_fa0 rfl rfl rfl rfl) rfl ?_
  refine JO_st 0 [_, _, _, _] rfl rfl rfl rfl rfl rfl rfl rfl rfl ?_
  refine JO_nil ?_
  refine thenQ_n ?_
  refine JC_seq ?_
  refine JC_region ?_
  refine JO_q (QE_mv rfl) rfl ?_
  refine JO_q (QE_ia1 rfl rfl rfl rfl rfl rfl (show 7 < n by omega)) rfl ?_
  refine JO_q (QE_ldsR0 rfl rfl rfl (hcw7.le h4) rfl) rfl ?_
  refine JO_q (QE_seq rfl rfl) rfl ?_
  refine JO_q (QE_faB rfl rfl rfl rfl) rfl ?_
  refine JO_st 0 [_, _, _, _] rfl rfl rfl rfl rfl rfl rfl rfl rfl ?_
  refine JO_nil ?_
  refine thenQ_n ?_
  refine JC_seq ?_
  refine JC_seq ?_
  refine JC_draw drawsMixed 14 rfl _ (fun _ h => h) ?_
  intro s5 h5
  refine JA_q 0 rfl (by kernel_rfl) (by kernel_rfl) (by kernel_rfl) trivial (QE_mv rfl) rfl ?_
  refine JA_q 1 rfl (by kernel_rfl) (by kernel_rfl) (by kernel_rfl) trivial (QE_not rfl) rfl ?_
  refine JA_q 2 rfl (by kernel_rfl) (by kernel_rfl) (by kernel_rfl) trivial (QE_mv rfl) rfl ?_
  refine JA_caseM (t := 36) rfl (fun c6 => ?_) (fun c6 => ?_)
  ·
   refine JA_no 3 rfl (by kernel_rfl) (by kernel_rfl) (by kernel_rfl) rfl rfl rfl rfl ?_
   refine JA_no 4 rfl (by kernel_rfl) (by kernel_rfl) (by kernel_rfl) rfl rfl rfl rfl ?_
   refine JA_no 5 rfl (by kernel_rfl) (by kernel_rfl) (by kernel_rfl) rfl rfl rfl rfl ?_
   refine JA_no 6 rfl (by kernel_rfl) (by kernel_rfl) (by kernel_rfl) rfl rfl rfl rfl ?_
   refine JA_no 7 rfl (by kernel_rfl) (by kernel_rfl) (by kernel_rfl) rfl rfl rfl rfl ?_
   refine JA_no 8 rfl (by kernel_rfl) (by kernel_rfl) (by kernel_rfl) rfl rfl rfl rfl ?_
   refine JA_no 9 rfl (by kernel_rfl) (by kernel_rfl) (by kernel_rfl) rfl rfl rfl rfl ?_
   refine JA_no 10 rfl (by kernel_rfl) (by kernel_rfl) (by kernel_rfl) rfl rfl rfl rfl ?_
   refine JA_no 11 rfl (by kernel_rfl) (by kernel_rfl) (by kernel_rfl) rfl rfl rfl rfl ?_
   refine JA_no 12 rfl (by kernel_rfl) (by kernel_rfl) (by kernel_rfl) rfl rfl rfl rfl ?_
   refine JA_q 13 rfl (by kernel_rfl) (by kernel_rfl) (by kernel_rfl) trivial (QE_pickT rfl rfl) rfl ?_
   refine JA_done (by kernel_rfl) ?_
   refine thenQ_n ?_
   refine JC_ifT rfl ?_
   have hR0 : rdIns ws = none := by
     first
     | exact rdIns_no1 hN9 hw1 hw4 hw7 (by assumption)
     | exact rdIns_no2 hN9 hw1 hw4 hw7 (by assumption) (numL_get w1) (fun e => absurd (congrArg joinW e) (by assumption))
   refine JC_seq ?_
   refine JC_region ?_
   refine JO_q (QE_ldA 0 [_, _, _, _] rfl rfl rfl rfl rfl) rfl ?_
   refine JO_st 1 [_, _, _, _] rfl rfl rfl rfl rfl rfl rfl rfl rfl ?_
   refine JO_q (QE_as rfl) rfl ?_
   refine JO_nil ?_
   refine thenQ_n ?_
   refine JC_ret ?_
   refine thenQ_r ?_
   refine retQ_mk [_, _] _ (.inr rfl) (.agg (us := [_, _, _, _]) 1 rfl rfl rfl rfl rfl (.tmp rfl (.nil))) rfl (Le.trans (Le.trans (Le.trans h1 h2) h4) h5) (fun sR hS2 => ?_)
   first
     | exact ⟨[], rfl, fun s2 hs2 hp => ⟨⟨[], 0, false, []⟩, none, 0, 0, by rw [hR0]; rfl, acs_nil _, by decide, ⟨by decide, by decide⟩, fun y hy => by rw [hR0] at hy; cases hy⟩⟩
     | exact ⟨[], rfl, fun s2 hs2 hp => ⟨⟨w4, (((numL w1).getD 0 : Nat) : Int), decide (w7 = [97, 110]), []⟩, none, 0, 0, by rw [hR0]; rfl, acs_nil _, by simp only; omega, numL_u32 w1, fun y hy => by rw [hR0] at hy; cases hy⟩⟩
     | (exact ⟨Mo, rfl, fun s2 hs2 hp => ⟨⟨w4, (((numL w1).getD 0 : Nat) : Int), decide (w7 = [97, 110]), acc⟩, Ao, acc.length, co, by rw [hR0]; rfl, Own.acs hO (fun a ha => ⟨(hacc a ha).2.1.2.1.u32, (hacc a ha).2.1.2.2.u32⟩) hp rfl, by simp only; omega, numL_u32 w1, fun y hy => by rw [hR0] at hy; cases hy⟩⟩)
     | (refine ⟨Mo, rfl, fun s2 hs2 hp => ⟨⟨w4, (((numL w1).getD 0 : Nat) : Int), decide (w7 = [97, 110]), acc⟩, Ao, acc.length, co, ?_, Own.acs hO (fun a ha => ⟨(hacc a ha).2.1.2.1.u32, (hacc a ha).2.1.2.2.u32⟩) hp rfl, by simp only; omega, numL_u32 w1, fun y hy => ?_⟩⟩
        · rw [hfin]
          by_cases e : fr = n
          · subst e; simp [resV]
          · have e2 : ¬ ((fr : Int) = (n : Int)) := by omega
            simp [resV, e, e2]
        · rw [hfin] at hy
          split at hy
          · injection hy
          · cases hy)
  ·
   refine JA_q 3 rfl (by kernel_rfl) (by kernel_rfl) (by kernel_rfl) ⟨_, rfl, rfl⟩ (QE_mv rfl) rfl ?_
   refine JA_q 4 rfl (by kernel_rfl) (by kernel_rfl) (by kernel_rfl) ⟨_, rfl, rfl⟩ (QE_slH rfl rfl rfl rfl rfl (show (9 : Nat) ≤ c by omega)) rfl ?_
   refine JA_q 6 rfl (by kernel_rfl) (by kernel_rfl) (by kernel_rfl) ⟨_, rfl, rfl⟩ (QE_mv rfl) rfl ?_
   refine JA_q 7 rfl (by kernel_rfl) (by kernel_rfl) (by kernel_rfl) ⟨_, rfl, rfl⟩ (QE_fa0 rfl rfl rfl rfl) rfl ?_
   refine JA_q 8 rfl (by kernel_rfl) (by kernel_rfl) (by kernel_rfl) ⟨_, rfl, rfl⟩ (QE_ld1 0 rfl rfl rfl rfl rfl) rfl ?_
   refine JA_q 9 rfl (by kernel_rfl) (by kernel_rfl) (by kernel_rfl) ⟨_, rfl, rfl⟩ (QE_faB rfl rfl rfl rfl) rfl ?_
   refine JA_q 10 rfl (by kernel_rfl) (by kernel_rfl) (by kernel_rfl) ⟨_, rfl, rfl⟩ (QE_ld1 0 rfl rfl rfl rfl rfl) rfl ?_
   refine JA_1 5 (by kernel_rfl) ?_
   refine JB_call rfl ⟨_, rfl, rfl⟩ (first := []) (captured := []) rfl rfl rfl (rjoined_ac D _ _ _ 9 c (ws.take 9) (hS9.le (Le.trans (Le.trans (Le.trans h1 h2) h4) h5)) (by have := take_size ws 9; omega)) ?_
   rintro _ _ s7 h7 ⟨rfl, rfl⟩
   refine ⟨fun _ _ h => h, ?_⟩
   refine JA_1 11 (by kernel_rfl) ?_
   refine JB_call rfl ⟨_, rfl, rfl⟩ (first := []) (captured := []) rfl rfl rfl (rhead_ac D _ _ (((numL w1).getD 0 : Nat) : Int) (numL_u32 w1) w4 (by omega) (decide (w7 = [97, 110]))) ?_
   rintro _ _ s8 h8 ⟨rfl, rfl⟩
   refine ⟨fun _ _ h => h, ?_⟩
   refine JA_q 12 rfl (by kernel_rfl) (by kernel_rfl) (by kernel_rfl) ⟨_, rfl, rfl⟩ (QE_sne rfl rfl) rfl ?_
   refine JA_q 13 rfl (by kernel_rfl) (by kernel_rfl) (by kernel_rfl) trivial (QE_pickF rfl rfl) rfl ?_
   refine JA_done (by kernel_rfl) ?_
   refine thenQ_n ?_
   refine JC_ifN rfl (fun c9 => ?_) (fun c9 => ?_)
   ·
    have hR0 : rdIns ws = none := by
      first
      | exact rdIns_no1 hN9 hw1 hw4 hw7 (by assumption)
      | exact rdIns_no2 hN9 hw1 hw4 hw7 (by assumption) (numL_get w1) (fun e => absurd (congrArg joinW e) (by assumption))
    refine JC_seq ?_
    refine JC_region ?_
    refine JO_q (QE_ldA 0 [_, _, _, _] rfl rfl rfl rfl rfl) rfl ?_
    refine JO_st 1 [_, _, _, _] rfl rfl rfl rfl rfl rfl rfl rfl rfl ?_
    refine JO_q (QE_as rfl) rfl ?_
    refine JO_nil ?_
    refine thenQ_n ?_
    refine JC_ret ?_
    refine thenQ_r ?_
    refine retQ_mk [_, _] _ (.inr rfl) (.agg (us := [_, _, _, _]) 1 rfl rfl rfl rfl rfl (.tmp rfl (.nil))) rfl (Le.trans (Le.trans (Le.trans (Le.trans (Le.trans h1 h2) h4) h5) h7) h8) (fun sR hS2 => ?_)
    first
      | exact ⟨[], rfl, fun s2 hs2 hp => ⟨⟨[], 0, false, []⟩, none, 0, 0, by rw [hR0]; rfl, acs_nil _, by decide, ⟨by decide, by decide⟩, fun y hy => by rw [hR0] at hy; cases hy⟩⟩
      | exact ⟨[], rfl, fun s2 hs2 hp => ⟨⟨w4, (((numL w1).getD 0 : Nat) : Int), decide (w7 = [97, 110]), []⟩, none, 0, 0, by rw [hR0]; rfl, acs_nil _, by simp only; omega, numL_u32 w1, fun y hy => by rw [hR0] at hy; cases hy⟩⟩
      | (exact ⟨Mo, rfl, fun s2 hs2 hp => ⟨⟨w4, (((numL w1).getD 0 : Nat) : Int), decide (w7 = [97, 110]), acc⟩, Ao, acc.length, co, by rw [hR0]; rfl, Own.acs hO (fun a ha => ⟨(hacc a ha).2.1.2.1.u32, (hacc a ha).2.1.2.2.u32⟩) hp rfl, by simp only; omega, numL_u32 w1, fun y hy => by rw [hR0] at hy; cases hy⟩⟩)
      | (refine ⟨Mo, rfl, fun s2 hs2 hp => ⟨⟨w4, (((numL w1).getD 0 : Nat) : Int), decide (w7 = [97, 110]), acc⟩, Ao, acc.length, co, ?_, Own.acs hO (fun a ha => ⟨(hacc a ha).2.1.2.1.u32, (hacc a ha).2.1.2.2.u32⟩) hp rfl, by simp only; omega, numL_u32 w1, fun y hy => ?_⟩⟩
         · rw [hfin]
           by_cases e : fr = n
           · subst e; simp [resV]
           · have e2 : ¬ ((fr : Int) = (n : Int)) := by omega
             simp [resV, e, e2]
         · rw [hfin] at hy
           split at hy
           · injection hy
           · cases hy)
   ·
    have hmid := rdIns_mid hN9 hw1 hw4 hw7 (by assumption) (numL_get w1) (join_inj (fun w hw => hb w (List.mem_of_mem_take hw)) (fun w hw => (hgen w hw).1) (by assumption))
    refine JC_skip ?_
    refine thenQ_n ?_
    refine JC_seq ?_
    refine JC_region ?_
    refine JO_q (QE_as rfl) rfl ?_
    refine JO_nil ?_
    refine thenQ_n ?_
    refine JC_seq ?_
    refine JC_seq ?_
    refine JC_region ?_
    refine JO_q (QE_as rfl) rfl ?_
    refine JO_nil ?_
    refine thenQ_n ?_
    refine JC_block ?_
    refine JC_loop (γ := Nat × Nat × Value × Hl × List Ac) (fun g => [(0, _), (2, _), (3, _), (4, _), (7, .int .i64 (g.2.1 : Int)), (8, .int .i64 (g.1 : Int))]) (fun g => (β2, cb [St w4, .int .u32 (((numL w1).getD 0 : Nat) : Int), .bool (decide (w7 = [97, 110])), g.2.2.1] 63) :: (β1, cb [St [], .int .u32 0, .bool false, .slice none 0 0] 63) :: (g.2.2.2.1 ++ L)) (fun g tw => Le D s8 tw ∧ (g.1 ≤ n ∧ g.2.1 ≤ g.1 ∧ FL.Own 68 6 g.2.2.2.1 g.2.2.1 g.2.2.2.2.length (acv g.2.2.2.2) ∧ (∀ a ∈ g.2.2.2.2, AcC a) ∧ sn [] (ws.drop 9) = (sn ((ws.take g.1).drop g.2.1) (ws.drop g.1)).map (g.2.2.2.2 ++ ·) ∧ g.2.2.2.2.length ≤ g.1)) (fun g => n - g.1) (fun _ _ _ h hl => ⟨h.1.trans hl, h.2⟩) (9, 9, .slice none 0 0, [], []) (Keeps.cons rfl (Keeps.cons rfl (Keeps.cons rfl (Keeps.cons rfl (Keeps.cons rfl (Keeps.cons rfl (Keeps.nil _))))))) rfl ⟨Le.refl _, ⟨by simp only; omega, Nat.le_refl _, FL.Own.nil, (fun a h => by cases h), by simp [cur_nil], Nat.zero_le _⟩⟩ ?_
    intro g s10 I10
    obtain ⟨i, fr, vo, Mo, acc⟩ := g
    obtain ⟨hi0, hfi, hO, hacc, hsn, hal⟩ := I10.2
    simp only at hi0 hfi hO hacc hsn hal
    dsimp only
    obtain ⟨Ao, co, hvo, _, _⟩ := Own.slice hO
    subst hvo
    refine JC_seq ?_
    refine JC_seq ?_
    refine JC_region ?_
    refine JO_q (QE_mv rfl) rfl ?_
    refine JO_q (QE_mv rfl) rfl ?_
    refine JO_q (QE_lenS rfl rfl rfl) rfl ?_
    refine JO_q (QE_lt rfl rfl) rfl ?_
    refine JO_nil ?_
    refine thenQ_n ?_
    refine JC_ifD rfl (fun c11 => ?_) (fun c11 => ?_)
    ·
     have hk : i < n := by omega
     obtain ⟨b, off, w, hEw, hw, hcw, _⟩ := Strs.at_ (hS.le (Le.trans (Le.trans (Le.trans (Le.trans (Le.trans (Le.trans h1 h2) h4) h5) h7) h8) I10.1)) hk
     cases hEw
     have hwb := hb w (List.mem_of_getElem? hw)
     have hwl := mem_size (List.mem_of_getElem? hw)
     have hwp : 0 < w.length := List.length_pos_iff.2 hwb.1
     obtain ⟨ch, hch, hdot⟩ := pg_last hwb.1
     obtain ⟨A1, c1, hE1, hSub⟩ := Strs.drop (Strs.take (hS.le (Le.trans (Le.trans (Le.trans (Le.trans (Le.trans (Le.trans h1 h2) h4) h5) h7) h8) I10.1)) (show i + 1 ≤ n by omega)) (show fr ≤ i + 1 by omega)
     have hsz : sizeW ((ws.take (i + 1)).drop fr) ≤ 1000000 := by
       have h := sizeW_app ((ws.take (i + 1)).take fr) ((ws.take (i + 1)).drop fr)
       rw [List.take_append_drop] at h
       have := take_size ws (i + 1); omega
     refine JC_skip ?_
     refine thenQ_n ?_
     refine JC_seq ?_
     refine JC_block ?_
     refine JC_seq ?_
     refine JC_region ?_
     refine JO_q (QE_mv rfl) rfl ?_
     refine JO_q (QE_mv rfl) rfl ?_
     refine JO_q (QE_ia1 rfl rfl rfl rfl rfl rfl hk) rfl ?_
     refine JO_q (QE_ldsR0 rfl rfl rfl (hcw.le (Le.refl (D := D) _)) rfl) rfl ?_
     refine JO_q (QE_as rfl) rfl ?_
     refine JO_nil ?_
     refine thenQ_n ?_
     refine JC_seq ?_
     refine JC_seq ?_
     refine JC_region ?_
     refine JO_q (QE_mv rfl) rfl ?_
     refine JO_q (QE_mv rfl) rfl ?_
     refine JO_q (QE_lenT rfl rfl rfl) rfl ?_
     refine JO_q (QE_sub' (c := ((w.length - 1 : Nat) : Int)) rfl rfl (by rw [w64 (by omega) (by omega)]; omega)) rfl ?_
     refine JO_q (QE_ix rfl rfl rfl rfl hch) rfl ?_
     refine JO_q (QE_ne rfl rfl) rfl ?_
     refine JO_nil ?_
     refine thenQ_n ?_
     refine JC_ifN rfl (fun c12 => ?_) (fun c12 => ?_)
     ·
      have hd : dotB w = false := by rw [hdot]; exact decide_eq_false (fun e => by subst e; exact absurd rfl (by assumption))
      refine JC_exit ?_
      refine thenQ_x ?_
      refine blockQ_x ?_
      refine thenQ_n ?_
      refine JC_region ?_
      refine JO_q (QE_mv rfl) rfl ?_
      refine JO_q (QE_add' rfl rfl (w64 (by omega) (by omega))) rfl ?_
      refine JO_q (QE_as rfl) rfl ?_
      refine JO_nil ?_
      refine thenQ_n ⟨(i + 1, fr, _, Mo, acc), [], (Keeps.cons rfl (Keeps.cons rfl (Keeps.cons rfl (Keeps.cons rfl (Keeps.cons rfl (Keeps.cons rfl (Keeps.nil _))))))), rfl, ⟨I10.1, by
        first
        | exact ⟨by simp only; omega, by simp only; omega, hO, hacc, by simp only; rw [hsn, drop_at hw, sn_go hd, ← cur_next hw hfi], by simp only; omega⟩
        | exact ⟨by simp only; omega, Nat.le_refl _, by simp only; rw [List.length_append, acv_snoc]; exact oq, (fun y hy => by
            rcases List.mem_append.1 hy with h | h
            · exact hacc y h
            · rw [List.mem_singleton.1 h]; exact haC), by simp only; rw [hsn, drop_at hw, sn_yes hd (by rw [← cur_next hw hfi]; exact hra), map_app1, cur_nil], by simp only [List.length_append, List.length_cons, List.length_nil]; omega⟩⟩, (by simp only; omega)⟩
     ·
      have hd : dotB w = true := by rw [hdot]; exact decide_eq_true (UInt8.toNat_inj.1 (by have : (46 : UInt8).toNat = 46 := rfl; omega))
      refine JC_skip ?_
      refine thenQ_n ?_
      refine JC_seq ?_
      refine JC_region ?_
      refine JO_q (QE_mv rfl) rfl ?_
      refine JO_q (QE_mv rfl) rfl ?_
      refine JO_q (QE_mv rfl) rfl ?_
      refine JO_q (QE_add' (c := ((i + 1 : Nat) : Int)) rfl rfl (by rw [w64 (by omega) (by omega)]; omega)) rfl ?_
      refine JO_q (QE_cast (v' := .slice A1 (i + 1 - fr) c1) (QE_slLH rfl rfl rfl rfl rfl rfl (by omega) (by omega)) hE1) rfl ?_
      refine JO_call (first := []) (captured := []) rfl rfl rfl (ractIn_ac D _ _ A1 _ c1 _ (hSub.le (Le.refl (D := D) _)) hsz (fun y hy => hb y (List.mem_of_mem_take (List.mem_of_mem_drop hy)))) ?_
      rintro _ _ s13 h13 ⟨a, ha, rfl, rfl⟩
      refine JO_q (QE_mv rfl) rfl ?_
      refine JO_q (QE_ext rfl rfl) rfl ?_
      refine JO_q (QE_ext rfl rfl) rfl ?_
      refine JO_allocZ rfl [_, _, _, _, _, _] rfl rfl ?_
      intro β14 s14 h14
      refine JO_st 0 [_, _, _, _, _, _] rfl rfl rfl rfl rfl rfl rfl rfl rfl ?_
      refine JO_q (QE_as rfl) rfl ?_
      refine JO_nil ?_
      refine thenQ_n ?_
      refine JC_seq ?_
      refine JC_seq ?_
      refine JC_region ?_
      refine JO_q (QE_mv rfl) rfl ?_
      refine JO_q (QE_not rfl) rfl ?_
      refine JO_nil ?_
      refine thenQ_n ?_
      refine JC_ifM rfl (fun c15 => ?_) (fun c15 => ?_)
      ·
       have hno : rdAny ((ws.take (i + 1)).drop fr) = none := by simpa using c15
       have hR0 : rdIns ws = none := by rw [hmid, hsn, drop_at hw, sn_no hd (by rw [← cur_next hw hfi]; exact hno)]; rfl
       refine JC_seq ?_
       refine JC_region ?_
       refine JO_q (QE_ldA 1 [_, _, _, _] rfl rfl rfl rfl rfl) rfl ?_
       refine JO_st 2 [_, _, _, _] rfl rfl rfl rfl rfl rfl rfl rfl rfl ?_
       refine JO_q (QE_as rfl) rfl ?_
       refine JO_nil ?_
       refine thenQ_n ?_
       refine JC_ret ?_
       refine thenQ_r ?_
       refine blockQ_r ?_
       refine thenQ_r ?_
       refine thenQ_r ?_
       refine blockQ_r ?_
       refine thenQ_r ?_
       refine retQ_mk [_, _, _] _ (.inr rfl) (.agg (us := [_, _, _, _]) 2 rfl rfl rfl rfl rfl (.tmp rfl (.nil))) rfl (Le.trans (Le.trans (Le.trans (Le.trans (Le.trans (Le.trans (Le.trans (Le.trans h1 h2) h4) h5) h7) h8) I10.1) h13) h14) (fun sR hS2 => ?_)
       first
         | exact ⟨[], rfl, fun s2 hs2 hp => ⟨⟨[], 0, false, []⟩, none, 0, 0, by rw [hR0]; rfl, acs_nil _, by decide, ⟨by decide, by decide⟩, fun y hy => by rw [hR0] at hy; cases hy⟩⟩
         | exact ⟨[], rfl, fun s2 hs2 hp => ⟨⟨w4, (((numL w1).getD 0 : Nat) : Int), decide (w7 = [97, 110]), []⟩, none, 0, 0, by rw [hR0]; rfl, acs_nil _, by simp only; omega, numL_u32 w1, fun y hy => by rw [hR0] at hy; cases hy⟩⟩
         | (exact ⟨Mo, rfl, fun s2 hs2 hp => ⟨⟨w4, (((numL w1).getD 0 : Nat) : Int), decide (w7 = [97, 110]), acc⟩, Ao, acc.length, co, by rw [hR0]; rfl, Own.acs hO (fun a ha => ⟨(hacc a ha).2.1.2.1.u32, (hacc a ha).2.1.2.2.u32⟩) hp rfl, by simp only; omega, numL_u32 w1, fun y hy => by rw [hR0] at hy; cases hy⟩⟩)
         | (refine ⟨Mo, rfl, fun s2 hs2 hp => ⟨⟨w4, (((numL w1).getD 0 : Nat) : Int), decide (w7 = [97, 110]), acc⟩, Ao, acc.length, co, ?_, Own.acs hO (fun a ha => ⟨(hacc a ha).2.1.2.1.u32, (hacc a ha).2.1.2.2.u32⟩) hp rfl, by simp only; omega, numL_u32 w1, fun y hy => ?_⟩⟩
            · rw [hfin]
              by_cases e : fr = n
              · subst e; simp [resV]
              · have e2 : ¬ ((fr : Int) = (n : Int)) := by omega
                simp [resV, e, e2]
            · rw [hfin] at hy
              split at hy
              · injection hy
              · cases hy)
      ·
       obtain ⟨a', hra⟩ := Option.isSome_iff_exists.1 c15
       rw [hra] at ha
       have ha : a = a' := ha
       subst ha
       obtain ⟨haC, _⟩ := rdAny_some hra
       refine JC_skip ?_
       refine thenQ_n ?_
       refine JC_seq ?_
       refine JC_region ?_
       refine JO_q (QE_faB rfl rfl rfl rfl) rfl ?_
       refine JO_q (QE_ld1 1 rfl rfl rfl rfl rfl) rfl ?_
       refine JO_q (QE_ldA 0 [_, _, _, _, _, _] rfl rfl rfl rfl rfl) rfl ?_
       refine JO_bs [(_, _)] [_, _, _, _, _, _] rfl rfl rfl rfl rfl rfl rfl rfl rfl ?_
       intro βn s16 h16 hcb
       refine JO_app (sz := 6) [_, _, _] Mo L rfl rfl rfl rfl rfl rfl rfl hO (Row.of_cells (hcb.le (Le.refl (D := D) _)) rfl rfl) ⟨by simp [ti68]; omega, by omega⟩ rfl ?_
       intro vq Mq s17 h17 oq
       obtain ⟨Avq, cvq, rfl, _, _⟩ := Own.slice oq
       simp only [List.cons_append, List.nil_append]
       refine JO_q (QE_faB rfl rfl rfl rfl) rfl ?_
       refine JO_st 1 [_, _, _, _] rfl rfl rfl rfl rfl rfl rfl rfl rfl ?_
       refine JO_nil ?_
       refine thenQ_n ?_
       refine JC_region ?_
       refine JO_q (QE_mv rfl) rfl ?_
       refine JO_q (QE_add' rfl rfl (w64 (by omega) (by omega))) rfl ?_
       refine JO_q (QE_as rfl) rfl ?_
       refine JO_nil ?_
       refine blockQ_n ?_
       refine thenQ_n ?_
       refine JC_region ?_
       refine JO_q (QE_mv rfl) rfl ?_
       refine JO_q (QE_add' rfl rfl (w64 (by omega) (by omega))) rfl ?_
       refine JO_q (QE_as rfl) rfl ?_
       refine JO_nil ?_
       refine thenQ_n ⟨(i + 1, i + 1, .slice Avq (acc.length + 1) cvq, Mq, acc ++ [a]), [_], (Keeps.cons rfl (Keeps.cons rfl (Keeps.cons rfl (Keeps.cons rfl (Keeps.cons rfl (Keeps.cons rfl (Keeps.nil _))))))), rfl, ⟨(Le.trans (Le.trans (Le.trans (Le.trans I10.1 h13) h14) h16) h17), by
         first
         | exact ⟨by simp only; omega, by simp only; omega, hO, hacc, by simp only; rw [hsn, drop_at hw, sn_go hd, ← cur_next hw hfi], by simp only; omega⟩
         | exact ⟨by simp only; omega, Nat.le_refl _, by simp only; rw [List.length_append, acv_snoc]; exact oq, (fun y hy => by
             rcases List.mem_append.1 hy with h | h
             · exact hacc y h
             · rw [List.mem_singleton.1 h]; exact haC), by simp only; rw [hsn, drop_at hw, sn_yes hd (by rw [← cur_next hw hfi]; exact hra), map_app1, cur_nil], by simp only [List.length_append, List.length_cons, List.length_nil]; omega⟩⟩, (by simp only; omega)⟩
    ·
     have hiE : i = n := by omega
     rw [hiE, hn, List.take_length, List.drop_length] at hsn
     have hfin : rdIns ws = if fr = n then some ⟨w4, (((numL w1).getD 0 : Nat) : Int), (decide (w7 = [97, 110])), acc⟩ else none := by
       rw [hmid, hsn, sn]
       by_cases e : fr = n
       · rw [if_pos e, if_pos (List.drop_of_length_le (by omega))]; simp
       · rw [if_neg e, if_neg (fun h => by have := congrArg List.length h; rw [List.length_drop] at this; simp at this; omega)]; rfl
     refine JC_exit ?_
     refine thenQ_x ?_
     refine thenQ_x ?_
     refine blockQ_x ?_
     refine thenQ_n ?_
     refine JC_seq ?_
     refine JC_region ?_
     refine JO_q (QE_ldA 0 [_, _, _, _] rfl rfl rfl rfl rfl) rfl ?_
     refine JO_q (QE_mv rfl) rfl ?_
     refine JO_q (QE_mv rfl) rfl ?_
     refine JO_q (QE_lenS rfl rfl rfl) rfl ?_
     refine JO_q (QE_eq rfl rfl) rfl ?_
     refine JO_st 1 [_, _, _, _] rfl rfl rfl rfl rfl rfl rfl rfl rfl ?_
     refine JO_q (QE_as rfl) rfl ?_
     refine JO_nil ?_
     refine thenQ_n ?_
     refine JC_ret ?_
     refine retQ_mk [_, _] _ (.inr rfl) (.agg (us := [_, _, _, _]) 1 rfl rfl rfl rfl rfl (.tmp rfl (.nil))) rfl (Le.trans (Le.trans (Le.trans (Le.trans (Le.trans (Le.trans h1 h2) h4) h5) h7) h8) I10.1) (fun sR hS2 => ?_)
     first
       | exact ⟨[], rfl, fun s2 hs2 hp => ⟨⟨[], 0, false, []⟩, none, 0, 0, by rw [hR0]; rfl, acs_nil _, by decide, ⟨by decide, by decide⟩, fun y hy => by rw [hR0] at hy; cases hy⟩⟩
       | exact ⟨[], rfl, fun s2 hs2 hp => ⟨⟨w4, (((numL w1).getD 0 : Nat) : Int), decide (w7 = [97, 110]), []⟩, none, 0, 0, by rw [hR0]; rfl, acs_nil _, by simp only; omega, numL_u32 w1, fun y hy => by rw [hR0] at hy; cases hy⟩⟩
       | (exact ⟨Mo, rfl, fun s2 hs2 hp => ⟨⟨w4, (((numL w1).getD 0 : Nat) : Int), decide (w7 = [97, 110]), acc⟩, Ao, acc.length, co, by rw [hR0]; rfl, Own.acs hO (fun a ha => ⟨(hacc a ha).2.1.2.1.u32, (hacc a ha).2.1.2.2.u32⟩) hp rfl, by simp only; omega, numL_u32 w1, fun y hy => by rw [hR0] at hy; cases hy⟩⟩)
       | (refine ⟨Mo, rfl, fun s2 hs2 hp => ⟨⟨w4, (((numL w1).getD 0 : Nat) : Int), decide (w7 = [97, 110]), acc⟩, Ao, acc.length, co, ?_, Own.acs hO (fun a ha => ⟨(hacc a ha).2.1.2.1.u32, (hacc a ha).2.1.2.2.u32⟩) hp rfl, by simp only; omega, numL_u32 w1, fun y hy => ?_⟩⟩
          · rw [hfin]
            by_cases e : fr = n
            · subst e; simp [resV]
            · have e2 : ¬ ((fr : Int) = (n : Int)) := by omega
              simp [resV, e, e2]
          · rw [hfin] at hy
            split at hy
            · injection hy
            · cases hy)
theorem rinsIn_ac (D : Nat) (L : Hl) (s : World) (A : Option Addr) (n c : Nat) (ws : List (List UInt8)) (hS : Strs s A n c ws) (hz : sizeW ws ≤ 1000000) (hok : okT (joinW ws) = true) (hb : ∀ w ∈ ws, bare1 w) : AC Tryz.prog D 40 [.slice A n c] L s fun v L' s' => L = L' ∧ ∃ (x : Ins) (Ai : Option Addr) (ni ci : Nat), v = .tuple #[.agg #[St x.name, .int .u32 x.code, .bool x.operand, .slice Ai ni ci], .bool (rdIns ws).isSome] ∧ Acs s' Ai ni ci x.acts ∧ x.name.length ≤ 1000000 ∧ U32 x.code ∧ ∀ y, rdIns ws = some y → x = y := AC.pubW (rinsInO_ac D L s A n c ws hS hz hok hb)
end Go.Proofs.YtoeeblegplghmaaGreatDoor
namespace Go.Proofs.YtoeeblegplghmaaGreatDoor
open Go.FL
attribute [local irreducible] JC JO JA JB thenQ blockQ retQ AC fill CellsAt QE Ev Mid
def opP0 : List UInt8 := [84, 104, 101, 32, 109, 97, 99, 104, 105, 110, 101, 32, 104, 97, 115, 32]
def opPs : List (List UInt8) := [[32, 99, 101, 108, 108, 115, 32, 119, 105, 116, 104, 32, 116, 104, 101, 32, 110, 117, 109, 98, 101, 114, 115, 32, 48, 44, 32, 49, 44, 32, 50, 32, 97, 110, 100, 32, 115, 111, 32, 111, 110, 44, 32, 97, 110, 100, 32, 116, 104, 101, 32, 114, 101, 103, 105, 115, 116, 101, 114, 115, 32, 65, 44, 32, 66, 44, 32, 67, 44, 32, 68, 32, 97, 110, 100, 32, 80, 46],
  [32, 69, 97, 99, 104, 32, 99, 101, 108, 108, 32, 97, 110, 100, 32, 101, 97, 99, 104, 32, 114, 101, 103, 105, 115, 116, 101, 114, 32, 104, 111, 108, 100, 115, 32, 97, 32, 110, 117, 109, 98, 101, 114, 32, 116, 104, 97, 116, 32, 105, 115, 32, 108, 101, 115, 115, 32, 116, 104, 97, 110, 32, 52, 50, 57, 52, 57, 54, 55, 50, 57, 54, 59, 32, 111, 102, 32, 97, 32, 115, 117, 109, 44, 32, 97, 32, 100, 105, 102, 102, 101, 114, 101, 110, 99, 101, 32, 111, 114, 32, 97, 32, 112, 114, 111, 100, 117, 99, 116, 32, 111, 110, 108, 121, 32, 116, 104, 101, 32, 114, 101, 109, 97, 105, 110, 100, 101, 114, 32, 111, 102, 32, 97, 32, 100, 105, 118, 105, 115, 105, 111, 110, 32, 98, 121, 32, 52, 50, 57, 52, 57, 54, 55, 50, 57, 54, 32, 105, 115, 32, 107, 101, 112, 116, 46],
  [32, 65, 116, 32, 102, 105, 114, 115, 116, 32, 116, 104, 101, 32, 110, 117, 109, 98, 101, 114, 115, 32, 111, 102, 32, 116, 104, 101, 32, 112, 114, 111, 103, 114, 97, 109, 32, 97, 114, 101, 32, 105, 110, 32, 116, 104, 101, 32, 99, 101, 108, 108, 115, 32, 102, 114, 111, 109, 32, 48, 32, 111, 110, 44, 32, 97, 110, 100, 32, 48, 32, 105, 115, 32, 105, 110, 32, 97, 108, 108, 32, 111, 116, 104, 101, 114, 32, 99, 101, 108, 108, 115, 32, 97, 110, 100, 32, 105, 110, 32, 116, 104, 101, 32, 114, 101, 103, 105, 115, 116, 101, 114, 115, 46],
  [32, 84, 111, 32, 109, 97, 107, 101, 32, 97, 32, 115, 116, 101, 112, 44, 32, 102, 105, 110, 100, 32, 116, 104, 101, 32, 105, 110, 115, 116, 114, 117, 99, 116, 105, 111, 110, 32, 119, 104, 111, 115, 101, 32, 99, 111, 100, 101, 32, 105, 115, 32, 105, 110, 32, 116, 104, 101, 32, 99, 101, 108, 108, 32, 119, 105, 116, 104, 32, 116, 104, 101, 32, 110, 117, 109, 98, 101, 114, 32, 80, 44, 32, 97, 110, 100, 32, 97, 100, 100, 32, 49, 32, 116, 111, 32, 80, 59, 32, 105, 102, 32, 116, 104, 101, 32, 105, 110, 115, 116, 114, 117, 99, 116, 105, 111, 110, 32, 104, 97, 115, 32, 97, 110, 32, 111, 112, 101, 114, 97, 110, 100, 44, 32, 116, 104, 105, 115, 32, 105, 115, 32, 116, 104, 101, 32, 110, 117, 109, 98, 101, 114, 32, 78, 32, 105, 110, 32, 116, 104, 101, 32, 99, 101, 108, 108, 32, 119, 105, 116, 104, 32, 116, 104, 101, 32, 110, 101, 119, 32, 110, 117, 109, 98, 101, 114, 32, 80, 44, 32, 97, 110, 100, 32, 49, 32, 105, 115, 32, 97, 100, 100, 101, 100, 32, 116, 111, 32, 80, 32, 97, 103, 97, 105, 110, 46],
  [32, 84, 104, 101, 110, 32, 100, 111, 32, 119, 104, 97, 116, 32, 105, 116, 115, 32, 115, 101, 110, 116, 101, 110, 99, 101, 115, 32, 115, 97, 121, 44, 32, 111, 110, 101, 32, 97, 102, 116, 101, 114, 32, 97, 110, 111, 116, 104, 101, 114, 46, 32, 83, 116, 111, 112, 32, 105, 102, 32, 116, 104, 101, 114, 101, 32, 105, 115, 32, 110, 111, 32, 115, 117, 99, 104, 32, 105, 110, 115, 116, 114, 117, 99, 116, 105, 111, 110, 32, 111, 114, 32, 110, 111, 32, 115, 117, 99, 104, 32, 99, 101, 108, 108, 44, 32, 111, 114, 32, 105, 102, 32, 97, 32, 100, 105, 118, 105, 115, 111, 114, 32, 105, 115, 32, 48, 46],
  [32, 84, 111, 32, 109, 111, 118, 101, 32, 97, 32, 110, 117, 109, 98, 101, 114, 32, 116, 111, 32, 116, 104, 101, 32, 108, 101, 102, 116, 32, 98, 121, 32, 49, 32, 105, 115, 32, 116, 111, 32, 100, 111, 117, 98, 108, 101, 32, 105, 116, 44, 32, 116, 111, 32, 109, 111, 118, 101, 32, 105, 116, 32, 116, 111, 32, 116, 104, 101, 32, 114, 105, 103, 104, 116, 32, 98, 121, 32, 49, 32, 105, 115, 32, 116, 111, 32, 104, 97, 108, 118, 101, 32, 105, 116, 32, 119, 105, 116, 104, 111, 117, 116, 32, 97, 32, 114, 101, 109, 97, 105, 110, 100, 101, 114, 46, 32, 66, 105, 116, 115, 32, 97, 114, 101, 32, 116, 104, 101, 32, 100, 105, 103, 105, 116, 115, 32, 111, 102, 32, 97, 32, 110, 117, 109, 98, 101, 114, 32, 105, 110, 32, 116, 104, 101, 32, 98, 97, 115, 101, 32, 50, 46],
  [32, 84, 104, 101, 32, 105, 110, 112, 117, 116, 32, 105, 115, 32, 97, 32, 108, 105, 115, 116, 32, 111, 102, 32, 110, 117, 109, 98, 101, 114, 115, 32, 108, 101, 115, 115, 32, 116, 104, 97, 110, 32, 50, 53, 54, 59, 32, 98, 101, 104, 105, 110, 100, 32, 105, 116, 115, 32, 101, 110, 100, 32, 116, 104, 101, 32, 110, 101, 120, 116, 32, 105, 110, 112, 117, 116, 32, 105, 115, 32, 97, 108, 119, 97, 121, 115, 32, 52, 50, 57, 52, 57, 54, 55, 50, 57, 53, 46, 32, 84, 111, 32, 119, 114, 105, 116, 101, 32, 97, 32, 110, 117, 109, 98, 101, 114, 32, 105, 115, 32, 116, 111, 32, 119, 114, 105, 116, 101, 32, 116, 104, 101, 32, 114, 101, 109, 97, 105, 110, 100, 101, 114, 32, 111, 102, 32, 105, 116, 115, 32, 100, 105, 118, 105, 115, 105, 111, 110, 32, 98, 121, 32, 50, 53, 54, 46],
  [32, 69, 97, 99, 104, 32, 112, 97, 114, 97, 103, 114, 97, 112, 104, 32, 101, 110, 100, 115, 32, 119, 105, 116, 104, 32, 97, 32, 99, 104, 101, 99, 107, 58, 32, 105, 116, 115, 32, 99, 104, 97, 114, 97, 99, 116, 101, 114, 115, 32, 97, 104, 101, 97, 100, 32, 111, 102, 32, 116, 104, 101, 32, 99, 104, 101, 99, 107, 44, 32, 119, 105, 116, 104, 32, 111, 110, 101, 32, 98, 108, 97, 110, 107, 32, 98, 101, 116, 119, 101, 101, 110, 32, 116, 119, 111, 32, 119, 111, 114, 100, 115, 44, 32, 97, 114, 101, 32, 99, 111, 117, 110, 116, 101, 100, 32, 102, 114, 111, 109, 32, 49, 32, 111, 110, 44, 32, 97, 110, 100, 32, 101, 97, 99, 104, 32, 99, 111, 117, 110, 116, 32, 105, 115, 32, 109, 117, 108, 116, 105, 112, 108, 105, 101, 100, 32, 98, 121, 32, 116, 104, 101, 32, 118, 97, 108, 117, 101, 32, 111, 102, 32, 105, 116, 115, 32, 99, 104, 97, 114, 97, 99, 116, 101, 114, 59, 32, 116, 104, 101, 32, 99, 104, 101, 99, 107, 32, 105, 115, 32, 116, 104, 101, 32, 114, 101, 109, 97, 105, 110, 100, 101, 114, 32, 111, 102, 32, 116, 104, 101, 32, 115, 117, 109, 32, 105, 110, 32, 97, 32, 100, 105, 118, 105, 115, 105, 111, 110, 32, 98, 121, 32, 57, 57, 55, 51, 46],
  [32, 84, 104, 101, 32, 118, 97, 108, 117, 101, 115, 32, 97, 114, 101, 32, 49, 32, 116, 111, 32, 50, 54, 32, 102, 111, 114, 32, 97, 32, 116, 111, 32, 122, 44, 32, 50, 55, 32, 116, 111, 32, 53, 50, 32, 102, 111, 114, 32, 65, 32, 116, 111, 32, 90, 44, 32, 53, 51, 32, 116, 111, 32, 54, 50, 32, 102, 111, 114, 32, 116, 104, 101, 32, 100, 105, 103, 105, 116, 115, 32, 48, 32, 116, 111, 32, 57, 44, 32, 54, 51, 32, 102, 111, 114, 32, 97, 32, 102, 117, 108, 108, 32, 115, 116, 111, 112, 44, 32, 54, 52, 32, 102, 111, 114, 32, 97, 32, 99, 111, 109, 109, 97, 44, 32, 54, 53, 32, 102, 111, 114, 32, 97, 32, 115, 101, 109, 105, 99, 111, 108, 111, 110, 44, 32, 54, 54, 32, 102, 111, 114, 32, 97, 32, 99, 111, 108, 111, 110, 44, 32, 97, 110, 100, 32, 48, 32, 102, 111, 114, 32, 97, 32, 98, 108, 97, 110, 107, 46]]
def opA (u : Nat) : Nat → List UInt8
  | 0 => opP0 ++ Lib.decDigits u
  | k + 1 => opA u k ++ opPs.getD k []
theorem opP_len : ∀ k, k < 9 → (opPs.getD k []).length ≤ 400 := by decide +kernel
theorem opA_len {u : Nat} (hu : u < 4294967296) : ∀ k, k ≤ 9 → (opA u k).length ≤ 30 + 400 * k
  | 0, _ => by have := (dec_len (u := u) hu).2; rw [opA, List.length_append]; have h : opP0.length ≤ 20 := by decide +kernel
               omega
  | k + 1, h => by have h1 := opA_len hu k (by omega); have h2 := opP_len k (by omega); rw [opA, List.length_append]; omega
theorem opA_flat (u : Nat) : ∀ k, k ≤ 9 → opA u k = (opP0 ++ Lib.decDigits u) ++ (opPs.take k).flatten
  | 0, _ => by simp [opA]
  | k + 1, h => by
    have hl : k < opPs.length := by have : opPs.length = 9 := by decide +kernel
                                    omega
    rw [opA, opA_flat u k (by omega), List.take_succ_eq_append_getElem hl, List.flatten_append, List.getD_eq_getElem?_getD, List.getElem?_eq_getElem hl]; simp
theorem QE_saddA {P : Program} {TT : TyTab} {D : Nat} {fr : Fr} {ty : Nat} {K : Hl} {s0 : World} {x y : Operand} (a b c : List UInt8) {t t' : Nat} (hx : lk fr x = some (St a)) (hy : lk fr y = some (St b)) (hc : a ++ b = c) (hl : c.length ≤ 9223372036854775807) : QE P TT D fr (.binOp .add t x y t') ty K s0 (St c) := by
  subst hc; exact QE_sadd hx hy (by rw [← List.length_append]; exact hl)
theorem opA_all (u : Nat) : opA u 9 = joinW (cellW (u : Int)) := by
  rw [opA_flat u 9 (Nat.le_refl _), List.append_assoc]
  exact open_fin (c := (u : Int)) rfl (by decide +kernel) (by decide +kernel)
set_option maxHeartbeats 4000000 in
set_option maxRecDepth 100000 in
theorem ropen_ac (D : Nat) (L : Hl) (s : World) (u : Nat) (hu : u < 4294967296) : AC Tryz.prog D 32 [.int .u32 (u : Int)] L s fun v L' _ => v = St (joinW (cellW (u : Int))) ∧ L = L' := by
 refine AC_enter (TT := TT) (fn := Tryz.f32) TT_ok Tryz.func32 (by kernel_rfl) rfl Tryz.ntmps32 rfl (rs := [.tmp 2]) rfl [(0, _)] rfl ?_
 refine JC_seq ?_
 refine JC_region ?_
 refine JO_q (QE_as rfl) rfl ?_
 refine JO_nil ?_
 refine thenQ_n ?_
 refine JC_seq ?_
 refine JC_region ?_
 refine JO_q (QE_mv rfl) rfl ?_
 refine JO_call (first := []) (captured := []) rfl rfl rfl (decimal_ac D u hu _ _) ?_
 rintro _ _ s1 h1 ⟨rfl, rfl⟩
 refine JO_q (QE_saddA opP0 (Lib.decDigits u) (opA u 0) rfl rfl rfl (Nat.le_trans (opA_len hu 0 (by decide)) (by decide))) rfl ?_
 refine JO_q (QE_saddA (opA u 0) (opPs.getD 0 []) (opA u 1) rfl rfl rfl (Nat.le_trans (opA_len hu 1 (by decide)) (by decide))) rfl ?_
 refine JO_q (QE_as rfl) rfl ?_
 refine JO_nil ?_
 refine thenQ_n ?_
 refine JC_seq ?_
 refine JC_region ?_
 refine JO_q (QE_mv rfl) rfl ?_
 refine JO_q (QE_saddA (opA u 1) (opPs.getD 1 []) (opA u 2) rfl rfl rfl (Nat.le_trans (opA_len hu 2 (by decide)) (by decide))) rfl ?_
 refine JO_q (QE_as rfl) rfl ?_
 refine JO_nil ?_
 refine thenQ_n ?_
 refine JC_seq ?_
 refine JC_region ?_
 refine JO_q (QE_mv rfl) rfl ?_
 refine JO_q (QE_saddA (opA u 2) (opPs.getD 2 []) (opA u 3) rfl rfl rfl (Nat.le_trans (opA_len hu 3 (by decide)) (by decide))) rfl ?_
 refine JO_q (QE_as rfl) rfl ?_
 refine JO_nil ?_
 refine thenQ_n ?_
 refine JC_seq ?_
 refine JC_region ?_
 refine JO_q (QE_mv rfl) rfl ?_
 refine JO_q (QE_saddA (opA u 3) (opPs.getD 3 []) (opA u 4) rfl rfl rfl (Nat.le_trans (opA_len hu 4 (by decide)) (by decide))) rfl ?_
 refine JO_q (QE_as rfl) rfl ?_
 refine JO_nil ?_
 refine thenQ_n ?_
 refine JC_seq ?_
 refine JC_region ?_
 refine JO_q (QE_mv rfl) rfl ?_
 refine JO_q (QE_saddA (opA u 4) (opPs.getD 4 []) (opA u 5) rfl rfl rfl (Nat.le_trans (opA_len hu 5 (by decide)) (by decide))) rfl ?_
 refine JO_q (QE_as rfl) rfl ?_
 refine JO_nil ?_
 refine thenQ_n ?_
 refine JC_seq ?_
 refine JC_region ?_
 refine JO_q (QE_mv rfl) rfl ?_
 refine JO_q (QE_saddA (opA u 5) (opPs.getD 5 []) (opA u 6) rfl rfl rfl (Nat.le_trans (opA_len hu 6 (by decide)) (by decide))) rfl ?_
 refine JO_q (QE_as rfl) rfl ?_
 refine JO_nil ?_
 refine thenQ_n ?_
 refine JC_seq ?_
 refine JC_region ?_
 refine JO_q (QE_mv rfl) rfl ?_
 refine JO_q (QE_saddA (opA u 6) (opPs.getD 6 []) (opA u 7) rfl rfl rfl (Nat.le_trans (opA_len hu 7 (by decide)) (by decide))) rfl ?_
 refine JO_q (QE_as rfl) rfl ?_
 refine JO_nil ?_
 refine thenQ_n ?_
 refine JC_seq ?_
 refine JC_region ?_
 refine JO_q (QE_mv rfl) rfl ?_
 refine JO_q (QE_saddA (opA u 7) (opPs.getD 7 []) (opA u 8) rfl rfl rfl (Nat.le_trans (opA_len hu 8 (by decide)) (by decide))) rfl ?_
 refine JO_q (QE_as rfl) rfl ?_
 refine JO_nil ?_
 refine thenQ_n ?_
 refine JC_seq ?_
 refine JC_region ?_
 refine JO_q (QE_mv rfl) rfl ?_
 refine JO_q (QE_saddA (opA u 8) (opPs.getD 8 []) (opA u 9) rfl rfl rfl (Nat.le_trans (opA_len hu 9 (by decide)) (by decide))) rfl ?_
 refine JO_q (QE_as rfl) rfl ?_
 refine JO_nil ?_
 refine thenQ_n ?_
 refine JC_ret ?_
 refine retQ_mk [] L (.inr rfl) (.tmp rfl (.nil)) rfl h1 (fun sR hS2 => ?_)
 exact ⟨by rw [← opA_all]; rfl, rfl⟩
end Go.Proofs.YtoeeblegplghmaaGreatDoor
namespace Go.Proofs.YtoeeblegplghmaaGreatDoor
open Go.FL
attribute [local irreducible] JC JO JA JB thenQ blockQ retQ AC fill CellsAt QE Ev Mid
attribute [local irreducible] machL machS
theorem paraR_at {ws : List (List UInt8)} {k : Nat} {pg : Pg} (h : (paraR ws)[k]? = some pg) : ∃ p, (dvF [] ws)[k]? = some p ∧ pgOf p = pg := by
  rw [paraR, List.getElem?_map] at h
  obtain ⟨p, h1, h2⟩ := Option.map_eq_some_iff.1 h
  exact ⟨p, h1, h2⟩
theorem paraR_len (ws : List (List UInt8)) : (paraR ws).length = (dvF [] ws).length := by rw [paraR, List.length_map]
theorem dam_step {l : List Par} {k : Nat} {p : Par} (h : l[k]? = some p) (i : Nat) : damF i (l.drop k) = if codeP p ≠ 0 then (i : Int) :: damF (i + 1) (l.drop (k + 1)) else damF (i + 1) (l.drop (k + 1)) := by rw [drop_at h, damF]
theorem rd_stepT {l : List Par} {k : Nat} {p : Par} (h : l[k]? = some p) (i : Nat) (c : Int) (acc : List Ins) : rdT i c acc (l.drop k) = match rdS i c acc p with
  | .inl f => .inl f
  | .inr (k', c', acc') => rdT k' c' acc' (l.drop (k + 1)) := by
  rw [drop_at h, rdT_step]; cases rdS i c acc p <;> rfl
theorem cells_num {u : Nat} (h : u < 4294967296) : rdCells (cellW (u : Int)) = some (u : Int) := by
  have hl : 3 < machL.length := by rw [mach_len]; decide
  have e3 : (cellW (u : Int)).getD 3 [] = decS (u : Int) := by unfold cellW; simp [List.getD_eq_getElem?_getD, hl]
  have hn : numL (decS (u : Int)) = some u := numL_dec h
  rw [rdCells, e3, if_pos ⟨by simp [cellW], rfl⟩, hn]; rfl
theorem cells_bare {c : Int} : ∀ w ∈ cellW c, bare1 w := fun w hw => (cell_ok c w hw).1
section
variable {ws : List (List UInt8)} {w3 : List UInt8}
theorem rc_short (h : ¬ 3 < ws.length) : rdCells ws = none := if_neg (fun e => by have := e.1; rw [mach_len] at this; omega)
theorem rc_num (h3 : ws[3]? = some w3) (h : (numL w3).isSome = false) : rdCells ws = none := by
  have hg : ws.getD 3 [] = w3 := by rw [List.getD_eq_getElem?_getD, h3]; rfl
  rw [rdCells, hg, show numL w3 = none by simpa using h]; split <;> rfl
theorem rc_ne (h3 : ws[3]? = some w3) (h : ¬ joinW ws = joinW (cellW (((numL w3).getD 0 : Nat) : Int))) (hs : (numL w3).isSome = true) : rdCells ws = none := by
  have hg : ws.getD 3 [] = w3 := by rw [List.getD_eq_getElem?_getD, h3]; rfl
  obtain ⟨u, hu⟩ := Option.isSome_iff_exists.1 hs
  rw [rdCells, hg, if_neg]
  rintro ⟨_, e⟩
  refine h ?_
  obtain ⟨e1, _⟩ := numL_some hu
  rw [hu, Option.getD_some, cellW]
  rw [e1] at e
  exact congrArg joinW e
theorem rc_eq (hb : ∀ w ∈ ws, bare1 w) (h : joinW ws = joinW (cellW (((numL w3).getD 0 : Nat) : Int))) : rdCells ws = some (((numL w3).getD 0 : Nat) : Int) := by
  have e := join_inj hb cells_bare h
  rw [e]; exact cells_num (by have := (numL_u32 w3).2; omega)
end
set_option maxHeartbeats 2000000 in
set_option maxRecDepth 100000 in
theorem rdamO_ac (D : Nat) (L : Hl) (s : World) (tx : List UInt8) (hl : tx.length ≤ 1000000) : AC Tryz.prog D 18 [St tx] L s fun v L' s' => ∃ M', L' = M' ++ L ∧ ∀ s2, Le D s' s2 → Pub M' s2 → ∃ A n c, v = .slice A n c ∧ Its s2 A n c (damR tx) := by
 have hfs := flds_len tx
 have hdl := dv_len (flds tx) []
 refine AC_enter (TT := TT) (fn := Tryz.f18) TT_ok Tryz.func18 (by kernel_rfl) rfl Tryz.ntmps18 rfl (rs := [.tmp 2]) rfl [(0, _)] rfl ?_
 refine JC_seq ?_
 refine JC_region ?_
 refine JO_q (QE_as rfl) rfl ?_
 refine JO_nil ?_
 refine thenQ_n ?_
 refine JC_seq ?_
 refine JC_region ?_
 refine JO_q (QE_mv rfl) rfl ?_
 refine JO_call (first := []) (captured := []) rfl rfl rfl (parasR_ac D _ _ tx hl) ?_
 rintro _ _ s1 h1 ⟨rfl, Ap, np, cp, rfl, hP⟩
 have hn := hP.1
 rw [paraR_len] at hn
 refine JO_q (QE_as rfl) rfl ?_
 refine JO_nil ?_
 refine thenQ_n ?_
 refine JC_seq ?_
 refine JC_region ?_
 refine JO_q (QE_as rfl) rfl ?_
 refine JO_nil ?_
 refine thenQ_n ?_
 refine JC_seq ?_
 refine JC_seq ?_
 refine JC_region ?_
 refine JO_q (QE_as rfl) rfl ?_
 refine JO_nil ?_
 refine thenQ_n ?_
 refine JC_block ?_
 refine JC_loop (γ := Nat × Value × Hl × List Int) (fun g => [(2, _), (3, _), (4, g.2.1), (5, .int .i64 (g.1 : Int))]) (fun g => g.2.2.1 ++ L) (fun g tw => Le D s1 tw ∧ (g.1 ≤ np ∧ FL.Own 3 1 g.2.2.1 g.2.1 g.2.2.2.length (itv g.2.2.2) ∧ g.2.2.2 ++ damF g.1 ((dvF [] (flds tx)).drop g.1) = damR tx ∧ g.2.2.2.length ≤ g.1)) (fun g => np - g.1) (fun _ _ _ h hl => ⟨h.1.trans hl, h.2⟩) (0, .slice none 0 0, [], []) (Keeps.cons rfl (Keeps.cons rfl (Keeps.cons rfl (Keeps.cons rfl (Keeps.nil _))))) rfl ⟨Le.refl _, ⟨Nat.zero_le _, FL.Own.nil, rfl, Nat.le_refl _⟩⟩ ?_
 intro g s2 I2
 obtain ⟨k, vo, Mo, acc⟩ := g
 obtain ⟨hk0, hO, hE, hal⟩ := I2.2
 simp only at hk0 hO hE hal
 dsimp only
 refine JC_seq ?_
 refine JC_seq ?_
 refine JC_region ?_
 refine JO_q (QE_mv rfl) rfl ?_
 refine JO_q (QE_mv rfl) rfl ?_
 refine JO_q (QE_lenS rfl rfl rfl) rfl ?_
 refine JO_q (QE_lt rfl rfl) rfl ?_
 refine JO_nil ?_
 refine thenQ_n ?_
 refine JC_ifD rfl (fun c3 => ?_) (fun c3 => ?_)
 ·
  have hk : k < np := by omega
  obtain ⟨b, off, pg, A', n', c', rfl, hpg, hcp, hSp⟩ := Pgs.at_ (hP.le I2.1) hk
  obtain ⟨p, hp, rfl⟩ := paraR_at hpg
  refine JC_skip ?_
  refine thenQ_n ?_
  refine JC_seq ?_
  refine JC_block ?_
  refine JC_seq ?_
  refine JC_region ?_
  refine JO_q (QE_mv rfl) rfl ?_
  refine JO_q (QE_mv rfl) rfl ?_
  refine JO_q (QE_iaN rfl rfl rfl rfl rfl rfl hk) rfl ?_
  refine JO_q (QE_fa rfl rfl rfl rfl) rfl ?_
  refine JO_q (QE_ldsR 1 rfl rfl rfl (hcp.le (Le.refl (D := D) _)) rfl) rfl ?_
  refine JO_q (QE_ne rfl rfl) rfl ?_
  refine JO_nil ?_
  refine thenQ_n ?_
  refine JC_ifN rfl (fun c4 => ?_) (fun c4 => ?_)
  ·
   have hc : codeP p ≠ 0 := c4
   refine JC_region ?_
   refine JO_q (QE_mv rfl) rfl ?_
   refine JO_q (QE_mv rfl) rfl ?_
   refine JO_bs [(_, _)] [_] rfl rfl rfl rfl rfl rfl rfl rfl rfl ?_
   intro βn s5 h5 hcb
   refine JO_app (sz := 1) [] Mo L rfl rfl rfl rfl rfl rfl rfl hO (Row.of_cells (hcb.le (Le.refl (D := D) _)) rfl rfl) ⟨by simp [ti3]; omega, by omega⟩ rfl ?_
   intro vq Mq s6 h6 oq
   obtain ⟨Avq, cvq, rfl, _, _⟩ := Own.slice oq
   simp only [List.nil_append]
   refine JO_q (QE_as rfl) rfl ?_
   refine JO_nil ?_
   refine blockQ_n ?_
   refine thenQ_n ?_
   refine JC_region ?_
   refine JO_q (QE_mv rfl) rfl ?_
   refine JO_q (QE_add' rfl rfl (w64 (by omega) (by omega))) rfl ?_
   refine JO_q (QE_as rfl) rfl ?_
   refine JO_nil ?_
   refine thenQ_n ⟨(k + 1, .slice Avq (acc.length + 1) cvq, Mq, acc ++ [(k : Int)]), [], (Keeps.cons rfl (Keeps.cons rfl (Keeps.cons rfl (Keeps.cons rfl (Keeps.nil _))))), rfl, ⟨(Le.trans (Le.trans I2.1 h5) h6), by first | exact ⟨by simp only; omega, by simp only; rw [List.length_append, itv_snoc]; exact oq, by simp only; rw [← hE, dam_step hp, if_pos hc]; simp, by simp only [List.length_append, List.length_cons, List.length_nil]; omega⟩ | exact ⟨by simp only; omega, hO, by simp only; rw [← hE, dam_step hp, if_neg hc], by simp only; omega⟩⟩, (by simp only; omega)⟩
  ·
   have hc : ¬ codeP p ≠ 0 := fun h => h c4
   refine JC_skip ?_
   refine blockQ_n ?_
   refine thenQ_n ?_
   refine JC_region ?_
   refine JO_q (QE_mv rfl) rfl ?_
   refine JO_q (QE_add' rfl rfl (w64 (by omega) (by omega))) rfl ?_
   refine JO_q (QE_as rfl) rfl ?_
   refine JO_nil ?_
   refine thenQ_n ⟨(k + 1, vo, Mo, acc), [], (Keeps.cons rfl (Keeps.cons rfl (Keeps.cons rfl (Keeps.cons rfl (Keeps.nil _))))), rfl, ⟨I2.1, by first | exact ⟨by simp only; omega, by simp only; rw [List.length_append, itv_snoc]; exact oq, by simp only; rw [← hE, dam_step hp, if_pos hc]; simp, by simp only [List.length_append, List.length_cons, List.length_nil]; omega⟩ | exact ⟨by simp only; omega, hO, by simp only; rw [← hE, dam_step hp, if_neg hc], by simp only; omega⟩⟩, (by simp only; omega)⟩
 ·
  have hkE : k = np := by omega
  subst hkE
  rw [hn, List.drop_length, damF, List.append_nil] at hE
  obtain ⟨Ao, co, rfl, _, _⟩ := Own.slice hO
  refine JC_exit ?_
  refine thenQ_x ?_
  refine thenQ_x ?_
  refine blockQ_x ?_
  refine thenQ_n ?_
  refine JC_seq ?_
  refine JC_region ?_
  refine JO_q (QE_mv rfl) rfl ?_
  refine JO_q (QE_as rfl) rfl ?_
  refine JO_nil ?_
  refine thenQ_n ?_
  refine JC_ret ?_
  refine retQ_mk [] _ (.inr rfl) (.tmp rfl (.nil)) rfl (Le.trans h1 I2.1) (fun sR hS2 => ?_)
  exact ⟨Mo, rfl, fun s2 hs2 hp => ⟨Ao, acc.length, co, rfl, by rw [← hE]; exact Own.its hO hp rfl⟩⟩
theorem rdam_ac (D : Nat) (L : Hl) (s : World) (tx : List UInt8) (hl : tx.length ≤ 1000000) : AC Tryz.prog D 18 [St tx] L s fun v L' s' => L = L' ∧ ∃ A n c, v = .slice A n c ∧ Its s' A n c (damR tx) := AC.pubW (rdamO_ac D L s tx hl)
end Go.Proofs.YtoeeblegplghmaaGreatDoor
