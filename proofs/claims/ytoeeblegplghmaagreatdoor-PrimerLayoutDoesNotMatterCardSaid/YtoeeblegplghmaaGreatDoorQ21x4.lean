/- Part 4 of the proof of primerLayoutDoesNotMatter_holds: texts P5, P6, P7, P8, P9, P11, P12, FlR. -/
import Derived.Test.YtoeeblegplghmaaGreatDoorQ21x3
import Derived.RangeFuncIn
import Derived.RangeFuncLeaves
import Derived.RangeFuncCalls
import Derived.RangeFuncRecord
import Derived.TacticsIn
import Derived.Sort.LoopGhostIn
import Derived.OrdersIn
set_option linter.unusedVariables false
set_option linter.unusedSimpArgs false
set_option linter.unnecessarySimpa false
namespace Go.Proofs.YtoeeblegplghmaaGreatDoor
open Go.FL
attribute [local irreducible] JC JO JA JB thenQ blockQ retQ AC fill CellsAt QE Ev Mid
def insP (t : Tab) (i : Nat) : List (List (List UInt8)) := cellW t.cells :: (t.ins.take i).map insW
theorem insP_next {t : Tab} {i : Nat} {x : Ins} (h : t.ins[i]? = some x) : insP t (i + 1) = insP t i ++ [insW x] := by
  obtain ⟨hi, rfl⟩ := List.getElem?_eq_some_iff.1 h
  rw [insP, insP, List.take_succ_eq_append_getElem hi, List.map_append]; rfl
theorem ins_take {x : Ins} {j : Nat} {a : Ac} (h : x.acts[j]? = some a) (p : List (List UInt8)) : p ++ ((x.acts.take (j + 1)).map wordsA).flatten = (p ++ ((x.acts.take j).map wordsA).flatten) ++ wordsA a := by
  obtain ⟨hj, rfl⟩ := List.getElem?_eq_some_iff.1 h
  rw [List.take_succ_eq_append_getElem hj, List.map_append, List.flatten_append, ← List.append_assoc]
  simp only [List.map_cons, List.map_nil, List.flatten_cons, List.flatten_nil, List.append_nil]
theorem sb_app (a b : List (List UInt8)) : sb (a ++ b) = sb a ++ sb b := by simp [sb]
theorem part_size {x : Ins} (h : InsP x) (j : Nat) : sizeW (headW x.code x.name x.operand ++ ((x.acts.take j).map wordsA).flatten) ≤ 700 := by
  have h1 := ins_size h
  have h2 : insW x = (headW x.code x.name x.operand ++ ((x.acts.take j).map wordsA).flatten) ++ ((x.acts.drop j).map wordsA).flatten := by
    rw [insW, List.append_assoc, ← List.flatten_append, ← List.map_append, List.take_append_drop]
  rw [h2, sizeW_app] at h1
  omega
theorem head_flds {x : Ins} (h : InsP x) : flds (joinW (headW x.code x.name x.operand)) = headW x.code x.name x.operand := flds_join _ (fun w hw => (head_ok h.nm w hw).1)
theorem split_at {Q : List PR} {k : Nat} {x : PR} (h : Q[k]? = some x) : Q = Q.take k ++ x :: Q.drop (k + 1) := by
  obtain ⟨hk, rfl⟩ := List.getElem?_eq_some_iff.1 h
  conv => lhs; rw [← List.take_append_drop k Q, List.drop_eq_getElem_cons hk]
theorem set_split {Q : List PR} {k : Nat} {x : PR} (h : k < Q.length) : Q.set k x = Q.take k ++ x :: Q.drop (k + 1) := List.set_eq_take_append_cons_drop.trans (if_pos h)
def upto (ps : List (List (List UInt8))) (k : Nat) : List (List (List UInt8)) := (ps.take k).map withC ++ ps.drop k
theorem upto_at {ps : List (List (List UInt8))} {k : Nat} {p : List (List UInt8)} (h : ps[k]? = some p) : (upto ps k)[k]? = some p ∧ upto ps (k + 1) = (upto ps k).set k (withC p) := by
  obtain ⟨hk, rfl⟩ := List.getElem?_eq_some_iff.1 h
  have hl : ((ps.take k).map withC).length = k := by rw [List.length_map, List.length_take]; omega
  refine ⟨?_, ?_⟩
  · rw [upto, List.getElem?_append_right (by omega), hl, Nat.sub_self, List.getElem?_drop, Nat.add_zero, List.getElem?_eq_getElem hk]
  · rw [upto, upto, List.set_append_right _ _ (by omega), hl, Nat.sub_self, List.drop_eq_getElem_cons hk, List.set_cons_zero, List.take_succ_eq_append_getElem hk, List.map_append]
    simp
theorem upto_all (ps : List (List (List UInt8))) : upto ps ps.length = ps.map withC := by rw [upto, List.take_length, List.drop_length, List.append_nil]
theorem upto_len (ps : List (List (List UInt8))) (k : Nat) : (upto ps k).length = ps.length := by
  rw [upto, List.length_append, List.length_map, ← List.length_append, List.take_append_drop]
set_option maxHeartbeats 4000000 in
set_option maxRecDepth 100000 in
theorem parasO_ac (D : Nat) (L : Hl) (s : World) (hG : GP s) (t : Tab) (A : Option Addr) (n c : Nat) (hA : Inss s A n c t.ins) (hT : TabP t) : AC Tryz.prog D 26 [.agg #[.int .i64 t.cells, .slice A n c]] L s fun v L' s' => ∃ M', L' = M' ++ L ∧ ∀ s2, Le D s' s2 → Pub M' s2 → ∃ A2 n2 c2, v = .slice A2 n2 c2 ∧ Slss s2 A2 n2 c2 ((parasT t).map withC) := by
 have hn := hA.1
 have hcl := hT.cells
 have hfew := hT.len
 have hmj := mach_join
 have hml : (flds machS).length = 320 := mach_len
 refine AC_enter (TT := TT) (fn := Tryz.f26) TT_ok Tryz.func26 (by kernel_rfl) rfl Tryz.ntmps26 rfl (rs := [.tmp 2]) rfl [(0, _)] rfl ?_
 refine JC_seq ?_
 refine JC_region ?_
 refine JO_boxA rfl rfl ?_
 intro β1 s1 h1
 refine JO_q (QE_as rfl) rfl ?_
 refine JO_nil ?_
 refine thenQ_n ?_
 refine JC_seq ?_
 refine JC_region ?_
 refine JO_call (first := []) (captured := []) rfl rfl rfl (fieldsO_ac D _ _ (hG.le h1) machS (by omega) hmj.1) ?_
 rintro _ _ s2 h2 ⟨βf, rfl, rfl⟩
 refine JO_q (QE_as rfl) rfl ?_
 refine JO_nil ?_
 refine thenQ_n ?_
 refine JC_seq ?_
 refine JC_region ?_
 refine JO_q (QE_mv rfl) rfl ?_
 refine JO_q (QE_fa0 rfl rfl rfl rfl) rfl ?_
 refine JO_q (QE_ld1 1 rfl rfl rfl rfl rfl) rfl ?_
 refine JO_call (first := []) (captured := []) rfl rfl rfl (itoaD_ac D _ _ (hG.le (Le.trans h1 h2)) t.cells (by omega) (by omega)) ?_
 rintro _ _ s3 h3 ⟨rfl, rfl⟩
 refine JO_q (QE_ia1 (j := 3) rfl rfl rfl rfl rfl rfl (by rw [hml]; decide)) rfl ?_
 refine JO_st 0 (sb (cellW t.cells)) rfl rfl rfl rfl rfl (by show Nat.ble (0 + 3 + 1) (sb machL).length = true; rw [sb_len, mach_len]; rfl) rfl (by have := spl_row (xs := sb machL) (ys := []) (k := 3) (St (decS t.cells)) (by rw [sb_len, mach_len]; decide); rw [List.append_nil, List.append_nil, sb_set] at this; exact this) rfl ?_
 refine JO_nil ?_
 refine thenQ_n ?_
 refine JC_seq ?_
 refine JC_region ?_
 refine JO_q (QE_mv rfl) rfl ?_
 refine JO_bsO [(_, _)] [_] rfl rfl rfl rfl rfl rfl rfl rfl rfl ?_
 intro βo s5 h5
 refine JO_q (QE_as rfl) rfl ?_
 refine JO_nil ?_
 refine thenQ_n ?_
 refine JC_seq ?_
 refine JC_seq ?_
 refine JC_front 1 ?_
 refine JC_front 2 ?_
 refine JC_region ?_
 refine JO_q (QE_faB rfl rfl rfl rfl) rfl ?_
 refine JO_q (QE_ld1 0 rfl rfl rfl rfl rfl) rfl ?_
 refine JO_q (QE_lenS rfl rfl rfl) rfl ?_
 refine JO_q (QE_mv rfl) rfl ?_
 refine JO_nil ?_
 refine thenQ_n ?_
 refine JC_block ?_
 
 refine JC_loop (γ := Nat × Value × Hl × List PR) (fun g => [(2, _), (4, g.2.1), (23, _), (24, _), (25, .int .i64 (g.1 : Int))]) (fun g => (β1, cb [.int .i64 t.cells, .slice A n c] 24) :: rowsL g.2.2.2 (g.2.2.1 ++ L)) (fun g tw => Le D s5 tw ∧ (g.1 ≤ n ∧ FL.Own 42 1 g.2.2.1 g.2.1 g.2.2.2.length ((g.2.2.2.map (·.2.1)).reverse) ∧ RowsOK 9 g.2.2.2 ∧ (g.2.2.2.map (·.2.2)).reverse = insP t g.1 ∧ g.2.2.2.length = g.1 + 1)) (fun g => n - g.1) (fun _ _ _ h hl => ⟨h.1.trans hl, h.2⟩) (0, .slice (some ⟨βo, 0, none⟩) 1 1, [(βo, cb [.slice (some ⟨βf, 0, none⟩) (flds machS).length (flds machS).length] 42)], [([(βf, cb (sb (cellW t.cells)) 9)], .slice (some ⟨βf, 0, none⟩) (flds machS).length (flds machS).length, cellW t.cells)]) (Keeps.cons rfl (Keeps.cons rfl (Keeps.cons rfl (Keeps.cons rfl (Keeps.cons rfl (Keeps.nil _)))))) rfl ⟨Le.refl _, ⟨Nat.zero_le _, Own.blk (e := 42) (sz := 1) βo 1 1 [_] [] rfl rfl (Nat.le_refl _) (by omega), (fun x hx => by
   simp only [List.mem_singleton] at hx
   subst hx
   have := own_row (e := 9) (β := βf) (ws := cellW t.cells) (by simp only [cellW, List.length_set, mach_len]; omega)
   have e : (cellW t.cells).length = (flds machS).length := by simp only [cellW, List.length_set]; rfl
   rw [e] at this; simp only; rw [e]; exact this), rfl, rfl⟩⟩ ?_
 intro g s6 I6
 obtain ⟨i, vo, Mo, R⟩ := g
 obtain ⟨hi0, hO, hR, hRw, hRl⟩ := I6.2
 simp only at hi0 hO hR hRw hRl
 dsimp only
 refine JC_seq ?_
 refine JC_region ?_
 refine JO_q (QE_lt rfl rfl) rfl ?_
 refine JO_nil ?_
 refine thenQ_n ?_
 refine JC_seq ?_
 refine JC_ifD rfl (fun c7 => ?_) (fun c7 => ?_)
 ·
  have hk : i < n := by omega
  obtain ⟨b, off, x, A', n', c', rfl, hx, hcx, hax, _, _⟩ := Inss.at_ (hA.le (Le.trans (Le.trans (Le.trans (Le.trans h1 h2) h3) h5) I6.1)) hk
  have hxp := hT.ins x (List.mem_of_getElem? hx)
  have hn' := hax.1
  have hx8 := hxp.few
  refine JC_skip ?_
  refine thenQ_n ?_
  refine JC_seq ?_
  refine JC_block ?_
  refine JC_seq ?_
  refine JC_region ?_
  refine JO_q (QE_iaN rfl rfl rfl rfl rfl rfl hk) rfl ?_
  refine JO_q (QE_ldsA rfl rfl rfl (hcx.le (Le.refl (D := D) _)) rfl) rfl ?_
  refine JO_allocZ rfl [_, _, _, _] rfl rfl ?_
  intro β8 s8 h8
  refine JO_st 0 [_, _, _, _] rfl rfl rfl rfl rfl rfl rfl rfl rfl ?_
  refine JO_nil ?_
  refine thenQ_n ?_
  refine JC_seq ?_
  refine JC_region ?_
  refine JO_q (QE_ldA 0 [_, _, _, _] rfl rfl rfl rfl rfl) rfl ?_
  refine JO_call (first := []) (captured := []) rfl rfl rfl (begin_ac D _ _ (hG.le (Le.trans (Le.trans (Le.trans (Le.trans (Le.trans h1 h2) h3) h5) I6.1) h8)) x A' n' c' hxp.code (by have := hxp.nm; simp only [labelB, Bool.and_eq_true, decide_eq_true_eq] at this; omega)) ?_
  rintro _ _ s9 h9 ⟨rfl, rfl⟩
  refine JO_call (first := []) (captured := []) rfl rfl rfl (fieldsO_ac D _ _ (hG.le (Le.trans (Le.trans (Le.trans (Le.trans (Le.trans (Le.trans h1 h2) h3) h5) I6.1) h8) h9)) (joinW (headW x.code x.name x.operand)) (by have := join_len (headW x.code x.name x.operand); have := part_size hxp 0; simp only [List.take_zero, List.map_nil, List.flatten_nil, List.append_nil] at this; omega) (join_ok fun w hw => (head_ok hxp.nm w hw).2.1)) ?_
  rintro _ _ s10 h10 ⟨βl, rfl, rfl⟩
  rw [head_flds hxp]
  refine JO_q (QE_as rfl) rfl ?_
  refine JO_nil ?_
  refine thenQ_n ?_
  refine JC_seq ?_
  refine JC_seq ?_
  refine JC_front 2 ?_
  refine JC_front 2 ?_
  refine JC_region ?_
  refine JO_q (QE_faB rfl rfl rfl rfl) rfl ?_
  refine JO_q (QE_ld1 0 rfl rfl rfl rfl rfl) rfl ?_
  refine JO_q (QE_lenS rfl rfl rfl) rfl ?_
  refine JO_q (QE_mv rfl) rfl ?_
  refine JO_nil ?_
  refine thenQ_n ?_
  refine JC_block ?_
  
  refine JC_loop (γ := Nat × Value × Hl) (fun g => [(2, _), (4, _), (7, g.2.1), (23, _), (24, _), (25, _), (33, _), (34, _), (35, .int .i64 (g.1 : Int))]) (fun g => (β8, cb [St x.name, .int .u32 x.code, .bool x.operand, .slice A' n' c'] 63) :: (β1, cb [.int .i64 t.cells, .slice (some ⟨b, off, none⟩) n c] 24) :: (g.2.2 ++ rowsL R (Mo ++ L))) (fun g tw => Le D s10 tw ∧ (g.1 ≤ n' ∧ FL.Own 9 1 g.2.2 g.2.1 (headW x.code x.name x.operand ++ ((x.acts.take g.1).map wordsA).flatten).length (sb (headW x.code x.name x.operand ++ ((x.acts.take g.1).map wordsA).flatten)))) (fun g => n' - g.1) (fun _ _ _ h hl => ⟨h.1.trans hl, h.2⟩) (0, _, [(βl, cb (sb (headW x.code x.name x.operand)) 9)]) (Keeps.cons rfl (Keeps.cons rfl (Keeps.cons rfl (Keeps.cons rfl (Keeps.cons rfl (Keeps.cons rfl (Keeps.cons rfl (Keeps.cons rfl (Keeps.cons rfl (Keeps.nil _)))))))))) rfl ⟨Le.refl _, ⟨Nat.zero_le _, by simp only [List.take_zero, List.map_nil, List.flatten_nil, List.append_nil]; exact own_row (by simp [headW])⟩⟩ ?_
  intro g s11 I11
  obtain ⟨j, vl, Ml⟩ := g
  obtain ⟨hj0, hOl⟩ := I11.2
  simp only at hj0 hOl
  dsimp only
  have hpz := part_size hxp j
  have hpl := size_len (headW x.code x.name x.operand ++ ((x.acts.take j).map wordsA).flatten)
  obtain ⟨lw, hlw⟩ : ∃ lw, lw = (headW x.code x.name x.operand ++ ((x.acts.take j).map wordsA).flatten).length := ⟨_, rfl⟩
  rw [← hlw] at hOl hpl
  refine JC_seq ?_
  refine JC_region ?_
  refine JO_q (QE_lt rfl rfl) rfl ?_
  refine JO_nil ?_
  refine thenQ_n ?_
  refine JC_seq ?_
  refine JC_ifD rfl (fun c12 => ?_) (fun c12 => ?_)
  ·
   have hj : j < n' := by omega
   obtain ⟨b5, off5, a, hE5, ha, hca, _⟩ := Acs.at_ (hax.le (Le.trans (Le.trans (Le.trans h8 h9) h10) I11.1)) hj
   subst hE5
   refine JC_skip ?_
   refine thenQ_n ?_
   refine JC_seq ?_
   refine JC_block ?_
   refine JC_seq ?_
   refine JC_region ?_
   refine JO_q (QE_iaN rfl rfl rfl rfl rfl rfl hj) rfl ?_
   refine JO_q (QE_ldsA rfl rfl rfl (hca.le (Le.refl (D := D) _)) rfl) rfl ?_
   refine JO_allocZ rfl [_, _, _, _, _, _] rfl rfl ?_
   intro β13 s13 h13
   refine JO_st 0 [_, _, _, _, _, _] rfl rfl rfl rfl rfl rfl rfl rfl rfl ?_
   refine JO_nil ?_
   refine thenQ_n ?_
   refine JC_region ?_
   refine JO_q (QE_mv rfl) rfl ?_
   refine JO_q (QE_ldA 0 [_, _, _, _, _, _] rfl rfl rfl rfl rfl) rfl ?_
   refine JO_call (first := []) (captured := []) rfl rfl rfl (wordsS_ac D _ _ (hG.le (Le.trans (Le.trans (Le.trans (Le.trans (Le.trans (Le.trans (Le.trans (Le.trans (Le.trans h1 h2) h3) h5) I6.1) h8) h9) h10) I11.1) h13)) a (hxp.acts a (List.mem_of_getElem? ha))) ?_
   rintro _ _ s14 h14 ⟨rfl, Aw, nw, cw, rfl, hSw⟩
   have hnw := hSw.1
   have hwz := size_len (wordsA a)
   have hws := words_size (hxp.acts a (List.mem_of_getElem? ha))
   refine JO_app (sz := 1) [_, _, _] Ml (rowsL R (Mo ++ L)) rfl rfl rfl rfl rfl rfl rfl hOl (hSw.row.le (Le.refl (D := D) _)) ⟨by simp [ti9]; omega, by omega⟩ rfl ?_
   intro vq Mq s15 h15 oq
   obtain ⟨Avq, cvq, rfl, _, _⟩ := Own.slice oq
   refine JO_q (QE_as rfl) rfl ?_
   refine JO_nil ?_
   refine blockQ_n ?_
   refine thenQ_n ?_
   refine JC_region ?_
   refine JO_q (QE_add' rfl rfl (w64 (by omega) (by omega))) rfl ?_
   refine JO_q (QE_mv rfl) rfl ?_
   refine JO_nil ?_
   refine thenQ_n ⟨(j + 1, .slice Avq (lw + nw) cvq, Mq), [_], (Keeps.cons rfl (Keeps.cons rfl (Keeps.cons rfl (Keeps.cons rfl (Keeps.cons rfl (Keeps.cons rfl (Keeps.cons rfl (Keeps.cons rfl (Keeps.cons rfl (Keeps.nil _)))))))))), rfl, ⟨(Le.trans (Le.trans (Le.trans I11.1 h13) h14) h15), ⟨by simp only; omega, by
     have e : (headW x.code x.name x.operand ++ ((x.acts.take j).map wordsA).flatten ++ wordsA a).length = lw + nw := by rw [List.length_append, ← hlw, ← hnw]
     simp only; rw [ins_take ha, sb_app, e]; exact oq⟩⟩, (by simp only; omega)⟩
  ·
   have hjE : j = n' := by omega
   subst hjE
   rw [hn', List.take_length] at hlw hOl
   have hlw2 : lw = (insW x).length := hlw
   obtain ⟨Avl, cvl, hvl, _, _⟩ := Own.slice hOl
   subst hvl
   have hLo : ∀ y z : Nat × Obj, y :: z :: (Ml ++ rowsL R (Mo ++ L)) = (y :: z :: (Ml ++ rowsL R [])) ++ (Mo ++ L) := fun y z => by rw [rowsL_app R (Mo ++ L)]; simp
   refine JC_exit ?_
   refine thenQ_x ?_
   refine thenQ_x ?_
   refine blockQ_x ?_
   refine thenQ_n ?_
   refine JC_region ?_
   refine JO_q (QE_mv rfl) rfl ?_
   refine JO_q (QE_mv rfl) rfl ?_
   refine JO_bs [(_, _)] [_] rfl rfl rfl rfl rfl rfl rfl rfl rfl ?_
   intro βn s16 h16 hcb
   refine JO_app (sz := 1) (_ :: _ :: (Ml ++ rowsL R [])) Mo L (hLo _ _) rfl rfl rfl rfl rfl rfl hO (Row.of_cells (hcb.le (Le.refl (D := D) _)) rfl rfl) ⟨by simp [ti42]; omega, by omega⟩ rfl ?_
   intro vz Mz s17 h17 oz
   obtain ⟨Avz, cvz, rfl, _, _⟩ := Own.slice oz
   have hLL : ∀ (y z : Nat × Obj) (T : Hl), (y :: z :: (Ml ++ rowsL R [])) ++ T = y :: z :: (Ml ++ rowsL R T) := fun y z T => by rw [rowsL_app R T]; simp
   rw [hLL]
   refine JO_q (QE_as rfl) rfl ?_
   refine JO_nil ?_
   refine blockQ_n ?_
   refine thenQ_n ?_
   refine JC_region ?_
   refine JO_q (QE_add' rfl rfl (w64 (by omega) (by omega))) rfl ?_
   refine JO_q (QE_mv rfl) rfl ?_
   refine JO_nil ?_
   refine thenQ_n ⟨(i + 1, .slice Avz (R.length + 1) cvz, Mz, (Ml, .slice Avl lw cvl, insW x) :: R), [_], (Keeps.cons rfl (Keeps.cons rfl (Keeps.cons rfl (Keeps.cons rfl (Keeps.cons rfl (Keeps.nil _)))))), rfl, ⟨(Le.trans (Le.trans (Le.trans (Le.trans (Le.trans (Le.trans I6.1 h8) h9) h10) I11.1) h16) h17), ⟨by simp only; omega, by simp only [List.map_cons, List.reverse_cons, List.length_cons]; exact oz, (fun y hy => by
     rcases List.mem_cons.1 hy with rfl | hy
     · simp only; rw [← hlw2]; exact hOl
     · exact hR y hy), by simp only [List.map_cons, List.reverse_cons]; rw [hRw, insP_next hx], by simp only [List.length_cons]; omega⟩⟩, (by simp only; omega)⟩
 ·
  refine JC_exit ?_
  refine thenQ_x ?_
  refine thenQ_x ?_
  refine blockQ_x ?_
  refine thenQ_n ?_
  refine JC_seq ?_
  refine JC_seq ?_
  have hiE : n = i := by omega
  subst hiE
  rw [hn, insP, List.take_length] at hRw
  obtain ⟨bo, cap, ys, hMo, hvo, hx1, hx2, hx3⟩ := own_blk hO (by omega)
  subst hMo
  subst hvo
  refine JC_perm (L' := (bo, cb (R.reverse.map (·.2.1) ++ ys) 42) :: (β1, cb [.int .i64 t.cells, .slice A n c] 24) :: rowsL R.reverse L) ?hperm ?_
  case hperm =>
    rw [List.map_reverse]
    have h1 := rowsL_rev R ([(bo, cb ((R.map (·.2.1)).reverse ++ ys) 42)] ++ L)
    refine (h1.cons _).trans ?_
    rw [rowsL_app R.reverse, rowsL_app R.reverse L]
    refine (List.Perm.cons _ (List.perm_middle (l₁ := rowsL R.reverse []))).trans ?_
    exact List.Perm.swap _ _ _
  refine JC_region ?_
  refine JO_q (QE_mv rfl) rfl ?_
  refine JO_q (QE_lenS rfl rfl rfl) rfl ?_
  refine JO_q (QE_mv rfl) rfl ?_
  refine JO_nil ?_
  refine thenQ_n ?_
  refine JC_block ?_
  refine JC_loop (γ := Nat × List PR) (fun g => [(2, _), (4, _), (49, _), (50, _), (51, .int .i64 (g.1 : Int))]) (fun g => (bo, cb (g.2.map (·.2.1) ++ ys) 42) :: (β1, cb [.int .i64 t.cells, .slice A n c] 24) :: rowsL g.2 L) (fun g tw => Le D s6 tw ∧ (g.1 ≤ R.length ∧ g.2.length = R.length ∧ RowsOK 9 g.2 ∧ g.2.map (·.2.2) = upto (parasT t) g.1)) (fun g => R.length - g.1) (fun _ _ _ h hl => ⟨h.1.trans hl, h.2⟩) (0, R.reverse) (Keeps.cons rfl (Keeps.cons rfl (Keeps.cons rfl (Keeps.cons rfl (Keeps.cons rfl (Keeps.nil _)))))) rfl ⟨Le.refl _, ⟨Nat.zero_le _, by simp, (fun x hx => hR x (List.mem_reverse.1 hx)), by rw [List.map_reverse, hRw]; rfl⟩⟩ ?_
  intro g s18 I18
  obtain ⟨k, Q⟩ := g
  obtain ⟨hk0, hQl, hQR, hQw⟩ := I18.2
  simp only at hk0 hQl hQR hQw
  dsimp only
  refine JC_seq ?_
  refine JC_region ?_
  refine JO_q (QE_lt rfl rfl) rfl ?_
  refine JO_nil ?_
  refine thenQ_n ?_
  refine JC_seq ?_
  refine JC_ifD rfl (fun c19 => ?_) (fun c19 => ?_)
  ·
   have hkN : k < R.length := by omega
   have hkQ : k < Q.length := by omega
   obtain ⟨⟨Mk, vk, wk⟩, hQk⟩ : ∃ x, Q[k]? = some x := ⟨_, List.getElem?_eq_getElem hkQ⟩
   obtain ⟨p, hp⟩ : ∃ p, (parasT t)[k]? = some p := ⟨_, List.getElem?_eq_getElem (show k < (parasT t).length by have := congrArg List.length hQw; rw [List.length_map, upto_len] at this; omega)⟩
   obtain rfl : p = wk := by
     have h := congrArg (fun l => l[k]?) hQw
     rw [(upto_at hp).1, List.getElem?_map, hQk] at h
     simpa using h.symm
   have hOk := hQR _ (List.mem_of_getElem? hQk)
   simp only at hOk
   obtain ⟨Ak, ck, hvE, _, _⟩ := Own.slice hOk
   subst hvE
   have hLs : ∀ y z : Nat × Obj, y :: z :: rowsL Q L = (y :: z :: rowsL (Q.take k) []) ++ (Mk ++ rowsL (Q.drop (k + 1)) L) := fun y z => by
     have h := rowsL_split (Q.take k) (Q.drop (k + 1)) (Mk, .slice Ak p.length ck, p) L
     rw [← split_at hQk] at h
     rw [h]; rfl
   have hvk : (Q.map (·.2.1))[k]? = some (.slice Ak p.length ck) := by rw [List.getElem?_map, hQk]; rfl
   have hpm := List.mem_of_getElem? hp
   have hpz := para_size hT p hpm
   have hpj := join_len p
   have hpl := size_len p
   have hokp : okT (joinW p) = true := join_ok fun w hw => (paras_ok hT p hpm w hw).2.1
   have hchk := chk_lt (joinW p)
   have hdl := dec_len10 (n := chkS (joinW p)) (by omega)
   refine JC_skip ?_
   refine thenQ_n ?_
   refine JC_seq ?_
   refine JC_block ?_
   refine JC_seq ?_
   refine JC_region ?_
   refine JO_q (QE_mv rfl) rfl ?_
   refine JO_q (QE_ia1 rfl rfl rfl rfl rfl rfl hkN) rfl ?_
   refine JO_q (QE_ld1 0 rfl rfl rfl rfl (nth_row hvk)) rfl ?_
   refine JO_q (QE_as rfl) rfl ?_
   refine JO_q (QE_as rfl) rfl ?_
   refine JO_nil ?_
   refine thenQ_n ?_
   refine JC_seq ?_
   refine JC_region ?_
   refine JO_q (QE_mv rfl) rfl ?_
   refine JO_call (first := []) (captured := []) rfl rfl rfl (sumJ_ac D _ _ Ak _ ck p (fun s' _ => joinO_ac D _ s' hOk (fun y hy => List.mem_cons_of_mem _ (List.mem_cons_of_mem _ (mem_rowsL (List.mem_of_getElem? hQk) L y hy))) rfl (by omega) (by omega)) (by omega)) ?_
   rintro _ _ s20 h20 ⟨rfl, rfl⟩
   rw [hokp, if_pos rfl]
   refine JO_q (QE_mv rfl) rfl ?_
   refine JO_q (QE_ext rfl rfl) rfl ?_
   refine JO_q (QE_ext rfl rfl) rfl ?_
   refine JO_q (QE_as rfl) rfl ?_
   refine JO_q (QE_as rfl) rfl ?_
   refine JO_nil ?_
   refine thenQ_n ?_
   refine JC_region ?_
   refine JO_q (QE_mv rfl) rfl ?_
   refine JO_q (QE_mv rfl) rfl ?_
   refine JO_q (QE_mv rfl) rfl ?_
   refine JO_q (QE_mv rfl) rfl ?_
   refine JO_call (first := []) (captured := []) rfl rfl rfl (itoaD_ac D _ _ (hG.le (Le.trans (Le.trans (Le.trans (Le.trans (Le.trans (Le.trans h1 h2) h3) h5) I6.1) I18.1) h20)) (chkS (joinW p)) hchk.1 (by omega)) ?_
   rintro _ _ s21 h21 ⟨rfl, rfl⟩
   refine JO_q (QE_sadd rfl rfl (by simp only [List.length_append, List.length_cons, List.length_nil]; omega)) rfl ?_
   refine JO_bs [(_, _), (_, _)] [_, _] rfl rfl rfl rfl rfl rfl rfl rfl rfl ?_
   intro βn s22 h22 hcb
   refine JO_app (sz := 1) (_ :: _ :: rowsL (Q.take k) []) Mk (rowsL (Q.drop (k + 1)) L) (hLs _ _) rfl rfl rfl rfl rfl rfl hOk (Row.of_cells (hcb.le (Le.refl (D := D) _)) rfl rfl) ⟨by simp [ti9]; omega, by omega⟩ rfl ?_
   intro vw Mw s23 h23 ow
   obtain ⟨Avw, cvw, rfl, _, _⟩ := Own.slice ow
   have hLL : ∀ (y z : Nat × Obj), (y :: z :: rowsL (Q.take k) []) ++ (Mw ++ rowsL (Q.drop (k + 1)) L) = y :: z :: rowsL (Q.set k (Mw, .slice Avw (p.length + 2) cvw, withC p)) L := fun y z => by rw [set_split hkQ, rowsL_split]; simp
   rw [hLL]
   refine JO_q (QE_ia1 rfl rfl rfl rfl rfl rfl hkN) rfl ?_
   refine JO_st 0 ((Q.set k (Mw, .slice Avw (p.length + 2) cvw, withC p)).map (·.2.1) ++ ys) rfl rfl rfl rfl rfl (ble_row (by rw [List.length_map]; exact hkQ)) rfl (by rw [List.map_set]; exact spl_row _ (by rw [List.length_map]; exact hkQ)) rfl ?_
   refine JO_nil ?_
   refine blockQ_n ?_
   refine thenQ_n ?_
   refine JC_region ?_
   refine JO_q (QE_add' rfl rfl (w64 (by omega) (by omega))) rfl ?_
   refine JO_q (QE_mv rfl) rfl ?_
   refine JO_nil ?_
   refine thenQ_n ⟨(k + 1, Q.set k (Mw, .slice Avw (p.length + 2) cvw, withC p)), [], (Keeps.cons rfl (Keeps.cons rfl (Keeps.cons rfl (Keeps.cons rfl (Keeps.cons rfl (Keeps.nil _)))))), rfl, ⟨(Le.trans (Le.trans (Le.trans (Le.trans I18.1 h20) h21) h22) h23), ⟨by simp only; omega, by simp only [List.length_set]; omega, (fun x hx => by
     rcases List.mem_or_eq_of_mem_set hx with hx | rfl
     · exact hQR x hx
     · simp only [withC, List.length_append, List.length_cons, List.length_nil, sb_app]; exact ow), by simp only [List.map_set]; rw [hQw, (upto_at hp).2]⟩⟩, (by simp only; omega)⟩
  ·
   refine JC_exit ?_
   refine thenQ_x ?_
   refine thenQ_x ?_
   refine blockQ_x ?_
   refine thenQ_n ?_
   refine JC_seq ?_
   refine JC_region ?_
   refine JO_q (QE_mv rfl) rfl ?_
   refine JO_q (QE_as rfl) rfl ?_
   refine JO_nil ?_
   refine thenQ_n ?_
   refine JC_ret ?_
   refine retQ_mk [] _ (.inr rfl) (.tmp rfl (.nil)) rfl (Le.trans (Le.trans (Le.trans (Le.trans (Le.trans h1 h2) h3) h5) I6.1) I18.1) (fun sR hS2 => ?_)
   have hkE : k = R.length := by omega
   subst hkE
   have hRp : (parasT t).length = R.length := by have := congrArg List.length hQw; rw [List.length_map, upto_len] at this; omega
   rw [← hRp, upto_all] at hQw
   refine ⟨(bo, _) :: _ :: rowsL Q [], by rw [rowsL_app Q L]; rfl, fun s2 hs2 hp => ⟨some ⟨bo, 0, none⟩, R.length, cap, rfl, ?_⟩⟩
   rw [← hQw, ← hQl]
   exact slss_pub hQR (fun x hx w hw => by
     have h1 : x.2.2 ∈ (parasT t).map withC := by rw [← hQw]; exact List.mem_map.2 ⟨x, hx, rfl⟩
     obtain ⟨q, hq, he⟩ := List.mem_map.1 h1
     rw [← he] at hw
     have h2 := mem_size hw
     have h3 := withC_size q
     have h4 := para_size hT q hq
     omega) hp (List.mem_cons_self ..) (fun x hx y hy => List.mem_cons_of_mem _ (List.mem_cons_of_mem _ (mem_rowsL hx [] y hy))) (by rw [List.length_reverse, List.length_map] at hx1 hx2; omega) hx3
end Go.Proofs.YtoeeblegplghmaaGreatDoor
namespace Go.Proofs.YtoeeblegplghmaaGreatDoor
open Go.FL
attribute [local irreducible] JC JO JA JB thenQ blockQ retQ AC fill CellsAt QE Ev Mid
theorem parasS_ac (D : Nat) (L : Hl) (s : World) (hG : GP s) (t : Tab) (A : Option Addr) (n c : Nat) (hA : Inss s A n c t.ins) (hT : TabP t) : AC Tryz.prog D 26 [.agg #[.int .i64 t.cells, .slice A n c]] L s fun v L' s' => L = L' ∧ ∃ A2 n2 c2, v = .slice A2 n2 c2 ∧ Slss s' A2 n2 c2 ((parasT t).map withC) := AC.pubW (parasO_ac D L s hG t A n c hA hT)
def textR (t : Tab) : List UInt8 := if (tabFault t).1 ≠ 0 then [] else pageT t
def linesT (t : Tab) : List (List UInt8) := (parasT t).map fun p => linesW (withC p)
theorem lines_take {t : Tab} {k : Nat} {ws : List (List UInt8)} (h : ((parasT t).map withC)[k]? = some ws) : sb ((linesT t).take (k + 1)) = sb ((linesT t).take k) ++ [St (linesW ws)] := by
  rw [List.getElem?_map] at h
  obtain ⟨p, hp, rfl⟩ := Option.map_eq_some_iff.1 h
  have hl : (linesT t)[k]? = some (linesW (withC p)) := by rw [linesT, List.getElem?_map, hp]; rfl
  obtain ⟨hk, he⟩ := List.getElem?_eq_some_iff.1 hl
  rw [List.take_succ_eq_append_getElem hk, he, sb_app]; rfl
theorem paraC_size {t : Tab} (hT : TabP t) {ws : List (List UInt8)} (h : ws ∈ (parasT t).map withC) : sizeW ws ≤ 2000 := by
  obtain ⟨p, hp, rfl⟩ := List.mem_map.1 h
  have h1 := withC_size p
  have h2 := para_size hT p hp
  omega
theorem linesT_len {t : Tab} (hT : TabP t) {w : List UInt8} (h : w ∈ linesT t) : w.length ≤ 2001 := by
  obtain ⟨p, hp, rfl⟩ := List.mem_map.1 h
  have h1 := lines_len (withC p)
  have h2 := paraC_size hT (List.mem_map.2 ⟨p, hp, rfl⟩)
  omega
set_option maxHeartbeats 2000000 in
set_option maxRecDepth 100000 in
theorem text_ac (D : Nat) (L : Hl) (s : World) (hG : GP s) (t : Tab) (A : Option Addr) (n c : Nat) (hA : Inss s A n c t.ins) : AC Tryz.prog D 9 [.agg #[.int .i64 t.cells, .slice A n c]] L s fun v L' _ => v = .tuple #[St (textR t), .agg #[.int .i64 (tabFault t).1, .int .i64 (tabFault t).2]] ∧ L = L' := by
 have hF := tab_zero t
 refine AC_enter (TT := TT) (fn := Tryz.f9) TT_ok Tryz.func9 (by kernel_rfl) rfl Tryz.ntmps9 rfl (rs := [.tmp 2, .cell 3 26]) rfl [(0, _)] rfl ?_
 refine JC_seq ?_
 refine JC_region ?_
 refine JO_boxA rfl rfl ?_
 intro β1 s1 h1
 refine JO_q (QE_as rfl) rfl ?_
 refine JO_allocZ rfl [_, _] rfl rfl ?_
 intro β2 s2 h2
 refine JO_nil ?_
 refine thenQ_n ?_
 refine JC_seq ?_
 refine JC_seq ?_
 refine JC_region ?_
 refine JO_q (QE_ldA 1 [_, _] rfl rfl rfl rfl rfl) rfl ?_
 refine JO_call (first := []) (captured := []) rfl rfl rfl (validate_ac D _ _ _ _ _ _ (hA.le (Le.trans h1 h2))) ?_
 rintro _ _ s3 h3 ⟨rfl, rfl⟩
 refine JO_allocZ rfl [_, _] rfl rfl ?_
 intro β4 s4 h4
 refine JO_st 0 [_, _] rfl rfl rfl rfl rfl rfl rfl rfl rfl ?_
 refine JO_nil ?_
 refine thenQ_n ?_
 refine JC_seq ?_
 refine JC_region ?_
 refine JO_q (QE_ldA 0 [_, _] rfl rfl rfl rfl rfl) rfl ?_
 refine JO_q (QE_build [] [_, _] rfl rfl rfl rfl rfl rfl) rfl ?_
 refine JO_q (QE_ane rfl rfl (eqFault _ _ _ _)) rfl ?_
 refine JO_nil ?_
 refine thenQ_n ?_
 refine JC_ifN rfl (fun c5 => ?_) (fun c5 => ?_)
 ·
  have hbad : (tabFault t).1 ≠ 0 := fun h => c5 ⟨h, hF h⟩
  refine JC_seq ?_
  refine JC_drawE drawsMixed 3 rfl [1] (by intro x hx; exact eraseAll_mem hx) ?_
  intro s6 h6
  refine JA_q 0 rfl (by kernel_rfl) (by kernel_rfl) (by kernel_rfl) trivial (QE_ldA 0 [_, _] rfl rfl rfl rfl rfl) rfl ?_
  refine JA_q 1 rfl (by kernel_rfl) (by kernel_rfl) (by kernel_rfl) trivial (QE_as rfl) rfl ?_
  refine JA_1 2 (by kernel_rfl) ?_
  refine JB_st rfl trivial 1 [_, _] rfl rfl rfl rfl rfl rfl rfl rfl rfl (fun _ hx => sub_mem (sbY (sbY (sbE _))) hx) ?_
  refine JA_done (by kernel_rfl) ?_
  refine thenQ_n ?_
  refine JC_ret ?_
  refine thenQ_r ?_
  refine retQ_mk [_, _, _] L (.inr rfl) (.tmp rfl (.agg (us := [_, _]) 1 rfl rfl rfl rfl rfl (.nil))) rfl (Le.trans (Le.trans (Le.trans (Le.trans h1 h2) h3) h4) h6) (fun sR hS2 => ?_)
  refine ⟨?_, rfl⟩
  first
    | (rw [show textR t = [] by rw [textR, if_pos hbad]]; rfl)
    | (rw [show textR t = joinN (linesT t) by rw [textR, if_neg (by rw [h0]; decide)]; rfl, h0, h0b]; rfl)
 ·
  have h0 : (tabFault t).1 = 0 := c5.1
  have h0b := hF h0
  have hT := tabP (Inss.tabU hA) h0
  have hpl : (parasT t).length ≤ 65 := by rw [parasT, List.length_cons, List.length_map]; have := hT.len; omega
  refine JC_skip ?_
  refine thenQ_n ?_
  refine JC_seq ?_
  refine JC_region ?_
  refine JO_q (QE_as rfl) rfl ?_
  refine JO_nil ?_
  refine thenQ_n ?_
  refine JC_seq ?_
  refine JC_seq ?_
  refine JC_region ?_
  refine JO_q (QE_ldA 2 [_, _] rfl rfl rfl rfl rfl) rfl ?_
  refine JO_call (first := []) (captured := []) rfl rfl rfl (parasS_ac D _ _ (hG.le (Le.trans (Le.trans (Le.trans h1 h2) h3) h4)) t _ _ _ (hA.le (Le.trans (Le.trans (Le.trans h1 h2) h3) h4)) hT) ?_
  rintro _ _ s7 h7 ⟨rfl, A2, n2, c2, rfl, hP⟩
  have hn2 := hP.1
  rw [List.length_map] at hn2
  refine JO_q (QE_lenS rfl rfl rfl) rfl ?_
  refine JO_q (QE_mv rfl) rfl ?_
  refine JO_nil ?_
  refine thenQ_n ?_
  refine JC_block ?_
  refine JC_loop (γ := Nat × Value × Hl) (fun g => [(2, _), (3, _), (5, g.2.1), (15, _), (16, _), (17, .int .i64 (g.1 : Int))]) (fun g => (β4, cb [.int .i64 (tabFault t).1, .int .i64 (tabFault t).2] 26) :: (β2, cb [.int .i64 0, .int .i64 0] 26) :: (β1, cb [.int .i64 t.cells, .slice A n c] 24) :: (g.2.2 ++ L)) (fun g tw => Le D s7 tw ∧ (g.1 ≤ n2 ∧ FL.Own 9 1 g.2.2 g.2.1 g.1 (sb ((linesT t).take g.1)))) (fun g => n2 - g.1) (fun _ _ _ h hl => ⟨h.1.trans hl, h.2⟩) (0, .slice none 0 0, []) (Keeps.cons rfl (Keeps.cons rfl (Keeps.cons rfl (Keeps.cons rfl (Keeps.cons rfl (Keeps.cons rfl (Keeps.nil _))))))) rfl ⟨Le.refl _, ⟨Nat.zero_le _, Own.nil⟩⟩ ?_
  intro g s8 I8
  obtain ⟨k, vo, Mo⟩ := g
  obtain ⟨hk0, hO⟩ := I8.2
  simp only at hk0 hO
  dsimp only
  refine JC_seq ?_
  refine JC_region ?_
  refine JO_q (QE_lt rfl rfl) rfl ?_
  refine JO_nil ?_
  refine thenQ_n ?_
  refine JC_seq ?_
  refine JC_ifD rfl (fun c9 => ?_) (fun c9 => ?_)
  ·
   have hk : k < n2 := by omega
   obtain ⟨b, off, ws, A', n', c', rfl, hwk, hcw, hws⟩ := Slss.at_ (hP.le I8.1) hk
   have hwz := paraC_size hT (List.mem_of_getElem? hwk)
   refine JC_skip ?_
   refine thenQ_n ?_
   refine JC_seq ?_
   refine JC_block ?_
   refine JC_seq ?_
   refine JC_region ?_
   refine JO_q (QE_ia1 rfl rfl rfl rfl rfl rfl hk) rfl ?_
   refine JO_q (QE_ldsR0 rfl rfl rfl (hcw.le (Le.refl (D := D) _)) rfl) rfl ?_
   refine JO_q (QE_as rfl) rfl ?_
   refine JO_nil ?_
   refine thenQ_n ?_
   refine JC_region ?_
   refine JO_q (QE_mv rfl) rfl ?_
   refine JO_q (QE_mv rfl) rfl ?_
   refine JO_call (first := []) (captured := []) rfl rfl rfl (lines_ac D _ _ _ _ _ ws (hws.le (Le.refl (D := D) _)) (by omega)) ?_
   rintro _ _ s10 h10 ⟨rfl, rfl⟩
   refine JO_bs [(_, _)] [_] rfl rfl rfl rfl rfl rfl rfl rfl rfl ?_
   intro βn s11 h11 hcb
   refine JO_app (sz := 1) [_, _, _] Mo L rfl rfl rfl rfl rfl rfl rfl hO (Row.of_cells (hcb.le (Le.refl (D := D) _)) rfl rfl) ⟨by simp [ti9]; omega, by omega⟩ rfl ?_
   intro vq Mq s12 h12 oq
   obtain ⟨Avq, cvq, rfl, _, _⟩ := Own.slice oq
   refine JO_q (QE_as rfl) rfl ?_
   refine JO_nil ?_
   refine blockQ_n ?_
   refine thenQ_n ?_
   refine JC_region ?_
   refine JO_q (QE_add' rfl rfl (w64 (by omega) (by omega))) rfl ?_
   refine JO_q (QE_mv rfl) rfl ?_
   refine JO_nil ?_
   refine thenQ_n ⟨(k + 1, .slice Avq (k + 1) cvq, Mq), [], (Keeps.cons rfl (Keeps.cons rfl (Keeps.cons rfl (Keeps.cons rfl (Keeps.cons rfl (Keeps.cons rfl (Keeps.nil _))))))), rfl, ⟨(Le.trans (Le.trans (Le.trans I8.1 h10) h11) h12), ⟨by simp only; omega, by simp only; rw [lines_take hwk]; exact oq⟩⟩, (by simp only; omega)⟩
  ·
   have hkE : n2 = k := by omega
   subst hkE
   have hfull : (linesT t).take n2 = linesT t := List.take_of_length_le (by rw [linesT, List.length_map]; omega)
   rw [hfull] at hO
   obtain ⟨Ao, co, rfl, _, _⟩ := Own.slice hO
   refine JC_exit ?_
   refine thenQ_x ?_
   refine thenQ_x ?_
   refine blockQ_x ?_
   refine thenQ_n ?_
   refine JC_seq ?_
   refine JC_pubX [_, _, _] Mo _ ?_
   intro s13 h13 hpub13
   simp only [List.cons_append, List.nil_append]
   have hSt := Own.strs hO (fun w hw => by have := linesT_len hT hw; omega) hpub13 (by rw [linesT, List.length_map]; omega)
   refine JC_region ?_
   refine JO_q (QE_mv rfl) rfl ?_
   refine JO_call (first := []) (captured := []) rfl rfl rfl (join1_ac D _ _ _ _ _ (linesT t) (hSt.le (Le.refl (D := D) _)) 10 (by rw [joinN_lib]; have := page_len hT; exact Nat.le_trans this (by decide)) (by rw [linesT, List.length_map]; omega)) ?_
   rintro _ _ s14 h14 ⟨rfl, rfl⟩
   rw [joinN_lib]
   refine JO_q (QE_build [] [_, _] rfl rfl rfl rfl rfl rfl) rfl ?_
   refine JO_q (QE_as rfl) rfl ?_
   refine JO_st 1 [_, _] rfl rfl rfl rfl rfl rfl rfl rfl rfl ?_
   refine JO_nil ?_
   refine thenQ_n ?_
   refine JC_ret ?_
   refine retQ_mk [_, _, _] L (.inr rfl) (.tmp rfl (.agg (us := [_, _]) 1 rfl rfl rfl rfl rfl (.nil))) rfl (Le.trans (Le.trans (Le.trans (Le.trans (Le.trans (Le.trans (Le.trans h1 h2) h3) h4) h7) I8.1) h13) h14) (fun sR hS2 => ?_)
   refine ⟨?_, rfl⟩
   first
     | (rw [show textR t = [] by rw [textR, if_pos hbad]]; rfl)
     | (rw [show textR t = joinN (linesT t) by rw [textR, if_neg (by rw [h0]; decide)]; rfl, h0, h0b]; rfl)
end Go.Proofs.YtoeeblegplghmaaGreatDoor
namespace Go.Proofs.YtoeeblegplghmaaGreatDoor
open Go.FL
attribute [local irreducible] JC JO JA JB thenQ blockQ retQ AC fill CellsAt QE Ev Mid
theorem reg_fnd0 : ∀ n, n < 256 → fndI (fnd (UInt8.ofNat n) [65, 66, 67, 68, 80]) = regN [UInt8.ofNat n] := by decide +kernel
theorem reg_fnd (c : UInt8) : fndI (fnd c [65, 66, 67, 68, 80]) = regN [c] := by
  have := reg_fnd0 c.toNat c.toNat_lt
  rwa [UInt8.ofNat_toNat] at this
theorem regN_long {w : List UInt8} (h : w.length ≠ 1) : regN w = -1 := by
  unfold regN
  rw [if_neg (fun e => h (by rw [e]; rfl)), if_neg (fun e => h (by rw [e]; rfl)), if_neg (fun e => h (by rw [e]; rfl)), if_neg (fun e => h (by rw [e]; rfl)), if_neg (fun e => h (by rw [e]; rfl))]
theorem regN_le (w : List UInt8) : -1 ≤ regN w ∧ regN w ≤ 4 := by
  unfold regN
  repeat' split
  all_goals (constructor <;> decide)
theorem trm_N : trmO [78] = some ⟨2, 0⟩ := rfl
theorem trm_reg {w : List UInt8} (h1 : ¬ w = [78]) (h2 : 0 ≤ regN w) : trmO w = some ⟨1, regN w⟩ := by rw [trmO, if_neg h1, if_pos h2]
theorem trm_num {w : List UInt8} (h1 : ¬ w = [78]) (h2 : ¬ 0 ≤ regN w) : trmO w = (numL w).map fun (n : Nat) => ⟨0, (n : Int)⟩ := by rw [trmO, if_neg h1, if_neg h2]
set_option maxHeartbeats 1000000 in
set_option maxRecDepth 100000 in
theorem register_ac (D : Nat) (L : Hl) (s : World) (w : List UInt8) : AC Tryz.prog D 92 [St w] L s fun v L' _ => v = .int .i64 (regN w) ∧ L = L' := by
 refine AC_enter (TT := TT) (fn := Tryz.f92) TT_ok Tryz.func92 (by kernel_rfl) rfl Tryz.ntmps92 rfl (rs := [.tmp 2]) rfl [(0, _)] rfl ?_
 refine JC_seq ?_
 refine JC_region ?_
 refine JO_q (QE_as rfl) rfl ?_
 refine JO_nil ?_
 refine thenQ_n ?_
 refine JC_seq ?_
 refine JC_seq ?_
 refine JC_region ?_
 refine JO_q (QE_mv rfl) rfl ?_
 refine JO_q (QE_lenT rfl rfl rfl) rfl ?_
 refine JO_q (QE_ne rfl rfl) rfl ?_
 refine JO_nil ?_
 refine thenQ_n ?_
 refine JC_ifN rfl (fun c1 => ?_) (fun c1 => ?_)
 ·
  have hw : w.length ≠ 1 := fun h => c1 (by rw [h]; rfl)
  refine JC_seq ?_
  refine JC_region ?_
  refine JO_q (QE_as rfl) rfl ?_
  refine JO_nil ?_
  refine thenQ_n ?_
  refine JC_ret ?_
  refine thenQ_r ?_
  refine retQ_mk [] L (.inr rfl) (.tmp rfl (.nil)) rfl (Le.refl (D := D) _) (fun sR hS2 => ?_)
  refine ⟨?_, rfl⟩
  first
    | (rw [regN_long hw]; rfl)
    | (rw [← reg_fnd]; rfl)
 ·
  have hw : w.length = 1 := by have := c1; omega
  obtain ⟨ch, rfl⟩ := List.length_eq_one_iff.1 hw
  refine JC_skip ?_
  refine thenQ_n ?_
  refine JC_seq ?_
  refine JC_region ?_
  refine JO_q (QE_mv rfl) rfl ?_
  refine JO_call (first := []) (captured := []) rfl rfl rfl (sindex_ac D _ _ [65, 66, 67, 68, 80] ch) ?_
  rintro _ _ s2 h2 ⟨rfl, rfl⟩
  refine JO_q (QE_as rfl) rfl ?_
  refine JO_nil ?_
  refine thenQ_n ?_
  refine JC_ret ?_
  refine retQ_mk [] L (.inr rfl) (.tmp rfl (.nil)) rfl h2 (fun sR hS2 => ?_)
  refine ⟨?_, rfl⟩
  first
    | (rw [regN_long hw]; rfl)
    | (rw [← reg_fnd]; rfl)
set_option maxHeartbeats 1000000 in
set_option maxRecDepth 100000 in
theorem readTerm_ac (D : Nat) (L : Hl) (s : World) (hG : GP s) (w : List UInt8) (hl : w.length ≤ 4000000) : AC Tryz.prog D 93 [St w] L s fun v L' _ => L = L' ∧ ∃ x : Tm, v = .tuple #[.agg #[.int .i64 x.kind, .int .u32 x.val], .bool (trmO w).isSome] ∧ U32 x.val ∧ ∀ y, trmO w = some y → x = y := by
 have hrl := regN_le w
 refine AC_enter (TT := TT) (fn := Tryz.f93) TT_ok Tryz.func93 (by kernel_rfl) rfl Tryz.ntmps93 rfl (rs := [.cell 2 66, .tmp 3]) rfl [(0, _)] rfl ?_
 refine JC_seq ?_
 refine JC_region ?_
 refine JO_allocZ rfl [_, _] rfl rfl ?_
 intro β1 s1 h1
 refine JO_q (QE_as rfl) rfl ?_
 refine JO_nil ?_
 refine thenQ_n ?_
 refine JC_seq ?_
 refine JC_seq ?_
 refine JC_region ?_
 refine JO_q (QE_mv rfl) rfl ?_
 refine JO_q (QE_seq rfl rfl) rfl ?_
 refine JO_nil ?_
 refine thenQ_n ?_
 refine JC_ifD rfl (fun c2 => ?_) (fun c2 => ?_)
 ·
  have h78 : w = [78] := c2
  subst h78
  refine JC_seq ?_
  refine JC_region ?_
  refine JO_q (QE_build [(_, _)] [_, _] rfl rfl rfl rfl rfl rfl) rfl ?_
  refine JO_st 0 [_, _] rfl rfl rfl rfl rfl rfl rfl rfl rfl ?_
  refine JO_q (QE_as rfl) rfl ?_
  refine JO_nil ?_
  refine thenQ_n ?_
  refine JC_ret ?_
  refine thenQ_r ?_
  refine retQ_mk [_] L (.inr rfl) (.agg (us := [_, _]) 0 rfl rfl rfl rfl rfl (.tmp rfl (.nil))) rfl h1 (fun sR hS2 => ?_)
  refine ⟨rfl, ?_⟩
  first
    | exact ⟨⟨2, 0⟩, rfl, ⟨by decide, by decide⟩, fun y hy => by rw [trm_N] at hy; injection hy⟩
    | exact ⟨⟨1, regN w⟩, by rw [trm_reg h78 hr]; rfl, ⟨hr, by simp only; omega⟩, fun y hy => by rw [trm_reg h78 hr] at hy; injection hy⟩
    | exact ⟨⟨0, kn⟩, by rw [trm_num h78 hr, Option.isSome_map]; rfl, hku, fun y hy => by
        rw [trm_num h78 hr] at hy
        obtain ⟨u, hu, rfl⟩ := Option.map_eq_some_iff.1 hy
        rw [hkv u hu]⟩
 ·
  have h78 : ¬ w = [78] := c2
  refine JC_skip ?_
  refine thenQ_n ?_
  refine JC_seq ?_
  refine JC_seq ?_
  refine JC_region ?_
  refine JO_q (QE_mv rfl) rfl ?_
  refine JO_call (first := []) (captured := []) rfl rfl rfl (register_ac D _ _ w) ?_
  rintro _ _ s3 h3 ⟨rfl, rfl⟩
  refine JO_q (QE_as rfl) rfl ?_
  refine JO_nil ?_
  refine thenQ_n ?_
  refine JC_seq ?_
  refine JC_region ?_
  refine JO_q (QE_mv rfl) rfl ?_
  refine JO_q (QE_ge rfl rfl) rfl ?_
  refine JO_nil ?_
  refine thenQ_n ?_
  refine JC_ifD rfl (fun c4 => ?_) (fun c4 => ?_)
  ·
   have hr : 0 ≤ regN w := c4
   refine JC_seq ?_
   refine JC_region ?_
   refine JO_q (QE_mv rfl) rfl ?_
   refine JO_q (QE_conv' rfl rfl rfl rfl rfl (show IntKind.u32.wrap (regN w) = regN w by rw [IntKind.wrap_u32]; omega)) rfl ?_
   refine JO_q (QE_build [(_, _), (_, _)] [_, _] rfl rfl rfl rfl rfl rfl) rfl ?_
   refine JO_st 0 [_, _] rfl rfl rfl rfl rfl rfl rfl rfl rfl ?_
   refine JO_q (QE_as rfl) rfl ?_
   refine JO_nil ?_
   refine thenQ_n ?_
   refine JC_ret ?_
   refine thenQ_r ?_
   refine retQ_mk [_] L (.inr rfl) (.agg (us := [_, _]) 0 rfl rfl rfl rfl rfl (.tmp rfl (.nil))) rfl (Le.trans h1 h3) (fun sR hS2 => ?_)
   refine ⟨rfl, ?_⟩
   first
     | exact ⟨⟨2, 0⟩, rfl, ⟨by decide, by decide⟩, fun y hy => by rw [trm_N] at hy; injection hy⟩
     | exact ⟨⟨1, regN w⟩, by rw [trm_reg h78 hr]; rfl, ⟨hr, by simp only; omega⟩, fun y hy => by rw [trm_reg h78 hr] at hy; injection hy⟩
     | exact ⟨⟨0, kn⟩, by rw [trm_num h78 hr, Option.isSome_map]; rfl, hku, fun y hy => by
         rw [trm_num h78 hr] at hy
         obtain ⟨u, hu, rfl⟩ := Option.map_eq_some_iff.1 hy
         rw [hkv u hu]⟩
  ·
   have hr : ¬ 0 ≤ regN w := c4
   refine JC_skip ?_
   refine thenQ_n ?_
   refine JC_seq ?_
   refine JC_region ?_
   refine JO_q (QE_mv rfl) rfl ?_
   refine JO_call (first := []) (captured := []) rfl rfl rfl (readNum_ac D _ _ (hG.gw.le (Le.trans h1 h3)) w (by omega)) ?_
   rintro _ _ s5 h5 ⟨rfl, kn, rfl, hku, hkv⟩
   refine JO_q (QE_mv rfl) rfl ?_
   refine JO_q (QE_ext rfl rfl) rfl ?_
   refine JO_q (QE_ext rfl rfl) rfl ?_
   refine JO_q (QE_as rfl) rfl ?_
   refine JO_q (QE_as rfl) rfl ?_
   refine JO_nil ?_
   refine thenQ_n ?_
   refine JC_seq ?_
   refine JC_region ?_
   refine JO_q (QE_mv rfl) rfl ?_
   refine JO_q (QE_build [(_, _)] [_, _] rfl rfl rfl rfl rfl rfl) rfl ?_
   refine JO_q (QE_mv rfl) rfl ?_
   refine JO_st 0 [_, _] rfl rfl rfl rfl rfl rfl rfl rfl rfl ?_
   refine JO_q (QE_as rfl) rfl ?_
   refine JO_nil ?_
   refine thenQ_n ?_
   refine JC_ret ?_
   refine retQ_mk [_] L (.inr rfl) (.agg (us := [_, _]) 0 rfl rfl rfl rfl rfl (.tmp rfl (.nil))) rfl (Le.trans (Le.trans h1 h3) h5) (fun sR hS2 => ?_)
   refine ⟨rfl, ?_⟩
   first
     | exact ⟨⟨2, 0⟩, rfl, ⟨by decide, by decide⟩, fun y hy => by rw [trm_N] at hy; injection hy⟩
     | exact ⟨⟨1, regN w⟩, by rw [trm_reg h78 hr]; rfl, ⟨hr, by simp only; omega⟩, fun y hy => by rw [trm_reg h78 hr] at hy; injection hy⟩
     | exact ⟨⟨0, kn⟩, by rw [trm_num h78 hr, Option.isSome_map]; rfl, hku, fun y hy => by
         rw [trm_num h78 hr] at hy
         obtain ⟨u, hu, rfl⟩ := Option.map_eq_some_iff.1 hy
         rw [hkv u hu]⟩
set_option maxHeartbeats 1000000 in
set_option maxRecDepth 100000 in
theorem sidx_ac (D : Nat) (L : Hl) (s : World) (A : Option Addr) (n c : Nat) (l : List (List UInt8)) (hA : Strs s A n c l) (w : List UInt8) : AC Tryz.prog D 65 [.slice A n c, St w] L s fun v L' _ => v = .int .i64 (idxOf (fun x => decide (w = x)) l 0) ∧ L = L' := by
 have hn := hA.1
 have hc1 := hA.2.1
 have hc2 := hA.2.2.1
 refine AC_enter (TT := TT) (fn := Tryz.f65) TT_ok Tryz.func65 (by kernel_rfl) rfl Tryz.ntmps65 rfl (rs := [.tmp 4]) rfl [(0, _), (1, _)] rfl ?_
 refine JC_seq ?_
 refine JC_region ?_
 refine JO_q (QE_as rfl) rfl ?_
 refine JO_nil ?_
 refine thenQ_n ?_
 refine JC_seq ?_
 refine JC_seq ?_
 refine JC_region ?_
 refine JO_q (QE_mv rfl) rfl ?_
 refine JO_q (QE_lenS rfl rfl rfl) rfl ?_
 refine JO_q (QE_mv rfl) rfl ?_
 refine JO_nil ?_
 refine thenQ_n ?_
 refine JC_block ?_
 refine JC_loop (γ := Nat) (fun k => [(0, _), (1, _), (4, _), (7, _), (8, .int .i64 (k : Int))]) (fun _ => _) (fun k tw => Le D s tw ∧ (k ≤ n ∧ ∀ i x, i < k → l[i]? = some x → decide (w = x) = false)) (fun k => n - k) (fun _ _ _ h hl => ⟨h.1.trans hl, h.2⟩) 0 (Keeps.cons rfl (Keeps.cons rfl (Keeps.cons rfl (Keeps.cons rfl (Keeps.cons rfl (Keeps.nil _)))))) rfl ⟨Le.refl _, ⟨Nat.zero_le _, fun i x hi => by omega⟩⟩ ?_
 intro k s1 I1
 have hk0 := I1.2.1
 have hI := I1.2.2
 refine JC_seq ?_
 refine JC_region ?_
 refine JO_q (QE_lt rfl rfl) rfl ?_
 refine JO_nil ?_
 refine thenQ_n ?_
 refine JC_seq ?_
 refine JC_ifD rfl (fun c2 => ?_) (fun c2 => ?_)
 ·
  have hk : k < n := by omega
  obtain ⟨b, off, x, rfl, hx, hcx, _⟩ := Strs.at_ (hA.le I1.1) hk
  refine JC_skip ?_
  refine thenQ_n ?_
  refine JC_seq ?_
  refine JC_block ?_
  refine JC_seq ?_
  refine JC_region ?_
  refine JO_q (QE_mv rfl) rfl ?_
  refine JO_q (QE_as rfl) rfl ?_
  refine JO_nil ?_
  refine thenQ_n ?_
  refine JC_seq ?_
  refine JC_region ?_
  refine JO_q (QE_mv rfl) rfl ?_
  refine JO_q (QE_mv rfl) rfl ?_
  refine JO_q (QE_mv rfl) rfl ?_
  refine JO_q (QE_ia1 rfl rfl rfl rfl rfl rfl hk) rfl ?_
  refine JO_q (QE_ldsR0 rfl rfl rfl hcx rfl) rfl ?_
  refine JO_q (QE_seq rfl rfl) rfl ?_
  refine JO_nil ?_
  refine thenQ_n ?_
  refine JC_ifD rfl (fun c3 => ?_) (fun c3 => ?_)
  ·
   have hz := decide_eq_true c3
   refine JC_seq ?_
   refine JC_region ?_
   refine JO_q (QE_mv rfl) rfl ?_
   refine JO_q (QE_as rfl) rfl ?_
   refine JO_nil ?_
   refine thenQ_n ?_
   refine JC_ret ?_
   refine blockQ_r ?_
   refine thenQ_r ?_
   refine thenQ_r ?_
   refine blockQ_r ?_
   refine thenQ_r ?_
   refine retQ_mk [] L (.inr rfl) (.tmp rfl (.nil)) rfl I1.1 (fun sR hS2 => ?_)
   refine ⟨?_, rfl⟩
   first
     | (simp only [resV]; rw [idxOf_hit hI hx hz, Nat.zero_add])
     | (simp only [resV]; rw [idxOf_none (fun i a hi h => hI i a (by omega) h)])
  ·
   have hz := decide_eq_false c3
   refine JC_skip ?_
   refine blockQ_n ?_
   refine thenQ_n ?_
   refine JC_region ?_
   refine JO_q (QE_add' rfl rfl (w64 (by omega) (by omega))) rfl ?_
   refine JO_q (QE_mv rfl) rfl ?_
   refine JO_nil ?_
   refine thenQ_n ⟨(k + 1), [], (Keeps.cons rfl (Keeps.cons rfl (Keeps.cons rfl (Keeps.cons rfl (Keeps.cons rfl (Keeps.nil _)))))), rfl, ⟨I1.1, ⟨by omega, below_succ hI hx hz⟩⟩, (by omega)⟩
 ·
  refine JC_exit ?_
  refine thenQ_x ?_
  refine thenQ_x ?_
  refine blockQ_x ?_
  refine thenQ_n ?_
  refine JC_seq ?_
  refine JC_region ?_
  refine JO_q (QE_as rfl) rfl ?_
  refine JO_nil ?_
  refine thenQ_n ?_
  refine JC_ret ?_
  refine retQ_mk [] L (.inr rfl) (.tmp rfl (.nil)) rfl I1.1 (fun sR hS2 => ?_)
  refine ⟨?_, rfl⟩
  first
    | (simp only [resV]; rw [idxOf_hit hI hx hz, Nat.zero_add])
    | (simp only [resV]; rw [idxOf_none (fun i a hi h => hI i a (by omega) h)])
set_option maxHeartbeats 1000000 in
set_option maxRecDepth 100000 in
theorem sidxF_ac (D : Nat) (L : Hl) (s : World) (A : Option Addr) (n c : Nat) (l : List (List UInt8)) (hA : Strs s A n c l) (f : FuncId) (cap : List Value) (p : List UInt8 → Bool) (hp : ∀ s' x, x ∈ l → AC Tryz.prog D f ([St x] ++ cap) L s' fun v L' _ => v = .bool (p x) ∧ L = L') : AC Tryz.prog D 69 [.slice A n c, .func (.func f) #[] cap.toArray] L s fun v L' _ => v = .int .i64 (idxOf p l 0) ∧ L = L' := by
 have hn := hA.1
 have hc1 := hA.2.1
 have hc2 := hA.2.2.1
 refine AC_enter (TT := TT) (fn := Tryz.f69) TT_ok Tryz.func69 (by kernel_rfl) rfl Tryz.ntmps69 rfl (rs := [.tmp 4]) rfl [(0, _), (1, _)] rfl ?_
 refine JC_seq ?_
 refine JC_region ?_
 refine JO_q (QE_as rfl) rfl ?_
 refine JO_nil ?_
 refine thenQ_n ?_
 refine JC_seq ?_
 refine JC_seq ?_
 refine JC_region ?_
 refine JO_q (QE_mv rfl) rfl ?_
 refine JO_q (QE_lenS rfl rfl rfl) rfl ?_
 refine JO_q (QE_mv rfl) rfl ?_
 refine JO_nil ?_
 refine thenQ_n ?_
 refine JC_block ?_
 refine JC_loop (γ := Nat) (fun k => [(0, _), (1, _), (4, _), (7, _), (8, .int .i64 (k : Int))]) (fun _ => _) (fun k tw => Le D s tw ∧ (k ≤ n ∧ ∀ i x, i < k → l[i]? = some x → p x = false)) (fun k => n - k) (fun _ _ _ h hl => ⟨h.1.trans hl, h.2⟩) 0 (Keeps.cons rfl (Keeps.cons rfl (Keeps.cons rfl (Keeps.cons rfl (Keeps.cons rfl (Keeps.nil _)))))) rfl ⟨Le.refl _, ⟨Nat.zero_le _, fun i x hi => by omega⟩⟩ ?_
 intro k s1 I1
 have hk0 := I1.2.1
 have hI := I1.2.2
 refine JC_seq ?_
 refine JC_region ?_
 refine JO_q (QE_lt rfl rfl) rfl ?_
 refine JO_nil ?_
 refine thenQ_n ?_
 refine JC_seq ?_
 refine JC_ifD rfl (fun c2 => ?_) (fun c2 => ?_)
 ·
  have hk : k < n := by omega
  obtain ⟨b, off, x, rfl, hx, hcx, _⟩ := Strs.at_ (hA.le I1.1) hk
  refine JC_skip ?_
  refine thenQ_n ?_
  refine JC_seq ?_
  refine JC_block ?_
  refine JC_seq ?_
  refine JC_region ?_
  refine JO_q (QE_mv rfl) rfl ?_
  refine JO_q (QE_as rfl) rfl ?_
  refine JO_nil ?_
  refine thenQ_n ?_
  refine JC_seq ?_
  refine JC_region ?_
  refine JO_q (QE_mv rfl) rfl ?_
  refine JO_q (QE_mv rfl) rfl ?_
  refine JO_q (QE_mv rfl) rfl ?_
  refine JO_q (QE_ia1 rfl rfl rfl rfl rfl rfl hk) rfl ?_
  refine JO_q (QE_ldsR0 rfl rfl rfl hcx rfl) rfl ?_
  refine JO_call (first := []) (captured := cap) rfl rfl rfl (hp _ x (List.mem_of_getElem? hx)) ?_
  rintro _ _ s3 h3 ⟨rfl, rfl⟩
  refine JO_nil ?_
  refine thenQ_n ?_
  refine JC_if rfl (fun c4 => ?_) (fun c4 => ?_)
  ·
   have hz := c4
   refine JC_seq ?_
   refine JC_region ?_
   refine JO_q (QE_mv rfl) rfl ?_
   refine JO_q (QE_as rfl) rfl ?_
   refine JO_nil ?_
   refine thenQ_n ?_
   refine JC_ret ?_
   refine blockQ_r ?_
   refine thenQ_r ?_
   refine thenQ_r ?_
   refine blockQ_r ?_
   refine thenQ_r ?_
   refine retQ_mk [] L (.inr rfl) (.tmp rfl (.nil)) rfl (Le.trans I1.1 h3) (fun sR hS2 => ?_)
   refine ⟨?_, rfl⟩
   first
     | (simp only [resV]; rw [idxOf_hit hI hx hz, Nat.zero_add])
     | (simp only [resV]; rw [idxOf_none (fun i a hi h => hI i a (by omega) h)])
  ·
   have hz := c4
   refine JC_skip ?_
   refine blockQ_n ?_
   refine thenQ_n ?_
   refine JC_region ?_
   refine JO_q (QE_add' rfl rfl (w64 (by omega) (by omega))) rfl ?_
   refine JO_q (QE_mv rfl) rfl ?_
   refine JO_nil ?_
   refine thenQ_n ⟨(k + 1), [], (Keeps.cons rfl (Keeps.cons rfl (Keeps.cons rfl (Keeps.cons rfl (Keeps.cons rfl (Keeps.nil _)))))), rfl, ⟨(Le.trans I1.1 h3), ⟨by omega, below_succ hI hx hz⟩⟩, (by omega)⟩
 ·
  refine JC_exit ?_
  refine thenQ_x ?_
  refine thenQ_x ?_
  refine blockQ_x ?_
  refine thenQ_n ?_
  refine JC_seq ?_
  refine JC_region ?_
  refine JO_q (QE_as rfl) rfl ?_
  refine JO_nil ?_
  refine thenQ_n ?_
  refine JC_ret ?_
  refine retQ_mk [] L (.inr rfl) (.tmp rfl (.nil)) rfl I1.1 (fun sR hS2 => ?_)
  refine ⟨?_, rfl⟩
  first
    | (simp only [resV]; rw [idxOf_hit hI hx hz, Nat.zero_add])
    | (simp only [resV]; rw [idxOf_none (fun i a hi h => hI i a (by omega) h)])
set_option maxHeartbeats 1000000 in
set_option maxRecDepth 100000 in
theorem dot_ac (D : Nat) (L : Hl) (s : World) (w : List UInt8) (hl : w.length ≤ 9223372036854775807) : AC Tryz.prog D 70 [St w] L s fun v L' _ => v = .bool (dotB w) ∧ L = L' := by
 refine AC_enter (TT := TT) (fn := Tryz.f70) TT_ok Tryz.func70 (by kernel_rfl) rfl Tryz.ntmps70 rfl (rs := [.tmp 2]) rfl [(0, _)] rfl ?_
 refine JC_seq ?_
 refine JC_region ?_
 refine JO_q (QE_as rfl) rfl ?_
 refine JO_nil ?_
 refine thenQ_n ?_
 refine JC_seq ?_
 refine JC_region ?_
 refine JO_q (QE_mv rfl) rfl ?_
 refine JO_call (first := []) (captured := []) rfl rfl rfl (hasSuffix_ac D _ _ w 46 hl) ?_
 rintro _ _ s1 h1 ⟨rfl, rfl⟩
 refine JO_q (QE_as rfl) rfl ?_
 refine JO_nil ?_
 refine thenQ_n ?_
 refine JC_ret ?_
 refine retQ_mk [] L (.inr rfl) (.tmp rfl (.nil)) rfl h1 (fun sR hS2 => ?_)
 exact ⟨rfl, rfl⟩
def pw (p : List (List UInt8) × Option (List UInt8)) : List (List UInt8) := match p.2 with
  | none => p.1
  | some l => p.1 ++ [checkB, l]
theorem Strs.take {s : World} {A : Option Addr} {n c : Nat} {l : List (List UInt8)} (h : Strs s A n c l) {k : Nat} (hk : k ≤ n) : Strs s A k c (l.take k) :=
  ⟨by have := h.1; rw [List.length_take]; omega, by have := h.2.1; omega, h.2.2.1, fun i x hi => h.2.2.2 i x (by
    rw [List.getElem?_take] at hi
    split at hi
    · exact hi
    · cases hi)⟩
theorem Strs.drop {s : World} {A : Option Addr} {n c : Nat} {l : List (List UInt8)} (h : Strs s A n c l) {k : Nat} (hk : k ≤ n) : ∃ A1 c1, (Value.slice (if c = k then A else A.map (·.add (k * 1))) (n - k) (c - k)) = Value.slice A1 (n - k) c1 ∧ Strs s A1 (n - k) c1 (l.drop k) := by
  obtain ⟨h1, h2, h3, h4⟩ := h
  refine ⟨_, _, rfl, by rw [List.length_drop]; omega, by omega, by omega, fun i x hi => ?_⟩
  rw [List.getElem?_drop] at hi
  obtain ⟨b, off, cs, hA, hc, hl, hr⟩ := h4 (k + i) x hi
  have hlt := (List.getElem?_eq_some_iff.1 hi).1
  refine ⟨b, off + k, cs, ?_, ?_, hl, hr⟩
  · rw [if_neg (by omega), hA]
    simp [add_lit]
  · rw [show off + k + i * 1 = off + (k + i) * 1 by omega]; exact hc
theorem cut_dot (l : List UInt8) (h : dotB l = true) : (if endsB 46 l = true then l.dropLast else l) = l.dropLast := if_pos h
theorem code_none {p : List (List UInt8) × Option (List UInt8)} (h : p.2.isSome = false) : codeP p = 1 := by
  obtain ⟨ws, o⟩ := p
  cases o with
  | none => rfl
  | some l => cases h
theorem code_syn {ws : List (List UInt8)} {l : List UInt8} (h : dotB l = false ∨ numL l.dropLast = none ∨ okT (joinW ws) = false) : codeP (ws, some l) = 1 := if_pos h
theorem code_cor {ws : List (List UInt8)} {l : List UInt8} (h : ¬ (dotB l = false ∨ numL l.dropLast = none ∨ okT (joinW ws) = false)) (h2 : numL l.dropLast ≠ some (chkS (joinW ws)).toNat) : codeP (ws, some l) = 16 := (if_neg h).trans (if_pos h2)
theorem code_fine {ws : List (List UInt8)} {l : List UInt8} (h : ¬ (dotB l = false ∨ numL l.dropLast = none ∨ okT (joinW ws) = false)) (h2 : ¬ numL l.dropLast ≠ some (chkS (joinW ws)).toNat) : codeP (ws, some l) = 0 := (if_neg h).trans (if_neg h2)
set_option maxHeartbeats 2000000 in
set_option maxRecDepth 100000 in
theorem check_ac (D : Nat) (L : Hl) (s : World) (hG : GP s) (p : List (List UInt8) × Option (List UInt8)) (A : Option Addr) (n c : Nat) (hS : Strs s A n c (pw p)) (hz : sizeW (pw p) ≤ 1000000) : AC Tryz.prog D 36 [.slice A n c, .bool p.2.isSome] L s fun v L' _ => v = .int .i64 (codeP p) ∧ L = L' := by
 have hn := hS.1
 have hc1 := hS.2.1
 refine AC_enter (TT := TT) (fn := Tryz.f36) TT_ok Tryz.func36 (by kernel_rfl) rfl Tryz.ntmps36 rfl (rs := [.tmp 4]) rfl [(0, _), (1, _)] rfl ?_
 refine JC_seq ?_
 refine JC_region ?_
 refine JO_q (QE_as rfl) rfl ?_
 refine JO_nil ?_
 refine thenQ_n ?_
 refine JC_seq ?_
 refine JC_seq ?_
 refine JC_region ?_
 refine JO_q (QE_mv rfl) rfl ?_
 refine JO_q (QE_not rfl) rfl ?_
 refine JO_nil ?_
 refine thenQ_n ?_
 refine JC_ifM rfl (fun c1 => ?_) (fun c1 => ?_)
 ·
  have hp := c1
  refine JC_seq ?_
  refine JC_region ?_
  refine JO_q (QE_as rfl) rfl ?_
  refine JO_nil ?_
  refine thenQ_n ?_
  refine JC_ret ?_
  refine thenQ_r ?_
  refine retQ_mk [] L (.inr rfl) (.tmp rfl (.nil)) rfl (Le.refl (D := D) _) (fun sR hS2 => ?_)
  refine ⟨?_, rfl⟩
  first
    | (rw [code_none hp]; rfl)
    | (rw [code_syn (.inl (by assumption))]; rfl)
    | (have hd : dotB lx = true := by assumption
       have hnum : (numL lx.dropLast).isSome = false := by rw [← cut_dot lx hd]; assumption
       rw [code_syn (.inr (.inl (by simpa using hnum)))]; rfl)
    | (rw [code_syn (.inr (.inr (by assumption)))]; rfl)
    | (have hd : dotB lx = true := by assumption
       rw [cut_dot lx hd] at *
       have hnum : (numL lx.dropLast).isSome = true := by assumption
       have hok : okT (joinW ws) = true := by assumption
       obtain ⟨u, hu⟩ := Option.isSome_iff_exists.1 hnum
       have hk := hkv u hu
       rw [hok, if_pos rfl] at hne
       have hch := chk_lt (joinW ws)
       have hno : ¬ (dotB lx = false ∨ numL lx.dropLast = none ∨ okT (joinW ws) = false) := by rw [hd, hu, hok]; simp
       first
         | (rw [code_cor hno (by rw [hu]; intro e; injection e with e; exact hne (by omega))]; rfl)
         | (rw [code_fine hno (by rw [hu]; intro e; exact e (by congr 1; omega))]; rfl))
 ·
  obtain ⟨ws, o⟩ := p
  obtain ⟨l, hl⟩ := Option.isSome_iff_exists.1 c1
  simp only at hl
  subst hl
  have hpw : pw (ws, some l) = ws ++ [checkB, l] := rfl
  rw [hpw] at hS hn hz
  rw [sizeW_app] at hz
  simp only [sizeW_cons, sizeW_nil] at hz
  have hn2 : n = ws.length + 2 := by rw [hn]; simp
  obtain ⟨bl, offl, lx, hEl, hlx, hcl, _⟩ := Strs.at_ (hS.le (Le.refl (D := D) _)) (show ws.length + 1 < n by omega)
  subst hEl
  obtain rfl : lx = l := by rw [List.getElem?_append_right (by omega)] at hlx; simpa using hlx.symm
  have hSw := Strs.take hS (show ws.length ≤ n by omega)
  rw [List.take_left] at hSw
  have hwl := size_len ws
  have hwj := join_len ws
  have hdl : (if endsB 46 lx = true then lx.dropLast else lx).length ≤ lx.length := by split <;> simp
  refine JC_skip ?_
  refine thenQ_n ?_
  refine JC_seq ?_
  refine JC_region ?_
  refine JO_q (QE_mv rfl) rfl ?_
  refine JO_q (QE_lenS rfl rfl rfl) rfl ?_
  refine JO_q (QE_sub' (c := ((ws.length + 1 : Nat) : Int)) rfl rfl (by rw [w64 (by omega) (by omega)]; omega)) rfl ?_
  refine JO_q (QE_as rfl) rfl ?_
  refine JO_nil ?_
  refine thenQ_n ?_
  refine JC_seq ?_
  refine JC_region ?_
  refine JO_q (QE_mv rfl) rfl ?_
  refine JO_q (QE_mv rfl) rfl ?_
  refine JO_q (QE_ia1 rfl rfl rfl rfl rfl rfl (show ws.length + 1 < n by omega)) rfl ?_
  refine JO_q (QE_ldsR0 rfl rfl rfl (hcl.le (Le.refl (D := D) _)) rfl) rfl ?_
  refine JO_call (first := []) (captured := []) rfl rfl rfl (cutSuffix_ac D _ _ lx 46 (by omega)) ?_
  rintro _ _ s2 h2 ⟨rfl, rfl⟩
  refine JO_q (QE_mv rfl) rfl ?_
  refine JO_q (QE_ext rfl rfl) rfl ?_
  refine JO_q (QE_ext rfl rfl) rfl ?_
  refine JO_q (QE_as rfl) rfl ?_
  refine JO_q (QE_as rfl) rfl ?_
  refine JO_nil ?_
  refine thenQ_n ?_
  refine JC_seq ?_
  refine JC_region ?_
  refine JO_q (QE_mv rfl) rfl ?_
  refine JO_call (first := []) (captured := []) rfl rfl rfl (readNum_ac D _ _ (hG.gw.le h2) _ (by omega)) ?_
  rintro _ _ s3 h3 ⟨rfl, kn, rfl, hku, hkv⟩
  refine JO_q (QE_mv rfl) rfl ?_
  refine JO_q (QE_ext rfl rfl) rfl ?_
  refine JO_q (QE_ext rfl rfl) rfl ?_
  refine JO_q (QE_as rfl) rfl ?_
  refine JO_q (QE_as rfl) rfl ?_
  refine JO_nil ?_
  refine thenQ_n ?_
  refine JC_seq ?_
  refine JC_region ?_
  refine JO_q (QE_mv rfl) rfl ?_
  refine JO_q (QE_mv rfl) rfl ?_
  refine JO_q (QE_sub' (c := ((ws.length : Nat) : Int)) rfl rfl (by rw [w64 (by omega) (by omega)]; omega)) rfl ?_
  refine JO_q (QE_slH rfl rfl rfl rfl rfl (by omega)) rfl ?_
  refine JO_call (first := []) (captured := []) rfl rfl rfl (sum_ac D _ _ _ _ _ ws (hSw.le (Le.trans h2 h3)) (by omega) (by omega)) ?_
  rintro _ _ s4 h4 ⟨rfl, rfl⟩
  refine JO_q (QE_mv rfl) rfl ?_
  refine JO_q (QE_ext rfl rfl) rfl ?_
  refine JO_q (QE_ext rfl rfl) rfl ?_
  refine JO_q (QE_as rfl) rfl ?_
  refine JO_q (QE_as rfl) rfl ?_
  refine JO_nil ?_
  refine thenQ_n ?_
  refine JC_seq ?_
  refine JC_block ?_
  refine JC_seq ?_
  refine JC_region ?_
  refine JO_q (QE_mv rfl) rfl ?_
  refine JO_q (QE_not rfl) rfl ?_
  refine JO_q (QE_mv rfl) rfl ?_
  refine JO_caseM (t := 41) rfl (fun c5 => ?_) (fun c5 => ?_)
  ·
   refine JO_gF rfl rfl rfl rfl ?_
   refine JO_gF rfl rfl rfl rfl ?_
   refine JO_q (QE_pickT rfl rfl) rfl ?_
   refine JO_q (QE_mv rfl) rfl ?_
   refine JO_gF rfl rfl rfl rfl ?_
   refine JO_gF rfl rfl rfl rfl ?_
   refine JO_q (QE_pickT rfl rfl) rfl ?_
   refine JO_q (QE_as rfl) rfl ?_
   refine JO_nil ?_
   refine thenQ_n ?_
   refine JC_ifT rfl ?_
   refine JC_seq ?_
   refine JC_region ?_
   refine JO_q (QE_as rfl) rfl ?_
   refine JO_nil ?_
   refine thenQ_n ?_
   refine JC_ret ?_
   refine blockQ_r ?_
   refine thenQ_r ?_
   refine retQ_mk [] L (.inr rfl) (.tmp rfl (.nil)) rfl (Le.trans (Le.trans h2 h3) h4) (fun sR hS2 => ?_)
   refine ⟨?_, rfl⟩
   first
     | (rw [code_none hp]; rfl)
     | (rw [code_syn (.inl (by assumption))]; rfl)
     | (have hd : dotB lx = true := by assumption
        have hnum : (numL lx.dropLast).isSome = false := by rw [← cut_dot lx hd]; assumption
        rw [code_syn (.inr (.inl (by simpa using hnum)))]; rfl)
     | (rw [code_syn (.inr (.inr (by assumption)))]; rfl)
     | (have hd : dotB lx = true := by assumption
        rw [cut_dot lx hd] at *
        have hnum : (numL lx.dropLast).isSome = true := by assumption
        have hok : okT (joinW ws) = true := by assumption
        obtain ⟨u, hu⟩ := Option.isSome_iff_exists.1 hnum
        have hk := hkv u hu
        rw [hok, if_pos rfl] at hne
        have hch := chk_lt (joinW ws)
        have hno : ¬ (dotB lx = false ∨ numL lx.dropLast = none ∨ okT (joinW ws) = false) := by rw [hd, hu, hok]; simp
        first
          | (rw [code_cor hno (by rw [hu]; intro e; injection e with e; exact hne (by omega))]; rfl)
          | (rw [code_fine hno (by rw [hu]; intro e; exact e (by congr 1; omega))]; rfl))
  ·
   refine JO_gT rfl rfl ?_
   refine JO_q (QE_mv rfl) rfl ?_
   refine JO_gT rfl rfl ?_
   refine JO_q (QE_not rfl) rfl ?_
   refine JO_q (QE_pickF rfl rfl) rfl ?_
   refine JO_q (QE_mv rfl) rfl ?_
   refine JO_caseM (t := 45) rfl (fun c6 => ?_) (fun c6 => ?_)
   ·
    refine JO_gF rfl rfl rfl rfl ?_
    refine JO_gF rfl rfl rfl rfl ?_
    refine JO_q (QE_pickT rfl rfl) rfl ?_
    refine JO_q (QE_as rfl) rfl ?_
    refine JO_nil ?_
    refine thenQ_n ?_
    refine JC_ifT rfl ?_
    refine JC_seq ?_
    refine JC_region ?_
    refine JO_q (QE_as rfl) rfl ?_
    refine JO_nil ?_
    refine thenQ_n ?_
    refine JC_ret ?_
    refine blockQ_r ?_
    refine thenQ_r ?_
    refine retQ_mk [] L (.inr rfl) (.tmp rfl (.nil)) rfl (Le.trans (Le.trans h2 h3) h4) (fun sR hS2 => ?_)
    refine ⟨?_, rfl⟩
    first
      | (rw [code_none hp]; rfl)
      | (rw [code_syn (.inl (by assumption))]; rfl)
      | (have hd : dotB lx = true := by assumption
         have hnum : (numL lx.dropLast).isSome = false := by rw [← cut_dot lx hd]; assumption
         rw [code_syn (.inr (.inl (by simpa using hnum)))]; rfl)
      | (rw [code_syn (.inr (.inr (by assumption)))]; rfl)
      | (have hd : dotB lx = true := by assumption
         rw [cut_dot lx hd] at *
         have hnum : (numL lx.dropLast).isSome = true := by assumption
         have hok : okT (joinW ws) = true := by assumption
         obtain ⟨u, hu⟩ := Option.isSome_iff_exists.1 hnum
         have hk := hkv u hu
         rw [hok, if_pos rfl] at hne
         have hch := chk_lt (joinW ws)
         have hno : ¬ (dotB lx = false ∨ numL lx.dropLast = none ∨ okT (joinW ws) = false) := by rw [hd, hu, hok]; simp
         first
           | (rw [code_cor hno (by rw [hu]; intro e; injection e with e; exact hne (by omega))]; rfl)
           | (rw [code_fine hno (by rw [hu]; intro e; exact e (by congr 1; omega))]; rfl))
   ·
    refine JO_gT rfl rfl ?_
    refine JO_q (QE_mv rfl) rfl ?_
    refine JO_gT rfl rfl ?_
    refine JO_q (QE_not rfl) rfl ?_
    refine JO_q (QE_pickF rfl rfl) rfl ?_
    refine JO_q (QE_as rfl) rfl ?_
    refine JO_nil ?_
    refine thenQ_n ?_
    refine JC_ifM rfl (fun c7 => ?_) (fun c7 => ?_)
    ·
     refine JC_seq ?_
     refine JC_region ?_
     refine JO_q (QE_as rfl) rfl ?_
     refine JO_nil ?_
     refine thenQ_n ?_
     refine JC_ret ?_
     refine blockQ_r ?_
     refine thenQ_r ?_
     refine retQ_mk [] L (.inr rfl) (.tmp rfl (.nil)) rfl (Le.trans (Le.trans h2 h3) h4) (fun sR hS2 => ?_)
     refine ⟨?_, rfl⟩
     first
       | (rw [code_none hp]; rfl)
       | (rw [code_syn (.inl (by assumption))]; rfl)
       | (have hd : dotB lx = true := by assumption
          have hnum : (numL lx.dropLast).isSome = false := by rw [← cut_dot lx hd]; assumption
          rw [code_syn (.inr (.inl (by simpa using hnum)))]; rfl)
       | (rw [code_syn (.inr (.inr (by assumption)))]; rfl)
       | (have hd : dotB lx = true := by assumption
          rw [cut_dot lx hd] at *
          have hnum : (numL lx.dropLast).isSome = true := by assumption
          have hok : okT (joinW ws) = true := by assumption
          obtain ⟨u, hu⟩ := Option.isSome_iff_exists.1 hnum
          have hk := hkv u hu
          rw [hok, if_pos rfl] at hne
          have hch := chk_lt (joinW ws)
          have hno : ¬ (dotB lx = false ∨ numL lx.dropLast = none ∨ okT (joinW ws) = false) := by rw [hd, hu, hok]; simp
          first
            | (rw [code_cor hno (by rw [hu]; intro e; injection e with e; exact hne (by omega))]; rfl)
            | (rw [code_fine hno (by rw [hu]; intro e; exact e (by congr 1; omega))]; rfl))
    ·
     refine JC_seq ?_
     refine JC_region ?_
     refine JO_q (QE_mv rfl) rfl ?_
     refine JO_q (QE_conv' rfl rfl rfl rfl rfl (w64 (by have := hku.1; omega) (by have := hku.2; omega))) rfl ?_
     refine JO_q (QE_mv rfl) rfl ?_
     refine JO_q (QE_ne rfl rfl) rfl ?_
     refine JO_q (QE_as rfl) rfl ?_
     refine JO_nil ?_
     refine thenQ_n ?_
     refine JC_ifN rfl (fun c8 => ?_) (fun c8 => ?_)
     ·
      have hne := c8
      refine JC_seq ?_
      refine JC_region ?_
      refine JO_q (QE_as rfl) rfl ?_
      refine JO_nil ?_
      refine thenQ_n ?_
      refine JC_ret ?_
      refine blockQ_r ?_
      refine thenQ_r ?_
      refine retQ_mk [] L (.inr rfl) (.tmp rfl (.nil)) rfl (Le.trans (Le.trans h2 h3) h4) (fun sR hS2 => ?_)
      refine ⟨?_, rfl⟩
      first
        | (rw [code_none hp]; rfl)
        | (rw [code_syn (.inl (by assumption))]; rfl)
        | (have hd : dotB lx = true := by assumption
           have hnum : (numL lx.dropLast).isSome = false := by rw [← cut_dot lx hd]; assumption
           rw [code_syn (.inr (.inl (by simpa using hnum)))]; rfl)
        | (rw [code_syn (.inr (.inr (by assumption)))]; rfl)
        | (have hd : dotB lx = true := by assumption
           rw [cut_dot lx hd] at *
           have hnum : (numL lx.dropLast).isSome = true := by assumption
           have hok : okT (joinW ws) = true := by assumption
           obtain ⟨u, hu⟩ := Option.isSome_iff_exists.1 hnum
           have hk := hkv u hu
           rw [hok, if_pos rfl] at hne
           have hch := chk_lt (joinW ws)
           have hno : ¬ (dotB lx = false ∨ numL lx.dropLast = none ∨ okT (joinW ws) = false) := by rw [hd, hu, hok]; simp
           first
             | (rw [code_cor hno (by rw [hu]; intro e; injection e with e; exact hne (by omega))]; rfl)
             | (rw [code_fine hno (by rw [hu]; intro e; exact e (by congr 1; omega))]; rfl))
     ·
      have hne := c8
      refine JC_skip ?_
      refine blockQ_n ?_
      refine thenQ_n ?_
      refine JC_seq ?_
      refine JC_region ?_
      refine JO_q (QE_as rfl) rfl ?_
      refine JO_nil ?_
      refine thenQ_n ?_
      refine JC_ret ?_
      refine retQ_mk [] L (.inr rfl) (.tmp rfl (.nil)) rfl (Le.trans (Le.trans h2 h3) h4) (fun sR hS2 => ?_)
      refine ⟨?_, rfl⟩
      first
        | (rw [code_none hp]; rfl)
        | (rw [code_syn (.inl (by assumption))]; rfl)
        | (have hd : dotB lx = true := by assumption
           have hnum : (numL lx.dropLast).isSome = false := by rw [← cut_dot lx hd]; assumption
           rw [code_syn (.inr (.inl (by simpa using hnum)))]; rfl)
        | (rw [code_syn (.inr (.inr (by assumption)))]; rfl)
        | (have hd : dotB lx = true := by assumption
           rw [cut_dot lx hd] at *
           have hnum : (numL lx.dropLast).isSome = true := by assumption
           have hok : okT (joinW ws) = true := by assumption
           obtain ⟨u, hu⟩ := Option.isSome_iff_exists.1 hnum
           have hk := hkv u hu
           rw [hok, if_pos rfl] at hne
           have hch := chk_lt (joinW ws)
           have hno : ¬ (dotB lx = false ∨ numL lx.dropLast = none ∨ okT (joinW ws) = false) := by rw [hd, hu, hok]; simp
           first
             | (rw [code_cor hno (by rw [hu]; intro e; injection e with e; exact hne (by omega))]; rfl)
             | (rw [code_fine hno (by rw [hu]; intro e; exact e (by congr 1; omega))]; rfl))
end Go.Proofs.YtoeeblegplghmaaGreatDoor
namespace Go.Proofs.YtoeeblegplghmaaGreatDoor
open Go.FL
attribute [local irreducible] JC JO JA JB thenQ blockQ retQ AC fill CellsAt QE Ev Mid
theorem set_get3 {l : List (List UInt8)} (h : 3 < l.length) : l[3]? = some (l.getD 3 []) := by rw [List.getD_eq_getElem?_getD, List.getElem?_eq_getElem h]; rfl
theorem rdC_len {ws : List (List UInt8)} (h : ¬ ws.length = machL.length) : rdCells ws = none := if_neg (fun e => h e.1)
theorem rdC_is {ws : List (List UInt8)} (h : ws.length = machL.length) : (rdCells ws).isSome = ((numL (ws.getD 3 [])).isSome && decide (ws = machL.set 3 (ws.getD 3 []))) ∧ ∀ c, rdCells ws = some c → ∃ u : Nat, numL (ws.getD 3 []) = some u ∧ c = (u : Int) := by
  unfold rdCells
  by_cases he : ws = machL.set 3 (ws.getD 3 [])
  · rw [if_pos ⟨h, he⟩, Option.isSome_map, decide_eq_true he, Bool.and_true]
    refine ⟨rfl, fun c hc => ?_⟩
    obtain ⟨u, hu, rfl⟩ := Option.map_eq_some_iff.1 hc
    exact ⟨u, hu, rfl⟩
  · rw [if_neg (fun e => he e.2), decide_eq_false he, Bool.and_false]
    exact ⟨rfl, fun c hc => by cases hc⟩
set_option maxHeartbeats 2000000 in
set_option maxRecDepth 100000 in
theorem readCells_ac (D : Nat) (L : Hl) (s : World) (hG : GP s) (A : Option Addr) (n c : Nat) (ws : List (List UInt8)) (hS : Strs s A n c ws) (hz : sizeW ws ≤ 1000000) : AC Tryz.prog D 37 [.slice A n c] L s fun v L' _ => L = L' ∧ ∃ k, v = .tuple #[.int .i64 k, .bool (rdCells ws).isSome] ∧ ∀ y, rdCells ws = some y → k = y := by
 have hn := hS.1
 have hc1 := hS.2.1
 have hc2 := hS.2.2.1
 have hmj := mach_join
 have hml : (flds machS).length = 320 := mach_len
 refine AC_enter (TT := TT) (fn := Tryz.f37) TT_ok Tryz.func37 (by kernel_rfl) rfl Tryz.ntmps37 rfl (rs := [.tmp 2, .tmp 3]) rfl [(0, _)] rfl ?_
 refine JC_seq ?_
 refine JC_region ?_
 refine JO_q (QE_as rfl) rfl ?_
 refine JO_q (QE_as rfl) rfl ?_
 refine JO_nil ?_
 refine thenQ_n ?_
 refine JC_seq ?_
 refine JC_region ?_
 refine JO_call (first := []) (captured := []) rfl rfl rfl (fieldsO_ac D _ _ (hG.le (Le.refl (D := D) _)) machS (by omega) hmj.1) ?_
 rintro _ _ s1 h1 ⟨βf, rfl, rfl⟩
 refine JO_q (QE_as rfl) rfl ?_
 refine JO_nil ?_
 refine thenQ_n ?_
 refine JC_seq ?_
 refine JC_seq ?_
 refine JC_region ?_
 refine JO_q (QE_mv rfl) rfl ?_
 refine JO_q (QE_lenS rfl rfl rfl) rfl ?_
 refine JO_q (QE_mv rfl) rfl ?_
 refine JO_q (QE_lenS rfl rfl rfl) rfl ?_
 refine JO_q (QE_ne rfl rfl) rfl ?_
 refine JO_nil ?_
 refine thenQ_n ?_
 refine JC_ifN rfl (fun c2 => ?_) (fun c2 => ?_)
 ·
  have hlen : ¬ ws.length = machL.length := by have := c2; rw [mach_len]; omega
  refine JC_seq ?_
  refine JC_region ?_
  refine JO_q (QE_as rfl) rfl ?_
  refine JO_q (QE_as rfl) rfl ?_
  refine JO_nil ?_
  refine thenQ_n ?_
  refine JC_ret ?_
  refine thenQ_r ?_
  refine retQ_mk [_] L (.inr rfl) (.tmp rfl (.tmp rfl (.nil))) rfl h1 (fun sR hS2 => ?_)
  refine ⟨rfl, ?_⟩
  first
    | exact ⟨0, by rw [rdC_len hlen]; rfl, fun y hy => by rw [rdC_len hlen] at hy; cases hy⟩
    | (refine ⟨kn, ?_, fun y hy => ?_⟩
       · rw [hq1]
         first
           | (rw [show (numL (ws.getD 3 [])).isSome = false by assumption]; rfl)
           | (rw [show (numL (ws.getD 3 [])).isSome = true by assumption, Bool.true_and]; rfl)
       · obtain ⟨u, hu, rfl⟩ := hq2 y hy
         exact hkv u hu)
 ·
  have hlen : ws.length = machL.length := by have := c2; rw [mach_len]; omega
  have h3 : 3 < ws.length := by rw [hlen, mach_len]; decide
  obtain ⟨b3, off3, x3, hE3, hx3, hc3, _⟩ := Strs.at_ (hS.le h1) (show 3 < n by omega)
  subst hE3
  obtain rfl : ws.getD 3 [] = x3 := by rw [set_get3 h3] at hx3; injection hx3
  have hx3l := mem_size (List.mem_of_getElem? hx3)
  obtain ⟨hq1, hq2⟩ := rdC_is hlen
  refine JC_skip ?_
  refine thenQ_n ?_
  refine JC_seq ?_
  refine JC_region ?_
  refine JO_q (QE_mv rfl) rfl ?_
  refine JO_q (QE_ia1 rfl rfl rfl rfl rfl rfl (show 3 < n by omega)) rfl ?_
  refine JO_q (QE_ldsR0 rfl rfl rfl (hc3.le (Le.refl (D := D) _)) rfl) rfl ?_
  refine JO_call (first := []) (captured := []) rfl rfl rfl (readNum_ac D _ _ (hG.gw.le h1) _ (by omega)) ?_
  rintro _ _ s3 h3 ⟨rfl, kn, rfl, hku, hkv⟩
  refine JO_q (QE_mv rfl) rfl ?_
  refine JO_q (QE_ext rfl rfl) rfl ?_
  refine JO_q (QE_ext rfl rfl) rfl ?_
  refine JO_q (QE_as rfl) rfl ?_
  refine JO_q (QE_as rfl) rfl ?_
  refine JO_nil ?_
  refine thenQ_n ?_
  refine JC_seq ?_
  refine JC_region ?_
  refine JO_q (QE_mv rfl) rfl ?_
  refine JO_q (QE_mv rfl) rfl ?_
  refine JO_q (QE_ia1 rfl rfl rfl rfl rfl rfl (show 3 < n by omega)) rfl ?_
  refine JO_q (QE_ldsR0 rfl rfl rfl (hc3.le h3) rfl) rfl ?_
  refine JO_q (QE_ia1 (j := 3) rfl rfl rfl rfl rfl rfl (by rw [hml]; decide)) rfl ?_
  refine JO_st 0 (sb (machL.set 3 (ws.getD 3 []))) rfl rfl rfl rfl rfl (by show Nat.ble (0 + 3 + 1) (sb machL).length = true; rw [sb_len, mach_len]; rfl) rfl (by have := spl_row (xs := sb machL) (ys := []) (k := 3) (St (ws.getD 3 [])) (by rw [sb_len, mach_len]; decide); rw [List.append_nil, List.append_nil, sb_set] at this; exact this) rfl ?_
  refine JO_nil ?_
  refine thenQ_n ?_
  refine JC_seq ?_
  refine JC_pubX [] [_] _ ?_
  intro s5 h5 hpub5
  simp only [List.cons_append, List.nil_append]
  have hW : Strs s5 (some ⟨βf, 0, none⟩) (flds machS).length (flds machS).length (machL.set 3 (ws.getD 3 [])) := by
    have ho := own_row (e := 9) (β := βf) (ws := machL.set 3 (ws.getD 3 [])) (by rw [List.length_set, mach_len]; omega)
    rw [List.length_set] at ho
    refine Own.strs ho (fun w hw => ?_) hpub5 (by rw [List.length_set]; rfl)
    rcases List.mem_or_eq_of_mem_set hw with h | rfl
    · have := flds_short machS w h; omega
    · omega
  refine JC_region ?_
  refine JO_q (QE_mv rfl) rfl ?_
  refine JO_q (QE_conv' rfl rfl rfl rfl rfl (w64 (by have := hku.1; omega) (by have := hku.2; omega))) rfl ?_
  refine JO_q (QE_mv rfl) rfl ?_
  refine JO_q (QE_mv rfl) rfl ?_
  refine JO_case (t := 28) rfl (fun c6 => ?_) (fun c6 => ?_)
  ·
   refine JO_gT rfl rfl ?_
   refine JO_q (QE_mv rfl) rfl ?_
   refine JO_gT rfl rfl ?_
   refine JO_q (QE_mv rfl) rfl ?_
   refine JO_gT rfl rfl ?_
   refine JO_call (first := []) (captured := []) rfl rfl rfl (sequal_ac D _ _ _ _ _ ws (hS.le (Le.trans (Le.trans h1 h3) h5)) _ _ _ _ (hW.le (Le.refl (D := D) _))) ?_
   rintro _ _ s7 h7 ⟨rfl, rfl⟩
   refine JO_q (QE_pickT rfl rfl) rfl ?_
   refine JO_q (QE_as rfl) rfl ?_
   refine JO_q (QE_as rfl) rfl ?_
   refine JO_nil ?_
   refine thenQ_n ?_
   refine JC_ret ?_
   refine retQ_mk [] L (.inr rfl) (.tmp rfl (.tmp rfl (.nil))) rfl (Le.trans (Le.trans (Le.trans h1 h3) h5) h7) (fun sR hS2 => ?_)
   refine ⟨rfl, ?_⟩
   first
     | exact ⟨0, by rw [rdC_len hlen]; rfl, fun y hy => by rw [rdC_len hlen] at hy; cases hy⟩
     | (refine ⟨kn, ?_, fun y hy => ?_⟩
        · rw [hq1]
          first
            | (rw [show (numL (ws.getD 3 [])).isSome = false by assumption]; rfl)
            | (rw [show (numL (ws.getD 3 [])).isSome = true by assumption, Bool.true_and]; rfl)
        · obtain ⟨u, hu, rfl⟩ := hq2 y hy
          exact hkv u hu)
  ·
   refine JO_gF rfl rfl rfl rfl ?_
   refine JO_gF rfl rfl rfl rfl ?_
   refine JO_gF rfl rfl rfl rfl ?_
   refine JO_q (QE_pickF rfl rfl) rfl ?_
   refine JO_q (QE_as rfl) rfl ?_
   refine JO_q (QE_as rfl) rfl ?_
   refine JO_nil ?_
   refine thenQ_n ?_
   refine JC_ret ?_
   refine retQ_mk [] L (.inr rfl) (.tmp rfl (.tmp rfl (.nil))) rfl (Le.trans (Le.trans h1 h3) h5) (fun sR hS2 => ?_)
   refine ⟨rfl, ?_⟩
   first
     | exact ⟨0, by rw [rdC_len hlen]; rfl, fun y hy => by rw [rdC_len hlen] at hy; cases hy⟩
     | (refine ⟨kn, ?_, fun y hy => ?_⟩
        · rw [hq1]
          first
            | (rw [show (numL (ws.getD 3 [])).isSome = false by assumption]; rfl)
            | (rw [show (numL (ws.getD 3 [])).isSome = true by assumption, Bool.true_and]; rfl)
        · obtain ⟨u, hu, rfl⟩ := hq2 y hy
          exact hkv u hu)
end Go.Proofs.YtoeeblegplghmaaGreatDoor
namespace Go.Proofs.YtoeeblegplghmaaGreatDoor
open Go.FL
attribute [local irreducible] JC JO JA JB thenQ blockQ retQ AC fill CellsAt QE Ev Mid
set_option maxHeartbeats 1000000 in
set_option maxRecDepth 100000 in
theorem blank1_ac (D : Nat) (L : Hl) (s : World) (x : Nat) : AC Tryz.prog D 63 [.int .i32 (x : Int)] L s fun v L' _ => v = .bool (blkR x) ∧ L = L' := by
 refine AC_enter (TT := TT) (fn := Tryz.f63) TT_ok Tryz.func63 (by kernel_rfl) rfl Tryz.ntmps63 rfl (rs := [.tmp 2]) rfl [(0, _)] rfl ?_
 refine JC_seq ?_
 refine JC_region ?_
 refine JO_q (QE_as rfl) rfl ?_
 refine JO_nil ?_
 refine thenQ_n ?_
 refine JC_seq ?_
 refine JC_region ?_
 refine JO_q (QE_mv rfl) rfl ?_
 refine JO_q (QE_eq rfl rfl) rfl ?_
 refine JO_q (QE_mv rfl) rfl ?_
 refine JO_caseD (t := 5) rfl (fun c1 => ?_) (fun c1 => ?_)
 ·
  refine JO_gF rfl rfl rfl rfl ?_
  refine JO_gF rfl rfl rfl rfl ?_
  refine JO_q (QE_pickT rfl rfl) rfl ?_
  refine JO_q (QE_as rfl) rfl ?_
  refine JO_nil ?_
  refine thenQ_n ?_
  refine JC_ret ?_
  refine retQ_mk [] L (.inr rfl) (.tmp rfl (.nil)) rfl (Le.refl (D := D) _) (fun sR hS2 => ?_)
  exact ⟨by simp_all [resV, blkR], rfl⟩
 ·
  refine JO_gT rfl rfl ?_
  refine JO_q (QE_mv rfl) rfl ?_
  refine JO_gT rfl rfl ?_
  refine JO_q (QE_eq rfl rfl) rfl ?_
  refine JO_q (QE_pickF rfl rfl) rfl ?_
  refine JO_q (QE_as rfl) rfl ?_
  refine JO_nil ?_
  refine thenQ_n ?_
  refine JC_ret ?_
  refine retQ_mk [] L (.inr rfl) (.tmp rfl (.nil)) rfl (Le.refl (D := D) _) (fun sR hS2 => ?_)
  exact ⟨by simp_all [resV, blkR], rfl⟩
theorem enters_blank : ∀ args w, (callFunc 63 args).run Tryz.prog w = .ok (.enter 63 args) w := enters_of Tryz.func63 (by kernel_rfl) rfl
theorem fieldsF_ac (D : Nat) (L : Hl) (s : World) (l : List UInt8) (hl : l.length ≤ 4000000) : AC Tryz.prog D 62 [St l, .func (.func 63) #[] #[]] L s fun v L' s' => L = L' ∧ ∃ A n c', v = .slice A n c' ∧ Strs s' A n c' (flds l) :=
  AC.of_calls fnok_fields fun _ => by
    have hsz : (⟨l.toArray⟩ : ByteArray).size = l.length := by simp [Lib.size_eq]
    refine (Any.strings_FieldsFunc_grows Tryz.lays229 63 #[] enters_blank blkR ⟨l.toArray⟩ (fill L s) (by omega) (fun W x _ _ => ?_) (by kernel_rfl) (by kernel_rfl)).mono ?_
    · exact calls_of_AC (args := [.int .i32 (x : Int)]) fun D => blank1_ac D [] W x
    · rintro e w' ⟨A, he, hA, hown, hb⟩
      refine ⟨_, he, hb, fun s' _ _ hnew => ⟨rfl, _, _, _, rfl, ?_⟩⟩
      rw [goFields, List.length_map] at hown ⊢
      rcases hown.2 with ⟨h0, _⟩ | ⟨g, cap, cur, h1, h2, h3, h4, h5, h6, h7⟩
      · cases h0
      · injection h1 with h1 _ hcap
        injection h1 with h1
        injection h1 with h1
        subst h1; subst hcap
        rw [← hnew A (by rw [fill_size] at hA; exact hA)] at h3
        have hcur : cur = (((flds l).map fun x => (⟨x.toArray⟩ : ByteArray)).map Value.string).toArray := by
          have e1 : cur.toList = ((flds l).map fun x => (⟨x.toArray⟩ : ByteArray)).map Value.string := by
            rw [← h7, List.take_of_length_le (by rw [Array.length_toList, h6]; exact Nat.le_refl _)]
          rw [← e1, Array.toArray_toList]
        rw [hcur] at h3
        exact cells_strs h3 (fun x hx => by have := flds_short l x hx; omega) (by have := flds_len l; omega)
set_option maxHeartbeats 1000000 in
set_option maxRecDepth 100000 in
theorem divideO_ac (D : Nat) (L : Hl) (s : World) (l : List UInt8) (hl : l.length ≤ 4000000) : AC Tryz.prog D 35 [St l] L s fun v L' s' => ∃ M', L' = M' ++ L ∧ ∀ s2, Le D s' s2 → Pub M' s2 → ∃ b A n c, v = .func (.func 64) #[] #[.pointer (some ⟨b, 0, none⟩)] ∧ CellsAt s2 b 0 [.slice A n c] ∧ Strs s2 A n c (flds l) := by
 refine AC_enter (TT := TT) (fn := Tryz.f35) TT_ok Tryz.func35 (by kernel_rfl) rfl Tryz.ntmps35 rfl (rs := [.tmp 2]) rfl [(0, _)] rfl ?_
 refine JC_seq ?_
 refine JC_region ?_
 refine JO_q (QE_as rfl) rfl ?_
 refine JO_nil ?_
 refine thenQ_n ?_
 refine JC_seq ?_
 refine JC_region ?_
 refine JO_q (QE_mv rfl) rfl ?_
 refine JO_call (first := []) (captured := []) rfl rfl rfl (fieldsF_ac D _ _ l hl) ?_
 rintro _ _ s1 h1 ⟨rfl, Aw, nw, cw, rfl, hSw⟩
 refine JO_allocZ rfl [_] rfl rfl ?_
 intro β2 s2 h2
 refine JO_st 0 [_] rfl rfl rfl rfl rfl rfl rfl rfl rfl ?_
 refine JO_nil ?_
 refine thenQ_n ?_
 refine JC_seq ?_
 refine JC_region ?_
 refine JO_q (QE_func rfl) rfl ?_
 refine JO_q (QE_as rfl) rfl ?_
 refine JO_nil ?_
 refine thenQ_n ?_
 refine JC_ret ?_
 refine retQ_mk [] _ (.inr rfl) (.tmp rfl (.nil)) rfl (Le.trans h1 h2) (fun sR hS2 => ?_)
 exact ⟨[_], rfl, fun s2 hs2 hp => ⟨_, _, _, _, rfl, hp _ _ _ (List.mem_cons_self ..), hSw.le (Le.trans h2 (Le.trans hS2 hs2))⟩⟩
theorem divide_ac (D : Nat) (L : Hl) (s : World) (l : List UInt8) (hl : l.length ≤ 4000000) : AC Tryz.prog D 35 [St l] L s fun v L' s' => L = L' ∧ ∃ b A n c, v = .func (.func 64) #[] #[.pointer (some ⟨b, 0, none⟩)] ∧ CellsAt s' b 0 [.slice A n c] ∧ Strs s' A n c (flds l) := AC.pubW (divideO_ac D L s l hl)
end Go.Proofs.YtoeeblegplghmaaGreatDoor
namespace Go.Proofs.YtoeeblegplghmaaGreatDoor
open Go.FL
attribute [local irreducible] JC JO JA JB thenQ blockQ retQ AC fill CellsAt QE Ev Mid
theorem suffix_any (l sg : List UInt8) : Lib.hasSuffix l sg = ends l sg := by
  rw [Lib.hasSuffix, ends, Bool.eq_iff_iff, List.isSuffixOf_iff_suffix, decide_eq_true_eq]
  constructor
  · rintro ⟨t, rfl⟩; rw [cutS_app]
  · intro h; exact ⟨_, h.symm⟩
theorem cutSuf_ac (D : Nat) (L : Hl) (s : World) (l sg : List UInt8) (hl : l.length ≤ 9223372036854775807) : AC Tryz.prog D 66 [St l, St sg] L s fun v L' _ => v = .tuple #[St (if ends l sg = true then cutS l sg else l), .bool (ends l sg)] ∧ L = L' :=
  AC.of_calls fnok_suffix fun _ => (Any.strings_CutSuffix Tryz.lays104 ⟨l.toArray⟩ ⟨sg.toArray⟩ (fill L s) (by simpa [Lib.size_eq] using hl)).mono fun e w' ⟨he, hw⟩ => by
    refine ⟨_, he, by rw [hw]; exact below_refl _, fun s' _ _ _ => ⟨?_, rfl⟩⟩
    show Value.tuple #[.string ⟨(Lib.trimSuffix l sg).toArray⟩, .bool (Lib.hasSuffix l sg)] = _
    rw [Lib.trimSuffix, suffix_any]; rfl
theorem prsL_len : ∀ (is : List It) (ws : List (List UInt8)) (a b : Ac), prsL is ws a = some b → is.length = ws.length
  | [], [], _, _, _ => rfl
  | it :: is, w :: ws, a, b, h => by
    rw [prsL] at h
    obtain ⟨c, _, hc⟩ := Option.bind_eq_some_iff.1 h
    rw [List.length_cons, List.length_cons, prsL_len is ws c b hc]
  | [], _ :: _, _, _, h => by cases h
  | _ :: _, [], _, _, h => by cases h
theorem rd_len {k : Nat} {ws : List (List UInt8)} (hk : k < 20) (h : ¬ ws.length = (flds (sentS k)).length) : rdA k ws = none := by
  cases e : rdA k ws with
  | none => rfl
  | some a => exact absurd (by have := prsL_len _ _ _ _ e; rw [← sent_items k hk, List.length_map] at this; exact this.symm) h
theorem rd_step {k j : Nat} {ws : List (List UInt8)} {a : Ac} {w u : List UInt8} (hk : k < 20) (hS : rdA k ws = prsL ((sentK k).drop j) (ws.drop j) a) (hw : (flds (sentS k))[j]? = some w) (hu : ws[j]? = some u) : rdA k ws = (prsI a (itW w) u).bind (prsL ((sentK k).drop (j + 1)) (ws.drop (j + 1))) := by
  have hi : (sentK k)[j]? = some (itW w) := by rw [← sent_items k hk, List.getElem?_map, hw]; rfl
  rw [hS, drop_at hi, drop_at hu, prsL]
theorem rd_no {k j : Nat} {ws : List (List UInt8)} {a : Ac} {w u : List UInt8} (hk : k < 20) (hS : rdA k ws = prsL ((sentK k).drop j) (ws.drop j) a) (hw : (flds (sentS k))[j]? = some w) (hu : ws[j]? = some u) (h : prsI a (itW w) u = none) : rdA k ws = none := by rw [rd_step hk hS hw hu, h]; rfl
theorem rd_yes {k j : Nat} {ws : List (List UInt8)} {a b : Ac} {w u : List UInt8} (hk : k < 20) (hS : rdA k ws = prsL ((sentK k).drop j) (ws.drop j) a) (hw : (flds (sentS k))[j]? = some w) (hu : ws[j]? = some u) (h : prsI a (itW w) u = some b) : rdA k ws = prsL ((sentK k).drop (j + 1)) (ws.drop (j + 1)) b := by rw [rd_step hk hS hw hu, h]; rfl
theorem rd_end {k j : Nat} {ws : List (List UInt8)} {a : Ac} (hk : k < 20) (hS : rdA k ws = prsL ((sentK k).drop j) (ws.drop j) a) (h1 : (flds (sentS k)).length ≤ j) (h2 : ws.length = (flds (sentS k)).length) : rdA k ws = some a := by
  have h3 : (sentK k).length ≤ j := by rw [← sent_items k hk, List.length_map]; exact h1
  rw [hS, List.drop_of_length_le h3, List.drop_of_length_le (by omega)]; rfl
variable {a : Ac} {w u : List UInt8}
theorem it_t (h : trimDC w = [116]) : itW w = .tt (w.drop (trimDC w).length) := if_pos h
theorem it_x (h1 : ¬ trimDC w = [116]) (h : trimDC w = [120]) : itW w = .xx (w.drop (trimDC w).length) := by rw [itW, if_neg h1, if_pos h]
theorem it_y (h1 : ¬ trimDC w = [116]) (h2 : ¬ trimDC w = [120]) (h : trimDC w = [121]) : itW w = .yy (w.drop (trimDC w).length) := by rw [itW, if_neg h1, if_neg h2, if_pos h]
theorem it_n (h1 : ¬ trimDC w = [116]) (h2 : ¬ trimDC w = [120]) (h : ¬ trimDC w = [121]) : itW w = .lit w := by rw [itW, if_neg h1, if_neg h2, if_neg h]
variable {sg : List UInt8}
theorem pt_yes (h : ends u sg = true) (h2 : 0 ≤ regN (if ends u sg = true then cutS u sg else u)) : prsI a (.tt sg) u = some ⟨a.kind, regN (if ends u sg = true then cutS u sg else u), a.x, a.y⟩ := by
  rw [if_pos h] at h2 ⊢; rw [prsI, if_pos ⟨h, h2⟩]
theorem pt_no1 (h : ends u sg = false) : prsI a (.tt sg) u = none := by rw [prsI, if_neg (by rw [h]; simp)]
theorem pt_no2 (h : ends u sg = true) (h2 : ¬ 0 ≤ regN (if ends u sg = true then cutS u sg else u)) : prsI a (.tt sg) u = none := by
  rw [if_pos h] at h2; rw [prsI, if_neg (fun e => h2 e.2)]
theorem px_yes {x : Tm} (h : ends u sg = true) (h2 : (trmO (if ends u sg = true then cutS u sg else u)).isSome = true) (h3 : ∀ y, trmO (if ends u sg = true then cutS u sg else u) = some y → x = y) : prsI a (.xx sg) u = some ⟨a.kind, a.tgt, x, a.y⟩ := by
  rw [if_pos h] at h2 h3
  obtain ⟨y, hy⟩ := Option.isSome_iff_exists.1 h2
  rw [prsI, if_pos h, hy, h3 y hy]; rfl
theorem px_no1 (h : ends u sg = false) : prsI a (.xx sg) u = none := by rw [prsI, if_neg (by rw [h]; simp)]
theorem px_no2 (h : ends u sg = true) (h2 : (trmO (if ends u sg = true then cutS u sg else u)).isSome = false) : prsI a (.xx sg) u = none := by
  rw [if_pos h] at h2; rw [prsI, if_pos h, Option.isSome_eq_false_iff, Option.isNone_iff_eq_none] at *; rw [h2]; rfl
theorem py_yes {x : Tm} (h : ends u sg = true) (h2 : (trmO (if ends u sg = true then cutS u sg else u)).isSome = true) (h3 : ∀ y, trmO (if ends u sg = true then cutS u sg else u) = some y → x = y) : prsI a (.yy sg) u = some ⟨a.kind, a.tgt, a.x, x⟩ := by
  rw [if_pos h] at h2 h3
  obtain ⟨y, hy⟩ := Option.isSome_iff_exists.1 h2
  rw [prsI, if_pos h, hy, h3 y hy]; rfl
theorem py_no1 (h : ends u sg = false) : prsI a (.yy sg) u = none := by rw [prsI, if_neg (by rw [h]; simp)]
theorem py_no2 (h : ends u sg = true) (h2 : (trmO (if ends u sg = true then cutS u sg else u)).isSome = false) : prsI a (.yy sg) u = none := by
  rw [if_pos h] at h2; rw [prsI, if_pos h, Option.isSome_eq_false_iff, Option.isNone_iff_eq_none] at *; rw [h2]; rfl
theorem cut_len (u sg : List UInt8) : (if ends u sg = true then cutS u sg else u).length ≤ u.length := by
  split
  · rw [cutS, List.length_take]; omega
  · exact Nat.le_refl _
set_option maxHeartbeats 4000000 in
set_option maxRecDepth 100000 in
theorem readAction_ac (D : Nat) (L : Hl) (s : World) (hG : GP s) (k : Nat) (hk : k < 20) (A : Option Addr) (n c : Nat) (ws : List (List UInt8)) (hS : Strs s A n c ws) (hz : sizeW ws ≤ 1000000) : AC Tryz.prog D 72 [.int .i64 (k : Int), .slice A n c] L s fun v L' _ => L = L' ∧ ∃ a : Ac, v = .tuple #[.agg #[.int .i64 a.kind, .int .i64 a.tgt, .int .i64 a.x.kind, .int .u32 a.x.val, .int .i64 a.y.kind, .int .u32 a.y.val], .bool (rdA k ws).isSome] ∧ ∀ y, rdA k ws = some y → a = y := by
 have hn := hS.1
 have hc1 := hS.2.1
 have hc2 := hS.2.2.1
 have hsk := sent_okT k hk
 have hfl := flds_len (sentS k)
 refine AC_enter (TT := TT) (fn := Tryz.f72) TT_ok Tryz.func72 (by kernel_rfl) rfl Tryz.ntmps72 rfl (rs := [.cell 4 68, .tmp 5]) rfl [(0, _), (1, _)] rfl ?_
 refine JC_seq ?_
 refine JC_region ?_
 refine JO_allocZ rfl [_, _, _, _, _, _] rfl rfl ?_
 intro β1 s1 h1
 refine JO_q (QE_as rfl) rfl ?_
 refine JO_nil ?_
 refine thenQ_n ?_
 refine JC_seq ?_
 refine JC_region ?_
 refine JO_q (QE_mv rfl) rfl ?_
 refine JO_q (QE_build [(_, _)] [_, _, _, _, _, _] rfl rfl rfl rfl rfl rfl) rfl ?_
 refine JO_allocZ rfl [_, _, _, _, _, _] rfl rfl ?_
 intro β2 s2 h2
 refine JO_st 0 [_, _, _, _, _, _] rfl rfl rfl rfl rfl rfl rfl rfl rfl ?_
 refine JO_nil ?_
 refine thenQ_n ?_
 refine JC_seq ?_
 refine JC_region ?_
 refine JO_q (QE_mv rfl) rfl ?_
 refine JO_call (first := []) (captured := []) rfl rfl rfl (psent_ac D _ _ k hk) ?_
 rintro _ _ s3 h3 ⟨rfl, rfl⟩
 refine JO_call (first := []) (captured := []) rfl rfl rfl (fieldsS_ac D _ _ (hG.le (Le.trans (Le.trans h1 h2) h3)) (sentS k) (by omega) hsk.1) ?_
 rintro _ _ s4 h4 ⟨rfl, A1, n1, c1, rfl, hW⟩
 have hn1 := hW.1
 refine JO_q (QE_as rfl) rfl ?_
 refine JO_nil ?_
 refine thenQ_n ?_
 refine JC_seq ?_
 refine JC_seq ?_
 refine JC_region ?_
 refine JO_q (QE_mv rfl) rfl ?_
 refine JO_q (QE_lenS rfl rfl rfl) rfl ?_
 refine JO_q (QE_mv rfl) rfl ?_
 refine JO_q (QE_lenS rfl rfl rfl) rfl ?_
 refine JO_q (QE_ne rfl rfl) rfl ?_
 refine JO_nil ?_
 refine thenQ_n ?_
 refine JC_ifN rfl (fun c5 => ?_) (fun c5 => ?_)
 ·
  have hlen : ¬ ws.length = (flds (sentS k)).length := by have := c5; omega
  refine JC_seq ?_
  refine JC_region ?_
  refine JO_q (QE_ldA 0 [_, _, _, _, _, _] rfl rfl rfl rfl rfl) rfl ?_
  refine JO_st 1 [_, _, _, _, _, _] rfl rfl rfl rfl rfl rfl rfl rfl rfl ?_
  refine JO_q (QE_as rfl) rfl ?_
  refine JO_nil ?_
  refine thenQ_n ?_
  refine JC_ret ?_
  refine thenQ_r ?_
  refine retQ_mk [_, _] L (.inr rfl) (.agg (us := [_, _, _, _, _, _]) 1 rfl rfl rfl rfl rfl (.tmp rfl (.nil))) rfl (Le.trans (Le.trans (Le.trans h1 h2) h3) h4) (fun sR hS2 => ?_)
  refine ⟨rfl, ?_⟩
  first
    | exact ⟨ac0 k, by rw [rd_len hk hlen]; rfl, fun y hy => by rw [rd_len hk hlen] at hy; cases hy⟩
    | exact ⟨a, by rw [hR2]; rfl, fun y hy => by rw [hR2] at hy; injection hy⟩
    | (have hN : rdA k ws = none := rd_no hk hR hw hu (by rw [it_t hT]; first | exact pt_no1 (by assumption) | exact pt_no2 (by assumption) (by assumption))
       exact ⟨⟨a.kind, regN (if ends u (w.drop (trimDC w).length) = true then cutS u (w.drop (trimDC w).length) else u), a.x, a.y⟩, by rw [hN]; rfl, fun y hy => by rw [hN] at hy; cases hy⟩)
    | (have hN : rdA k ws = none := rd_no hk hR hw hu (by rw [it_x hT hX]; first | exact px_no1 (by assumption) | exact px_no2 (by assumption) (by assumption))
       exact ⟨⟨a.kind, a.tgt, xt, a.y⟩, by rw [hN]; rfl, fun y hy => by rw [hN] at hy; cases hy⟩)
    | (have hN : rdA k ws = none := rd_no hk hR hw hu (by rw [it_y hT hX hY]; first | exact py_no1 (by assumption) | exact py_no2 (by assumption) (by assumption))
       exact ⟨⟨a.kind, a.tgt, a.x, xt⟩, by rw [hN]; rfl, fun y hy => by rw [hN] at hy; cases hy⟩)
    | (have hN : rdA k ws = none := rd_no hk hR hw hu (by rw [it_n hT hX hY]; exact if_neg (by assumption))
       exact ⟨a, by rw [hN]; rfl, fun y hy => by rw [hN] at hy; cases hy⟩)
 ·
  have hlen : ws.length = (flds (sentS k)).length := by have := c5; omega
  refine JC_skip ?_
  refine thenQ_n ?_
  refine JC_seq ?_
  refine JC_seq ?_
  refine JC_region ?_
  refine JO_q (QE_mv rfl) rfl ?_
  refine JO_q (QE_lenS rfl rfl rfl) rfl ?_
  refine JO_q (QE_mv rfl) rfl ?_
  refine JO_nil ?_
  refine thenQ_n ?_
  refine JC_block ?_
  refine JC_loop (γ := Nat × Ac) (fun g => [(1, _), (4, _), (5, _), (6, _), (27, _), (28, _), (29, .int .i64 (g.1 : Int))]) (fun g => (β2, cb [.int .i64 g.2.kind, .int .i64 g.2.tgt, .int .i64 g.2.x.kind, .int .u32 g.2.x.val, .int .i64 g.2.y.kind, .int .u32 g.2.y.val] 68) :: (β1, cb [.int .i64 0, .int .i64 0, .int .i64 0, .int .u32 0, .int .i64 0, .int .u32 0] 68) :: L) (fun g tw => Le D s4 tw ∧ (g.1 ≤ n1 ∧ rdA k ws = prsL ((sentK k).drop g.1) (ws.drop g.1) g.2)) (fun g => n1 - g.1) (fun _ _ _ h hl => ⟨h.1.trans hl, h.2⟩) (0, ac0 k) (Keeps.cons rfl (Keeps.cons rfl (Keeps.cons rfl (Keeps.cons rfl (Keeps.cons rfl (Keeps.cons rfl (Keeps.cons rfl (Keeps.nil _)))))))) rfl ⟨Le.refl _, ⟨Nat.zero_le _, rfl⟩⟩ ?_
  intro g s6 I6
  obtain ⟨j, a⟩ := g
  obtain ⟨hj0, hR⟩ := I6.2
  simp only at hj0 hR
  dsimp only
  refine JC_seq ?_
  refine JC_region ?_
  refine JO_q (QE_lt rfl rfl) rfl ?_
  refine JO_nil ?_
  refine thenQ_n ?_
  refine JC_seq ?_
  refine JC_ifD rfl (fun c7 => ?_) (fun c7 => ?_)
  ·
   have hj : j < n1 := by omega
   obtain ⟨b, off, w, rfl, hw, hcw, _⟩ := Strs.at_ (hW.le I6.1) hj
   have hwl := flds_short _ w (List.mem_of_getElem? hw)
   have htl := trim_len w
   obtain ⟨bu, offu, u, hEu, hu, hcu, _⟩ := Strs.at_ (hS.le (Le.trans (Le.trans (Le.trans (Le.trans h1 h2) h3) h4) I6.1)) (show j < n by omega)
   subst hEu
   have hul := mem_size (List.mem_of_getElem? hu)
   refine JC_skip ?_
   refine thenQ_n ?_
   refine JC_seq ?_
   refine JC_block ?_
   refine JC_seq ?_
   refine JC_region ?_
   refine JO_q (QE_mv rfl) rfl ?_
   refine JO_q (QE_ia1 rfl rfl rfl rfl rfl rfl hj) rfl ?_
   refine JO_q (QE_ldsR0 rfl rfl rfl (hcw.le (Le.refl (D := D) _)) rfl) rfl ?_
   refine JO_q (QE_as rfl) rfl ?_
   refine JO_q (QE_as rfl) rfl ?_
   refine JO_nil ?_
   refine thenQ_n ?_
   refine JC_seq ?_
   refine JC_region ?_
   refine JO_q (QE_mv rfl) rfl ?_
   refine JO_call (first := []) (captured := []) rfl rfl rfl (part_ac D _ _ w (by omega)) ?_
   rintro _ _ s8 h8 ⟨rfl, rfl⟩
   refine JO_q (QE_mv rfl) rfl ?_
   refine JO_q (QE_ext rfl rfl) rfl ?_
   refine JO_q (QE_ext rfl rfl) rfl ?_
   refine JO_q (QE_as rfl) rfl ?_
   refine JO_q (QE_as rfl) rfl ?_
   refine JO_nil ?_
   refine thenQ_n ?_
   refine JC_seq ?_
   refine JC_region ?_
   refine JO_q (QE_mv rfl) rfl ?_
   refine JO_q (QE_mv rfl) rfl ?_
   refine JO_q (QE_ia1 rfl rfl rfl rfl rfl rfl (show j < n by omega)) rfl ?_
   refine JO_q (QE_ldsR0 rfl rfl rfl (hcu.le h8) rfl) rfl ?_
   refine JO_q (QE_mv rfl) rfl ?_
   refine JO_call (first := []) (captured := []) rfl rfl rfl (cutSuf_ac D _ _ u (w.drop (trimDC w).length) (by omega)) ?_
   rintro _ _ s9 h9 ⟨rfl, rfl⟩
   have hcl := cut_len u (w.drop (trimDC w).length)
   refine JO_q (QE_mv rfl) rfl ?_
   refine JO_q (QE_ext rfl rfl) rfl ?_
   refine JO_q (QE_ext rfl rfl) rfl ?_
   refine JO_q (QE_as rfl) rfl ?_
   refine JO_q (QE_as rfl) rfl ?_
   refine JO_nil ?_
   refine thenQ_n ?_
   refine JC_seq ?_
   refine JC_seq ?_
   refine JC_region ?_
   refine JO_q (QE_mv rfl) rfl ?_
   refine JO_nil ?_
   refine thenQ_n ?_
   refine JC_block ?_
   refine JC_seq ?_
   refine JC_region ?_
   refine JO_q (QE_seq rfl rfl) rfl ?_
   refine JO_q (QE_as rfl) rfl ?_
   refine JO_nil ?_
   refine thenQ_n ?_
   refine JC_ifD rfl (fun c10 => ?_) (fun c10 => ?_)
   ·
    have hT : trimDC w = [116] := c10
    refine JC_seq ?_
    refine JC_region ?_
    refine JO_q (QE_mv rfl) rfl ?_
    refine JO_call (first := []) (captured := []) rfl rfl rfl (register_ac D _ _ _) ?_
    rintro _ _ s11 h11 ⟨rfl, rfl⟩
    refine JO_q (QE_faB rfl rfl rfl rfl) rfl ?_
    refine JO_st 0 [_, _, _, _, _, _] rfl rfl rfl rfl rfl rfl rfl rfl rfl ?_
    refine JO_nil ?_
    refine thenQ_n ?_
    refine JC_region ?_
    refine JO_q (QE_mv rfl) rfl ?_
    refine JO_q (QE_mv rfl) rfl ?_
    refine JO_case (t := 61) rfl (fun c12 => ?_) (fun c12 => ?_)
    ·
     refine JO_gT rfl rfl ?_
     refine JO_q (QE_faB rfl rfl rfl rfl) rfl ?_
     refine JO_gT rfl rfl ?_
     refine JO_q (QE_ld1 0 rfl rfl rfl rfl rfl) rfl ?_
     refine JO_gT rfl rfl ?_
     refine JO_q (QE_ge rfl rfl) rfl ?_
     refine JO_q (QE_pickT rfl rfl) rfl ?_
     refine JO_q (QE_as rfl) rfl ?_
     refine JO_nil ?_
     refine blockQ_n ?_
     refine thenQ_n ?_
     refine JC_seq ?_
     refine JC_region ?_
     refine JO_q (QE_mv rfl) rfl ?_
     refine JO_q (QE_not rfl) rfl ?_
     refine JO_nil ?_
     refine thenQ_n ?_
     refine JC_ifN rfl (fun c13 => ?_) (fun c13 => ?_)
     ·
      have hno := c13
      refine JC_seq ?_
      refine JC_region ?_
      refine JO_q (QE_ldA 0 [_, _, _, _, _, _] rfl rfl rfl rfl rfl) rfl ?_
      refine JO_st 1 [_, _, _, _, _, _] rfl rfl rfl rfl rfl rfl rfl rfl rfl ?_
      refine JO_q (QE_as rfl) rfl ?_
      refine JO_nil ?_
      refine thenQ_n ?_
      refine JC_ret ?_
      refine blockQ_r ?_
      refine thenQ_r ?_
      refine thenQ_r ?_
      refine blockQ_r ?_
      refine thenQ_r ?_
      refine retQ_mk [_, _] L (.inr rfl) (.agg (us := [_, _, _, _, _, _]) 1 rfl rfl rfl rfl rfl (.tmp rfl (.nil))) rfl (Le.trans (Le.trans (Le.trans (Le.trans (Le.trans (Le.trans (Le.trans h1 h2) h3) h4) I6.1) h8) h9) h11) (fun sR hS2 => ?_)
      refine ⟨rfl, ?_⟩
      first
        | exact ⟨ac0 k, by rw [rd_len hk hlen]; rfl, fun y hy => by rw [rd_len hk hlen] at hy; cases hy⟩
        | exact ⟨a, by rw [hR2]; rfl, fun y hy => by rw [hR2] at hy; injection hy⟩
        | (have hN : rdA k ws = none := rd_no hk hR hw hu (by rw [it_t hT]; first | exact pt_no1 (by assumption) | exact pt_no2 (by assumption) (by assumption))
           exact ⟨⟨a.kind, regN (if ends u (w.drop (trimDC w).length) = true then cutS u (w.drop (trimDC w).length) else u), a.x, a.y⟩, by rw [hN]; rfl, fun y hy => by rw [hN] at hy; cases hy⟩)
        | (have hN : rdA k ws = none := rd_no hk hR hw hu (by rw [it_x hT hX]; first | exact px_no1 (by assumption) | exact px_no2 (by assumption) (by assumption))
           exact ⟨⟨a.kind, a.tgt, xt, a.y⟩, by rw [hN]; rfl, fun y hy => by rw [hN] at hy; cases hy⟩)
        | (have hN : rdA k ws = none := rd_no hk hR hw hu (by rw [it_y hT hX hY]; first | exact py_no1 (by assumption) | exact py_no2 (by assumption) (by assumption))
           exact ⟨⟨a.kind, a.tgt, a.x, xt⟩, by rw [hN]; rfl, fun y hy => by rw [hN] at hy; cases hy⟩)
        | (have hN : rdA k ws = none := rd_no hk hR hw hu (by rw [it_n hT hX hY]; exact if_neg (by assumption))
           exact ⟨a, by rw [hN]; rfl, fun y hy => by rw [hN] at hy; cases hy⟩)
     ·
      have hyes := c13
      refine JC_skip ?_
      refine blockQ_n ?_
      refine thenQ_n ?_
      refine JC_region ?_
      refine JO_q (QE_add' rfl rfl (w64 (by omega) (by omega))) rfl ?_
      refine JO_q (QE_mv rfl) rfl ?_
      refine JO_nil ?_
      refine thenQ_n ⟨(j + 1, ⟨a.kind, _, a.x, a.y⟩), [], (Keeps.cons rfl (Keeps.cons rfl (Keeps.cons rfl (Keeps.cons rfl (Keeps.cons rfl (Keeps.cons rfl (Keeps.cons rfl (Keeps.nil _)))))))), rfl, ⟨(Le.trans (Le.trans (Le.trans I6.1 h8) h9) h11), ⟨by simp only; omega, by
        first
        | exact rd_yes hk hR hw hu (by rw [it_t hT]; exact pt_yes (by assumption) (by assumption))
        | exact rd_yes hk hR hw hu (by rw [it_x hT hX]; exact px_yes (by assumption) (by assumption) hxv)
        | exact rd_yes hk hR hw hu (by rw [it_y hT hX hY]; exact py_yes (by assumption) (by assumption) hxv)
        | exact rd_yes hk hR hw hu (by rw [it_n hT hX hY]; exact if_pos (by assumption))⟩⟩, (by simp only; omega)⟩
    ·
     refine JO_gF rfl rfl rfl rfl ?_
     refine JO_gF rfl rfl rfl rfl ?_
     refine JO_gF rfl rfl rfl rfl ?_
     refine JO_q (QE_pickF rfl rfl) rfl ?_
     refine JO_q (QE_as rfl) rfl ?_
     refine JO_nil ?_
     refine blockQ_n ?_
     refine thenQ_n ?_
     refine JC_seq ?_
     refine JC_region ?_
     refine JO_q (QE_mv rfl) rfl ?_
     refine JO_q (QE_notF rfl) rfl ?_
     refine JO_nil ?_
     refine thenQ_n ?_
     refine JC_ifT rfl ?_
     have hno := trivial
     refine JC_seq ?_
     refine JC_region ?_
     refine JO_q (QE_ldA 0 [_, _, _, _, _, _] rfl rfl rfl rfl rfl) rfl ?_
     refine JO_st 1 [_, _, _, _, _, _] rfl rfl rfl rfl rfl rfl rfl rfl rfl ?_
     refine JO_q (QE_as rfl) rfl ?_
     refine JO_nil ?_
     refine thenQ_n ?_
     refine JC_ret ?_
     refine blockQ_r ?_
     refine thenQ_r ?_
     refine thenQ_r ?_
     refine blockQ_r ?_
     refine thenQ_r ?_
     refine retQ_mk [_, _] L (.inr rfl) (.agg (us := [_, _, _, _, _, _]) 1 rfl rfl rfl rfl rfl (.tmp rfl (.nil))) rfl (Le.trans (Le.trans (Le.trans (Le.trans (Le.trans (Le.trans (Le.trans h1 h2) h3) h4) I6.1) h8) h9) h11) (fun sR hS2 => ?_)
     refine ⟨rfl, ?_⟩
     first
       | exact ⟨ac0 k, by rw [rd_len hk hlen]; rfl, fun y hy => by rw [rd_len hk hlen] at hy; cases hy⟩
       | exact ⟨a, by rw [hR2]; rfl, fun y hy => by rw [hR2] at hy; injection hy⟩
       | (have hN : rdA k ws = none := rd_no hk hR hw hu (by rw [it_t hT]; first | exact pt_no1 (by assumption) | exact pt_no2 (by assumption) (by assumption))
          exact ⟨⟨a.kind, regN (if ends u (w.drop (trimDC w).length) = true then cutS u (w.drop (trimDC w).length) else u), a.x, a.y⟩, by rw [hN]; rfl, fun y hy => by rw [hN] at hy; cases hy⟩)
       | (have hN : rdA k ws = none := rd_no hk hR hw hu (by rw [it_x hT hX]; first | exact px_no1 (by assumption) | exact px_no2 (by assumption) (by assumption))
          exact ⟨⟨a.kind, a.tgt, xt, a.y⟩, by rw [hN]; rfl, fun y hy => by rw [hN] at hy; cases hy⟩)
       | (have hN : rdA k ws = none := rd_no hk hR hw hu (by rw [it_y hT hX hY]; first | exact py_no1 (by assumption) | exact py_no2 (by assumption) (by assumption))
          exact ⟨⟨a.kind, a.tgt, a.x, xt⟩, by rw [hN]; rfl, fun y hy => by rw [hN] at hy; cases hy⟩)
       | (have hN : rdA k ws = none := rd_no hk hR hw hu (by rw [it_n hT hX hY]; exact if_neg (by assumption))
          exact ⟨a, by rw [hN]; rfl, fun y hy => by rw [hN] at hy; cases hy⟩)
   ·
    have hT : ¬ trimDC w = [116] := c10
    refine JC_seq ?_
    refine JC_seq ?_
    refine JC_region ?_
    refine JO_q (QE_seq rfl rfl) rfl ?_
    refine JO_q (QE_as rfl) rfl ?_
    refine JO_nil ?_
    refine thenQ_n ?_
    refine JC_ifD rfl (fun c14 => ?_) (fun c14 => ?_)
    ·
     have hX : trimDC w = [120] := c14
     refine JC_skip ?_
     refine thenQ_n ?_
     refine JC_ifD rfl (fun c15 => ?_) (fun c15 => ?_)
     ·
      refine JC_seq ?_
      refine JC_region ?_
      refine JO_q (QE_mv rfl) rfl ?_
      refine JO_call (first := []) (captured := []) rfl rfl rfl (readTerm_ac D _ _ (hG.le (Le.trans (Le.trans (Le.trans (Le.trans (Le.trans (Le.trans h1 h2) h3) h4) I6.1) h8) h9)) _ (by omega)) ?_
      rintro _ _ s16 h16 ⟨rfl, xt, rfl, hxu, hxv⟩
      refine JO_q (QE_mv rfl) rfl ?_
      refine JO_q (QE_ext rfl rfl) rfl ?_
      refine JO_q (QE_ext rfl rfl) rfl ?_
      refine JO_allocZ rfl [_, _] rfl rfl ?_
      intro β17 s17 h17
      refine JO_st 0 [_, _] rfl rfl rfl rfl rfl rfl rfl rfl rfl ?_
      refine JO_q (QE_as rfl) rfl ?_
      refine JO_nil ?_
      refine thenQ_n ?_
      refine JC_seq ?_
      refine JC_region ?_
      refine JO_q (QE_mv rfl) rfl ?_
      refine JO_q (QE_mv rfl) rfl ?_
      refine JO_case (t := 75) rfl (fun c18 => ?_) (fun c18 => ?_)
      ·
       refine JO_gT rfl rfl ?_
       refine JO_q (QE_mv rfl) rfl ?_
       refine JO_q (QE_pickT rfl rfl) rfl ?_
       refine JO_q (QE_as rfl) rfl ?_
       refine JO_nil ?_
       refine thenQ_n ?_
       refine JC_seq ?_
       refine JC_region ?_
       refine JO_q (QE_mv rfl) rfl ?_
       refine JO_q (QE_cast (v' := .bool true) (QE_seq rfl rfl) (bT hX)) rfl ?_
       refine JO_nil ?_
       refine thenQ_n ?_
       refine JC_ifT rfl ?_
       refine JC_region ?_
       refine JO_q (QE_ldA 0 [_, _] rfl rfl rfl rfl rfl) rfl ?_
       refine JO_q (QE_faB rfl rfl rfl rfl) rfl ?_
       refine JO_st 1 [_, _, _, _, _, _] rfl rfl rfl rfl rfl rfl rfl rfl rfl ?_
       refine JO_nil ?_
       refine blockQ_n ?_
       refine thenQ_n ?_
       refine JC_seq ?_
       refine JC_region ?_
       refine JO_q (QE_mv rfl) rfl ?_
       refine JO_q (QE_not rfl) rfl ?_
       refine JO_nil ?_
       refine thenQ_n ?_
       refine JC_ifM rfl (fun c19 => ?_) (fun c19 => ?_)
       ·
        have hno := c19
        refine JC_seq ?_
        refine JC_region ?_
        refine JO_q (QE_ldA 1 [_, _, _, _, _, _] rfl rfl rfl rfl rfl) rfl ?_
        refine JO_st 2 [_, _, _, _, _, _] rfl rfl rfl rfl rfl rfl rfl rfl rfl ?_
        refine JO_q (QE_as rfl) rfl ?_
        refine JO_nil ?_
        refine thenQ_n ?_
        refine JC_ret ?_
        refine blockQ_r ?_
        refine thenQ_r ?_
        refine thenQ_r ?_
        refine blockQ_r ?_
        refine thenQ_r ?_
        refine retQ_mk [_, _, _] L (.inr rfl) (.agg (us := [_, _, _, _, _, _]) 2 rfl rfl rfl rfl rfl (.tmp rfl (.nil))) rfl (Le.trans (Le.trans (Le.trans (Le.trans (Le.trans (Le.trans (Le.trans (Le.trans h1 h2) h3) h4) I6.1) h8) h9) h16) h17) (fun sR hS2 => ?_)
        refine ⟨rfl, ?_⟩
        first
          | exact ⟨ac0 k, by rw [rd_len hk hlen]; rfl, fun y hy => by rw [rd_len hk hlen] at hy; cases hy⟩
          | exact ⟨a, by rw [hR2]; rfl, fun y hy => by rw [hR2] at hy; injection hy⟩
          | (have hN : rdA k ws = none := rd_no hk hR hw hu (by rw [it_t hT]; first | exact pt_no1 (by assumption) | exact pt_no2 (by assumption) (by assumption))
             exact ⟨⟨a.kind, regN (if ends u (w.drop (trimDC w).length) = true then cutS u (w.drop (trimDC w).length) else u), a.x, a.y⟩, by rw [hN]; rfl, fun y hy => by rw [hN] at hy; cases hy⟩)
          | (have hN : rdA k ws = none := rd_no hk hR hw hu (by rw [it_x hT hX]; first | exact px_no1 (by assumption) | exact px_no2 (by assumption) (by assumption))
             exact ⟨⟨a.kind, a.tgt, xt, a.y⟩, by rw [hN]; rfl, fun y hy => by rw [hN] at hy; cases hy⟩)
          | (have hN : rdA k ws = none := rd_no hk hR hw hu (by rw [it_y hT hX hY]; first | exact py_no1 (by assumption) | exact py_no2 (by assumption) (by assumption))
             exact ⟨⟨a.kind, a.tgt, a.x, xt⟩, by rw [hN]; rfl, fun y hy => by rw [hN] at hy; cases hy⟩)
          | (have hN : rdA k ws = none := rd_no hk hR hw hu (by rw [it_n hT hX hY]; exact if_neg (by assumption))
             exact ⟨a, by rw [hN]; rfl, fun y hy => by rw [hN] at hy; cases hy⟩)
       ·
        have hyes := c19
        refine JC_skip ?_
        refine blockQ_n ?_
        refine thenQ_n ?_
        refine JC_region ?_
        refine JO_q (QE_add' rfl rfl (w64 (by omega) (by omega))) rfl ?_
        refine JO_q (QE_mv rfl) rfl ?_
        refine JO_nil ?_
        refine thenQ_n ⟨(j + 1, ⟨a.kind, a.tgt, xt, a.y⟩), [_], (Keeps.cons rfl (Keeps.cons rfl (Keeps.cons rfl (Keeps.cons rfl (Keeps.cons rfl (Keeps.cons rfl (Keeps.cons rfl (Keeps.nil _)))))))), rfl, ⟨(Le.trans (Le.trans (Le.trans (Le.trans I6.1 h8) h9) h16) h17), ⟨by simp only; omega, by
          first
          | exact rd_yes hk hR hw hu (by rw [it_t hT]; exact pt_yes (by assumption) (by assumption))
          | exact rd_yes hk hR hw hu (by rw [it_x hT hX]; exact px_yes (by assumption) (by assumption) hxv)
          | exact rd_yes hk hR hw hu (by rw [it_y hT hX hY]; exact py_yes (by assumption) (by assumption) hxv)
          | exact rd_yes hk hR hw hu (by rw [it_n hT hX hY]; exact if_pos (by assumption))⟩⟩, (by simp only; omega)⟩
      ·
       refine JO_gF rfl rfl rfl rfl ?_
       refine JO_q (QE_pickF rfl rfl) rfl ?_
       refine JO_q (QE_as rfl) rfl ?_
       refine JO_nil ?_
       refine thenQ_n ?_
       refine JC_seq ?_
       refine JC_region ?_
       refine JO_q (QE_mv rfl) rfl ?_
       refine JO_q (QE_cast (v' := .bool true) (QE_seq rfl rfl) (bT hX)) rfl ?_
       refine JO_nil ?_
       refine thenQ_n ?_
       refine JC_ifT rfl ?_
       refine JC_region ?_
       refine JO_q (QE_ldA 0 [_, _] rfl rfl rfl rfl rfl) rfl ?_
       refine JO_q (QE_faB rfl rfl rfl rfl) rfl ?_
       refine JO_st 1 [_, _, _, _, _, _] rfl rfl rfl rfl rfl rfl rfl rfl rfl ?_
       refine JO_nil ?_
       refine blockQ_n ?_
       refine thenQ_n ?_
       refine JC_seq ?_
       refine JC_region ?_
       refine JO_q (QE_mv rfl) rfl ?_
       refine JO_q (QE_notF rfl) rfl ?_
       refine JO_nil ?_
       refine thenQ_n ?_
       refine JC_ifT rfl ?_
       have hno := trivial
       refine JC_seq ?_
       refine JC_region ?_
       refine JO_q (QE_ldA 1 [_, _, _, _, _, _] rfl rfl rfl rfl rfl) rfl ?_
       refine JO_st 2 [_, _, _, _, _, _] rfl rfl rfl rfl rfl rfl rfl rfl rfl ?_
       refine JO_q (QE_as rfl) rfl ?_
       refine JO_nil ?_
       refine thenQ_n ?_
       refine JC_ret ?_
       refine blockQ_r ?_
       refine thenQ_r ?_
       refine thenQ_r ?_
       refine blockQ_r ?_
       refine thenQ_r ?_
       refine retQ_mk [_, _, _] L (.inr rfl) (.agg (us := [_, _, _, _, _, _]) 2 rfl rfl rfl rfl rfl (.tmp rfl (.nil))) rfl (Le.trans (Le.trans (Le.trans (Le.trans (Le.trans (Le.trans (Le.trans (Le.trans h1 h2) h3) h4) I6.1) h8) h9) h16) h17) (fun sR hS2 => ?_)
       refine ⟨rfl, ?_⟩
       first
         | exact ⟨ac0 k, by rw [rd_len hk hlen]; rfl, fun y hy => by rw [rd_len hk hlen] at hy; cases hy⟩
         | exact ⟨a, by rw [hR2]; rfl, fun y hy => by rw [hR2] at hy; injection hy⟩
         | (have hN : rdA k ws = none := rd_no hk hR hw hu (by rw [it_t hT]; first | exact pt_no1 (by assumption) | exact pt_no2 (by assumption) (by assumption))
            exact ⟨⟨a.kind, regN (if ends u (w.drop (trimDC w).length) = true then cutS u (w.drop (trimDC w).length) else u), a.x, a.y⟩, by rw [hN]; rfl, fun y hy => by rw [hN] at hy; cases hy⟩)
         | (have hN : rdA k ws = none := rd_no hk hR hw hu (by rw [it_x hT hX]; first | exact px_no1 (by assumption) | exact px_no2 (by assumption) (by assumption))
            exact ⟨⟨a.kind, a.tgt, xt, a.y⟩, by rw [hN]; rfl, fun y hy => by rw [hN] at hy; cases hy⟩)
         | (have hN : rdA k ws = none := rd_no hk hR hw hu (by rw [it_y hT hX hY]; first | exact py_no1 (by assumption) | exact py_no2 (by assumption) (by assumption))
            exact ⟨⟨a.kind, a.tgt, a.x, xt⟩, by rw [hN]; rfl, fun y hy => by rw [hN] at hy; cases hy⟩)
         | (have hN : rdA k ws = none := rd_no hk hR hw hu (by rw [it_n hT hX hY]; exact if_neg (by assumption))
            exact ⟨a, by rw [hN]; rfl, fun y hy => by rw [hN] at hy; cases hy⟩)
     ·
      exact absurd hX c15 --end
    ·
     have hX : ¬ trimDC w = [120] := c14
     refine JC_region ?_
     refine JO_q (QE_seq rfl rfl) rfl ?_
     refine JO_q (QE_as rfl) rfl ?_
     refine JO_nil ?_
     refine thenQ_n ?_
     refine JC_ifD rfl (fun c20 => ?_) (fun c20 => ?_)
     ·
      have hY : trimDC w = [121] := c20
      refine JC_seq ?_
      refine JC_region ?_
      refine JO_q (QE_mv rfl) rfl ?_
      refine JO_call (first := []) (captured := []) rfl rfl rfl (readTerm_ac D _ _ (hG.le (Le.trans (Le.trans (Le.trans (Le.trans (Le.trans (Le.trans h1 h2) h3) h4) I6.1) h8) h9)) _ (by omega)) ?_
      rintro _ _ s21 h21 ⟨rfl, xt, rfl, hxu, hxv⟩
      refine JO_q (QE_mv rfl) rfl ?_
      refine JO_q (QE_ext rfl rfl) rfl ?_
      refine JO_q (QE_ext rfl rfl) rfl ?_
      refine JO_allocZ rfl [_, _] rfl rfl ?_
      intro β22 s22 h22
      refine JO_st 0 [_, _] rfl rfl rfl rfl rfl rfl rfl rfl rfl ?_
      refine JO_q (QE_as rfl) rfl ?_
      refine JO_nil ?_
      refine thenQ_n ?_
      refine JC_seq ?_
      refine JC_region ?_
      refine JO_q (QE_mv rfl) rfl ?_
      refine JO_q (QE_mv rfl) rfl ?_
      refine JO_case (t := 75) rfl (fun c23 => ?_) (fun c23 => ?_)
      ·
       refine JO_gT rfl rfl ?_
       refine JO_q (QE_mv rfl) rfl ?_
       refine JO_q (QE_pickT rfl rfl) rfl ?_
       refine JO_q (QE_as rfl) rfl ?_
       refine JO_nil ?_
       refine thenQ_n ?_
       refine JC_seq ?_
       refine JC_region ?_
       refine JO_q (QE_mv rfl) rfl ?_
       refine JO_q (QE_cast (v' := .bool false) (QE_seq rfl rfl) (bZ hX)) rfl ?_
       refine JO_nil ?_
       refine thenQ_n ?_
       refine JC_ifF rfl ?_
       refine JC_region ?_
       refine JO_q (QE_ldA 0 [_, _] rfl rfl rfl rfl rfl) rfl ?_
       refine JO_q (QE_faB rfl rfl rfl rfl) rfl ?_
       refine JO_st 1 [_, _, _, _, _, _] rfl rfl rfl rfl rfl rfl rfl rfl rfl ?_
       refine JO_nil ?_
       refine blockQ_n ?_
       refine thenQ_n ?_
       refine JC_seq ?_
       refine JC_region ?_
       refine JO_q (QE_mv rfl) rfl ?_
       refine JO_q (QE_not rfl) rfl ?_
       refine JO_nil ?_
       refine thenQ_n ?_
       refine JC_ifM rfl (fun c24 => ?_) (fun c24 => ?_)
       ·
        have hno := c24
        refine JC_seq ?_
        refine JC_region ?_
        refine JO_q (QE_ldA 1 [_, _, _, _, _, _] rfl rfl rfl rfl rfl) rfl ?_
        refine JO_st 2 [_, _, _, _, _, _] rfl rfl rfl rfl rfl rfl rfl rfl rfl ?_
        refine JO_q (QE_as rfl) rfl ?_
        refine JO_nil ?_
        refine thenQ_n ?_
        refine JC_ret ?_
        refine blockQ_r ?_
        refine thenQ_r ?_
        refine thenQ_r ?_
        refine blockQ_r ?_
        refine thenQ_r ?_
        refine retQ_mk [_, _, _] L (.inr rfl) (.agg (us := [_, _, _, _, _, _]) 2 rfl rfl rfl rfl rfl (.tmp rfl (.nil))) rfl (Le.trans (Le.trans (Le.trans (Le.trans (Le.trans (Le.trans (Le.trans (Le.trans h1 h2) h3) h4) I6.1) h8) h9) h21) h22) (fun sR hS2 => ?_)
        refine ⟨rfl, ?_⟩
        first
          | exact ⟨ac0 k, by rw [rd_len hk hlen]; rfl, fun y hy => by rw [rd_len hk hlen] at hy; cases hy⟩
          | exact ⟨a, by rw [hR2]; rfl, fun y hy => by rw [hR2] at hy; injection hy⟩
          | (have hN : rdA k ws = none := rd_no hk hR hw hu (by rw [it_t hT]; first | exact pt_no1 (by assumption) | exact pt_no2 (by assumption) (by assumption))
             exact ⟨⟨a.kind, regN (if ends u (w.drop (trimDC w).length) = true then cutS u (w.drop (trimDC w).length) else u), a.x, a.y⟩, by rw [hN]; rfl, fun y hy => by rw [hN] at hy; cases hy⟩)
          | (have hN : rdA k ws = none := rd_no hk hR hw hu (by rw [it_x hT hX]; first | exact px_no1 (by assumption) | exact px_no2 (by assumption) (by assumption))
             exact ⟨⟨a.kind, a.tgt, xt, a.y⟩, by rw [hN]; rfl, fun y hy => by rw [hN] at hy; cases hy⟩)
          | (have hN : rdA k ws = none := rd_no hk hR hw hu (by rw [it_y hT hX hY]; first | exact py_no1 (by assumption) | exact py_no2 (by assumption) (by assumption))
             exact ⟨⟨a.kind, a.tgt, a.x, xt⟩, by rw [hN]; rfl, fun y hy => by rw [hN] at hy; cases hy⟩)
          | (have hN : rdA k ws = none := rd_no hk hR hw hu (by rw [it_n hT hX hY]; exact if_neg (by assumption))
             exact ⟨a, by rw [hN]; rfl, fun y hy => by rw [hN] at hy; cases hy⟩)
       ·
        have hyes := c24
        refine JC_skip ?_
        refine blockQ_n ?_
        refine thenQ_n ?_
        refine JC_region ?_
        refine JO_q (QE_add' rfl rfl (w64 (by omega) (by omega))) rfl ?_
        refine JO_q (QE_mv rfl) rfl ?_
        refine JO_nil ?_
        refine thenQ_n ⟨(j + 1, ⟨a.kind, a.tgt, a.x, xt⟩), [_], (Keeps.cons rfl (Keeps.cons rfl (Keeps.cons rfl (Keeps.cons rfl (Keeps.cons rfl (Keeps.cons rfl (Keeps.cons rfl (Keeps.nil _)))))))), rfl, ⟨(Le.trans (Le.trans (Le.trans (Le.trans I6.1 h8) h9) h21) h22), ⟨by simp only; omega, by
          first
          | exact rd_yes hk hR hw hu (by rw [it_t hT]; exact pt_yes (by assumption) (by assumption))
          | exact rd_yes hk hR hw hu (by rw [it_x hT hX]; exact px_yes (by assumption) (by assumption) hxv)
          | exact rd_yes hk hR hw hu (by rw [it_y hT hX hY]; exact py_yes (by assumption) (by assumption) hxv)
          | exact rd_yes hk hR hw hu (by rw [it_n hT hX hY]; exact if_pos (by assumption))⟩⟩, (by simp only; omega)⟩
      ·
       refine JO_gF rfl rfl rfl rfl ?_
       refine JO_q (QE_pickF rfl rfl) rfl ?_
       refine JO_q (QE_as rfl) rfl ?_
       refine JO_nil ?_
       refine thenQ_n ?_
       refine JC_seq ?_
       refine JC_region ?_
       refine JO_q (QE_mv rfl) rfl ?_
       refine JO_q (QE_cast (v' := .bool false) (QE_seq rfl rfl) (bZ hX)) rfl ?_
       refine JO_nil ?_
       refine thenQ_n ?_
       refine JC_ifF rfl ?_
       refine JC_region ?_
       refine JO_q (QE_ldA 0 [_, _] rfl rfl rfl rfl rfl) rfl ?_
       refine JO_q (QE_faB rfl rfl rfl rfl) rfl ?_
       refine JO_st 1 [_, _, _, _, _, _] rfl rfl rfl rfl rfl rfl rfl rfl rfl ?_
       refine JO_nil ?_
       refine blockQ_n ?_
       refine thenQ_n ?_
       refine JC_seq ?_
       refine JC_region ?_
       refine JO_q (QE_mv rfl) rfl ?_
       refine JO_q (QE_notF rfl) rfl ?_
       refine JO_nil ?_
       refine thenQ_n ?_
       refine JC_ifT rfl ?_
       have hno := trivial
       refine JC_seq ?_
       refine JC_region ?_
       refine JO_q (QE_ldA 1 [_, _, _, _, _, _] rfl rfl rfl rfl rfl) rfl ?_
       refine JO_st 2 [_, _, _, _, _, _] rfl rfl rfl rfl rfl rfl rfl rfl rfl ?_
       refine JO_q (QE_as rfl) rfl ?_
       refine JO_nil ?_
       refine thenQ_n ?_
       refine JC_ret ?_
       refine blockQ_r ?_
       refine thenQ_r ?_
       refine thenQ_r ?_
       refine blockQ_r ?_
       refine thenQ_r ?_
       refine retQ_mk [_, _, _] L (.inr rfl) (.agg (us := [_, _, _, _, _, _]) 2 rfl rfl rfl rfl rfl (.tmp rfl (.nil))) rfl (Le.trans (Le.trans (Le.trans (Le.trans (Le.trans (Le.trans (Le.trans (Le.trans h1 h2) h3) h4) I6.1) h8) h9) h21) h22) (fun sR hS2 => ?_)
       refine ⟨rfl, ?_⟩
       first
         | exact ⟨ac0 k, by rw [rd_len hk hlen]; rfl, fun y hy => by rw [rd_len hk hlen] at hy; cases hy⟩
         | exact ⟨a, by rw [hR2]; rfl, fun y hy => by rw [hR2] at hy; injection hy⟩
         | (have hN : rdA k ws = none := rd_no hk hR hw hu (by rw [it_t hT]; first | exact pt_no1 (by assumption) | exact pt_no2 (by assumption) (by assumption))
            exact ⟨⟨a.kind, regN (if ends u (w.drop (trimDC w).length) = true then cutS u (w.drop (trimDC w).length) else u), a.x, a.y⟩, by rw [hN]; rfl, fun y hy => by rw [hN] at hy; cases hy⟩)
         | (have hN : rdA k ws = none := rd_no hk hR hw hu (by rw [it_x hT hX]; first | exact px_no1 (by assumption) | exact px_no2 (by assumption) (by assumption))
            exact ⟨⟨a.kind, a.tgt, xt, a.y⟩, by rw [hN]; rfl, fun y hy => by rw [hN] at hy; cases hy⟩)
         | (have hN : rdA k ws = none := rd_no hk hR hw hu (by rw [it_y hT hX hY]; first | exact py_no1 (by assumption) | exact py_no2 (by assumption) (by assumption))
            exact ⟨⟨a.kind, a.tgt, a.x, xt⟩, by rw [hN]; rfl, fun y hy => by rw [hN] at hy; cases hy⟩)
         | (have hN : rdA k ws = none := rd_no hk hR hw hu (by rw [it_n hT hX hY]; exact if_neg (by assumption))
            exact ⟨a, by rw [hN]; rfl, fun y hy => by rw [hN] at hy; cases hy⟩)
     ·
      have hY : ¬ trimDC w = [121] := c20
      refine JC_region ?_
      refine JO_q (QE_mv rfl) rfl ?_
      refine JO_q (QE_mv rfl) rfl ?_
      refine JO_q (QE_ia1 rfl rfl rfl rfl rfl rfl (show j < n by omega)) rfl ?_
      refine JO_q (QE_ldsR0 rfl rfl rfl (hcu.le (Le.trans h8 h9)) rfl) rfl ?_
      refine JO_q (QE_mv rfl) rfl ?_
      refine JO_q (QE_seq rfl rfl) rfl ?_
      refine JO_q (QE_as rfl) rfl ?_
      refine JO_nil ?_
      refine blockQ_n ?_
      refine thenQ_n ?_
      refine JC_seq ?_
      refine JC_region ?_
      refine JO_q (QE_mv rfl) rfl ?_
      refine JO_q (QE_not rfl) rfl ?_
      refine JO_nil ?_
      refine thenQ_n ?_
      refine JC_ifN rfl (fun c25 => ?_) (fun c25 => ?_)
      ·
       have hno := c25
       refine JC_seq ?_
       refine JC_region ?_
       refine JO_q (QE_ldA 0 [_, _, _, _, _, _] rfl rfl rfl rfl rfl) rfl ?_
       refine JO_st 1 [_, _, _, _, _, _] rfl rfl rfl rfl rfl rfl rfl rfl rfl ?_
       refine JO_q (QE_as rfl) rfl ?_
       refine JO_nil ?_
       refine thenQ_n ?_
       refine JC_ret ?_
       refine blockQ_r ?_
       refine thenQ_r ?_
       refine thenQ_r ?_
       refine blockQ_r ?_
       refine thenQ_r ?_
       refine retQ_mk [_, _] L (.inr rfl) (.agg (us := [_, _, _, _, _, _]) 1 rfl rfl rfl rfl rfl (.tmp rfl (.nil))) rfl (Le.trans (Le.trans (Le.trans (Le.trans (Le.trans (Le.trans h1 h2) h3) h4) I6.1) h8) h9) (fun sR hS2 => ?_)
       refine ⟨rfl, ?_⟩
       first
         | exact ⟨ac0 k, by rw [rd_len hk hlen]; rfl, fun y hy => by rw [rd_len hk hlen] at hy; cases hy⟩
         | exact ⟨a, by rw [hR2]; rfl, fun y hy => by rw [hR2] at hy; injection hy⟩
         | (have hN : rdA k ws = none := rd_no hk hR hw hu (by rw [it_t hT]; first | exact pt_no1 (by assumption) | exact pt_no2 (by assumption) (by assumption))
            exact ⟨⟨a.kind, regN (if ends u (w.drop (trimDC w).length) = true then cutS u (w.drop (trimDC w).length) else u), a.x, a.y⟩, by rw [hN]; rfl, fun y hy => by rw [hN] at hy; cases hy⟩)
         | (have hN : rdA k ws = none := rd_no hk hR hw hu (by rw [it_x hT hX]; first | exact px_no1 (by assumption) | exact px_no2 (by assumption) (by assumption))
            exact ⟨⟨a.kind, a.tgt, xt, a.y⟩, by rw [hN]; rfl, fun y hy => by rw [hN] at hy; cases hy⟩)
         | (have hN : rdA k ws = none := rd_no hk hR hw hu (by rw [it_y hT hX hY]; first | exact py_no1 (by assumption) | exact py_no2 (by assumption) (by assumption))
            exact ⟨⟨a.kind, a.tgt, a.x, xt⟩, by rw [hN]; rfl, fun y hy => by rw [hN] at hy; cases hy⟩)
         | (have hN : rdA k ws = none := rd_no hk hR hw hu (by rw [it_n hT hX hY]; exact if_neg (by assumption))
            exact ⟨a, by rw [hN]; rfl, fun y hy => by rw [hN] at hy; cases hy⟩)
      ·
       have hyes := c25
       refine JC_skip ?_
       refine blockQ_n ?_
       refine thenQ_n ?_
       refine JC_region ?_
       refine JO_q (QE_add' rfl rfl (w64 (by omega) (by omega))) rfl ?_
       refine JO_q (QE_mv rfl) rfl ?_
       refine JO_nil ?_
       refine thenQ_n ⟨(j + 1, a), [], (Keeps.cons rfl (Keeps.cons rfl (Keeps.cons rfl (Keeps.cons rfl (Keeps.cons rfl (Keeps.cons rfl (Keeps.cons rfl (Keeps.nil _)))))))), rfl, ⟨(Le.trans (Le.trans I6.1 h8) h9), ⟨by simp only; omega, by
         first
         | exact rd_yes hk hR hw hu (by rw [it_t hT]; exact pt_yes (by assumption) (by assumption))
         | exact rd_yes hk hR hw hu (by rw [it_x hT hX]; exact px_yes (by assumption) (by assumption) hxv)
         | exact rd_yes hk hR hw hu (by rw [it_y hT hX hY]; exact py_yes (by assumption) (by assumption) hxv)
         | exact rd_yes hk hR hw hu (by rw [it_n hT hX hY]; exact if_pos (by assumption))⟩⟩, (by simp only; omega)⟩
  ·
   have hR2 := rd_end hk hR (by omega) hlen
   refine JC_exit ?_
   refine thenQ_x ?_
   refine thenQ_x ?_
   refine blockQ_x ?_
   refine thenQ_n ?_
   refine JC_seq ?_
   refine JC_region ?_
   refine JO_q (QE_ldA 0 [_, _, _, _, _, _] rfl rfl rfl rfl rfl) rfl ?_
   refine JO_st 1 [_, _, _, _, _, _] rfl rfl rfl rfl rfl rfl rfl rfl rfl ?_
   refine JO_q (QE_as rfl) rfl ?_
   refine JO_nil ?_
   refine thenQ_n ?_
   refine JC_ret ?_
   refine retQ_mk [_, _] L (.inr rfl) (.agg (us := [_, _, _, _, _, _]) 1 rfl rfl rfl rfl rfl (.tmp rfl (.nil))) rfl (Le.trans (Le.trans (Le.trans (Le.trans h1 h2) h3) h4) I6.1) (fun sR hS2 => ?_)
   refine ⟨rfl, ?_⟩
   first
     | exact ⟨ac0 k, by rw [rd_len hk hlen]; rfl, fun y hy => by rw [rd_len hk hlen] at hy; cases hy⟩
     | exact ⟨a, by rw [hR2]; rfl, fun y hy => by rw [hR2] at hy; injection hy⟩
     | (have hN : rdA k ws = none := rd_no hk hR hw hu (by rw [it_t hT]; first | exact pt_no1 (by assumption) | exact pt_no2 (by assumption) (by assumption))
        exact ⟨⟨a.kind, regN (if ends u (w.drop (trimDC w).length) = true then cutS u (w.drop (trimDC w).length) else u), a.x, a.y⟩, by rw [hN]; rfl, fun y hy => by rw [hN] at hy; cases hy⟩)
     | (have hN : rdA k ws = none := rd_no hk hR hw hu (by rw [it_x hT hX]; first | exact px_no1 (by assumption) | exact px_no2 (by assumption) (by assumption))
        exact ⟨⟨a.kind, a.tgt, xt, a.y⟩, by rw [hN]; rfl, fun y hy => by rw [hN] at hy; cases hy⟩)
     | (have hN : rdA k ws = none := rd_no hk hR hw hu (by rw [it_y hT hX hY]; first | exact py_no1 (by assumption) | exact py_no2 (by assumption) (by assumption))
        exact ⟨⟨a.kind, a.tgt, a.x, xt⟩, by rw [hN]; rfl, fun y hy => by rw [hN] at hy; cases hy⟩)
     | (have hN : rdA k ws = none := rd_no hk hR hw hu (by rw [it_n hT hX hY]; exact if_neg (by assumption))
        exact ⟨a, by rw [hN]; rfl, fun y hy => by rw [hN] at hy; cases hy⟩)
end Go.Proofs.YtoeeblegplghmaaGreatDoor
namespace Go.Proofs.YtoeeblegplghmaaGreatDoor
open Go.FL
attribute [local irreducible] JC JO JA JB thenQ blockQ retQ AC fill CellsAt QE Ev Mid
theorem idxP_lt {p : List UInt8 → Bool} {l : List (List UInt8)} : ∀ k : Nat, idxOf p l k = -1 ∧ (∀ (j : Nat) (x : List UInt8), l[j]? = some x → p x = false) ∨ ∃ i : Nat, idxOf p l k = ((k + i : Nat) : Int) ∧ (∃ w, l[i]? = some w ∧ p w = true) ∧ ∀ (j : Nat) (x : List UInt8), j < i → l[j]? = some x → p x = false := by
  induction l with
  | nil => intro k; exact .inl ⟨rfl, fun j x h => by cases h⟩
  | cons y l ih =>
    intro k
    by_cases hy : p y = true
    · refine .inr ⟨0, by simp [idxOf, hy], ⟨y, by simp, hy⟩, fun j x hj => by omega⟩
    · rcases ih (k + 1) with ⟨h1, h2⟩ | ⟨i, h1, h2, h3⟩
      · refine .inl ⟨by simp [idxOf, hy, h1], fun j x hx => ?_⟩
        cases j with
        | zero => simp at hx; subst hx; simpa using hy
        | succ j => exact h2 j x (by simpa using hx)
      · refine .inr ⟨i + 1, by rw [idxOf, if_neg hy, h1]; congr 1; omega, by simpa using h2, fun j x hj hx => ?_⟩
        cases j with
        | zero => simp at hx; subst hx; simpa using hy
        | succ j => exact h3 j x (by omega) (by simpa using hx)
theorem next_sent {rs : List (List UInt8)} (hne : 0 < rs.length) : ∃ nn : Nat, idxOf dotB rs 0 + 1 = (nn : Int) ∧ nn ≤ rs.length ∧ (rdAny (rs.take nn) = none → sn [] rs = none) ∧ (∀ a, rdAny (rs.take nn) = some a → 0 < nn ∧ sn [] rs = (sn [] (rs.drop nn)).map (a :: ·)) := by
  rcases idxP_lt (p := dotB) (l := rs) 0 with ⟨h1, h2⟩ | ⟨i, h1, ⟨w, h2, h2d⟩, h3⟩
  · refine ⟨0, by rw [h1]; rfl, Nat.zero_le _, fun _ => ?_, fun a ha => ?_⟩
    · rw [sn_none rs [] (fun w hw => by obtain ⟨j, hj⟩ := List.getElem?_of_mem hw; exact h2 j w hj), List.nil_append, if_neg (fun e => by rw [e] at hne; cases hne)]
    · rw [List.take_zero, rdA_nil] at ha; cases ha
  · have hi := (List.getElem?_eq_some_iff.1 h2).1
    have hs := sn_at h2 h2d h3
    refine ⟨i + 1, by rw [h1]; omega, by omega, fun h => by rw [hs, h]; rfl, fun a ha => ⟨by omega, by rw [hs, ha]; rfl⟩⟩
theorem rdF_skip {wd : List (List UInt8)} : ∀ k, k ≤ 20 → (∀ j, j < k → rdA j wd = none) → rdAny wd = rdF (20 - k) wd := by
  intro k
  induction k with
  | zero => intro _ _; rfl
  | succ k ih =>
    intro h1 h2
    rw [ih (by omega) fun j hj => h2 j (by omega), show 20 - k = (20 - (k + 1)) + 1 by omega, rdF, show 20 - (20 - (k + 1) + 1) = k by omega, h2 k (by omega)]
theorem rd_first {wd : List (List UInt8)} {k : Nat} {a : Ac} (hk : k < 20) (h : ∀ j, j < k → rdA j wd = none) (ha : rdA k wd = some a) : rdAny wd = some a := by
  rw [rdF_skip k (by omega) h, show 20 - k = (20 - (k + 1)) + 1 by omega, rdF, show 20 - (20 - (k + 1) + 1) = k by omega, ha]
theorem rd_all {wd : List (List UInt8)} (h : ∀ j, j < 20 → rdA j wd = none) : rdAny wd = none := by rw [rdF_skip 20 (Nat.le_refl _) h]; rfl
theorem acs_nil (s : World) : Acs s none 0 0 [] := ⟨rfl, Nat.le_refl _, by omega, fun i x h => by cases h⟩
theorem okT_app (a b : List UInt8) : okT (a ++ b) = (okT a && okT b) := by simp [okT]
theorem join_okT : ∀ {ws : List (List UInt8)}, okT (joinW ws) = true → ∀ w ∈ ws, okT w = true
  | [], _, w, hw => by cases hw
  | [x], h, w, hw => by
    simp only [List.mem_singleton] at hw; subst hw; exact h
  | x :: y :: r, h, w, hw => by
    have e : joinW (x :: y :: r) = x ++ 32 :: joinW (y :: r) := rfl
    rw [e, okT_app, Bool.and_eq_true] at h
    rcases List.mem_cons.1 hw with rfl | hw
    · exact h.1
    · refine join_okT (ws := y :: r) ?_ w hw
      have h2 := h.2
      rw [okT, List.all_cons, Bool.and_eq_true] at h2
      exact h2.2
theorem head_gen {c : Int} {nm : List UInt8} {o : Bool} (h1 : bare1 nm) (h2 : okT nm = true) : ∀ w ∈ headW c nm o, bare1 w ∧ okT w = true := by
  intro w hw
  simp only [headW, List.mem_cons, List.not_mem_nil, or_false] at hw
  have hd := dec_okW c
  rcases hw with rfl | rfl | rfl | rfl | rfl | rfl | rfl | rfl | rfl
  · decide
  · exact ⟨hd.1, hd.2.1⟩
  · decide
  · decide
  · exact ⟨h1, h2⟩
  · decide
  · decide
  · cases o <;> decide
  · decide
theorem head_size {c : Int} {nm : List UInt8} {o : Bool} (hc : c < 4294967296) : sizeW (headW c nm o) ≤ nm.length + 100 := by
  have := dec_len10 hc
  have h2 : (if o = true then anB else [110, 111]).length = 2 := by cases o <;> rfl
  simp only [headW, sizeW_cons, sizeW_nil, h2, List.length_cons, List.length_nil]; omega
section
variable {ws : List (List UInt8)} {w1 w4 w7 : List UInt8} (h9 : ¬ ws.length < 9) (h1 : ws[1]? = some w1) (h4 : ws[4]? = some w4) (h7 : ws[7]? = some w7)
include h9 h1 h4 h7
theorem rdIns_eq : rdIns ws = match numL w1 with
  | none => none
  | some n => if ws.take 9 = headW n w4 (decide (w7 = anB)) then (sn [] (ws.drop 9)).map fun l => ⟨w4, n, decide (w7 = anB), l⟩ else none := by
  unfold rdIns
  rw [if_neg h9]
  simp only [List.getD_eq_getElem?_getD, h1, h4, h7, Option.getD_some]
  cases numL w1 <;> rfl
theorem rdIns_no1 (h : (numL w1).isSome = false) : rdIns ws = none := by
  rw [rdIns_eq h9 h1 h4 h7, show numL w1 = none by simpa using h]
theorem rdIns_no2 {kn : Int} (h : (numL w1).isSome = true) (hk : ∀ u : Nat, numL w1 = some u → kn = (u : Int)) (hh : ¬ ws.take 9 = headW kn w4 (decide (w7 = [97, 110]))) : rdIns ws = none := by
  obtain ⟨u, hu⟩ := Option.isSome_iff_exists.1 h
  rw [hk u hu] at hh
  rw [rdIns_eq h9 h1 h4 h7, hu]
  exact if_neg hh
theorem rdIns_mid {kn : Int} (h : (numL w1).isSome = true) (hk : ∀ u : Nat, numL w1 = some u → kn = (u : Int)) (hh : ws.take 9 = headW kn w4 (decide (w7 = [97, 110]))) : rdIns ws = (sn [] (ws.drop 9)).map fun l => ⟨w4, kn, decide (w7 = [97, 110]), l⟩ := by
  obtain ⟨u, hu⟩ := Option.isSome_iff_exists.1 h
  have e := hk u hu
  subst e
  rw [rdIns_eq h9 h1 h4 h7, hu]
  exact if_pos hh
end
set_option maxHeartbeats 4000000 in
set_option maxRecDepth 100000 in
theorem readInsO_ac (D : Nat) (L : Hl) (s : World) (hG : GP s) (A : Option Addr) (n c : Nat) (ws : List (List UInt8)) (hS : Strs s A n c ws) (hz : sizeW ws ≤ 1000000) (hok : okT (joinW ws) = true) (hb : ∀ w ∈ ws, bare1 w) : AC Tryz.prog D 38 [.slice A n c] L s fun v L' s' => ∃ M', L' = M' ++ L ∧ ∀ s2, Le D s' s2 → Pub M' s2 → ∃ (x : Ins) (Ai : Option Addr) (ni ci : Nat), v = .tuple #[.agg #[St x.name, .int .u32 x.code, .bool x.operand, .slice Ai ni ci], .bool (rdIns ws).isSome] ∧ Acs s2 Ai ni ci x.acts ∧ x.name.length ≤ 1000000 ∧ U32 x.code ∧ ∀ y, rdIns ws = some y → x = y := by
 have hn := hS.1
 have hc1 := hS.2.1
 have hc2 := hS.2.2.1
 have hsl := size_len ws
 refine AC_enter (TT := TT) (fn := Tryz.f38) TT_ok Tryz.func38 (by kernel_rfl) rfl Tryz.ntmps38 rfl (rs := [.cell 2 63, .tmp 3]) rfl [(0, _)] rfl ?_
 refine JC_seq ?_
 refine JC_region ?_
 refine JO_allocZ rfl [_, _, _, _] rfl rfl ?_
 intro β1 s1 h1
 refine JO_q (QE_as rfl) rfl ?_
 refine JO_nil ?_
 refine thenQ_n ?_
 refine JC_seq ?_
 refine JC_seq ?_
 refine JC_region ?_
 refine JO_q (QE_mv rfl) rfl ?_
 refine JO_q (QE_lenS rfl rfl rfl) rfl ?_
 refine JO_q (QE_lt rfl rfl) rfl ?_
 refine JO_nil ?_
 refine thenQ_n ?_
 refine JC_ifD rfl (fun c2 => ?_) (fun c2 => ?_)
 ·
  have hN9 : ws.length < 9 := by omega
  have hR0 : rdIns ws = none := if_pos hN9
  refine JC_seq ?_
  refine JC_region ?_
  refine JO_q (QE_build [] [_, _, _, _] rfl rfl rfl rfl rfl rfl) rfl ?_
  refine JO_st 0 [_, _, _, _] rfl rfl rfl rfl rfl rfl rfl rfl rfl ?_
  refine JO_q (QE_as rfl) rfl ?_
  refine JO_nil ?_
  refine thenQ_n ?_
  refine JC_ret ?_
  refine thenQ_r ?_
  refine retQ_mk [_] _ (.inr rfl) (.agg (us := [_, _, _, _]) 0 rfl rfl rfl rfl rfl (.tmp rfl (.nil))) rfl h1 (fun sR hS2 => ?_)
  first
    | exact ⟨[], rfl, fun s2 hs2 hp => ⟨⟨[], 0, false, []⟩, none, 0, 0, by rw [hR0]; rfl, acs_nil _, by decide, ⟨by decide, by decide⟩, fun y hy => by rw [hR0] at hy; cases hy⟩⟩
    | exact ⟨Mo, rfl, fun s2 hs2 hp => ⟨⟨[], 0, false, []⟩, none, 0, 0, by rw [hR0]; rfl, acs_nil _, by decide, ⟨by decide, by decide⟩, fun y hy => by rw [hR0] at hy; cases hy⟩⟩
    | exact ⟨Mo, rfl, fun s2 hs2 hp => ⟨⟨w4, kn, decide (w7 = [97, 110]), acc⟩, Ao, acc.length, co, by rw [hfin]; rfl, Own.acs hO (fun a ha => ⟨(hacc a ha).2.1.2.1.u32, (hacc a ha).2.1.2.2.u32⟩) hp rfl, by simp only; omega, hku, fun y hy => by rw [hfin] at hy; injection hy⟩⟩
 ·
  have hN9 : ¬ ws.length < 9 := by omega
  obtain ⟨b1, off1, w1, hE1, hw1, hcw1, _⟩ := Strs.at_ (hS.le h1) (show 1 < n by omega)
  subst hE1
  obtain ⟨b4, off4, w4, hE4, hw4, hcw4, _⟩ := Strs.at_ (hS.le h1) (show 4 < n by omega)
  cases hE4
  obtain ⟨b7, off7, w7, hE7, hw7, hcw7, _⟩ := Strs.at_ (hS.le h1) (show 7 < n by omega)
  cases hE7
  have hl1 := mem_size (List.mem_of_getElem? hw1)
  have hl4 := mem_size (List.mem_of_getElem? hw4)
  have hS9 := Strs.take hS (show 9 ≤ n by omega)
  refine JC_skip ?_
  refine thenQ_n ?_
  refine JC_seq ?_
  refine JC_region ?_
  refine JO_q (QE_mv rfl) rfl ?_
  refine JO_q (QE_ia1 rfl rfl rfl rfl rfl rfl (show 1 < n by omega)) rfl ?_
  refine JO_q (QE_ldsR0 rfl rfl rfl (hcw1.le (Le.refl (D := D) _)) rfl) rfl ?_
  refine JO_call (first := []) (captured := []) rfl rfl rfl (readNum_ac D _ _ (hG.gw.le h1) w1 (by omega)) ?_
  rintro _ _ s3 h3 ⟨rfl, kn, rfl, hku, hkv⟩
  refine JO_q (QE_mv rfl) rfl ?_
  refine JO_q (QE_ext rfl rfl) rfl ?_
  refine JO_q (QE_ext rfl rfl) rfl ?_
  refine JO_q (QE_as rfl) rfl ?_
  refine JO_q (QE_as rfl) rfl ?_
  refine JO_nil ?_
  refine thenQ_n ?_
  refine JC_seq ?_
  refine JC_draw drawsMixed 11 rfl _ (fun _ h => h) ?_
  intro s4 h4
  refine JA_q 0 rfl (by kernel_rfl) (by kernel_rfl) (by kernel_rfl) trivial (QE_mv rfl) rfl ?_
  refine JA_q 1 rfl (by kernel_rfl) (by kernel_rfl) (by kernel_rfl) trivial (QE_ia1 rfl rfl rfl rfl rfl rfl (show 4 < n by omega)) rfl ?_
  refine JA_q 2 rfl (by kernel_rfl) (by kernel_rfl) (by kernel_rfl) trivial (QE_ldsR0 rfl rfl rfl (hcw4.le (Le.trans h3 h4)) rfl) rfl ?_
  refine JA_q 3 rfl (by kernel_rfl) (by kernel_rfl) (by kernel_rfl) trivial (QE_mv rfl) rfl ?_
  refine JA_q 4 rfl (by kernel_rfl) (by kernel_rfl) (by kernel_rfl) trivial (QE_mv rfl) rfl ?_
  refine JA_q 5 rfl (by kernel_rfl) (by kernel_rfl) (by kernel_rfl) trivial (QE_ia1 rfl rfl rfl rfl rfl rfl (show 7 < n by omega)) rfl ?_
  refine JA_q 6 rfl (by kernel_rfl) (by kernel_rfl) (by kernel_rfl) trivial (QE_ldsR0 rfl rfl rfl (hcw7.le (Le.trans h3 h4)) rfl) rfl ?_
  refine JA_q 7 rfl (by kernel_rfl) (by kernel_rfl) (by kernel_rfl) trivial (QE_seq rfl rfl) rfl ?_
  refine JA_q 8 rfl (by kernel_rfl) (by kernel_rfl) (by kernel_rfl) trivial (QE_build [(_, _), (_, _), (_, _)] [_, _, _, _] rfl rfl rfl rfl rfl rfl) rfl ?_
  refine JA_1 9 (by kernel_rfl) ?_
  refine JB_alloc rfl trivial rfl [_, _, _, _] rfl rfl ?_
  intro β5 s5 h5
  refine JA_1 10 (by kernel_rfl) ?_
  refine JB_st rfl trivial 0 [_, _, _, _] rfl rfl rfl rfl rfl rfl rfl rfl rfl (fun _ hx => sub_mem (sbY (sbE _)) hx) ?_
  refine JA_done (by kernel_rfl) ?_
  refine thenQ_n ?_
  refine JC_seq ?_
  refine JC_seq ?_
  refine JC_draw drawsMixed 11 rfl _ (fun _ h => h) ?_
  intro s6 h6
  refine JA_q 0 rfl (by kernel_rfl) (by kernel_rfl) (by kernel_rfl) trivial (QE_mv rfl) rfl ?_
  refine JA_q 1 rfl (by kernel_rfl) (by kernel_rfl) (by kernel_rfl) trivial (QE_not rfl) rfl ?_
  refine JA_q 2 rfl (by kernel_rfl) (by kernel_rfl) (by kernel_rfl) trivial (QE_mv rfl) rfl ?_
  refine JA_caseM (t := 35) rfl (fun c7 => ?_) (fun c7 => ?_)
  ·
   refine JA_no 3 rfl (by kernel_rfl) (by kernel_rfl) (by kernel_rfl) rfl rfl rfl rfl ?_
   refine JA_no 4 rfl (by kernel_rfl) (by kernel_rfl) (by kernel_rfl) rfl rfl rfl rfl ?_
   refine JA_no 5 rfl (by kernel_rfl) (by kernel_rfl) (by kernel_rfl) rfl rfl rfl rfl ?_
   refine JA_no 6 rfl (by kernel_rfl) (by kernel_rfl) (by kernel_rfl) rfl rfl rfl rfl ?_
   refine JA_no 7 rfl (by kernel_rfl) (by kernel_rfl) (by kernel_rfl) rfl rfl rfl rfl ?_
   refine JA_no 8 rfl (by kernel_rfl) (by kernel_rfl) (by kernel_rfl) rfl rfl rfl rfl ?_
   refine JA_no 9 rfl (by kernel_rfl) (by kernel_rfl) (by kernel_rfl) rfl rfl rfl rfl ?_
   refine JA_q 10 rfl (by kernel_rfl) (by kernel_rfl) (by kernel_rfl) trivial (QE_pickT rfl rfl) rfl ?_
   refine JA_done (by kernel_rfl) ?_
   refine thenQ_n ?_
   refine JC_ifT rfl ?_
   have hR0 : rdIns ws = none := by
     first
     | exact rdIns_no1 hN9 hw1 hw4 hw7 (by assumption)
     | exact rdIns_no2 hN9 hw1 hw4 hw7 (by assumption) hkv (by assumption)
   refine JC_seq ?_
   refine JC_region ?_
   refine JO_q (QE_build [] [_, _, _, _] rfl rfl rfl rfl rfl rfl) rfl ?_
   refine JO_st 1 [_, _, _, _] rfl rfl rfl rfl rfl rfl rfl rfl rfl ?_
   refine JO_q (QE_as rfl) rfl ?_
   refine JO_nil ?_
   refine thenQ_n ?_
   refine JC_ret ?_
   refine thenQ_r ?_
   refine retQ_mk [_, _] _ (.inr rfl) (.agg (us := [_, _, _, _]) 1 rfl rfl rfl rfl rfl (.tmp rfl (.nil))) rfl (Le.trans (Le.trans (Le.trans (Le.trans h1 h3) h4) h5) h6) (fun sR hS2 => ?_)
   first
     | exact ⟨[], rfl, fun s2 hs2 hp => ⟨⟨[], 0, false, []⟩, none, 0, 0, by rw [hR0]; rfl, acs_nil _, by decide, ⟨by decide, by decide⟩, fun y hy => by rw [hR0] at hy; cases hy⟩⟩
     | exact ⟨Mo, rfl, fun s2 hs2 hp => ⟨⟨[], 0, false, []⟩, none, 0, 0, by rw [hR0]; rfl, acs_nil _, by decide, ⟨by decide, by decide⟩, fun y hy => by rw [hR0] at hy; cases hy⟩⟩
     | exact ⟨Mo, rfl, fun s2 hs2 hp => ⟨⟨w4, kn, decide (w7 = [97, 110]), acc⟩, Ao, acc.length, co, by rw [hfin]; rfl, Own.acs hO (fun a ha => ⟨(hacc a ha).2.1.2.1.u32, (hacc a ha).2.1.2.2.u32⟩) hp rfl, by simp only; omega, hku, fun y hy => by rw [hfin] at hy; injection hy⟩⟩
  ·
   refine JA_q 3 rfl (by kernel_rfl) (by kernel_rfl) (by kernel_rfl) ⟨_, rfl, rfl⟩ (QE_mv rfl) rfl ?_
   refine JA_q 4 rfl (by kernel_rfl) (by kernel_rfl) (by kernel_rfl) ⟨_, rfl, rfl⟩ (QE_slH rfl rfl rfl rfl rfl (show (9 : Nat) ≤ c by omega)) rfl ?_
   refine JA_q 5 rfl (by kernel_rfl) (by kernel_rfl) (by kernel_rfl) ⟨_, rfl, rfl⟩ (QE_ldA 0 [_, _, _, _] rfl rfl rfl rfl rfl) rfl ?_
   have hgen := head_gen (c := kn) (o := decide (w7 = [97, 110])) (hb w4 (List.mem_of_getElem? hw4)) (join_okT hok w4 (List.mem_of_getElem? hw4))
   refine JA_1 6 (by kernel_rfl) ?_
   refine JB_call rfl ⟨_, rfl, rfl⟩ (first := []) (captured := []) rfl rfl rfl (begin_ac D _ _ (hG.le (Le.trans (Le.trans (Le.trans (Le.trans h1 h3) h4) h5) h6)) ⟨w4, kn, decide (w7 = [97, 110]), []⟩ none 0 0 hku (by simp only; omega)) ?_
   rintro _ _ s8 h8 ⟨rfl, rfl⟩
   refine ⟨fun _ _ h => h, ?_⟩
   refine JA_1 7 (by kernel_rfl) ?_
   refine JB_call rfl ⟨_, rfl, rfl⟩ (first := []) (captured := []) rfl rfl rfl (fieldsS_ac D _ _ (hG.le (Le.trans (Le.trans (Le.trans (Le.trans (Le.trans h1 h3) h4) h5) h6) h8)) (joinW (headW kn w4 (decide (w7 = [97, 110])))) (by have h1 := join_len (headW kn w4 (decide (w7 = [97, 110]))); have h2 := head_size (nm := w4) (o := decide (w7 = [97, 110])) hku.2; omega) (join_ok fun w hw => (hgen w hw).2)) ?_
   rintro _ _ s9 h9 ⟨rfl, A1, n1, c1, rfl, hF⟩
   refine ⟨fun _ _ h => h, ?_⟩
   rw [flds_join _ (fun w hw => (hgen w hw).1)] at hF
   refine JA_1 8 (by kernel_rfl) ?_
   refine JB_call rfl ⟨_, rfl, rfl⟩ (first := []) (captured := []) rfl rfl rfl (sequal_ac D _ _ _ _ _ (ws.take 9) (hS9.le (Le.trans (Le.trans (Le.trans (Le.trans (Le.trans (Le.trans h1 h3) h4) h5) h6) h8) h9)) _ _ _ (headW kn w4 (decide (w7 = [97, 110]))) (hF.le (Le.refl (D := D) _))) ?_
   rintro _ _ s10 h10 ⟨rfl, rfl⟩
   refine ⟨fun _ _ h => h, ?_⟩
   refine JA_q 9 rfl (by kernel_rfl) (by kernel_rfl) (by kernel_rfl) ⟨_, rfl, rfl⟩ (QE_not rfl) rfl ?_
   refine JA_q 10 rfl (by kernel_rfl) (by kernel_rfl) (by kernel_rfl) trivial (QE_pickF rfl rfl) rfl ?_
   refine JA_done (by kernel_rfl) ?_
   refine thenQ_n ?_
   refine JC_ifN rfl (fun c11 => ?_) (fun c11 => ?_)
   ·
    have hR0 : rdIns ws = none := by
      first
      | exact rdIns_no1 hN9 hw1 hw4 hw7 (by assumption)
      | exact rdIns_no2 hN9 hw1 hw4 hw7 (by assumption) hkv (by assumption)
    refine JC_seq ?_
    refine JC_region ?_
    refine JO_q (QE_build [] [_, _, _, _] rfl rfl rfl rfl rfl rfl) rfl ?_
    refine JO_st 1 [_, _, _, _] rfl rfl rfl rfl rfl rfl rfl rfl rfl ?_
    refine JO_q (QE_as rfl) rfl ?_
    refine JO_nil ?_
    refine thenQ_n ?_
    refine JC_ret ?_
    refine thenQ_r ?_
    refine retQ_mk [_, _] _ (.inr rfl) (.agg (us := [_, _, _, _]) 1 rfl rfl rfl rfl rfl (.tmp rfl (.nil))) rfl (Le.trans (Le.trans (Le.trans (Le.trans (Le.trans (Le.trans (Le.trans h1 h3) h4) h5) h6) h8) h9) h10) (fun sR hS2 => ?_)
    first
      | exact ⟨[], rfl, fun s2 hs2 hp => ⟨⟨[], 0, false, []⟩, none, 0, 0, by rw [hR0]; rfl, acs_nil _, by decide, ⟨by decide, by decide⟩, fun y hy => by rw [hR0] at hy; cases hy⟩⟩
      | exact ⟨Mo, rfl, fun s2 hs2 hp => ⟨⟨[], 0, false, []⟩, none, 0, 0, by rw [hR0]; rfl, acs_nil _, by decide, ⟨by decide, by decide⟩, fun y hy => by rw [hR0] at hy; cases hy⟩⟩
      | exact ⟨Mo, rfl, fun s2 hs2 hp => ⟨⟨w4, kn, decide (w7 = [97, 110]), acc⟩, Ao, acc.length, co, by rw [hfin]; rfl, Own.acs hO (fun a ha => ⟨(hacc a ha).2.1.2.1.u32, (hacc a ha).2.1.2.2.u32⟩) hp rfl, by simp only; omega, hku, fun y hy => by rw [hfin] at hy; injection hy⟩⟩
   ·
    have hmid := rdIns_mid hN9 hw1 hw4 hw7 (by assumption) hkv (by assumption)
    obtain ⟨Ar, cr, hEr, hSd⟩ := Strs.drop hS (show 9 ≤ n by omega)
    refine JC_skip ?_
    refine thenQ_n ?_
    refine JC_seq ?_
    refine JC_seq ?_
    refine JC_region ?_
    refine JO_q (QE_mv rfl) rfl ?_
    refine JO_q (QE_slL rfl rfl rfl rfl rfl (show (9 : Nat) ≤ n by omega)) rfl ?_
    refine JO_q (QE_as rfl) rfl ?_
    refine JO_nil ?_
    refine thenQ_n ?_
    refine JC_block ?_
    refine JC_loop (γ := Value × List (List UInt8) × Value × Hl × List Ac) (fun g => [(2, _), (3, _), (6, _), (7, g.1)]) (fun g => (β5, cb [St w4, .int .u32 kn, .bool (decide (w7 = [97, 110])), g.2.2.1] 63) :: (β1, cb [St [], .int .u32 0, .bool false, .slice none 0 0] 63) :: (g.2.2.2.1 ++ L)) (fun g tw => Le D s10 tw ∧ ((∃ A' n' c', g.1 = .slice A' n' c' ∧ Strs tw A' n' c' g.2.1) ∧ FL.Own 68 6 g.2.2.2.1 g.2.2.1 g.2.2.2.2.length (acv g.2.2.2.2) ∧ (∀ a ∈ g.2.2.2.2, AcC a) ∧ sn [] (ws.drop 9) = (sn [] g.2.1).map (g.2.2.2.2 ++ ·) ∧ sizeW g.2.1 ≤ 1000000 ∧ g.2.2.2.2.length + g.2.1.length ≤ ws.length)) (fun g => g.2.1.length) (fun _ _ _ h hl => ⟨h.1.trans hl, by obtain ⟨_, ⟨A', n', c', k1, k2⟩, k3⟩ := h; exact ⟨⟨A', n', c', k1, k2.le hl⟩, k3⟩⟩) (_, ws.drop 9, .slice none 0 0, [], []) (Keeps.cons rfl (Keeps.cons rfl (Keeps.cons rfl (Keeps.cons rfl (Keeps.nil _))))) rfl ⟨Le.refl _, ⟨⟨Ar, _, cr, hEr, hSd.le (Le.trans (Le.trans (Le.trans (Le.trans (Le.trans (Le.trans (Le.trans h1 h3) h4) h5) h6) h8) h9) h10)⟩, Own.nil, (fun a h => by cases h), by simp, by have h := sizeW_app (ws.take 9) (ws.drop 9); rw [List.take_append_drop] at h; simp only; omega, by simp⟩⟩ ?_
    intro g s12 I12
    obtain ⟨vr, rs, vo, Mo, acc⟩ := g
    obtain ⟨⟨A', n', c', hvr, hSr⟩, hO, hacc, hsn, hrz, hlen⟩ := I12.2
    simp only at hvr hSr hO hacc hsn hrz hlen
    subst hvr
    dsimp only
    have hn' := hSr.1
    have hc1' := hSr.2.1
    have hc2' := hSr.2.2.1
    refine JC_seq ?_
    refine JC_seq ?_
    refine JC_region ?_
    refine JO_q (QE_mv rfl) rfl ?_
    refine JO_q (QE_lenS rfl rfl rfl) rfl ?_
    refine JO_q (QE_gt rfl rfl) rfl ?_
    refine JO_nil ?_
    refine thenQ_n ?_
    refine JC_ifD rfl (fun c13 => ?_) (fun c13 => ?_)
    ·
     have hne : 0 < rs.length := by omega
     obtain ⟨nn, hnn, hnl, hsn1, hsn2⟩ := next_sent hne
     have hix := idxP_lt (p := dotB) (l := rs) 0
     have hSt := Strs.take hSr (show nn ≤ n' by omega)
     obtain ⟨An, cn, hEn, hSn⟩ := Strs.drop hSr (show nn ≤ n' by omega)
     have hwz : sizeW (rs.take nn) ≤ 1000000 := by have h := sizeW_app (rs.take nn) (rs.drop nn); rw [List.take_append_drop] at h; omega
     have hwd : sizeW (rs.drop nn) ≤ sizeW rs := by have h := sizeW_app (rs.take nn) (rs.drop nn); rw [List.take_append_drop] at h; omega
     refine JC_skip ?_
     refine thenQ_n ?_
     refine JC_block ?_
     refine JC_seq ?_
     refine JC_region ?_
     refine JO_q (QE_mv rfl) rfl ?_
     refine JO_call (first := []) (captured := []) rfl rfl rfl (sidxF_ac D _ _ A' n' c' rs (hSr.le (Le.refl (D := D) _)) _ [] dotB (fun s' x hx => dot_ac D _ s' x (by have := mem_size hx; omega))) ?_
     rintro _ _ s14 h14 ⟨rfl, rfl⟩
     refine JO_q (QE_add' (c := (nn : Int)) rfl rfl (by rw [w64 (by omega) (by omega)]; exact hnn)) rfl ?_
     refine JO_q (QE_as rfl) rfl ?_
     refine JO_nil ?_
     refine thenQ_n ?_
     refine JC_seq ?_
     refine JC_region ?_
     refine JO_q (QE_as rfl) rfl ?_
     refine JO_nil ?_
     refine thenQ_n ?_
     refine JC_seq ?_
     refine JC_seq ?_
     refine JC_region ?_
     refine JO_q (QE_mv rfl) rfl ?_
     refine JO_nil ?_
     refine thenQ_n ?_
     refine JC_block ?_
     refine JC_loop (γ := Nat) (fun k => [(2, _), (3, _), (6, _), (7, _), (8, _), (9, _), (53, .int .i64 (k : Int))]) (fun _ => _) (fun k tw => Le D s14 tw ∧ (k ≤ 20 ∧ ∀ j, j < k → rdA j (rs.take nn) = none)) (fun k => 20 - k) (fun _ _ _ h hl => ⟨h.1.trans hl, h.2⟩) 0 (Keeps.cons rfl (Keeps.cons rfl (Keeps.cons rfl (Keeps.cons rfl (Keeps.cons rfl (Keeps.cons rfl (Keeps.cons rfl (Keeps.nil _)))))))) rfl ⟨Le.refl _, ⟨Nat.zero_le _, fun j hj => by omega⟩⟩ ?_
     intro k s15 I15
     have hk0 := I15.2.1
     have hI := I15.2.2
     refine JC_seq ?_
     refine JC_region ?_
     refine JO_q (QE_lt rfl rfl) rfl ?_
     refine JO_nil ?_
     refine thenQ_n ?_
     refine JC_seq ?_
     refine JC_ifD rfl (fun c16 => ?_) (fun c16 => ?_)
     ·
      have hk : k < 20 := by omega
      refine JC_skip ?_
      refine thenQ_n ?_
      refine JC_seq ?_
      refine JC_block ?_
      refine JC_seq ?_
      refine JC_region ?_
      refine JO_q (QE_mv rfl) rfl ?_
      refine JO_q (QE_as rfl) rfl ?_
      refine JO_nil ?_
      refine thenQ_n ?_
      refine JC_seq ?_
      refine JC_region ?_
      refine JO_q (QE_mv rfl) rfl ?_
      refine JO_q (QE_mv rfl) rfl ?_
      refine JO_q (QE_mv rfl) rfl ?_
      refine JO_q (QE_slH rfl rfl rfl rfl rfl (by omega)) rfl ?_
      refine JO_call (first := []) (captured := []) rfl rfl rfl (readAction_ac D _ _ (hG.le (Le.trans (Le.trans (Le.trans (Le.trans (Le.trans (Le.trans (Le.trans (Le.trans (Le.trans (Le.trans h1 h3) h4) h5) h6) h8) h9) h10) I12.1) h14) I15.1)) k (by omega) A' nn c' (rs.take nn) (hSt.le (Le.trans h14 I15.1)) hwz) ?_
      rintro _ _ s17 h17 ⟨rfl, a, rfl, hra⟩
      refine JO_q (QE_mv rfl) rfl ?_
      refine JO_q (QE_ext rfl rfl) rfl ?_
      refine JO_q (QE_ext rfl rfl) rfl ?_
      refine JO_allocZ rfl [_, _, _, _, _, _] rfl rfl ?_
      intro β18 s18 h18
      refine JO_st 0 [_, _, _, _, _, _] rfl rfl rfl rfl rfl rfl rfl rfl rfl ?_
      refine JO_q (QE_as rfl) rfl ?_
      refine JO_nil ?_
      refine thenQ_n ?_
      refine JC_seq ?_
      refine JC_region ?_
      refine JO_q (QE_mv rfl) rfl ?_
      refine JO_nil ?_
      refine thenQ_n ?_
      refine JC_if rfl (fun c19 => ?_) (fun c19 => ?_)
      ·
       obtain ⟨a', ha'⟩ := Option.isSome_iff_exists.1 c19
       obtain rfl := hra a' ha'
       obtain ⟨haC, _⟩ := rdAny_some (rd_first hk hI ha')
       obtain ⟨hn0, hsnn⟩ := hsn2 a (rd_first hk hI ha')
       refine JC_seq ?_
       refine JC_region ?_
       refine JO_q (QE_faB rfl rfl rfl rfl) rfl ?_
       refine JO_q (QE_ld1 1 rfl rfl rfl rfl rfl) rfl ?_
       refine JO_q (QE_ldA 0 [_, _, _, _, _, _] rfl rfl rfl rfl rfl) rfl ?_
       refine JO_bs [(_, _)] [_, _, _, _, _, _] rfl rfl rfl rfl rfl rfl rfl rfl rfl ?_
       intro βn s20 h20 hcb
       refine JO_app (sz := 6) [_, _, _] Mo L rfl rfl rfl rfl rfl rfl rfl hO (Row.of_cells (hcb.le (Le.refl (D := D) _)) rfl rfl) ⟨by simp [ti68]; omega, by omega⟩ rfl ?_
       intro vq Mq s21 h21 oq
       obtain ⟨Avq, cvq, rfl, _, _⟩ := Own.slice oq
       simp only [List.cons_append, List.nil_append]
       refine JO_q (QE_faB rfl rfl rfl rfl) rfl ?_
       refine JO_st 1 [_, _, _, _] rfl rfl rfl rfl rfl rfl rfl rfl rfl ?_
       refine JO_q (QE_as rfl) rfl ?_
       refine JO_nil ?_
       refine thenQ_n ?_
       refine JC_exit ?_
       refine blockQ_xo rfl ?_
       refine thenQ_x ?_
       refine thenQ_x ?_
       refine blockQ_x ?_
       refine thenQ_n ?_
       refine JC_seq ?_
       refine JC_seq ?_
       refine JC_region ?_
       refine JO_q (QE_mv rfl) rfl ?_
       refine JO_q (QE_notT rfl) rfl ?_
       refine JO_nil ?_
       refine thenQ_n ?_
       refine JC_ifF rfl ?_
       refine JC_skip ?_
       refine thenQ_n ?_
       refine JC_region ?_
       refine JO_q (QE_mv rfl) rfl ?_
       refine JO_q (QE_mv rfl) rfl ?_
       refine JO_q (QE_slL rfl rfl rfl rfl rfl (by omega)) rfl ?_
       refine JO_q (QE_as rfl) rfl ?_
       refine JO_nil ?_
       refine blockQ_n ?_
       refine thenQ_n ⟨(_, rs.drop nn, .slice Avq (acc.length + 1) cvq, Mq, acc ++ [a]), [_], (Keeps.cons rfl (Keeps.cons rfl (Keeps.cons rfl (Keeps.cons rfl (Keeps.nil _))))), rfl, ⟨(Le.trans (Le.trans (Le.trans (Le.trans (Le.trans (Le.trans I12.1 h14) I15.1) h17) h18) h20) h21), ⟨⟨An, _, cn, hEn, hSn.le (Le.trans (Le.trans (Le.trans (Le.trans (Le.trans h14 I15.1) h17) h18) h20) h21)⟩, by simp only; rw [List.length_append, acv_snoc]; exact oq, (fun y hy => by
         rcases List.mem_append.1 hy with h | h
         · exact hacc y h
         · rw [List.mem_singleton.1 h]; exact haC), by simp only; rw [hsn, hsnn, Option.map_map]; congr 1; funext z; simp, by simp only; omega, by simp only [List.length_append, List.length_drop, List.length_cons, List.length_nil]; omega⟩⟩, (by simp only; rw [List.length_drop]; omega)⟩
      ·
       have hno : rdA k (rs.take nn) = none := by simpa using c19
       refine JC_skip ?_
       refine blockQ_n ?_
       refine thenQ_n ?_
       refine JC_region ?_
       refine JO_q (QE_add' rfl rfl (w64 (by omega) (by omega))) rfl ?_
       refine JO_q (QE_mv rfl) rfl ?_
       refine JO_nil ?_
       refine thenQ_n ⟨(k + 1), [_], (Keeps.cons rfl (Keeps.cons rfl (Keeps.cons rfl (Keeps.cons rfl (Keeps.cons rfl (Keeps.cons rfl (Keeps.cons rfl (Keeps.nil _)))))))), rfl, ⟨(Le.trans (Le.trans I15.1 h17) h18), ⟨by omega, fun j hj => by
         rcases Nat.lt_succ_iff_lt_or_eq.1 hj with h | rfl
         · exact hI j h
         · exact hno⟩⟩, (by omega)⟩
     ·
      have hk20 : k = 20 := by omega
      subst hk20
      have hnone := hsn1 (rd_all hI)
      have hR0 : rdIns ws = none := by rw [hmid, hsn, hnone]; rfl
      refine JC_exit ?_
      refine thenQ_x ?_
      refine thenQ_x ?_
      refine blockQ_x ?_
      refine thenQ_n ?_
      refine JC_seq ?_
      refine JC_seq ?_
      refine JC_region ?_
      refine JO_q (QE_mv rfl) rfl ?_
      refine JO_q (QE_notF rfl) rfl ?_
      refine JO_nil ?_
      refine thenQ_n ?_
      refine JC_ifT rfl ?_
      refine JC_seq ?_
      refine JC_region ?_
      refine JO_q (QE_build [] [_, _, _, _] rfl rfl rfl rfl rfl rfl) rfl ?_
      refine JO_st 1 [_, _, _, _] rfl rfl rfl rfl rfl rfl rfl rfl rfl ?_
      refine JO_q (QE_as rfl) rfl ?_
      refine JO_nil ?_
      refine thenQ_n ?_
      refine JC_ret ?_
      refine thenQ_r ?_
      refine blockQ_r ?_
      refine thenQ_r ?_
      refine blockQ_r ?_
      refine thenQ_r ?_
      refine retQ_mk [_, _] _ (.inr rfl) (.agg (us := [_, _, _, _]) 1 rfl rfl rfl rfl rfl (.tmp rfl (.nil))) rfl (Le.trans (Le.trans (Le.trans (Le.trans (Le.trans (Le.trans (Le.trans (Le.trans (Le.trans (Le.trans h1 h3) h4) h5) h6) h8) h9) h10) I12.1) h14) I15.1) (fun sR hS2 => ?_)
      first
        | exact ⟨[], rfl, fun s2 hs2 hp => ⟨⟨[], 0, false, []⟩, none, 0, 0, by rw [hR0]; rfl, acs_nil _, by decide, ⟨by decide, by decide⟩, fun y hy => by rw [hR0] at hy; cases hy⟩⟩
        | exact ⟨Mo, rfl, fun s2 hs2 hp => ⟨⟨[], 0, false, []⟩, none, 0, 0, by rw [hR0]; rfl, acs_nil _, by decide, ⟨by decide, by decide⟩, fun y hy => by rw [hR0] at hy; cases hy⟩⟩
        | exact ⟨Mo, rfl, fun s2 hs2 hp => ⟨⟨w4, kn, decide (w7 = [97, 110]), acc⟩, Ao, acc.length, co, by rw [hfin]; rfl, Own.acs hO (fun a ha => ⟨(hacc a ha).2.1.2.1.u32, (hacc a ha).2.1.2.2.u32⟩) hp rfl, by simp only; omega, hku, fun y hy => by rw [hfin] at hy; injection hy⟩⟩
    ·
     have hrs : rs = [] := List.eq_nil_of_length_eq_zero (by omega)
     subst hrs
     have hfin : rdIns ws = some ⟨w4, kn, decide (w7 = [97, 110]), acc⟩ := by rw [hmid, hsn]; simp [sn]
     obtain ⟨Ao, co, hvo, _, _⟩ := Own.slice hO
     subst hvo
     refine JC_exit ?_
     refine thenQ_x ?_
     refine thenQ_x ?_
     refine blockQ_x ?_
     refine thenQ_n ?_
     refine JC_seq ?_
     refine JC_region ?_
     refine JO_q (QE_ldA 0 [_, _, _, _] rfl rfl rfl rfl rfl) rfl ?_
     refine JO_st 1 [_, _, _, _] rfl rfl rfl rfl rfl rfl rfl rfl rfl ?_
     refine JO_q (QE_as rfl) rfl ?_
     refine JO_nil ?_
     refine thenQ_n ?_
     refine JC_ret ?_
     refine retQ_mk [_, _] _ (.inr rfl) (.agg (us := [_, _, _, _]) 1 rfl rfl rfl rfl rfl (.tmp rfl (.nil))) rfl (Le.trans (Le.trans (Le.trans (Le.trans (Le.trans (Le.trans (Le.trans (Le.trans h1 h3) h4) h5) h6) h8) h9) h10) I12.1) (fun sR hS2 => ?_)
     first
       | exact ⟨[], rfl, fun s2 hs2 hp => ⟨⟨[], 0, false, []⟩, none, 0, 0, by rw [hR0]; rfl, acs_nil _, by decide, ⟨by decide, by decide⟩, fun y hy => by rw [hR0] at hy; cases hy⟩⟩
       | exact ⟨Mo, rfl, fun s2 hs2 hp => ⟨⟨[], 0, false, []⟩, none, 0, 0, by rw [hR0]; rfl, acs_nil _, by decide, ⟨by decide, by decide⟩, fun y hy => by rw [hR0] at hy; cases hy⟩⟩
       | exact ⟨Mo, rfl, fun s2 hs2 hp => ⟨⟨w4, kn, decide (w7 = [97, 110]), acc⟩, Ao, acc.length, co, by rw [hfin]; rfl, Own.acs hO (fun a ha => ⟨(hacc a ha).2.1.2.1.u32, (hacc a ha).2.1.2.2.u32⟩) hp rfl, by simp only; omega, hku, fun y hy => by rw [hfin] at hy; injection hy⟩⟩
theorem readIns_ac (D : Nat) (L : Hl) (s : World) (hG : GP s) (A : Option Addr) (n c : Nat) (ws : List (List UInt8)) (hS : Strs s A n c ws) (hz : sizeW ws ≤ 1000000) (hok : okT (joinW ws) = true) (hb : ∀ w ∈ ws, bare1 w) : AC Tryz.prog D 38 [.slice A n c] L s fun v L' s' => L = L' ∧ ∃ (x : Ins) (Ai : Option Addr) (ni ci : Nat), v = .tuple #[.agg #[St x.name, .int .u32 x.code, .bool x.operand, .slice Ai ni ci], .bool (rdIns ws).isSome] ∧ Acs s' Ai ni ci x.acts ∧ x.name.length ≤ 1000000 ∧ U32 x.code ∧ ∀ y, rdIns ws = some y → x = y := AC.pubW (readInsO_ac D L s hG A n c ws hS hz hok hb)
end Go.Proofs.YtoeeblegplghmaaGreatDoor
namespace Go.FL
open Go Go.RowKit
def fro (ro : Option Nat) : Fence := { Fence.wide with round := ro }
theorem calls_fro {P : Program} {f : FuncId} {args : Array Value} {w : World} {R : Ending → World → Prop} (ro : Option Nat) (n : Nat) (h : Calls P f args w R) : CallsIn (fro ro) n P f args w R := by
  cases ro with
  | none => exact callsIn_wide.2 h
  | some l => exact CallsIn.inRound l (callsIn_wide.2 h)
theorem fro_depth (ro : Option Nat) (n : Nat) : (fro ro).depth.isSome = true → 1 ≤ n := fun h => by cases h
theorem fro_fn (ro : Option Nat) (f : FuncId) : (fro ro).fn f := trivial
structure FrD (ds : List Deferred) (n : Nat) (a : Act) (fr : Fr) : Prop where
  rel : FrRel n { a with defers := [] } fr
  defers : a.defers = ds
theorem FrD.ev {ds : List Deferred} {n : Nat} {a : Act} {fr : Fr} (h : FrD ds n a fr) {x : Operand} {v : Value} (hx : lk fr x = some v) : a.eval x = v := h.rel.ev hx
theorem FrD.put {ds : List Deferred} {n : Nat} {a : Act} {fr : Fr} (h : FrD ds n a fr) {d : Nat} (hd : Nat.blt d n = true) (v : Value) : FrD ds n (a.put (some d) v) ((d, v) :: fr) :=
  ⟨h.rel.put hd v, h.defers⟩
theorem FrD.sub {ds : List Deferred} {n : Nat} {a : Act} {fr l : Fr} (h : FrD ds n a fr) (hs : Keeps fr l) : FrD ds n a l := ⟨h.rel.sub hs, h.defers⟩
abbrev GPost := Exit → List Deferred → Fr → Hl → World → Prop
def concG (D n : Nat) (Q : GPost) : Exit → Act → World → Prop := fun e a w => ∃ ds fr L s, FrD ds n a fr ∧ OKL D L s ∧ w = fill L s ∧ Q e ds fr L s
def RC (P : Program) (TT : TyTab) (D n : Nat) (ro : Option Nat) (Q : GPost) (c : Code) (ds : List Deferred) (fr : Fr) (L : Hl) (s : World) : Prop :=
  TabOK P TT → ∀ a, FrD ds n a fr → OKL D L s → c.wpIn (fro ro) 0 P (concG D n Q) a (fill L s)
def RO (P : Program) (TT : TyTab) (D n : Nat) (ro : Option Nat) (ops : Array Oper) (Q : GPost) (l : List Oper) (ds : List Deferred) (fr : Fr) (L : Hl) (s : World) : Prop :=
  TabOK P TT → ∀ a, FrD ds n a fr → OKL D L s → wpListIn (fro ro) 0 P ops (concG D n Q) l a (fill L s)
section control
variable {P : Program} {TT : TyTab} {D n : Nat} {ro : Option Nat} {Q : GPost} {ds : List Deferred} {fr : Fr} {L : Hl} {s : World}
def thenG (J : List Deferred → Fr → Hl → World → Prop) (Q : GPost) : GPost
  | .normal, ds, fr, L, s => J ds fr L s
  | e, ds, fr, L, s => Q e ds fr L s
def blockG (id : Nat) (Q : GPost) : GPost
  | .exit i, ds, fr, L, s => if i = id then Q .normal ds fr L s else Q (.exit i) ds fr L s
  | e, ds, fr, L, s => Q e ds fr L s
theorem RC_skip (h : Q .normal ds fr L s) : RC P TT D n ro Q .skip ds fr L s := fun _ _ hr ho => wpIn_skip ⟨ds, fr, L, s, hr, ho, rfl, h⟩
theorem RC_exit {id : Nat} (h : Q (.exit id) ds fr L s) : RC P TT D n ro Q (.exit id) ds fr L s := fun _ _ hr ho => wpIn_exit ⟨ds, fr, L, s, hr, ho, rfl, h⟩
theorem RC_ret (h : Q .ret ds fr L s) : RC P TT D n ro Q .ret ds fr L s := fun _ _ hr ho => wpIn_ret ⟨ds, fr, L, s, hr, ho, rfl, h⟩
theorem RC_seq {x y : Code} (h : RC P TT D n ro (thenG (RC P TT D n ro Q y) Q) x ds fr L s) : RC P TT D n ro Q (.seq x y) ds fr L s := fun ht a hr ho =>
  wpIn_seq (wpIn_mono (h ht a hr ho) fun e a w ⟨ds', fr', L', s', h1, h2, h3, h4⟩ => by
    cases e with
    | normal => subst h3; exact h4 ht a h1 h2
    | _ => exact ⟨ds', fr', L', s', h1, h2, h3, h4⟩)
theorem RC_block {id : Nat} {c : Code} (h : RC P TT D n ro (blockG id Q) c ds fr L s) : RC P TT D n ro Q (.block id c) ds fr L s := fun ht a hr ho =>
  wpIn_block (wpIn_mono (h ht a hr ho) fun e a w ⟨ds', fr', L', s', h1, h2, h3, h4⟩ => by
    cases e with
    | exit i =>
      simp only [blockG] at h4
      simp only [Exit.inBlock]
      by_cases hi : i = id
      · simp only [hi, if_true] at h4 ⊢; exact ⟨ds', fr', L', s', h1, h2, h3, h4⟩
      · simp only [hi, if_false] at h4 ⊢; exact ⟨ds', fr', L', s', h1, h2, h3, h4⟩
    | _ => exact ⟨ds', fr', L', s', h1, h2, h3, h4⟩)
theorem RC_if {c : Operand} {x y : Code} {b : Bool} (hc : lk fr c = some (.bool b)) (h1 : b = true → RC P TT D n ro Q x ds fr L s) (h2 : b = false → RC P TT D n ro Q y ds fr L s) : RC P TT D n ro Q (.cond c x y) ds fr L s :=
  fun ht a hr ho => wpIn_cond_split (hr.ev hc) (fun hb => h1 hb ht a hr ho) (fun hb => h2 hb ht a hr ho)
theorem RC_ifD {c : Operand} {x y : Code} {p : Prop} [Decidable p] (hc : lk fr c = some (.bool (decide p))) (h1 : p → RC P TT D n ro Q x ds fr L s) (h2 : ¬ p → RC P TT D n ro Q y ds fr L s) : RC P TT D n ro Q (.cond c x y) ds fr L s :=
  RC_if hc (fun hb => h1 (of_decide_eq_true hb)) (fun hb => h2 (of_decide_eq_false hb))
theorem RC_ifN {c : Operand} {x y : Code} {p : Prop} [Decidable p] (hc : lk fr c = some (.bool (!decide p))) (h1 : ¬ p → RC P TT D n ro Q x ds fr L s) (h2 : p → RC P TT D n ro Q y ds fr L s) : RC P TT D n ro Q (.cond c x y) ds fr L s :=
  RC_if hc (fun hb => h1 (by simpa using hb)) (fun hb => h2 (by simpa using hb))
theorem RC_ifM {c : Operand} {x y : Code} {b : Bool} (hc : lk fr c = some (.bool (!b))) (h1 : b = false → RC P TT D n ro Q x ds fr L s) (h2 : b = true → RC P TT D n ro Q y ds fr L s) : RC P TT D n ro Q (.cond c x y) ds fr L s :=
  RC_if hc (fun hb => h1 (by simpa using hb)) (fun hb => h2 (by simpa using hb))
theorem RC_ifT {c : Operand} {x y : Code} (hc : lk fr c = some (.bool true)) (h1 : RC P TT D n ro Q x ds fr L s) : RC P TT D n ro Q (.cond c x y) ds fr L s :=
  RC_if hc (fun _ => h1) (fun hb => by cases hb)
theorem RC_region {id : Nat} {l : List Oper} (h : RO P TT D n ro l.toArray Q l ds fr L s) : RC P TT D n ro Q (.region id l.toArray false) ds fr L s :=
  fun ht a hr ho => wpIn_region_lit (h ht a hr ho)
theorem RO_nil {ops : Array Oper} (h : Q .normal ds fr L s) : RO P TT D n ro ops Q [] ds fr L s := fun _ _ hr ho => ⟨ds, fr, L, s, hr, ho, rfl, h⟩
theorem RC_loop {γ : Type} {c : Code} (S : γ → Fr) (H : γ → Hl) (I : γ → World → Prop) (μ : γ → Nat) (mono : ∀ g s s', I g s → Le D s s' → I g s') (g0 : γ)
    (hS : Keeps fr (S g0)) (hL : L = H g0) (hI : I g0 s)
    (round : ∀ g s, I g s → RC P TT D n ro (thenG (fun ds' fr' L' s' => ds' = ds ∧ ∃ g' A, Keeps fr' (S g') ∧ L' = A ++ H g' ∧ I g' s' ∧ μ g' < μ g) Q) c ds (S g) (H g) s) :
    RC P TT D n ro Q (.loop c) ds fr L s := fun ht a hr ho => by
  refine wpIn_loop_ghost (fun m a w => ∃ g s, μ g = m ∧ FrD ds n a (S g) ∧ OKL D (H g) s ∧ w = fill (H g) s ∧ I g s) (μ g0) ⟨g0, s, rfl, hr.sub hS, hL ▸ ho, hL ▸ rfl, hI⟩ ?_
  rintro m a w ⟨g, s, rfl, h1, h2, rfl, h4⟩
  refine wpIn_mono (round g s h4 ht a h1 h2) ?_
  rintro e a' w' ⟨ds', fr', L', s', k1, k2, rfl, k4⟩
  cases e with
  | normal =>
    obtain ⟨rfl, g', A, j1, rfl, j3, j4⟩ := k4
    obtain ⟨e, d1, d2⟩ := drop_own k2
    exact ⟨μ g', j4, g', _, rfl, k1.sub j1, d1, e, mono _ _ _ j3 d2⟩
  | _ => exact ⟨ds', fr', L', s', k1, k2, rfl, k4⟩
theorem thenG_n {J : List Deferred → Fr → Hl → World → Prop} (h : J ds fr L s) : thenG J Q .normal ds fr L s := h
theorem thenG_r {J : List Deferred → Fr → Hl → World → Prop} (h : Q .ret ds fr L s) : thenG J Q .ret ds fr L s := h
theorem thenG_x {J : List Deferred → Fr → Hl → World → Prop} {i : Nat} (h : Q (.exit i) ds fr L s) : thenG J Q (.exit i) ds fr L s := h
theorem blockG_n {id : Nat} (h : Q .normal ds fr L s) : blockG id Q .normal ds fr L s := h
theorem blockG_r {id : Nat} (h : Q .ret ds fr L s) : blockG id Q .ret ds fr L s := h
theorem blockG_x {id : Nat} (h : Q .normal ds fr L s) : blockG id Q (.exit id) ds fr L s := by simpa [blockG] using h
end control
section ops
variable {P : Program} {TT : TyTab} {D n : Nat} {ro : Option Nat} {Q : GPost} {ds : List Deferred} {fr : Fr} {L L' : Hl} {s s' : World} {ops : Array Oper} {rest : List Oper} {d ty : Nat} {op : Op} {pos : String} {af : Array Edge} {v : Value}
theorem RO_ev (hnd : ∀ c, op ≠ .defer c) (hd : Nat.blt d n = true) (h : Ev P TT D fr op ty L s (.value v) L' s') (k : RO P TT D n ro ops Q rest ds ((d, v) :: fr) L' s') :
    RO P TT D n ro ops Q (⟨some d, op, ty, pos, af, none⟩ :: rest) ds fr L s := fun ht a hr ho => by
  obtain ⟨h1, h2⟩ := h ht ho (some d) pos af none a.eval (fun x v hx => hr.ev hx)
  simp only [wpListIn, Region.wanted, if_true]
  refine ⟨fun f _ => fro_fn ro f, ?_⟩
  rw [Oper.semAt_eq _ _ _ hnd, h1, Oper.uponIn_value]
  exact k ht _ (hr.put hd v) h2
theorem RO_sk (hnd : ∀ c, op ≠ .defer c) (h : Ev P TT D fr op ty L s .skip L' s') (k : RO P TT D n ro ops Q rest ds fr L' s') :
    RO P TT D n ro ops Q (⟨none, op, ty, pos, af, none⟩ :: rest) ds fr L s := fun ht a hr ho => by
  obtain ⟨h1, h2⟩ := h ht ho none pos af none a.eval (fun x v hx => hr.ev hx)
  simp only [wpListIn, Region.wanted, if_true]
  refine ⟨fun f _ => fro_fn ro f, ?_⟩
  rw [Oper.semAt_eq _ _ _ hnd, h1, Oper.uponIn_skip]
  exact k ht _ hr h2
theorem RO_q (h : QE P TT D fr op ty L s v) (hd : Nat.blt d n = true) (k : RO P TT D n ro ops Q rest ds ((d, v) :: fr) L s) (hnd : ∀ c, op ≠ .defer c := by nofun) : RO P TT D n ro ops Q (⟨some d, op, ty, pos, af, none⟩ :: rest) ds fr L s :=
  RO_ev hnd hd (fun ht ho dst pos af g ρ hρ => ⟨h ht dst pos af g ρ hρ L s ho (Le.refl _) (fun _ hx => hx), ho⟩) k
theorem RO_call {f : FuncId} {x : Operand} {xs : List Operand} {first captured vs : List Value} {ts : Array TypeId} {R : Value → Hl → World → Prop} (hx : lk fr x = some (.func (.func f) first.toArray captured.toArray)) (hv : lks fr xs = some vs)
    (hd : Nat.blt d n = true) (h : AC P D f (first ++ vs ++ captured) L s R) (k : ∀ v L' s', Le D s s' → R v L' s' → RO P TT D n ro ops Q rest ds ((d, v) :: fr) L' s') :
    RO P TT D n ro ops Q (⟨some d, .call { callee := .value x, args := xs.toArray, argTypes := ts }, ty, pos, af, none⟩ :: rest) ds fr L s := fun hT a hr ho => by
  obtain ⟨⟨fn, h1, h2, h3⟩, hc⟩ := h
  have hρ : ∀ x v, lk fr x = some v → a.eval x = v := fun x v hx => hr.ev hx
  simp only [wpListIn, Region.wanted, if_true]
  refine ⟨fun f _ => fro_fn ro f, ?_⟩
  have hrun : (execOp a.eval ⟨some d, .call { callee := .value x, args := xs.toArray, argTypes := ts }, ty, pos, af, none⟩).run P (fill L s) = .ok (.enter f (first ++ vs ++ captured).toArray) (fill L s) := by
    have h2' : ¬ fn.name = "runtime.NumGoroutine" := by simpa using h2
    have h3' : ¬ fn.body = none := by intro e; simp [e] at h3
    simp [execOp, resolve, Deferred.ofValue, invoke, callFunc, hρ x _ hx, lks_map hρ hv, h1, h2', h3']
  rw [Oper.semAt_eq _ _ _ (by nofun), hrun, Oper.uponIn_enter]
  refine ⟨fro_depth ro 0, (calls_fro ro _ (hc ho)).mono ?_⟩
  rintro e w' ⟨v, L', s', rfl, rfl, h4, h5, h6⟩
  exact k v L' s' h5 h6 hT _ (hr.put hd v) h4
def YC (P : Program) (D : Nat) (l : Nat) (args : List Value) (L : Hl) (s : World) (R : Value → Hl → World → Prop) : Prop :=
  OKL D L s → ∃ fn tmps assign body, (Instr.yield l args.toArray).run P (fill L s) = .ok (.round l fn tmps assign body) (fill L s) ∧
    RoundIn Fence.wide 0 P l fn tmps assign body (fill L s) fun e w' => ∃ v L' s', e = .returned v ∧ w' = fill L' s' ∧ OKL D L' s' ∧ Le D s s' ∧ R v L' s'
theorem RO_yield {l : Nat} {x : Operand} {xs : List Operand} {vs : List Value} {ts : Array TypeId} {R : Value → Hl → World → Prop} (hx : lk fr x = some (.func (.yield l) #[] #[])) (hv : lks fr xs = some vs)
    (hd : Nat.blt d n = true) (h : YC P D l vs L s R) (k : ∀ v L' s', Le D s s' → R v L' s' → RO P TT D n none ops Q rest ds ((d, v) :: fr) L' s') :
    RO P TT D n none ops Q (⟨some d, .call { callee := .value x, args := xs.toArray, argTypes := ts }, ty, pos, af, none⟩ :: rest) ds fr L s := fun hT a hr ho => by
  obtain ⟨fn, tmps, assign, body, hy, hR⟩ := h ho
  have hρ : ∀ x v, lk fr x = some v → a.eval x = v := fun x v hx => hr.ev hx
  simp only [wpListIn, Region.wanted, if_true]
  refine ⟨fun f _ => fro_fn none f, ?_⟩
  have hrun : (execOp a.eval ⟨some d, .call { callee := .value x, args := xs.toArray, argTypes := ts }, ty, pos, af, none⟩).run P (fill L s) = .ok (.round l fn tmps assign body) (fill L s) := by
    simp [execOp, resolve, Deferred.ofValue, invoke, hρ x _ hx, lks_map hρ hv, hy]
  rw [Oper.semAt_eq _ _ _ (by nofun), hrun, Oper.uponIn_round]
  refine ⟨fro_depth none 0, RoundIn.mono hR ?_⟩
  rintro e w' ⟨v, L', s', rfl, rfl, h4, h5, h6⟩
  exact k v L' s' h5 h6 hT _ (hr.put hd v) h4
theorem RO_alloc {t : Nat} {ti : TI} (ht : tlook TT t = some ti) (hd : Nat.blt d n = true)
    (k : ∀ β s', Le D s s' → RO P TT D n ro ops Q rest ds ((d, .pointer (some ⟨β, 0, none⟩)) :: fr) ((β, cb ti.zeros t) :: L) s') : RO P TT D n ro ops Q (⟨some d, .alloc t, ty, pos, af, none⟩ :: rest) ds fr L s := fun hT a hr ho =>
  RO_ev (by nofun) hd (Ev_alloc ht ho) (k _ _ (alloc_fill ho (cb ti.zeros t)).2.2) hT a hr ho
theorem RO_allocZ {t : Nat} {ti : TI} (ht : tlook TT t = some ti) (zs : List Value) (hz : ti.zeros = zs) (hd : Nat.blt d n = true)
    (k : ∀ β s', Le D s s' → RO P TT D n ro ops Q rest ds ((d, .pointer (some ⟨β, 0, none⟩)) :: fr) ((β, cb zs t) :: L) s') : RO P TT D n ro ops Q (⟨some d, .alloc t, ty, pos, af, none⟩ :: rest) ds fr L s := by subst hz; exact RO_alloc ht hd k
theorem RO_st {t b off : Nat} {x y : Operand} {ti : TI} {t' : Nat} {zs : List Value} (i : Nat) (zs' : List Value) {L' : Hl} (hx : lk fr x = some (.pointer (some ⟨b, off, none⟩))) (hy : lk fr y = some v) (hi : L[i]? = some (b, cb zs t')) (ht : tlook TT t = some ti)
    (hl : (cellsL v).length = ti.size) (hle : Nat.ble (off + ti.size) zs.length = true) (h1 : (cellsL v).all (·.oneCell') = true) (hs : splice zs off (cellsL v) = zs') (hL : setL L i (cb zs' t') = L')
    (k : RO P TT D n ro ops Q rest ds fr L' s) : RO P TT D n ro ops Q (⟨none, .store t x y, ty, pos, af, none⟩ :: rest) ds fr L s := by
  subst hL; exact RO_sk (by nofun) (Ev_st i zs' hx hy hi ht hl hle h1 hs) k
theorem RO_bs {t e len : Nat} {ti te : TI} {ps : List (Nat × Operand)} (vals : List (Nat × Value)) (vs : List Value) (ht : tlook TT t = some ti) (hk : ti.kind = .sl e) (he : tlook TT e = some te) (hv : lkp fr ps = some vals) (hsz : Nat.ble (len * te.size) 16777216 = true) (hpos : Nat.blt 0 len = true) (hp : vals.all (fun x => Nat.blt x.1 len) = true)
    (hb : bld (rowPl te.size 0 len) (List.replicate len te.zeros).flatten vals = some vs) (hd : Nat.blt d n = true) (k : ∀ β s', Le D s s' → CellsAt s' β 0 vs → RO P TT D n ro ops Q rest ds ((d, .slice (some ⟨β, 0, none⟩) len len) :: fr) L s') :
    RO P TT D n ro ops Q (⟨some d, .buildSlice t len ps.toArray, ty, pos, af, none⟩ :: rest) ds fr L s := fun hT a hr ho => by
  obtain ⟨h1, h2, h3⟩ := alloc_fill ho (cb vs e)
  obtain ⟨d1, d2, d3⟩ := drop_own (A := [(s.heap.size, cb vs e)]) (B := L) h2
  refine RO_ev (by nofun) (L' := L) (s' := fill [(s.heap.size, cb vs e)] (s.alloc (dum D))) hd (fun hT _ dst pos af g ρ hρ => ⟨?_, d2⟩) (k _ _ (h3.trans d3) (cells_drop h2)) hT a hr ho
  rw [← d1]
  exact (Ev_bs vals vs ht hk he hv hsz hpos hp hb ho hT ho dst pos af g ρ hρ).1
theorem RO_app {t e m c k sz : Nat} {x y : Operand} {ti te : TI} {A1 : Option Addr} {news xs : List Value} (B A L0 : Hl) (hL : L = B ++ (A ++ L0)) (hx : lk fr x = some v) (hy : lk fr y = some (.slice A1 m c)) (ht : tlook TT t = some ti) (hk : ti.kind = .sl e) (he : tlook TT e = some te) (hsz : te.size = sz)
    (hO : FL.Own e sz A v k xs) (hR : Row s A1 m sz news) (h63 : (k + m) * te.bytes ≤ 140737488355328 ∧ k + m ≤ 9223372036854775807) (hd : Nat.blt d n = true)
    (kk : ∀ v' A' s', Le D s s' → FL.Own e sz A' v' (k + m) (xs ++ news) → RO P TT D n ro ops Q rest ds ((d, v') :: fr) (B ++ (A' ++ L0)) s') :
    RO P TT D n ro ops Q (⟨some d, .call { callee := .builtin .append, args := #[x, y], argTypes := #[t, t] }, ty, pos, af, none⟩ :: rest) ds fr L s := fun hT a hr ho => by
  subst hL
  obtain ⟨v', A', s', h1, h2, h3⟩ := Ev_app (ty := ty) B A L0 hT hx hy ht hk he hsz hO hR h63 ho
  exact RO_ev (by nofun) hd h1 (kk v' A' s' h2 h3) hT a hr ho
theorem RO_gT {dst : Option Nat} {j t : Nat} {w : Bool} (hj : gslot ops j = some t) (hv : flook fr t = some (.bool w))
    (k : RO P TT D n ro ops Q (⟨dst, op, ty, pos, af, none⟩ :: rest) ds fr L s) : RO P TT D n ro ops Q (⟨dst, op, ty, pos, af, some (j, w)⟩ :: rest) ds fr L s := fun ht a hr ho => by
  have k1 := k ht a hr ho
  have hy : yielded ops a.tmps j = some w := by
    have h1 := hr.rel.slot t (hr.rel.top _ _ hv) _ hv
    unfold gslot at hj
    simp only at h1
    simp [yielded, hj, h1]
  simp only [wpListIn, Region.wanted, if_true] at k1
  simp only [wpListIn, Region.wanted, hy, beq_self_eq_true, if_true]
  exact k1
theorem RO_gF {d : Nat} {j t : Nat} {w b : Bool} (hd : Nat.blt d n = true) (hj : gslot ops j = some t) (hv : flook fr t = some (.bool b)) (hb : (b != w) = true)
    (k : RO P TT D n ro ops Q rest ds ((d, undef) :: fr) L s) : RO P TT D n ro ops Q (⟨some d, op, ty, pos, af, some (j, w)⟩ :: rest) ds fr L s := fun ht a hr ho => by
  have hy : yielded ops a.tmps j = some b := by
    have h1 := hr.rel.slot t (hr.rel.top _ _ hv) _ hv
    unfold gslot at hj
    simp only at h1
    simp [yielded, hj, h1]
  have hne : (some b == some w) = false := by cases b <;> cases w <;> simp_all
  simp only [wpListIn, Region.wanted, hy, hne, Bool.false_eq_true, if_false]
  exact ⟨fun f _ => fro_fn ro f, k ht _ (hr.put hd undef) ho⟩
theorem RO_case {l : List Oper} {t : Nat} {b : Bool} (hv : flook fr t = some (.bool b)) (h1 : b = true → RO P TT D n ro ops Q l ds ((t, .bool true) :: fr) L s) (h2 : b = false → RO P TT D n ro ops Q l ds ((t, .bool false) :: fr) L s) :
    RO P TT D n ro ops Q l ds fr L s := fun ht a hr ho => by
  cases b with
  | true => exact h1 rfl ht a (hr.sub fun t' v' h => by rw [flook_cons] at h; split at h <;> simp_all) ho
  | false => exact h2 rfl ht a (hr.sub fun t' v' h => by rw [flook_cons] at h; split at h <;> simp_all) ho
theorem RO_caseD {l : List Oper} {t : Nat} {p : Prop} [Decidable p] (hv : flook fr t = some (.bool (decide p))) (h1 : p → RO P TT D n ro ops Q l ds ((t, .bool true) :: fr) L s) (h2 : ¬ p → RO P TT D n ro ops Q l ds ((t, .bool false) :: fr) L s) :
    RO P TT D n ro ops Q l ds fr L s := RO_case hv (fun h => h1 (of_decide_eq_true h)) (fun h => h2 (of_decide_eq_false h))
end ops
theorem RC_pubX {P : Program} {TT : TyTab} {D n : Nat} {ro : Option Nat} {Q : GPost} {ds : List Deferred} {fr : Fr} {s : World} {c : Code} (X A Y : Hl) (h : ∀ s', Le D s s' → Pub A s' → RC P TT D n ro Q c ds fr (X ++ Y) s') : RC P TT D n ro Q c ds fr (X ++ (A ++ Y)) s := fun ht a hr ho => by
  have hp : (X ++ (A ++ Y)).Perm (A ++ (X ++ Y)) := by
    rw [← List.append_assoc, ← List.append_assoc]
    exact (List.perm_append_comm).append_right Y
  rw [fill_perm hp _ ho]
  have ho2 := ho.perm hp
  obtain ⟨e, d1, d2⟩ := drop_own ho2
  rw [e]
  refine h _ d2 (fun b zs t hm j u hj => ?_) ht a hr d1
  rw [mem_cell ho2.left hm, Nat.zero_add]; exact hj
section anyorder
variable {P : Program} {TT : TyTab} {D n : Nat} {ro : Option Nat} {Q : GPost} {ds : List Deferred} {fr : Fr} {L L' : Hl} {s s' : World} {ops : Array Oper} {d ty fuel : Nat} {op : Op} {pos : String} {af : Array Edge} {v : Value} {listed : Array Bool}
def RA (P : Program) (TT : TyTab) (D n : Nat) (ro : Option Nat) (ops : Array Oper) (Q : GPost) (fuel : Nat) (listed : Array Bool) (ds : List Deferred) (fr : Fr) (L : Hl) (s : World) : Prop :=
  TabOK P TT → ∀ a, FrD ds n a fr → OKL D L s → wpAnyIn (fro ro) 0 P .any ops (concG D n Q) fuel listed a (fill L s)
def RB (P : Program) (TT : TyTab) (D n : Nat) (ro : Option Nat) (ops : Array Oper) (Q : GPost) (fuel : Nat) (listed : Array Bool) (i : Nat) (ds : List Deferred) (fr : Fr) (L : Hl) (s : World) : Prop :=
  TabOK P TT → ∀ a, FrD ds n a fr → OKL D L s → wpOpIn (fro ro) 0 P ops (concG D n Q) i (wpAnyIn (fro ro) 0 P .any ops (concG D n Q) fuel (listed.setIfInBounds i true)) a (fill L s)
theorem RC_draw {id : Nat} {l : List Oper} (hm : P.follows .mixedOrders = true) (N : Nat) (hN : l.length = N) (h : ∀ s', Le D s s' → RA P TT D n ro l.toArray Q N (Array.replicate N false) ds fr L s') : RC P TT D n ro Q (.region id l.toArray true) ds fr L s := fun ht a hr ho => by
  subst hN
  have h1 := h s.drew (Le.drew s) ht a hr ho.drew
  refine wpIn_region_any hm ?_
  rw [← drew_fill] at h1
  simpa using h1
theorem RA_done (hr : Region.ready .any ops listed = []) (h : Q .normal ds fr L s) : RA P TT D n ro ops Q fuel listed ds fr L s := fun _ a hf ho => by
  have hq : concG D n Q .normal a (fill L s) := ⟨ds, fr, L, s, hf, ho, rfl, h⟩
  cases fuel with
  | zero => exact ⟨hr, hq⟩
  | succ fuel => exact ⟨fun _ => hq, fun i hi => by rw [hr] at hi; cases hi⟩
theorem RA_all {is : List Nat} (hr : Region.ready .any ops listed = is) (hne : is ≠ []) (h : ∀ i ∈ is, RB P TT D n ro ops Q fuel listed i ds fr L s) : RA P TT D n ro ops Q (fuel + 1) listed ds fr L s := fun ht a hf ho =>
  ⟨fun e => absurd (hr.symm.trans e) hne, fun i hi => by rw [hr] at hi; exact h i hi ht a hf ho⟩
theorem RA_1 (i : Nat) (hr : Region.ready .any ops listed = [i]) (h : RB P TT D n ro ops Q fuel listed i ds fr L s) : RA P TT D n ro ops Q (fuel + 1) listed ds fr L s := RA_all hr (by simp) (by simpa using h)
theorem RA_2 (i j : Nat) (hr : Region.ready .any ops listed = [i, j]) (h : RB P TT D n ro ops Q fuel listed i ds fr L s) (h' : RB P TT D n ro ops Q fuel listed j ds fr L s) : RA P TT D n ro ops Q (fuel + 1) listed ds fr L s := RA_all hr (by simp) (by simpa using ⟨h, h'⟩)
theorem RB_ev {i : Nat} (hi : ops[i]? = some ⟨some d, op, ty, pos, af, none⟩) (hnd : ∀ c, op ≠ .defer c) (hd : Nat.blt d n = true) (h : Ev P TT D fr op ty L s (.value v) L' s') (k : RA P TT D n ro ops Q fuel (listed.setIfInBounds i true) ds ((d, v) :: fr) L' s') :
    RB P TT D n ro ops Q fuel listed i ds fr L s := fun ht a hr ho => by
  obtain ⟨h1, h2⟩ := h ht ho (some d) pos af none a.eval (fun x v hx => hr.ev hx)
  simp only [wpOpIn, hi, Region.wanted, if_true]
  refine ⟨fun f _ => fro_fn ro f, ?_⟩
  rw [Oper.semAt_eq _ _ _ hnd, h1, Oper.uponIn_value]
  exact k ht _ (hr.put hd v) h2
theorem RB_sk {i : Nat} (hi : ops[i]? = some ⟨none, op, ty, pos, af, none⟩) (hnd : ∀ c, op ≠ .defer c) (h : Ev P TT D fr op ty L s .skip L' s') (k : RA P TT D n ro ops Q fuel (listed.setIfInBounds i true) ds fr L' s') :
    RB P TT D n ro ops Q fuel listed i ds fr L s := fun ht a hr ho => by
  obtain ⟨h1, h2⟩ := h ht ho none pos af none a.eval (fun x v hx => hr.ev hx)
  simp only [wpOpIn, hi, Region.wanted, if_true]
  refine ⟨fun f _ => fro_fn ro f, ?_⟩
  rw [Oper.semAt_eq _ _ _ hnd, h1, Oper.uponIn_skip]
  exact k ht _ hr h2
theorem RB_q {i : Nat} (hi : ops[i]? = some ⟨some d, op, ty, pos, af, none⟩) (h : QE P TT D fr op ty L s v) (hd : Nat.blt d n = true) (k : RA P TT D n ro ops Q fuel (listed.setIfInBounds i true) ds ((d, v) :: fr) L s) (hnd : ∀ c, op ≠ .defer c := by nofun) :
    RB P TT D n ro ops Q fuel listed i ds fr L s := RB_ev hi hnd hd (fun ht ho dst pos af g ρ hρ => ⟨h ht dst pos af g ρ hρ L s ho (Le.refl _) (fun _ hx => hx), ho⟩) k
theorem RB_st {i0 t b off : Nat} {x y : Operand} {ti : TI} {t' : Nat} {zs : List Value} (hi0 : ops[i0]? = some ⟨none, .store t x y, ty, pos, af, none⟩) (i : Nat) (zs' : List Value) {L' : Hl} (hx : lk fr x = some (.pointer (some ⟨b, off, none⟩))) (hy : lk fr y = some v) (hi : L[i]? = some (b, cb zs t')) (ht : tlook TT t = some ti)
    (hl : (cellsL v).length = ti.size) (hle : Nat.ble (off + ti.size) zs.length = true) (h1 : (cellsL v).all (·.oneCell') = true) (hs : splice zs off (cellsL v) = zs') (hL : setL L i (cb zs' t') = L')
    (k : RA P TT D n ro ops Q fuel (listed.setIfInBounds i0 true) ds fr L' s) : RB P TT D n ro ops Q fuel listed i0 ds fr L s := by
  subst hL; exact RB_sk hi0 (by nofun) (Ev_st i zs' hx hy hi ht hl hle h1 hs) k
end anyorder
section calls
variable {P : Program} {TT : TyTab} {D n : Nat} {Q : GPost} {ds : List Deferred} {fr : Fr} {L : Hl} {s : World}
def markD (b : Nat) : Deferred := { target := .collected b, args := #[] }
def retG (TT : TyTab) (D : Nat) (rs : List ResultVar) (s0 : World) (R : Value → Hl → World → Prop) : GPost := fun e ds fr L s =>
  (e = .normal ∨ e = .ret) ∧ ∃ vs A L', Res TT fr L rs vs ∧ L = A ++ L' ∧ Le D s0 s ∧ (∀ s', Le D s s' → R (resV vs) L' s') ∧ (ds = [] ∨ ∃ b, ds = [markD b] ∧ (b, Obj.deferred (some [])) ∈ A)
theorem Res.set {fr : Fr} {L L' : Hl} (hL : ∀ (i : Nat) b zs t, L[i]? = some (b, cb zs t) → L'[i]? = some (b, cb zs t)) {rs : List ResultVar} {vs : List Value} (h : Res TT fr L rs vs) : Res TT fr L' rs vs := by
  induction h with
  | nil => exact .nil
  | tmp h _ ih => exact .tmp h ih
  | one i h hi ht hk hv _ ih => exact .one i h (hL _ _ _ _ hi) ht hk hv ih
  | agg i h hi ht hk hv _ ih => exact .agg i h (hL _ _ _ _ hi) ht hk hv ih
theorem setL_get (L : Hl) (i j : Nat) (o : Obj) (h : i ≠ j) : (setL L i o)[j]? = L[j]? := by
  induction L generalizing i j with
  | nil => cases i <;> rfl
  | cons x L ih =>
    cases i with
    | zero => cases j with
      | zero => exact absurd rfl h
      | succ j => rfl
    | succ i => cases j with
      | zero => rfl
      | succ j => simp only [setL, List.getElem?_cons_succ]; exact ih i j (by omega)
theorem setL_app {A L' : Hl} {i : Nat} (o : Obj) (h : i < A.length) : setL (A ++ L') i o = setL A i o ++ L' := by
  induction A generalizing i with
  | nil => cases h
  | cons x A ih =>
    cases i with
    | zero => rfl
    | succ i => simp only [List.cons_append, setL]; rw [ih (by simpa using h)]
theorem putObj_setBlk (w : World) (b : Nat) (o : Obj) : w.putObj b o = setBlk w b o := rfl
theorem AC_enterR {f : FuncId} {fn : Func} {c : Code} {args : List Value} {R : Value → Hl → World → Prop} (hT : TabOK P TT) (hf : P.funcs[f]? = some fn) (hn : (fn.name == "runtime.NumGoroutine") = false) (hb : fn.body = some c) (hnt : fn.ntmps = n) (hle : Nat.ble args.length n = true) {rs : List ResultVar} (hrs : fn.results.toList = rs) (fr0 : Fr) (hfr : slots 0 args = fr0)
    (h : RC P TT D n none (retG TT D rs s R) c [] fr0 L s) : AC P D f args L s R := by
  subst hfr; subst hrs
  refine ⟨⟨fn, hf, hn, by simp [hb]⟩, fun ho => (callsIn_wide (n := 0)).1 (callsIn_of_wp_marks hf hb trivial ?_)⟩
  have hle' : args.length ≤ n := Nat.le_of_ble_eq_true hle
  have hr : FrD [] n { tmps := args.toArray ++ Array.replicate (fn.ntmps - args.toArray.size) undef, defers := [] } (slots 0 args) := by
    refine ⟨⟨by simp [hnt]; omega, rfl, fun t ht v hv => ?_, fun t v hv => ?_⟩, rfl⟩
    · rw [flook_slots] at hv
      simp at hv
      obtain ⟨hlt, _⟩ := List.getElem?_eq_some_iff.1 hv
      simp [Array.getElem?_append, hlt]
      exact (List.getElem?_eq_some_iff.1 hv).2
    · rw [flook_slots] at hv
      simp at hv
      obtain ⟨hlt, _⟩ := List.getElem?_eq_some_iff.1 hv
      omega
  refine wpIn_mono (h hT _ hr ho) ?_
  rintro e a w ⟨ds, fr', L1, s1, k1, k2, rfl, he, vs, A, L', hres, rfl, hle1, hR, hds⟩
  have fin : ∀ (A2 : Hl), OKL D (A2 ++ L') s1 → Res TT fr' (A2 ++ L') fn.results.toList vs → LeavesIn Fence.wide 0 P fn a.tmps (fun e w' => ∃ v L' s', e = .returned v ∧ w' = fill L' s' ∧ OKL D L' s' ∧ Le D s s' ∧ R v L' s') [] .returning (fill (A2 ++ L') s1) := fun A2 ho2 hres2 => by
    obtain ⟨d1, d2, d3⟩ := drop_own ho2
    have hrun : (results fn a.tmps).run P (fill (A2 ++ L') s1) = .ok (resV vs) (fill (A2 ++ L') s1) := by
      have h1 := Res.run hT k1.rel ho2 hres2
      have h2 : (fn.results.mapM (resF a.tmps)).run P (fill (A2 ++ L') s1) = .ok vs.toArray (fill (A2 ++ L') s1) := by
        rw [Array.mapM_eq_mapM_toList]
        simp only [map_eq_pure_bind, Sem.run_bind, h1, Result.andThen_ok, Sem.run_pure]
      rw [results_eq]
      simp only [Sem.run_bind, h2, Result.andThen_ok, Sem.run_pure]
      congr 1
      match vs with
      | [] => rfl
      | [v] => rfl
      | v :: u :: r => simp [resV]
    exact ⟨_, hrun, _, L', fill A2 s1, rfl, d1, d2, hle1.trans d3, hR _ d3⟩
  have key : LeavesInM Fence.wide 0 P fn a.tmps (fun e w' => ∃ v L' s', e = .returned v ∧ w' = fill L' s' ∧ OKL D L' s' ∧ Le D s s' ∧ R v L' s') a.defers .returning (fill (A ++ L') s1) := by
    rw [k1.defers]
    rcases hds with rfl | ⟨b, rfl, hb⟩
    · exact fin A k2 hres
    · obtain ⟨i, hi, hie⟩ := List.getElem_of_mem hb
      have hig : (A ++ L')[i]? = some (b, Obj.deferred (some [])) := by rw [List.getElem?_append_left hi, List.getElem?_eq_getElem hi, hie]
      have hw : (fill (A ++ L') s1).heap[b]? = some (.deferred (some [])) := fill_mem k2 (List.mem_of_getElem? hig)
      refine ⟨(fun h => by cases h), .inl ⟨b, _, rfl, run_takeDeferred hw, ?_⟩⟩
      rw [putObj_setBlk, ← fill_setL k2 hig, setL_app _ hi]
      have ho2 := setL_ok k2 i (Obj.deferred none)
      rw [setL_app _ hi] at ho2
      refine fin (setL A i (.deferred none)) ho2 (Res.set (fun j c zs t hj => ?_) hres)
      rw [← setL_app _ hi, setL_get _ _ _ _ (fun e => by subst e; rw [hig] at hj; cases hj)]
      exact hj
  rcases he with rfl | rfl
  · exact key
  · exact key
theorem retG_mk {rs : List ResultVar} {s0 : World} {R : Value → Hl → World → Prop} {e : Exit} {vs : List Value} (A L' : Hl) (he : e = .normal ∨ e = .ret) (h : Res TT fr L rs vs) (hL : L = A ++ L') (hl : Le D s0 s) (hds : ds = [] ∨ ∃ b, ds = [markD b] ∧ (b, Obj.deferred (some [])) ∈ A) (hR : ∀ s', Le D s s' → R (resV vs) L' s') : retG TT D rs s0 R e ds fr L s :=
  ⟨he, vs, A, L', h, hL, hl, hR, hds⟩
def jmp : Exit → Option (Option Code)
  | .normal => some none
  | .ret => some (some .ret)
  | .exit id => some (some (.exit id))
  | _ => none
def exitOf : Option Code → Exit
  | none => .normal
  | some .ret => .ret
  | some (.exit id) => .exit id
  | _ => .normal
def putAll (fr : Fr) (ps : List Nat) (vs : List Value) : Fr := (ps.zip vs).foldl (fun fr x => (x.1, x.2) :: fr) fr
theorem putAll_rel (n : Nat) : ∀ (l : List (Nat × Value)) (fr : Fr) (a : Act), FrRel n { a with defers := [] } fr → l.all (fun x => Nat.blt x.1 n) = true →
    FrRel n { tmps := l.foldl (fun tmps x => tmps.setIfInBounds x.1 x.2) a.tmps, defers := [] } (l.foldl (fun fr x => (x.1, x.2) :: fr) fr) := by
  intro l
  induction l with
  | nil => intro fr a h _; exact h
  | cons x l ih =>
    intro fr a h hl
    simp only [List.all_cons, Bool.and_eq_true] at hl
    exact ih _ { a with tmps := a.tmps.setIfInBounds x.1 x.2 } (h.put hl.1 x.2) hl.2
section range
variable {σ α : Type} (H : σ → Hl) (I : σ → World → Prop) (pend : σ → Option Code) (St : σ → α → σ → Prop) (enc : α → List Value) (Pre : σ → α → World → Prop) (Fin : σ → Prop)
theorem RC_range {g : Operand} {ps : List Nat} {assign body : Code} {fi : FuncId} {cap : List Value} (hg : lk fr g = some (.func (.func fi) #[] cap.toArray)) (g0 : σ) (hL : L = H g0) (hI0 : I g0 s) (hp0 : pend g0 = none)
    (mono : ∀ g s s', I g s → Le D s s' → I g s') (hpd : ∀ g, pend g = none ∨ pend g = some .ret ∨ ∃ id, pend g = some (.exit id))
    (hps : ∀ p, (enc p).length = ps.length) (hpn : ps.all (fun t => Nat.blt t n) = true)
    (fb : α → Fr) (hassign : ∀ (l : Nat) (p : α) (L' : Hl) (s' : World), RC P TT D n (some l) (fun e ds' fr' L1 s1 => e = .normal ∧ ds' = [] ∧ Keeps fr' (fb p) ∧ L1 = L' ∧ s1 = s') assign [] (putAll fr ps (enc p)) L' s')
    (hbody : ∀ (l dk : Nat) (o1 o2 : Obj) (g : σ) (p : α) (s' : World), Le D s s' → I g s' → pend g = none → Pre g p s' →
      RC P TT D n (some l) (fun e _ _ L1 s1 => ∃ g1, St g p g1 ∧ jmp e = some (pend g1) ∧ ∃ A, L1 = A ++ ((l, o1) :: (dk, o2) :: H g1) ∧ Le D s' s1 ∧ I g1 s1) body [] (fb p) ((l, o1) :: (dk, o2) :: H g) s')
    (hit : ∀ (l : Nat) (HH : σ → Hl) (s' : World), Le D s s' → (∀ g p s'', Le D s s'' → I g s'' → pend g = none → Pre g p s'' → YC P D l (enc p) (HH g) s'' fun v L' s3 => ∃ g1, St g p g1 ∧ v = .bool (pend g1).isNone ∧ L' = HH g1 ∧ I g1 s3) →
      AC P D fi (.func (.yield l) #[] #[] :: cap) (HH g0) s' fun _ L' s3 => ∃ g', Fin g' ∧ L' = HH g' ∧ I g' s3)
    (hpost : ∀ (dk : Nat) (g' : σ) (s3 : World), Le D s s3 → Fin g' → I g' s3 → Q (exitOf (pend g')) [markD dk] fr ((dk, Obj.deferred (some [])) :: H g') s3) :
    RC P TT D n none Q (.rangeFunc g ps.toArray assign body) [] fr L s := fun hT a hr ho => by
  subst hL
  refine wpIn_rangeFunc ?_
  intro fn _
  have hro : (fro none).round = none := rfl
  rw [hro]
  -- the two blocks
  obtain ⟨a1, a2, a3⟩ := alloc_fill ho (Obj.deferred (some []))
  obtain ⟨rec, hrec⟩ : ∃ rec : LoopState → Option Code → Loop, rec = fun st pe => { state := st, pending := pe, fn, tmps := a.tmps, params := ps.toArray, assign, body, defers := (fill (H g0) s).heap.size } := ⟨_, rfl⟩
  obtain ⟨b1, b2, b3⟩ := alloc_fill a2 (Obj.loop (rec .ready none))
  obtain ⟨dk, hdk⟩ : ∃ dk, dk = s.heap.size := ⟨_, rfl⟩
  obtain ⟨l, hl⟩ : ∃ l, l = (s.alloc (dum D)).heap.size := ⟨_, rfl⟩
  rw [← hdk, ← hl] at b1 b2
  rw [← hdk] at a1
  have hfs : (fill (H g0) s).heap.size = dk := by rw [fill_size, hdk]
  obtain ⟨HH, hHH⟩ : ∃ HH : σ → Hl, HH = fun g => (l, Obj.loop (rec (if (pend g).isNone then .ready else .done) (pend g))) :: (dk, Obj.deferred (some [])) :: H g := ⟨_, rfl⟩
  have hst0 : HH g0 = (l, Obj.loop (rec .ready none)) :: (dk, Obj.deferred (some [])) :: H g0 := by rw [hHH]; simp only [hp0, Option.isNone_none, if_true]
  obtain ⟨s2, hs2⟩ : ∃ s2, s2 = (s.alloc (dum D)).alloc (dum D) := ⟨_, rfl⟩
  rw [← hs2] at b1 b2 b3
  have hle2 : Le D s s2 := a3.trans b3
  -- a round
  have hY : ∀ g p s'', Le D s s'' → I g s'' → pend g = none → Pre g p s'' → YC P D l (enc p) (HH g) s'' fun v L' s3 => ∃ g1, St g p g1 ∧ v = .bool (pend g1).isNone ∧ L' = HH g1 ∧ I g1 s3 := by
    intro g p s'' hls hI hpn0 hPre hoY
    have eH : HH g = (l, Obj.loop (rec .ready none)) :: (dk, Obj.deferred (some [])) :: H g := by rw [hHH]; simp only [hpn0, Option.isNone_none, if_true]
    rw [eH] at hoY ⊢
    have hrl : (fill ((l, Obj.loop (rec .ready none)) :: (dk, Obj.deferred (some [])) :: H g) s'').heap[l]? = some (.loop (rec .ready none)) := fill_mem hoY (List.mem_cons_self ..)
    have hsz : ((enc p).toArray).size = (rec .ready none).params.size := by rw [hrec]; simp [hps p]
    refine ⟨_, _, _, _, run_yield hrl hsz, ?_⟩
    have hro2 : RoundIn (fro none) 0 P l (rec .ready none).fn (((rec .ready none).params.zip (enc p).toArray).foldl (fun tmps x => tmps.setIfInBounds x.1 x.2) (rec .ready none).tmps) (rec .ready none).assign (rec .ready none).body (fill ((l, Obj.loop (rec .ready none)) :: (dk, Obj.deferred (some [])) :: H g) s'') fun e w' => ∃ v L' s', e = .returned v ∧ w' = fill L' s' ∧ OKL D L' s' ∧ Le D s'' s' ∧ (∃ g1, St g p g1 ∧ v = .bool (pend g1).isNone ∧ L' = HH g1 ∧ I g1 s') := by
      refine roundIn_of_wpIn trivial ?_
      have e1 : (rec .ready none).assign = assign := by rw [hrec]
      have e2 : (rec .ready none).body = body := by rw [hrec]
      have e3 : ((rec .ready none).params.zip (enc p).toArray).foldl (fun tmps x => tmps.setIfInBounds x.1 x.2) (rec .ready none).tmps = (ps.zip (enc p)).foldl (fun tmps x => tmps.setIfInBounds x.1 x.2) a.tmps := by
        rw [hrec]; simp
      rw [e1, e2, e3]
      have hfr : FrD [] n { tmps := (ps.zip (enc p)).foldl (fun tmps x => tmps.setIfInBounds x.1 x.2) a.tmps, defers := [] } (putAll fr ps (enc p)) := by
        refine ⟨putAll_rel n (ps.zip (enc p)) fr a hr.rel ?_, rfl⟩
        rw [List.all_eq_true] at hpn ⊢
        intro x hx
        exact hpn x.1 (List.of_mem_zip hx).1
      refine wpIn_mono (hassign l p _ s'' hT _ hfr hoY) ?_
      rintro e a1 w1 ⟨ds1, fr1, L1, s1, k1, k2, rfl, rfl, rfl, k3, rfl, rfl⟩
      -- the round begins
      have hrl1 : (fill ((l, Obj.loop (rec .ready none)) :: (dk, Obj.deferred (some [])) :: H g) s1).heap[l]? = some (.loop (rec .ready none)) := fill_mem k2 (List.mem_cons_self ..)
      have hst : (rec .ready none).state = .ready := by rw [hrec]
      refine ⟨_, run_beginRound hrl1 hst, ?_⟩
      obtain ⟨ob, hob⟩ : ∃ ob, ob = Obj.loop { rec .ready none with state := .busy } := ⟨_, rfl⟩
      rw [putObj_setBlk, ← hob, ← fill_setL k2 (i := 0) rfl ob]
      have ho3 := setL_ok k2 0 ob
      simp only [setL] at ho3 ⊢
      refine wpIn_mono (hbody l dk ob (Obj.deferred (some [])) g p s1 hls hI hpn0 hPre hT _ (k1.sub k3) ho3) ?_
      rintro e2 a2 w2 ⟨ds2, fr2, L2, s2', j1, j2, rfl, g1, jst, jj, A, rfl, jle, jI⟩
      obtain ⟨d1, d2, d3⟩ := drop_own j2
      have hend : ∀ j : Option Code, pend g1 = j → ∃ v w', (Instr.endRound l j).run P (fill (A ++ ((l, ob) :: (dk, Obj.deferred (some [])) :: H g1)) s2') = .ok v w' ∧ (∃ v' L' s', Ending.returned v = .returned v' ∧ w' = fill L' s' ∧ OKL D L' s' ∧ Le D s1 s' ∧ (∃ g1, St g p g1 ∧ v' = .bool (pend g1).isNone ∧ L' = HH g1 ∧ I g1 s')) := by
        intro j hj
        have hrl2 : (fill ((l, ob) :: (dk, Obj.deferred (some [])) :: H g1) (fill A s2')).heap[l]? = some (.loop { rec .ready none with state := .busy }) := by rw [fill_mem d2 (List.mem_cons_self ..), hob]
        rw [d1]
        refine ⟨_, _, run_endRound j hrl2, _, HH g1, fill A s2', rfl, ?_, ?_, jle.trans d3, g1, jst, by rw [hj], rfl, mono _ _ _ jI d3⟩
        · rw [putObj_setBlk, ← fill_setL d2 (i := 0) rfl]
          simp only [setL, hHH, hj]
          congr 3
          rw [hrec]
        · have := setL_ok d2 0 (Obj.loop (rec (if (pend g1).isNone then .ready else .done) (pend g1)))
          simp only [setL] at this
          rw [hHH]; exact this
      cases e2 with
      | normal => exact hend none (by simpa [jmp] using jj.symm)
      | ret => exact hend (some .ret) (by simpa [jmp] using jj.symm)
      | exit id => exact hend (some (.exit id)) (by simpa [jmp] using jj.symm)
      | goto t => cases jj
      | panic c => cases jj
      | outgrown => cases jj
    exact hro2
  have hAC := hit l HH s2 hle2 hY
  obtain ⟨⟨fn0, h1, h2, h3⟩, hc⟩ := hAC
  have h2' : ¬ fn0.name = "runtime.NumGoroutine" := by simpa using h2
  have h3' : ¬ fn0.body = none := by intro e; simp [e] at h3
  have hev := hr.ev hg
  have hworld : ((fill (H g0) s).alloc (.deferred (some []))).alloc (.loop (rec .ready none)) = fill (HH g0) s2 := by rw [hst0, ← b1, ← a1]
  have hen : (Instr.enterLoop fn a.tmps ps.toArray assign body none).run P (fill (H g0) s) = .ok (l, [markD dk]) (fill (HH g0) s2) := by
    rw [run_enterLoop_outer, ← hworld]
    have e1 : (fill (H g0) s).heap.size + 1 = l := by rw [hfs, hl, World.size_alloc, hdk]
    rw [e1, markD, ← hfs, hrec]
  refine ⟨l, [markD dk], fill (HH g0) s2, { target := .fn (.func fi) cap.toArray, args := #[.func (.yield l) #[] #[]] }, fill (HH g0) s2, fi, (.func (.yield l) #[] #[] :: cap).toArray, fill (HH g0) s2, hen, ?_, fun f _ => fro_fn none f, ?_, fro_depth none 0, ?_⟩
  · simp only [resolve, hev]
    simp [go_sem]
  · simp [invoke, callFunc, h1, h2', h3']
  · have hoH : OKL D (HH g0) s2 := by rw [hst0]; exact b2
    refine (calls_fro none _ (hc hoH)).mono ?_
    rintro e w' ⟨v, L', s3, rfl, rfl, q1, q2, g', q3, rfl, q4⟩
    have eH : HH g' = (l, Obj.loop (rec (if (pend g').isNone then .ready else .done) (pend g'))) :: (dk, Obj.deferred (some [])) :: H g' := by rw [hHH]
    rw [eH] at q1 ⊢
    have hrl : (fill ((l, Obj.loop (rec (if (pend g').isNone then .ready else .done) (pend g'))) :: (dk, Obj.deferred (some [])) :: H g') s3).heap[l]? = some (.loop (rec (if (pend g').isNone then .ready else .done) (pend g'))) := fill_mem q1 (List.mem_cons_self ..)
    have hnb : (rec (if (pend g').isNone then .ready else .done) (pend g')).state ≠ .busy := by
      rw [hrec]; simp only; split <;> (intro h; cases h)
    have hpe : (rec (if (pend g').isNone then .ready else .done) (pend g')).pending = pend g' := by rw [hrec]
    have hrun := run_endLoop (P := P) hrl hnb
    rw [hpe] at hrun
    obtain ⟨oe, hoe⟩ : ∃ oe, (Instr.endLoop l).run P (fill ((l, Obj.loop (rec (if (pend g').isNone then .ready else .done) (pend g'))) :: (dk, Obj.deferred (some [])) :: H g') s3) = .ok (pend g') (setBlk (fill ((l, Obj.loop (rec (if (pend g').isNone then .ready else .done) (pend g'))) :: (dk, Obj.deferred (some [])) :: H g') s3) l oe) := ⟨_, hrun⟩
    refine ⟨pend g', _, hoe, ?_⟩
    rw [← fill_setL q1 (i := 0) rfl oe]
    have ho4 := setL_ok q1 0 oe
    simp only [setL] at ho4 ⊢
    obtain ⟨d1, d2, d3⟩ := drop_own (A := [(l, oe)]) (B := (dk, Obj.deferred (some [])) :: H g') ho4
    simp only [List.cons_append, List.nil_append] at d1
    rw [d1]
    have hQ := hpost dk g' (fill [(l, oe)] s3) (hle2.trans (q2.trans d3)) q3 (mono _ _ _ q4 d3)
    have hfr2 : FrD [markD dk] n { a with defers := [markD dk] ++ a.defers } fr := ⟨hr.rel, by show [markD dk] ++ a.defers = _; rw [hr.defers]; rfl⟩
    rcases hpd g' with hp | hp | ⟨id, hp⟩
    · rw [hp] at hQ ⊢
      exact ⟨_, _, _, _, hfr2, d2, rfl, hQ⟩
    · rw [hp] at hQ ⊢
      exact wpIn_ret ⟨_, _, _, _, hfr2, d2, rfl, hQ⟩
    · rw [hp] at hQ ⊢
      exact wpIn_exit ⟨_, _, _, _, hfr2, d2, rfl, hQ⟩
end range
end calls
end Go.FL
