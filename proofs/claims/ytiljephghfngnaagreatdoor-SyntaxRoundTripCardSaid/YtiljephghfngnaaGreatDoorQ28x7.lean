/- The law SyntaxRoundTrip: for every input it returns true, and its arguments read behind the call az they read before; what the package-level variables of the library hold is tied tgt the text of the program. Part 7 of the proof of syntaxRoundTrip_holds: texts Sz, S18, Rj, Rt, Q28. -/
import Derived.Test.YtiljephghfngnaaGreatDoorQ28x6
import Derived.ProofKit
import Derived.OpenShut
import Derived.SizedLaws
import Derived.Deep.Slices
import Derived.Test.YtiljephghfngnaaGreatDoorRows
import Derived.Lay
import Derived.Lib.LaidTab
import Derived.Stop.LaidErr
import Derived.SevenTiedAt
import Derived.Test.YtiljephghfngnaaGreatDoorCards
import Derived.Test.YtiljephghfngnaaGreatDoorTie
set_option linter.unusedVariables false
set_option linter.unusedSimpArgs false
set_option linter.unnecessarySimpa false
set_option maxRecDepth 100000
set_option maxHeartbeats 8000000
namespace Go.Proofs.YtiljephghfngnaaGreatDoor
open Go Go.FL
variable {s : Str}
def NE (s : Str) (l : List Tk) : Prop := ∀ t, Toks s t l → ¬ isP t elseW = true
theorem NE.sg {w : Str} {l : List Tk} (h : decide (w = elseW) = false) : NE s (sgK w :: l) := fun _ ht => sg_no ht h
theorem NE.wd {w : Str} {l : List Tk} (h : w ≠ elseW) : NE s (wdK w :: l) := fun t ht hp => by
  rw [isP_wd ht, decide_eq_true_eq] at hp; exact h hp
def QS (s : Str) (x : Stm) : Prop :=
  (∀ (n : Nat) (t : PS) (l : List Tk), Toks s t (stK x ++ l) → NE s l → pStm s n t ≠ .out → ∃ t', pStm s n t = .ok x t' ∧ Toks s t' l) ∧
  (x.kind = 3 → ∃ K, stK x = wdK ifW :: K ∧ ∀ (n : Nat) (t : PS) (l : List Tk), Toks s t (K ++ l) → NE s l → pIf s n t ≠ .out → ∃ t', pIf s n t = .ok x t' ∧ Toks s t' l)
def SH (x : Stm) : Prop := ∃ w r, stK x = wdK w :: r ∧ w ≠ [125] ∧ w ≠ elseW
theorem id_no {w v : Str} (h : identB w = true) (hv : identB v = false) : w ≠ v := by rintro rfl; rw [h] at hv; cases hv
theorem st_head {x : Stm} {m : Nat} (hv : stV x m = true) : SH x := by
  cases x with
  | mk k nm es b e =>
    simp only [stV, Bool.and_eq_true, decide_eq_true_eq] at hv
    obtain ⟨h1, h2, _, h4, h5, _⟩ := stC_z hv.1.1.1.2
    unfold SH
    rw [stK]
    rcases (by omega : k = 3 ∨ k = 4 ∨ k = 1 ∨ k = 2 ∨ k = 5 ∨ (6 ≤ k ∧ k ≤ 10)) with rfl | rfl | rfl | rfl | rfl | hk
    · exact ⟨_, _, rfl, by decide, by decide⟩
    · exact ⟨_, _, rfl, by decide, by decide⟩
    · exact ⟨_, _, rfl, id_no (h2 rfl) (by decide +kernel), id_no (h2 rfl) (by decide +kernel)⟩
    · exact ⟨_, _, rfl, id_no (h2 rfl) (by decide +kernel), id_no (h2 rfl) (by decide +kernel)⟩
    · exact ⟨_, _, rfl, id_no (h2 rfl) (by decide +kernel), id_no (h2 rfl) (by decide +kernel)⟩
    · rcases (by omega : k = 6 ∨ k = 7 ∨ k = 8 ∨ k = 9 ∨ k = 10) with rfl | rfl | rfl | rfl | rfl <;> exact ⟨_, _, rfl, by decide, by decide⟩
theorem sts_head {b : List Stm} {r : List Tk} (hb : ∀ y ∈ b, SH y) : NE s (stKs b ++ sgK [125] :: r) := by
  cases b with
  | nil => exact NE.sg (by decide)
  | cons x b =>
    obtain ⟨w, q, e, _, h⟩ := hb x (List.mem_cons_self ..)
    rw [stKs, e]; exact NE.wd h
theorem andOk {α β : Type} {a : α} {t : PS} {k : α → PS → PR β} : (PR.ok a t).and k = k a t := rfl
theorem rest_rd : ∀ (b : List Stm), (∀ y ∈ b, QS s y ∧ SH y) → ∀ (n : Nat) (acc : List Stm) (t : PS) (r : List Tk), Toks s t (stKs b ++ sgK [125] :: r) → pRest s n acc t ≠ .out → ∃ t', pRest s n acc t = .ok (acc ++ b) t' ∧ Toks s t' r
  | [], hb, n, acc, t, r, ht, hn => by
    cases n with
    | zero => exact absurd (by rw [pRest]) hn
    | succ n =>
      have ht' : Toks s t (sgK [125] :: r) := ht
      rw [pRest, if_pos (sg_is ht')]
      exact ⟨_, by rw [List.append_nil], ht'.tl⟩
  | x :: b, hb, n, acc, t, r, ht, hn => by
    cases n with
    | zero => exact absurd (by rw [pRest]) hn
    | succ n =>
      obtain ⟨w, q, e, h125, _⟩ := (hb x (List.mem_cons_self ..)).2
      rw [stKs, List.append_assoc] at ht
      have ht' := ht
      rw [e] at ht'
      have hno : ¬ isP t [125] = true := by rw [isP_wd (w := w) ht', decide_eq_true_eq]; exact h125
      rw [pRest, if_neg hno] at hn ⊢
      obtain ⟨t1, e1, h1⟩ := (hb x (List.mem_cons_self ..)).1.1 n t _ ht (sts_head fun y hy => (hb y (List.mem_cons_of_mem _ hy)).2) (and_no hn)
      rw [e1] at hn ⊢
      simp only [PR.and] at hn ⊢
      obtain ⟨t2, e2, h2⟩ := rest_rd b (fun y hy => hb y (List.mem_cons_of_mem _ hy)) n (acc ++ [x]) t1 r h1 hn
      exact ⟨t2, by rw [e2, List.append_assoc]; rfl, h2⟩
theorem cond_rd {c : Ex} {b : List Stm} (hc : PE s c) (hb : ∀ y ∈ b, QS s y ∧ SH y) {n : Nat} {t : PS} {r : List Tk} (ht : Toks s t (sgK [40] :: (exK c 0 ++ sgK [41] :: sgK [123] :: (stKs b ++ sgK [125] :: r)))) (hn : pCond s n t ≠ .out) : ∃ t', pCond s n t = .ok (c, b) t' ∧ Toks s t' r := by
  cases n with
  | zero => exact absurd (by rw [pCond]) hn
  | succ n =>
    rw [pCond, exp_1 ht] at hn ⊢
    obtain ⟨t1, e1, h1⟩ := hc.ex (by decide) ht.tl (and_no hn)
    rw [e1] at hn ⊢
    simp only [PR.and] at hn ⊢
    rw [exp_sg h1, exp_sg h1.tl, expP] at hn ⊢
    simp only at hn ⊢
    obtain ⟨t2, e2, h2⟩ := rest_rd b hb n [] _ r h1.tl.tl (and_no hn)
    rw [e2]
    exact ⟨t2, rfl, h2⟩
theorem isIf_one {e : List Stm} (h : isIf e = true) : ∃ x, e = [x] ∧ x.kind = 3 := by
  match e, h with
  | [.mk k nm es b e], h => exact ⟨_, rfl, show k = 3 by simpa [isIf] using h⟩
theorem if_rd {c : Ex} {b e : List Stm} (hc : PE s c) (hb : ∀ y ∈ b, QS s y ∧ SH y) (he : ∀ y ∈ e, QS s y ∧ SH y) {n : Nat} {t : PS} {l : List Tk}
    (ht : Toks s t (sgK [40] :: (exK c 0 ++ sgK [41] :: sgK [123] :: (stKs b ++ sgK [125] :: ((if e.isEmpty = true then [] else if isIf e = true then wdK elseW :: stK1 e else wdK elseW :: sgK [123] :: (stKs e ++ [sgK [125]])) ++ l))))) (hl : NE s l)
    (hn : pIf s n t ≠ .out) : ∃ t', pIf s n t = .ok (.mk 3 [] [c] b e) t' ∧ Toks s t' l := by
  cases n with
  | zero => exact absurd (by rw [pIf]) hn
  | succ n =>
    rw [pIf] at hn ⊢
    obtain ⟨t1, e1, h1⟩ := cond_rd hc hb ht (and_no hn)
    rw [e1, andOk] at hn ⊢
    cases e with
    | nil =>
      have h1' : Toks s t1 l := h1
      have hno : ¬ isP t1 [101, 108, 115, 101] = true := hl t1 h1'
      rw [if_neg hno]
      exact ⟨t1, rfl, h1'⟩
    | cons x e' =>
      have hem : ¬ (x :: e').isEmpty = true := by simp
      rw [if_neg hem] at h1
      by_cases hi : isIf (x :: e') = true
      · obtain ⟨y, hy, hk⟩ := isIf_one hi
        cases hy
        rw [if_pos hi] at h1
        obtain ⟨K, eK, hK⟩ := (he x (List.mem_cons_self ..)).1.2 hk
        have h1' : Toks s t1 (wdK elseW :: wdK ifW :: (K ++ l)) := by
          have : (wdK elseW :: stK1 [x]) ++ l = wdK elseW :: wdK ifW :: (K ++ l) := by rw [stK1, eK]; rfl
          rw [this] at h1; exact h1
        have p1 : isP t1 [101, 108, 115, 101] = true := wd_is h1'
        have p2 : isP (advP s t1) [105, 102] = true := wd_is h1'.tl
        rw [if_pos p1, if_pos p2] at hn ⊢
        obtain ⟨t2, e2, h2⟩ := hK n _ l h1'.tl.tl hl (and_no hn)
        rw [e2]
        exact ⟨t2, rfl, h2⟩
      · rw [if_neg hi] at h1
        have h1' : Toks s t1 (wdK elseW :: sgK [123] :: (stKs (x :: e') ++ sgK [125] :: l)) := by
          have : (wdK elseW :: sgK [123] :: (stKs (x :: e') ++ [sgK [125]])) ++ l = wdK elseW :: sgK [123] :: (stKs (x :: e') ++ sgK [125] :: l) := by
            rw [List.cons_append, List.cons_append, List.append_assoc]; rfl
          rw [this] at h1; exact h1
        have p1 : isP t1 [101, 108, 115, 101] = true := wd_is h1'
        have p2 : ¬ isP (advP s t1) [105, 102] = true := sg_no h1'.tl (by decide)
        rw [if_pos p1, if_neg p2, exp_1 h1'.tl] at hn ⊢
        obtain ⟨t2, e2, h2⟩ := rest_rd (x :: e') he n [] _ l h1'.tl.tl (and_no hn)
        rw [e2]
        exact ⟨t2, rfl, h2⟩
theorem stm_id {n : Nat} {t : PS} {w : Str} {r : List Tk} (h : Toks s t (wdK w :: r)) (hi : identB w = true) : pStm s (n + 1) t =
      if isP (advP s t) [61] = true then (pExpr s n 1 (advP s (advP s t))).and fun x t2 => (expP s [[59]] t2).and fun _ t2 => .ok (.mk 1 w [x] [] []) t2
       else if isP (advP s t) [91] = true then (pExpr s n 1 (advP s (advP s t))).and fun x t2 => (expP s [[93], [61]] t2).and fun _ t2 => (pExpr s n 1 t2).and fun y t2 => (expP s [[59]] t2).and fun _ t2 => .ok (.mk 2 w [x, y] [] []) t2
       else (expP s [[40]] (advP s t)).and fun _ t2 => (pArgs s n t2).and fun l t2 => (expP s [[59]] t2).and fun _ t2 => .ok (.mk 5 w l [] []) t2 := by
  rw [pStm, if_pos (isNm_id h hi), h.2.1]; rfl
theorem kw_nm {t : PS} {w : Str} {r : List Tk} (h : Toks s t (wdK w :: r)) (hw : kwB w = true) : ¬ isNm t = true := by rw [isNm_wd h, hw]; decide
theorem st_arg {k : Int} {w : Str} {x : Ex} {n : Nat} {t : PS} {l : List Tk} (hx : PE s x) (ht : Toks s t (wdK w :: (exK x 0 ++ sgK [59] :: l))) (hn : (pExpr s n 1 (advP s t)).and (fun x t => (expP s [[59]] t).and fun _ t => .ok (Stm.mk k [] [x] [] []) t) ≠ .out) :
    ∃ t', (pExpr s n 1 (advP s t)).and (fun x t => (expP s [[59]] t).and fun _ t => .ok (Stm.mk k [] [x] [] []) t) = .ok (.mk k [] [x] [] []) t' ∧ Toks s t' l := by
  obtain ⟨t1, e, h1⟩ := hx.ex (by decide) ht.tl (and_no hn)
  rw [e]
  simp only [PR.and]
  rw [exp_sg h1, expP]
  exact ⟨_, rfl, h1.tl⟩
theorem app2 {α : Type} (a : List α) (b : α) (c : List α) : (a ++ [b]) ++ c = a ++ b :: c := by rw [List.append_assoc]; rfl
mutual
theorem st_rd : ∀ (x : Stm) (m : Nat), stV x m = true → QS s x
  | .mk k nm es b e, m, hv => by
    simp only [stV, Bool.and_eq_true, decide_eq_true_eq] at hv
    have ihb := sts_rd b (m + 1) hv.1.2
    have ihe := sts_rd e (m + 1) hv.2
    have ihx := exs_rd (s := s) es hv.1.1.2
    have hvs := hv.1.1.2
    obtain ⟨h1, h2, h3, h4, h5, h6, h7⟩ := stC_z hv.1.1.1.2
    have nilb : k ≠ 3 → k ≠ 4 → b = [] := fun a c => List.eq_nil_of_length_eq_zero (h6 a c)
    have nile : k ≠ 3 → e = [] := fun a => List.eq_nil_of_length_eq_zero (h7 a)
    rcases (by omega : k = 1 ∨ k = 2 ∨ k = 3 ∨ k = 4 ∨ k = 5 ∨ k = 6 ∨ k = 7 ∨ k = 8 ∨ k = 9 ∨ k = 10) with rfl | rfl | rfl | rfl | rfl | rfl | rfl | rfl | rfl | rfl
    · refine ⟨fun n t l ht hl hn => ?_, fun h => absurd h (by decide : ¬ (1 : Int) = 3)⟩
      cases n with
      | zero => exact absurd (by rw [pStm]) hn
      | succ n =>
        obtain rfl := nilb (by decide) (by decide)
        obtain rfl := nile (by decide)
        obtain ⟨x, rfl⟩ := len_one (l := es) (by have : es.length ≤ 1 := h5; have : 1 ≤ es.length := h4; omega)
        have ht' : Toks s t (wdK nm :: sgK [61] :: (exK x 0 ++ sgK [59] :: l)) := by
          have e : stK (.mk 1 nm [x] [] []) ++ l = wdK nm :: sgK [61] :: (exK x 0 ++ sgK [59] :: l) := by
            rw [stK]; show wdK nm :: sgK [61] :: ((exK x 0 ++ [sgK [59]]) ++ l) = _
            rw [app2]
          rw [e] at ht; exact ht
        rw [stm_id ht' (h2 rfl), if_pos (sg_is ht'.tl)] at hn ⊢
        obtain ⟨t1, e1, k1⟩ := (ihx x (List.mem_cons_self ..)).ex (by decide) ht'.tl.tl (and_no hn)
        rw [e1]
        simp only [PR.and]
        rw [exp_sg k1, expP]
        exact ⟨_, rfl, k1.tl⟩
    · refine ⟨fun n t l ht hl hn => ?_, fun h => absurd h (by decide : ¬ (2 : Int) = 3)⟩
      cases n with
      | zero => exact absurd (by rw [pStm]) hn
      | succ n =>
        obtain rfl := nilb (by decide) (by decide)
        obtain rfl := nile (by decide)
        obtain ⟨x, y, rfl⟩ := len_two (l := es) (by have : es.length ≤ 2 := h5; have : 2 ≤ es.length := h4; omega)
        have ht' : Toks s t (wdK nm :: sgK [91] :: (exK x 0 ++ sgK [93] :: sgK [61] :: (exK y 0 ++ sgK [59] :: l))) := by
          have e : stK (.mk 2 nm [x, y] [] []) ++ l = wdK nm :: sgK [91] :: (exK x 0 ++ sgK [93] :: sgK [61] :: (exK y 0 ++ sgK [59] :: l)) := by
            rw [stK]; show wdK nm :: sgK [91] :: ((exK x 0 ++ sgK [93] :: sgK [61] :: (exK y 0 ++ [sgK [59]])) ++ l) = _
            rw [List.append_assoc, List.cons_append, List.cons_append, app2]
          rw [e] at ht; exact ht
        rw [stm_id ht' (h2 rfl), if_neg (sg_no ht'.tl (by decide)), if_pos (sg_is ht'.tl)] at hn ⊢
        obtain ⟨t1, e1, k1⟩ := (ihx x (List.mem_cons_self ..)).ex (by decide) ht'.tl.tl (and_no hn)
        rw [e1] at hn ⊢
        simp only [PR.and] at hn ⊢
        rw [exp_sg k1, exp_sg k1.tl, expP] at hn ⊢
        simp only at hn ⊢
        obtain ⟨t2, e2, k2⟩ := (ihx y (List.mem_cons_of_mem _ (List.mem_cons_self ..))).ex (by decide) k1.tl.tl (and_no hn)
        rw [e2]
        simp only [PR.and]
        rw [exp_sg k2, expP]
        exact ⟨_, rfl, k2.tl⟩
    · obtain ⟨x, rfl⟩ := len_one (l := es) (by have : es.length ≤ 1 := h5; have : 1 ≤ es.length := h4; omega)
      obtain rfl := h3 rfl
      have hif : ∃ K, stK (.mk 3 [] [x] b e) = wdK ifW :: K ∧ ∀ (n : Nat) (t : PS) (l : List Tk), Toks s t (K ++ l) → NE s l → pIf s n t ≠ .out → ∃ t', pIf s n t = .ok (.mk 3 [] [x] b e) t' ∧ Toks s t' l := by
        refine ⟨sgK [40] :: (exK x 0 ++ sgK [41] :: sgK [123] :: (stKs b ++ sgK [125] :: (if e.isEmpty = true then [] else if isIf e = true then wdK elseW :: stK1 e else wdK elseW :: sgK [123] :: (stKs e ++ [sgK [125]])))), by rw [stK]; rfl, fun n t l ht hl hn => ?_⟩
        refine if_rd (ihx x (List.mem_cons_self ..)) ihb ihe ?_ hl hn
        simpa only [List.append_assoc, List.cons_append] using ht
      refine ⟨fun n t l ht hl hn => ?_, fun _ => hif⟩
      obtain ⟨K, eK, hK⟩ := hif
      cases n with
      | zero => exact absurd (by rw [pStm]) hn
      | succ n =>
        rw [eK] at ht
        have ht' : Toks s t (wdK ifW :: (K ++ l)) := ht
        have p1 : isP t [105, 102] = true := wd_is ht'
        rw [pStm, if_neg (kw_nm ht' (by decide +kernel)), if_pos p1] at hn ⊢
        exact hK n _ l ht'.tl hl hn
    · refine ⟨fun n t l ht hl hn => ?_, fun h => absurd h (by decide : ¬ (4 : Int) = 3)⟩
      obtain ⟨x, rfl⟩ := len_one (l := es) (by have : es.length ≤ 1 := h5; have : 1 ≤ es.length := h4; omega)
      obtain rfl := h3 rfl
      obtain rfl := nile (by decide)
      cases n with
      | zero => exact absurd (by rw [pStm]) hn
      | succ n =>
        have ht' : Toks s t (wdK whileW :: sgK [40] :: (exK x 0 ++ sgK [41] :: sgK [123] :: (stKs b ++ sgK [125] :: l))) := by
          have e : stK (.mk 4 [] [x] b []) ++ l = wdK whileW :: sgK [40] :: (exK x 0 ++ sgK [41] :: sgK [123] :: (stKs b ++ sgK [125] :: l)) := by
            rw [stK]; show wdK whileW :: sgK [40] :: ((exK x 0 ++ sgK [41] :: sgK [123] :: (stKs b ++ [sgK [125]])) ++ l) = _
            rw [List.append_assoc, List.cons_append, List.cons_append, app2]
          rw [e] at ht; exact ht
        have p1 : isP t [119, 104, 105, 108, 101] = true := wd_is ht'
        rw [pStm, if_neg (kw_nm ht' (by decide +kernel)), if_neg (kw_no ht' (by decide)), if_pos p1] at hn ⊢
        obtain ⟨t1, e1, k1⟩ := cond_rd (ihx x (List.mem_cons_self ..)) ihb ht'.tl (and_no hn)
        rw [e1]
        exact ⟨t1, rfl, k1⟩
    · refine ⟨fun n t l ht hl hn => ?_, fun h => absurd h (by decide : ¬ (5 : Int) = 3)⟩
      obtain rfl := nilb (by decide) (by decide)
      obtain rfl := nile (by decide)
      cases n with
      | zero => exact absurd (by rw [pStm]) hn
      | succ n =>
        have ht' : Toks s t (wdK nm :: sgK [40] :: (commaK (exKs es []) ++ sgK [41] :: sgK [59] :: l)) := by
          have e : stK (.mk 5 nm es [] []) ++ l = wdK nm :: sgK [40] :: (commaK (exKs es []) ++ sgK [41] :: sgK [59] :: l) := by
            rw [stK]; show wdK nm :: sgK [40] :: ((commaK (exKs es []) ++ [sgK [41], sgK [59]]) ++ l) = _
            rw [List.append_assoc]; rfl
          rw [e] at ht; exact ht
        rw [stm_id ht' (h2 rfl), if_neg (sg_no ht'.tl (by decide)), if_neg (sg_no ht'.tl (by decide)), exp_1 ht'.tl] at hn ⊢
        obtain ⟨t1, e1, k1⟩ := args_rd ihx ht'.tl.tl (fun hp => args_head hvs ht'.tl.tl hp) (and_no hn)
        rw [e1]
        simp only [PR.and]
        rw [exp_sg k1, expP]
        exact ⟨_, rfl, k1.tl⟩
    all_goals
      refine ⟨fun n t l ht hl hn => ?_, fun h => (by simp [Stm.kind] at h)⟩
      obtain rfl := nilb (by decide) (by decide)
      obtain rfl := nile (by decide)
      obtain rfl := h3 rfl
      cases n with
      | zero => exact absurd (by rw [pStm]) hn
      | succ n => ?_
    · obtain ⟨x, rfl⟩ := len_one (l := es) (by have : es.length ≤ 1 := h5; have : 1 ≤ es.length := h4; omega)
      have ht' : Toks s t (wdK (wordK 6) :: (exK x 0 ++ sgK [59] :: l)) := by
        have e : stK (.mk 6 [] [x] [] []) ++ l = wdK (wordK 6) :: (exK x 0 ++ sgK [59] :: l) := by
          rw [stK]; show wdK (wordK 6) :: ((exK x 0 ++ [sgK [59]]) ++ l) = _
          rw [app2]
        rw [e] at ht; exact ht
      have p1 : isP t [114, 101, 116, 117, 114, 110] = true := wd_is ht'
      rw [pStm, if_neg (kw_nm ht' (by decide +kernel)), if_neg (kw_no ht' (by decide)), if_neg (kw_no ht' (by decide)), if_pos p1] at hn ⊢
      exact st_arg (ihx x (List.mem_cons_self ..)) ht' hn
    · obtain ⟨x, rfl⟩ := len_one (l := es) (by have : es.length ≤ 1 := h5; have : 1 ≤ es.length := h4; omega)
      have ht' : Toks s t (wdK (wordK 7) :: (exK x 0 ++ sgK [59] :: l)) := by
        have e : stK (.mk 7 [] [x] [] []) ++ l = wdK (wordK 7) :: (exK x 0 ++ sgK [59] :: l) := by
          rw [stK]; show wdK (wordK 7) :: ((exK x 0 ++ [sgK [59]]) ++ l) = _
          rw [app2]
        rw [e] at ht; exact ht
      have p1 : isP t [112, 117, 116] = true := wd_is ht'
      rw [pStm, if_neg (kw_nm ht' (by decide +kernel)), if_neg (kw_no ht' (by decide)), if_neg (kw_no ht' (by decide)), if_neg (kw_no ht' (by decide)), if_pos p1] at hn ⊢
      exact st_arg (ihx x (List.mem_cons_self ..)) ht' hn
    · obtain ⟨x, rfl⟩ := len_one (l := es) (by have : es.length ≤ 1 := h5; have : 1 ≤ es.length := h4; omega)
      have ht' : Toks s t (wdK (wordK 8) :: (exK x 0 ++ sgK [59] :: l)) := by
        have e : stK (.mk 8 [] [x] [] []) ++ l = wdK (wordK 8) :: (exK x 0 ++ sgK [59] :: l) := by
          rw [stK]; show wdK (wordK 8) :: ((exK x 0 ++ [sgK [59]]) ++ l) = _
          rw [app2]
        rw [e] at ht; exact ht
      have p1 : isP t [115, 116, 111, 112] = true := wd_is ht'
      rw [pStm, if_neg (kw_nm ht' (by decide +kernel)), if_neg (kw_no ht' (by decide)), if_neg (kw_no ht' (by decide)), if_neg (kw_no ht' (by decide)), if_neg (kw_no ht' (by decide)), if_pos p1] at hn ⊢
      exact st_arg (ihx x (List.mem_cons_self ..)) ht' hn
    · obtain rfl : es = [] := List.eq_nil_of_length_eq_zero (by have : es.length ≤ 0 := h5; omega)
      have ht' : Toks s t (wdK (wordK 9) :: sgK [59] :: l) := ht
      have p1 : isP t [98, 114, 101, 97, 107] = true := wd_is ht'
      rw [pStm, if_neg (kw_nm ht' (by decide +kernel)), if_neg (kw_no ht' (by decide)), if_neg (kw_no ht' (by decide)), if_neg (kw_no ht' (by decide)), if_neg (kw_no ht' (by decide)), if_neg (kw_no ht' (by decide)), if_pos p1, exp_1 ht'.tl]
      exact ⟨_, rfl, ht'.tl.tl⟩
    · obtain rfl : es = [] := List.eq_nil_of_length_eq_zero (by have : es.length ≤ 0 := h5; omega)
      have ht' : Toks s t (wdK (wordK 10) :: sgK [59] :: l) := ht
      have p1 : isP t [99, 111, 110, 116, 105, 110, 117, 101] = true := wd_is ht'
      rw [pStm, if_neg (kw_nm ht' (by decide +kernel)), if_neg (kw_no ht' (by decide)), if_neg (kw_no ht' (by decide)), if_neg (kw_no ht' (by decide)), if_neg (kw_no ht' (by decide)), if_neg (kw_no ht' (by decide)), if_neg (kw_no ht' (by decide)), if_pos p1, exp_1 ht'.tl]
      exact ⟨_, rfl, ht'.tl.tl⟩
theorem sts_rd : ∀ (l : List Stm) (m : Nat), stVs l m = true → ∀ y ∈ l, QS s y ∧ SH y
  | [], _, _ => fun y hy => (by cases hy)
  | x :: r, m, hv => by
    simp only [stVs, Bool.and_eq_true] at hv
    have h1 := st_rd x m hv.1
    have h2 := sts_rd r m hv.2
    intro y hy
    rcases List.mem_cons.1 hy with rfl | hy
    · exact ⟨h1, st_head hv.1⟩
    · exact h2 y hy
end
-- names, numbers, globals, functions
theorem names_rd : ∀ (l : List Str) (w : Str), (∀ y ∈ w :: l, identB y = true) → ∀ (n : Nat) (acc : List Str) (t : PS) (z : Str) (r : List Tk), decide (z = [44]) = false → Toks s t (namesK (w :: l) ++ sgK z :: r) → pNames s n acc t ≠ .out → ∃ t', pNames s n acc t = .ok (acc ++ w :: l) t' ∧ Toks s t' (sgK z :: r)
  | [], w, hl, n, acc, t, z, r, hz, ht, hn => by
    cases n with
    | zero => exact absurd (by rw [pNames]) hn
    | succ n =>
      have ht' : Toks s t (wdK w :: sgK z :: r) := ht
      rw [pNames, name_id ht' (hl w (List.mem_cons_self ..)), if_neg (sg_no ht'.tl hz)]
      exact ⟨_, rfl, ht'.tl⟩
  | v :: l, w, hl, n, acc, t, z, r, hz, ht, hn => by
    cases n with
    | zero => exact absurd (by rw [pNames]) hn
    | succ n =>
      have ht' : Toks s t (wdK w :: sgK [44] :: (namesK (v :: l) ++ sgK z :: r)) := ht
      rw [pNames, name_id ht' (hl w (List.mem_cons_self ..)), if_pos (sg_is ht'.tl)] at hn ⊢
      obtain ⟨t2, e2, h2⟩ := names_rd l v (fun y hy => hl y (List.mem_cons_of_mem _ hy)) n (acc ++ [w]) _ z r hz ht'.tl.tl hn
      exact ⟨t2, by rw [e2, List.append_assoc]; rfl, h2⟩
theorem nums_rd : ∀ (l : List Int) (w : Int) (n : Nat) (acc : List Int) (t : PS) (z : Str) (r : List Tk), decide (z = [44]) = false → Toks s t (commaK ((w :: l).map fun n => [nuK n]) ++ sgK z :: r) → pNums s n acc t ≠ .out → ∃ t', pNums s n acc t = .ok (acc ++ w :: l) t' ∧ Toks s t' (sgK z :: r)
  | [], w, n, acc, t, z, r, hz, ht, hn => by
    cases n with
    | zero => exact absurd (by rw [pNums]) hn
    | succ n =>
      have ht' : Toks s t (nuK w :: sgK z :: r) := ht
      rw [pNums, numb_nu ht', if_neg (sg_no ht'.tl hz)]
      exact ⟨_, rfl, ht'.tl⟩
  | v :: l, w, n, acc, t, z, r, hz, ht, hn => by
    cases n with
    | zero => exact absurd (by rw [pNums]) hn
    | succ n =>
      have ht' : Toks s t (nuK w :: sgK [44] :: (commaK ((v :: l).map fun n => [nuK n]) ++ sgK z :: r)) := ht
      rw [pNums, numb_nu ht', if_pos (sg_is ht'.tl)] at hn ⊢
      obtain ⟨t2, e2, h2⟩ := nums_rd l v n (acc ++ [w]) _ z r hz ht'.tl.tl hn
      exact ⟨t2, by rw [e2, List.append_assoc]; rfl, h2⟩
theorem glo_rd {g : Glo} (hv : gloC g = 0) {n : Nat} {t : PS} {r : List Tk} (ht : Toks s t (gloK g ++ r)) (hn : pGlo s n t ≠ .out) : ∃ t', pGlo s n t = .ok g t' ∧ Toks s t' r := by
  obtain ⟨h1, h2, h3, h4, h5, h6⟩ := gloC_zero hv
  obtain ⟨k, nm, nu, ini⟩ := g
  simp only at h1 h2 h3 h4 h5 h6
  rcases (by omega : k = 1 ∨ k = 2 ∨ k = 3) with rfl | rfl | rfl
  · obtain rfl := h4 (by decide)
    have ht' : Toks s t (wdK constW :: wdK nm :: sgK [61] :: nuK nu :: sgK [59] :: r) := ht
    have p1 : isP t [99, 111, 110, 115, 116] = true := wd_is ht'
    rw [pGlo, if_pos p1, name_id ht'.tl h3, exp_1 ht'.tl.tl, numb_nu ht'.tl.tl.tl, exp_1 ht'.tl.tl.tl.tl]
    exact ⟨_, rfl, ht'.tl.tl.tl.tl.tl⟩
  · obtain rfl := h4 (by decide)
    obtain rfl := h5 rfl
    have ht' : Toks s t (wdK varW :: wdK nm :: sgK [59] :: r) := ht
    have p1 : isP t [118, 97, 114] = true := wd_is ht'
    rw [pGlo, if_neg (kw_no ht' (by decide)), if_pos p1, name_id ht'.tl h3, exp_1 ht'.tl.tl]
    exact ⟨_, rfl, ht'.tl.tl.tl⟩
  · have ht' : Toks s t (wdK arrayW :: wdK nm :: sgK [91] :: nuK nu :: sgK [93] :: (((if ini = [] then [] else sgK [61] :: commaK (ini.map fun n => [nuK n])) ++ [sgK [59]]) ++ r)) := ht
    have e1 : (expP s [[97, 114, 114, 97, 121]] t) = .ok () (advP s t) := by rw [expP, if_pos (show isP t [97, 114, 114, 97, 121] = true from wd_is ht'), expP]
    rw [pGlo, if_neg (kw_no ht' (by decide)), if_neg (kw_no ht' (by decide)), e1] at hn ⊢
    simp only [PR.and] at hn ⊢
    have h3' := ht'.tl.tl.tl.tl.tl
    have e2 : nameP s (advP s t) = .ok nm (advP s (advP s t)) := by rw [nameP, if_pos (isNm_id ht'.tl h3), ht'.tl.2.1]; rfl
    have e3 : expP s [[91]] (advP s (advP s t)) = .ok () (advP s (advP s (advP s t))) := by rw [exp_sg ht'.tl.tl, expP]
    have e4 : numbP s (advP s (advP s (advP s t))) = .ok nu (advP s (advP s (advP s (advP s t)))) := by rw [numbP, if_pos (show _ = (2 : Int) from ht'.tl.tl.tl.1), ht'.tl.tl.tl.2.2.1]; rfl
    have e5 : expP s [[93]] (advP s (advP s (advP s (advP s t)))) = .ok () (advP s (advP s (advP s (advP s (advP s t))))) := by rw [exp_sg ht'.tl.tl.tl.tl, expP]
    rw [e2] at hn ⊢
    simp only at hn ⊢
    rw [e3] at hn ⊢
    simp only at hn ⊢
    rw [e4] at hn ⊢
    simp only at hn ⊢
    rw [e5] at hn ⊢
    simp only at hn ⊢
    cases ini with
    | nil =>
      have h4' : Toks s _ (sgK [59] :: r) := h3'
      have e6 : ∀ k : Unit → PS → PR Glo, (match expP s [[59]] (advP s (advP s (advP s (advP s (advP s t))))) with | .ok a t => k a t | .er t => .er t | .out => .out) = k () (advP s (advP s (advP s (advP s (advP s (advP s t)))))) := fun k => by rw [exp_sg h4', expP]
      rw [if_neg (sg_no h4' (by decide)), exp_sg h4', expP]
      exact ⟨_, rfl, h4'.tl⟩
    | cons x l =>
      have h4' : Toks s (advP s (advP s (advP s (advP s (advP s t))))) (sgK [61] :: (commaK ((x :: l).map fun n => [nuK n]) ++ sgK [59] :: r)) := by
        have e : ((if (x :: l) = [] then [] else sgK [61] :: commaK ((x :: l).map fun n => [nuK n])) ++ [sgK [59]]) ++ r = sgK [61] :: (commaK ((x :: l).map fun n => [nuK n]) ++ sgK [59] :: r) := by
          rw [if_neg (by simp), app2]; rfl
        rw [e] at h3'; exact h3'
      rw [if_pos (sg_is h4')] at hn ⊢
      have hn2 : pNums s n [] (advP s (advP s (advP s (advP s (advP s (advP s t)))))) ≠ .out := fun h => by rw [h] at hn; exact hn rfl
      obtain ⟨t1, e7, k1⟩ := nums_rd l x n [] _ [59] r (by decide) h4'.tl hn2
      rw [e7]
      simp only
      rw [exp_sg k1, expP]
      exact ⟨_, rfl, k1.tl⟩
theorem body_rd {x : Fnc} (hv : fnV x) {n : Nat} {t : PS} {r : List Tk} (ht : Toks s t (sgK [41] :: sgK [123] :: ((if x.locals = [] then [] else wdK varW :: (namesK x.locals ++ [sgK [59]])) ++ (stKs x.body ++ sgK [125] :: r)))) (hn : pBody s n x.name x.params t ≠ .out) :
    ∃ t', pBody s n x.name x.params t = .ok x t' ∧ Toks s t' r := by
  obtain ⟨a1, a2, a3, a4, a5, a6⟩ := hv
  have hb := sts_rd (s := s) x.body 1 a5
  rw [pBody, exp_2 ht] at hn ⊢
  have h2 := ht.tl.tl
  by_cases hl : x.locals = []
  · rw [if_pos hl] at h2
    have h2' : Toks s (advP s (advP s t)) (stKs x.body ++ sgK [125] :: r) := h2
    have hno : ¬ isP (advP s (advP s t)) [118, 97, 114] = true := by
      have hh : ∀ (b : List Stm), stVs b 1 = true → Toks s (advP s (advP s t)) (stKs b ++ sgK [125] :: r) → ¬ isP (advP s (advP s t)) [118, 97, 114] = true := by
        intro b hb hT
        cases b with
        | nil => exact sg_no hT (by decide)
        | cons y b =>
          simp only [stVs, Bool.and_eq_true] at hb
          obtain ⟨w, q, e, hw⟩ : ∃ w q, stK y = wdK w :: q ∧ w ≠ [118, 97, 114] := by
            cases y with
            | mk k nm es b e =>
              have hy := hb.1
              simp only [stV, Bool.and_eq_true, decide_eq_true_eq] at hy
              obtain ⟨h1, h2, _⟩ := stC_z hy.1.1.1.2
              rw [stK]
              rcases (by omega : k = 3 ∨ k = 4 ∨ k = 1 ∨ k = 2 ∨ k = 5 ∨ (6 ≤ k ∧ k ≤ 10)) with rfl | rfl | rfl | rfl | rfl | hk
              · exact ⟨_, _, rfl, by decide⟩
              · exact ⟨_, _, rfl, by decide⟩
              · exact ⟨_, _, rfl, id_no (h2 rfl) (by decide +kernel)⟩
              · exact ⟨_, _, rfl, id_no (h2 rfl) (by decide +kernel)⟩
              · exact ⟨_, _, rfl, id_no (h2 rfl) (by decide +kernel)⟩
              · rcases (by omega : k = 6 ∨ k = 7 ∨ k = 8 ∨ k = 9 ∨ k = 10) with rfl | rfl | rfl | rfl | rfl <;> exact ⟨_, _, rfl, by decide⟩
          rw [stKs, e] at hT
          rw [isP_wd (w := w) hT, decide_eq_true_eq]; exact hw
      exact hh x.body a5 h2'
    rw [if_neg hno] at hn ⊢
    obtain ⟨t1, e1, k1⟩ := rest_rd x.body hb n [] _ r h2' (and_no hn)
    rw [e1]
    refine ⟨t1, ?_, k1⟩
    simp only [PR.and, List.nil_append]
    rw [← hl]
  · rw [if_neg hl] at h2
    have h2' : Toks s (advP s (advP s t)) (wdK varW :: (namesK x.locals ++ sgK [59] :: (stKs x.body ++ sgK [125] :: r))) := by
      rw [List.cons_append, app2] at h2; exact h2
    have p1 : isP (advP s (advP s t)) [118, 97, 114] = true := wd_is h2'
    rw [if_pos p1] at hn ⊢
    obtain ⟨w, l, e⟩ := List.exists_cons_of_ne_nil hl
    rw [e] at h2'
    obtain ⟨t1, e1, k1⟩ := names_rd l w (fun y hy => a4 y (List.mem_append_right _ (by rw [e]; exact hy))) n [] _ [59] _ (by decide) h2'.tl (and_no hn)
    rw [e1] at hn ⊢
    simp only [PR.and, List.nil_append] at hn ⊢
    rw [exp_sg k1, expP] at hn ⊢
    simp only at hn ⊢
    obtain ⟨t2, e2, k2⟩ := rest_rd x.body hb n [] _ r k1.tl (and_no hn)
    rw [e2]
    refine ⟨t2, ?_, k2⟩
    simp only [List.nil_append]
    rw [← e]
theorem fun_rd {x : Fnc} (hv : fnV x) {n : Nat} {t : PS} {r : List Tk} (ht : Toks s t (fncK x ++ r)) (hn : pFun s n (advP s t) ≠ .out) : ∃ t', pFun s n (advP s t) = .ok x t' ∧ Toks s t' r := by
  have hv' := hv
  obtain ⟨a1, a2, a3, a4, a5, a6⟩ := hv
  have ht' : Toks s t (wdK funcW :: wdK x.name :: sgK [40] :: (namesK x.params ++ sgK [41] :: sgK [123] :: ((if x.locals = [] then [] else wdK varW :: (namesK x.locals ++ [sgK [59]])) ++ (stKs x.body ++ sgK [125] :: r)))) := by
    have e : fncK x ++ r = wdK funcW :: wdK x.name :: sgK [40] :: (namesK x.params ++ sgK [41] :: sgK [123] :: ((if x.locals = [] then [] else wdK varW :: (namesK x.locals ++ [sgK [59]])) ++ (stKs x.body ++ sgK [125] :: r))) := by
      rw [fncK]; simp only [List.append_assoc, List.cons_append, List.nil_append]
    rw [e] at ht; exact ht
  rw [pFun, name_id ht'.tl a1, exp_1 ht'.tl.tl] at hn ⊢
  have h3 := ht'.tl.tl.tl
  by_cases hp : x.params = []
  · rw [hp] at h3
    have h3' : Toks s _ (sgK [41] :: sgK [123] :: ((if x.locals = [] then [] else wdK varW :: (namesK x.locals ++ [sgK [59]])) ++ (stKs x.body ++ sgK [125] :: r))) := h3
    rw [if_pos (sg_is h3')] at hn ⊢
    rw [← hp] at hn ⊢
    exact body_rd hv' h3' hn
  · obtain ⟨w, l, e⟩ := List.exists_cons_of_ne_nil hp
    rw [e] at h3
    have hno : ¬ isP (advP s (advP s (advP s t))) [41] = true := by
      have : ∃ q, namesK (w :: l) = wdK w :: q := by cases l <;> exact ⟨_, rfl⟩
      obtain ⟨q, eq⟩ := this
      rw [eq] at h3
      exact wd_no (w := w) h3 (a4 w (List.mem_append_left _ (by rw [e]; exact List.mem_cons_self ..))) (by decide +kernel)
    rw [if_neg hno] at hn ⊢
    obtain ⟨t1, e1, k1⟩ := names_rd l w (fun y hy => a4 y (List.mem_append_left _ (by rw [e]; exact hy))) n [] _ [41] _ (by decide) h3 (and_no hn)
    rw [e1] at hn ⊢
    simp only [PR.and, List.nil_append] at hn ⊢
    rw [← e] at hn ⊢
    exact body_rd hv' k1 hn
theorem prog_fn : ∀ (l : List Fnc), (∀ x ∈ l, fnV x) → ∀ (n : Nat) (p : Prg) (t : PS), Toks s t (l.map fncK).flatten → pProg s n p t ≠ .out → ∃ t', pProg s n p t = .ok ⟨p.globals, p.funcs ++ l⟩ t'
  | [], _, n, p, t, ht, hn => by
    cases n with
    | zero => exact absurd (by rw [pProg]) hn
    | succ n =>
      have ht' : t.next.kind = 0 := ht
      rw [pProg, if_pos ht']
      exact ⟨t, by rw [List.append_nil]⟩
  | x :: l, hl, n, p, t, ht, hn => by
    cases n with
    | zero => exact absurd (by rw [pProg]) hn
    | succ n =>
      have ht' : Toks s t (fncK x ++ (l.map fncK).flatten) := ht
      have h0 : Toks s t (wdK funcW :: _) := ht'
      have p1 : isP t [102, 117, 110, 99] = true := wd_is h0
      have hk : ¬ t.next.kind = 0 := by rw [h0.1]; exact (by decide : ¬ (1 : Int) = 0)
      rw [pProg, if_neg hk, if_pos p1] at hn ⊢
      obtain ⟨t1, e1, k1⟩ := fun_rd (hl x (List.mem_cons_self ..)) ht' (and_no hn)
      rw [e1] at hn ⊢
      simp only [PR.and] at hn ⊢
      obtain ⟨t2, e2⟩ := prog_fn l (fun y hy => hl y (List.mem_cons_of_mem _ hy)) n _ t1 k1 hn
      exact ⟨t2, by rw [e2]; simp⟩
theorem prog_gl : ∀ (l : List Glo), (∀ g ∈ l, gloC g = 0) → ∀ (fs : List Fnc), (∀ x ∈ fs, fnV x) → ∀ (n : Nat) (p : Prg) (t : PS), Toks s t ((l.map gloK).flatten ++ (fs.map fncK).flatten) → pProg s n p t ≠ .out → ∃ t', pProg s n p t = .ok ⟨p.globals ++ l, p.funcs ++ fs⟩ t'
  | [], _, fs, hf, n, p, t, ht, hn => by
    obtain ⟨t2, e2⟩ := prog_fn fs hf n p t ht hn
    exact ⟨t2, by rw [e2, List.append_nil]⟩
  | g :: l, hl, fs, hf, n, p, t, ht, hn => by
    cases n with
    | zero => exact absurd (by rw [pProg]) hn
    | succ n =>
      have ht' : Toks s t (gloK g ++ ((l.map gloK).flatten ++ (fs.map fncK).flatten)) := by
        rw [List.map_cons, List.flatten_cons, List.append_assoc] at ht; exact ht
      obtain ⟨w, q, e, hw⟩ : ∃ w q, gloK g = wdK w :: q ∧ decide (w = [102, 117, 110, 99]) = false := by
        unfold gloK
        split
        · exact ⟨_, _, rfl, by decide⟩
        · split
          · exact ⟨_, _, rfl, by decide⟩
          · exact ⟨_, _, rfl, by decide⟩
      have h0 := ht'
      rw [e] at h0
      have h0' : Toks s t (wdK w :: (q ++ ((l.map gloK).flatten ++ (fs.map fncK).flatten))) := h0
      have hk : ¬ t.next.kind = 0 := by rw [h0'.1]; exact (by decide : ¬ (1 : Int) = 0)
      rw [pProg, if_neg hk, if_neg (kw_no h0' hw)] at hn ⊢
      obtain ⟨t1, e1, k1⟩ := glo_rd (hl g (List.mem_cons_self ..)) ht' (and_no hn)
      rw [e1] at hn ⊢
      simp only [PR.and] at hn ⊢
      obtain ⟨t2, e2⟩ := prog_gl l (fun y hy => hl y (List.mem_cons_of_mem _ hy)) fs hf n _ t1 k1 hn
      exact ⟨t2, by rw [e2]; simp⟩
theorem toks_prog {s : Str} {p : Prg} (hv : PV p) (hs : s.length ≤ 12000) (hf : prgF p = (0, 0)) (h : Lx s (prgK p)) : parP s = (p, (0, 0)) := by
  have ht := h.zero
  have hn := (prog_fin s).no
  obtain ⟨t', e⟩ := prog_gl p.globals (fun g hg => (hv.2.2.1 g hg).1) p.funcs hv.2.2.2.1 (fuelP s) ⟨[], []⟩ _ ht hn
  rw [parP, if_neg O, e]
  simp only [List.nil_append]
  rw [if_neg (by rw [hf]; decide)]
theorem prF_len {p : Prg} (h : (prgF p).1 = 0) : (prgT p).length ≤ 12000 := by
  unfold prgF at h
  split at h
  · rename_i h1; exact absurd h h1
  · split at h
    · cases h
    · omega
theorem round_trip {p : Prg} (hu : prU p) (hf : (prgF p).1 = 0) : parP (prgT p) = (p, (0, 0)) := by
  have hs : (shapeF p).1 = 0 := by
    unfold prgF at hf
    split at hf
    · rename_i h1; exact absurd hf h1
    · rename_i h1; simpa using h1
  have hv := PV.of hu hs
  exact toks_prog hv (prF_len hf) (prgF_00 hf) (prg_lx hv hu)
open Go.FL
attribute [local irreducible] JC JO JA JB thenQ blockQ retQ AC fill CellsAt QE Ev Mid
theorem lawRound_ac (D : Nat) (L : Hl) (s : World) (hG : GP s) (d : Nat) (p : Prg) (Ag Af : Option Addr) (ng cg nf cf : Nat) (hGl : Glos s Ag ng cg p.globals) (hFn : Fncs d s Af nf cf p.funcs) : AC Tryz.prog D 5 [.agg #[.slice Ag ng cg, .slice Af nf cf]] L s fun v L' _ => v = .bool true ∧ L = L' := by
 have hU : prU p := ⟨hGl.u, hFn.u⟩
 refine AC_enter (TT := TT) (fn := Tryz.f5) TT_ok Tryz.func5 V Z Tryz.ntmps5 Z (rs := [.tmp 2]) Z [(0, _)] Z <| Sr <| JO_boxA Z Z ?_
 intro β1 s1 h1
 refine At Z Z <| Zs <| Sr <| Jc Z Z Z (spelled_ac D _ _ (hG.le h1)) ?_
 rintro _ _ s2 h2 ⟨rfl, rfl⟩
 refine ZqnT Z Z <| Nt <| Zz Z <| Zk <| Zt <| Sr <| JO_q (QE_ldA 0 [_, _] Z Z Z Z Z) Z <| Jc Z Z Z (print_ac D _ _ (hG.le (h1.t h2)) d p Ag Af ng cg nf cf (hGl.le (h1.t h2)) (hFn.le (h1.t h2))) ?_
 rintro _ _ s3 h3 ⟨rfl, rfl⟩
 refine Zqm Z Z <| Zqx Z Z Z <| Zqx Z Z Z <| JO_allocZ Z [_, _] Z Z ?_
 intro β4 s4 h4
 refine Zqa Z Z <| Wt 0 [_, _] Y9 <| Nt <| Zs <| Sr <| W0 Y5 <| Wl 0 Y6 <| Zqne Z Z Z <| Nt <| ?_
 refine JC_ifN Z (fun c5 => ?_) (fun c5 => ?_)
 ·
  have hz := c5
  refine Zs <| JC_draw drawsMixed 9 Z _ (fun _ h => h) ?_
  intro s6 h6
  refine za 0 Z (QE_mv Z) Z <| za 1 Z (QE_cast (v' := .bool true) (QE_seq Z Z) (bT (by rw [if_pos hz]))) Z <| za 2 Z (QE_mv Z) Z <| zg 3 Z ⟨_, Z, Z⟩ (QE_ldA 0 [_, _] Z Z Z Z Z) Z <| zg 4 Z ⟨_, Z, Z⟩ (QE_ldA 1 [_, _] Z Z Z Z Z) Z <| JA_1 5 V <| Jb Z ⟨_, Z, Z⟩ Z Z Z (rprgF_ac D _ _ d p Ag Af ng cg nf cf (hGl.le (h1.t h2|>.t h3|>.t h4|>.t h6)) (hFn.le (h1.t h2|>.t h3|>.t h4|>.t h6))) ?_
  rintro _ _ s7 h7 ⟨rfl, rfl⟩
  refine ⟨fun _ _ h => h, ?_⟩
  refine zg 6 Z ⟨_, Z, Z⟩ (QE_cast (v' := .bool true) (QE_aeq Z Z (eqFault _ _ _ _)) (bT ⟨Z, Z⟩)) Z <| za 7 Z (QE_pickT Z Z) Z <| za 8 Z (QE_as Z) Z <| JA_done V <| Zt <| Zo <| Zu <| ?_
  refine retQ_mk [_, _] L (.inr Z) (.tmp Z (.nil)) Z (h1.t h2|>.t h3|>.t h4|>.t h6|>.t h7) (fun sR hS2 => ?_)
  exact ⟨rfl, rfl⟩
 have hz : (prgF p).1 = 0 := by omega
 refine Zk <| Zt <| Sr <| Zqm Z Z <| Jc Z Z Z (parse_prog D _ _ (hG.le (h1.t h2|>.t h3|>.t h4)) (if (prgF p).1 ≠ 0 then [] else prgT p)) ?_
 rintro _ _ s8 h8 ⟨rfl, dq, pq, fq, kq, Agq, ngq, cgq, Afq, nfq, cfq, rfl, hpq, hgq, hfq⟩
 rw [if_neg (fun h => h hz), round_trip hU hz] at hpq
 cases hpq
 refine Zqm Z Z <| Zqx Z Z Z <| Zqx Z Z Z <| JO_allocZ Z [_, _] Z Z ?_
 intro β9 s9 h9
 refine JO_allocZ Z [_, _] Z Z ?_
 intro β10 s10 h10
 refine Wt 1 [_, _] Y9 <| Wt 0 [_, _] Y9 <| Nt <| Sr <| W0 Y5 <| Wl 0 Y6 <| JO_q (QE_cast (v' := .bool true) (QE_eq Z Z) (bT (by rfl))) Z <| Zqm Z Z <| Zg Z Z <| JO_q (QE_ldA 3 [_, _] Z Z Z Z Z) Z <| Zg Z Z <| JO_q (QE_ldA 1 [_, _] Z Z Z Z Z) Z <| Zg Z Z <| Jc Z Z Z (sameP_ac D _ _ d p Ag Af ng cg nf cf (hGl.le (h1.t h2|>.t h3|>.t h4|>.t h8|>.t h9|>.t h10)) (hFn.le (h1.t h2|>.t h3|>.t h4|>.t h8|>.t h9|>.t h10)) dq _ _ _ _ _ _ (hgq.le (h9.t h10)) (hfq.le (h9.t h10))) ?_
 rintro _ _ s11 h11 ⟨rfl, rfl⟩
 refine ZqT Z Z Z <| At Z Z <| Zo <| ?_
 refine retQ_mk [_, _, _, _] L (.inr Z) (.tmp Z (.nil)) Z (h1.t h2|>.t h3|>.t h4|>.t h8|>.t h9|>.t h10|>.t h11) (fun sR hS2 => ?_)
 exact ⟨rfl, rfl⟩
end Go.Proofs.YtiljephghfngnaaGreatDoor
namespace Go.Proofs.YtiljephghfngnaaGreatDoor
open Go Go.FL Go.ChangeShapes Go.WideShapes Go.ChangeAt Go.RowKit Go.Deep
theorem own_knob : ownKnob Tryz.prog.godebug = none := by kernel_rfl
theorem laid_out : laidOutB Tryz.prog = true := by kernel_rfl
theorem mark_free (l : List Obj) : ∃ D, ∀ E, D ≤ E → ∀ o ∈ l, o ≠ dum E := by
  induction l with
  | nil => exact ⟨0, fun _ _ _ h => by cases h⟩
  | cons x l ih =>
    obtain ⟨D, hD⟩ := ih
    have hx : ∃ B, ∀ E, B ≤ E → x ≠ dum E := by
      cases x with
      | mapIter a n b c => exact ⟨n + 1, fun E hE h => by simp only [dum, Obj.mapIter.injEq] at h; omega⟩
      | _ => exact ⟨0, fun E _ h => by simp [dum] at h⟩
    obtain ⟨B, hB⟩ := hx
    refine ⟨max D B, fun E hE o ho => ?_⟩
    rcases List.mem_cons.1 ho with rfl | ho
    · exact hB E O
    · exact hD E O o ho
theorem mark_world (W : World) : ∃ D, ∀ k : Nat, W.heap[k]? ≠ some (dum D) := by
  obtain ⟨D, hD⟩ := mark_free W.heap.toList
  refine ⟨D, fun k hk => hD D (Nat.le_refl _) (dum D) ?_ Z⟩
  rw [← Array.getElem?_toList] at hk
  exact List.mem_of_getElem? hk
theorem below_of {D : Nat} {W W' : World} (hD : ∀ k : Nat, W.heap[k]? ≠ some (dum D)) (h : Le D W W') : Below W.heap.size W W' :=
  ⟨h.os, h.tape, h.output, h.size, fun k hk => (h.block k hk).resolve_left (hD k)⟩
theorem law_calls {P : Program} {f : FuncId} {args : List Value} {W : World} (h : ∀ D, AC P D f args [] W fun v L' _ => v = .bool true ∧ [] = L') :
    Calls P f args.toArray W fun e W' => e = .returned (.bool true) ∧ Below W.heap.size W W' := by
  obtain ⟨D, hD⟩ := mark_world W
  refine ((h D).2 ⟨by simp, fun x hx => by cases hx⟩).mono ?_
  rintro e w' ⟨v, L', s', h1, rfl, h3, h4, rfl, rfl⟩
  exact ⟨h1, below_of hD h4⟩
section
variable {H : Type} {enc : TypeId × Value → H} {P : Program}
theorem trodAll_stays {W W' : World} (hl : laidOutB P = true) (hb : Below W.heap.size W W') : ∀ {ts : List TypeId} {vs : List Value} {ds : List (DataW H)} {ps : List MemPlace}, (∀ t ∈ ts, P.readableRec t = true ∧ t < P.types.size) → (∀ x ∈ ps, x.block < W.heap.size) →
    DataW.TrodAll enc P W 0 (fun _ => true) true ts vs ds ps → DataW.TrodAll enc P W' 0 (fun b => decide (b < W.heap.size)) true ts vs ds ps
  | [], _, _, _, _, _, h => by
    obtain ⟨rfl, rfl, rfl⟩ := trodAll_nil h
    exact trodAll_mk0
  | t :: ts, _, _, _, hts, hp, h => by
    obtain ⟨v, vs, d, ds, a, b, rfl, rfl, rfl, h1, h2⟩ := trodAll_cons h
    have ht := hts t (List.mem_cons_self ..)
    exact trodAll_cons_mk (Below.trod hl ht.1 ht.2 h1 hb fun x hx => hp x (List.mem_append_left _ hx)) (trodAll_stays hl hb (fun t' h' => hts t' (List.mem_cons_of_mem _ h')) (fun x hx => hp x (List.mem_append_right _ hx)) h2)
theorem law_post {fn : Func} {s : ChangeSpec} {W W' : World} {args : Array Value} {ds gs : List (DataW H)} {before : List MemPlace} {tb : TypeId} (hl : laidOutB P = true) (hts : ∀ t ∈ fn.params.toList, P.readableRec t = true ∧ t < P.types.size) (hr : fn.resultTypes = #[tb]) (hb : P.underlying tb = some .bool)
    (hv : s.vars = []) (hW : DataW.Whole enc P fn.params.toList s.vars false W args.toList ds gs before) (hfn : s.fn H ds = { results := [.lit (.bool true)], args := ds }) (hB : Below W.heap.size W W') : s.post enc P fn false true false false W args (.bool true) W' := by
  have hlt : ∀ x ∈ before, x.block < W.heap.size := fun x hx => hW.lt x hx
  have hW' := hW
  obtain ⟨p, q, hA, hV, rfl, _, _⟩ := hW
  rw [hv] at hV
  obtain ⟨rfl, rfl⟩ := trodVars_none hV
  refine ⟨ds, [], p ++ [], [], p, [], hW', ?_, ?_, ?_, hB.frame _, fun h => by cases h⟩
  · rw [List.append_nil, hfn, hr]; exact trodAll_cons_mk (shut_bool hb _) trodAll_mk0
  · rw [List.append_nil, hfn]; exact trodAll_stays hl hB hts (fun x hx => hlt x (List.mem_append_left _ hx)) hA
  · rw [List.append_nil, hfn, hv]; rfl
end
def Rd (W : World) (t : TypeId) (cs : List Value) : Prop := ∃ (H : Type) (enc : TypeId × Value → H) (n : Nat) (x : DataW H × List MemPlace), DataW.trod enc Tryz.prog W 0 (fun _ => true) true n t cs = some x
section
variable {W : World} {t e : TypeId} {cs : List Value}
theorem rd_int {k : IntKind} (ht : Tryz.prog.underlying t = some (.int k)) (h : Rd W t cs) : ∃ n, cs = [.int k n] ∧ (Lit.int k n).wf = true := by
  obtain ⟨H, enc, n, x, h⟩ := h
  obtain ⟨i, h1, _, h2⟩ := DataW.trod_int ht h
  exact ⟨i, h1, h2⟩
theorem rd_str (ht : Tryz.prog.underlying t = some .string) (h : Rd W t cs) : ∃ l : List UInt8, cs = [St l] ∧ l.length ≤ 9223372036854775807 := by
  obtain ⟨H, enc, n, x, h⟩ := h
  obtain ⟨s, h1, _, h2⟩ := DataW.trod_string ht h
  refine ⟨s.data.toList, by rw [h1], ?_⟩
  have : s.data.toList.length = s.size := by rw [Array.length_toList]; rfl
  simp only [maxLen] at h2
  omega
theorem rd_field {fs : Array Field} (ht : Tryz.prog.underlying t = some (.struct fs)) (h : Rd W t cs) {sz : Nat} (hc : Tryz.prog.cellsOf t = sz) : cs.length = sz ∧ ∀ (i : Nat) (f : Field), fs[i]? = some f → ∀ (ty off n : Nat), f.type = ty → f.offset = off → Tryz.prog.cellsOf ty = n → Rd W ty ((cs.drop off).take n) := by
  obtain ⟨H, enc, n, x, h⟩ := h
  obtain ⟨xs, m, _, _, h1, h2, h3⟩ := DataW.trod_struct ht h
  refine ⟨h1.trans hc, fun i f hf ty off k e1 e2 e3 => ?_⟩
  have hi : i < xs.length := by rw [h2]; exact (Array.getElem?_eq_some_iff.1 hf).1
  have := h3 i f hf
  rw [List.getElem?_eq_getElem hi, e1, e2, e3] at this
  exact ⟨H, enc, m, _, this⟩
theorem rd_slice {sz : Nat} (ht : Tryz.prog.underlying t = some (.slice e)) (hc : Tryz.prog.cellsOf e = sz) (hp : 0 < sz) (h : Rd W t cs) : ∃ A n c, cs = [.slice A n c] ∧ n ≤ c ∧ c ≤ 9223372036854775807 ∧
    ∀ i, i < n → ∃ b off ds, A = some ⟨b, off, none⟩ ∧ CellsAt W b (off + i * sz) ds ∧ ds.length = sz ∧ Rd W e ds := by
  obtain ⟨H, enc, q, x, h⟩ := h
  rcases open_slice ht h with ⟨rfl, _⟩ | ⟨a, len, cap, m, k, D, Pl, rfl, _, h1, h2, h3, _, h4⟩
  · exact ⟨none, 0, 0, rfl, Nat.le_refl _, by omega, fun i hi => by omega⟩
  · simp only [maxLen] at h2
    refine ⟨some a, len, cap, Z, h1, by omega, fun i hi => ?_⟩
    obtain ⟨ds, k1, k2⟩ := h4 i (by simp at h3; omega)
    rw [hc] at k1
    obtain ⟨_, k3, k4⟩ := World.cells?_some k1
    obtain ⟨b, off, spot⟩ := a
    have hs : spot = none := by
      obtain ⟨ds0, j1, _⟩ := h4 0 (by simp at h3; omega)
      rw [hc, Nat.zero_mul] at j1
      obtain ⟨_, j3, j4⟩ := World.cells?_some j1
      have := j4 0 hp
      rw [List.getElem?_eq_getElem O] at this
      simpa [Addr.add] using World.cell?_spot this
    subst hs
    refine ⟨b, off, ds, Z, fun j v hj => ?_, k3, H, enc, k, _, k2⟩
    have hl : j < sz := by rw [← k3]; exact (List.getElem?_eq_some_iff.1 hj).1
    have := k4 j hl
    rw [hj, add_lit, add_lit] at this
    exact this
theorem sl_of {α : Type} [Inhabited α] {R : World → α → List Value → Prop} {sz : Nat} (ht : Tryz.prog.underlying t = some (.slice e)) (hc : Tryz.prog.cellsOf e = sz) (hp : 0 < sz) (h : Rd W t cs) (hel : ∀ ds, Rd W e ds → ∃ x : α, R W x ds) : ∃ A n c l, cs = [.slice A n c] ∧ Sl sz R W A n c l := by
  obtain ⟨A, n, c, h1, h2, h3, h4⟩ := rd_slice ht hc hp h
  obtain ⟨f, hf⟩ := choose_lt (α := α) (p := fun i x => ∃ b off ds, A = some ⟨b, off, none⟩ ∧ CellsAt W b (off + i * sz) ds ∧ ds.length = sz ∧ R W x ds) (n := n) (fun i hi => by
    obtain ⟨b, off, ds, k1, k2, k3, k4⟩ := h4 i hi
    obtain ⟨x, hx⟩ := hel ds k4
    exact ⟨x, b, off, ds, k1, k2, k3, hx⟩)
  refine ⟨A, n, c, (List.range n).map f, h1, by simp, h2, h3, fun i x hi => ?_⟩
  rw [List.getElem?_map] at hi
  cases hr : (List.range n)[i]? with
  | none => simp [hr] at hi
  | some j =>
    simp [hr] at hi
    obtain ⟨hi1, hi2⟩ := List.getElem?_eq_some_iff.1 hr
    simp at hi1 hi2
    subst hi2; subst hi
    exact hf i hi1
theorem len2 {l : List Value} (h : l.length = 2) : ∃ a b, l = [a, b] := by match l, h with | [a, b], _ => exact ⟨a, b, rfl⟩
theorem len4 {l : List Value} (h : l.length = 4) : ∃ a b c d, l = [a, b, c, d] := by match l, h with | [a, b, c, d], _ => exact ⟨a, b, c, d, rfl⟩
theorem one_eq {a b : Value} (h : [a] = [b]) : a = b := by injection h
theorem u32_wf {n : Int} (h : (Lit.int .u32 n).wf = true) : U32 n := by have := bounds_u32 h; exact ⟨by omega, by omega⟩
end
set_option maxRecDepth 100000
instance : Inhabited Ex := ⟨.mk 0 0 0 [] []⟩
instance : Inhabited Stm := ⟨.mk 0 [] [] [] []⟩
instance : Inhabited Fnc := ⟨⟨[], [], [], []⟩⟩
instance : Inhabited Glo := ⟨⟨0, [], 0, []⟩⟩
theorem c_int : Tryz.prog.cellsOf 3 = 1 := by kernel_rfl
theorem c_u32 : Tryz.prog.cellsOf 40 = 1 := by kernel_rfl
theorem c_str : Tryz.prog.cellsOf 9 = 1 := by kernel_rfl
theorem c_strs : Tryz.prog.cellsOf 44 = 1 := by kernel_rfl
theorem c_words : Tryz.prog.cellsOf 50 = 1 := by kernel_rfl
theorem c_ex : Tryz.prog.cellsOf 97 = 5 := by kernel_rfl
theorem c_exs : Tryz.prog.cellsOf 95 = 1 := by kernel_rfl
theorem c_st : Tryz.prog.cellsOf 100 = 5 := by kernel_rfl
theorem c_sts : Tryz.prog.cellsOf 54 = 1 := by kernel_rfl
theorem c_fn : Tryz.prog.cellsOf 56 = 4 := by kernel_rfl
theorem c_fns : Tryz.prog.cellsOf 23 = 1 := by kernel_rfl
theorem c_gl : Tryz.prog.cellsOf 52 = 4 := by kernel_rfl
theorem c_gls : Tryz.prog.cellsOf 22 = 1 := by kernel_rfl
theorem c_prg : Tryz.prog.cellsOf 25 = 2 := by kernel_rfl
theorem len5 {l : List Value} (h : l.length = 5) : ∃ a b c d e, l = [a, b, c, d, e] := by match l, h with | [a, b, c, d, e], _ => exact ⟨a, b, c, d, e, rfl⟩
def RdN (n : Nat) (W : World) (t : TypeId) (cs : List Value) : Prop := ∃ (H : Type) (enc : TypeId × Value → H) (x : DataW H × List MemPlace), DataW.trod enc Tryz.prog W 0 (fun _ => true) true n t cs = some x
section
variable {W : World} {t e : TypeId} {cs : List Value}
theorem RdN.rd {n : Nat} (h : RdN n W t cs) : Rd W t cs := by
  obtain ⟨H, enc, x, h⟩ := h
  exact ⟨H, enc, n, x, h⟩
theorem rdn_field {n : Nat} {fs : Array Field} (ht : Tryz.prog.underlying t = some (.struct fs)) (h : RdN n W t cs) {sz : Nat} (hc : Tryz.prog.cellsOf t = sz) : cs.length = sz ∧ ∃ m, n = m + 1 ∧ ∀ (i : Nat) (f : Field), fs[i]? = some f → ∀ (ty off k : Nat), f.type = ty → f.offset = off → Tryz.prog.cellsOf ty = k → RdN m W ty ((cs.drop off).take k) := by
  obtain ⟨H, enc, x, h⟩ := h
  obtain ⟨xs, m, hm, _, h1, h2, h3⟩ := DataW.trod_struct ht h
  refine ⟨h1.trans hc, m, hm, fun i f hf ty off k e1 e2 e3 => ?_⟩
  have hi : i < xs.length := by rw [h2]; exact (Array.getElem?_eq_some_iff.1 hf).1
  have := h3 i f hf
  rw [List.getElem?_eq_getElem hi, e1, e2, e3] at this
  exact ⟨H, enc, _, this⟩
theorem rdn_slice {n sz : Nat} (ht : Tryz.prog.underlying t = some (.slice e)) (hc : Tryz.prog.cellsOf e = sz) (hp : 0 < sz) (h : RdN n W t cs) : ∃ A m c, cs = [.slice A m c] ∧ m ≤ c ∧ c ≤ 9223372036854775807 ∧
    ∀ i, i < m → ∃ b off ds q, A = some ⟨b, off, none⟩ ∧ CellsAt W b (off + i * sz) ds ∧ ds.length = sz ∧ n = q + 1 ∧ RdN q W e ds := by
  obtain ⟨H, enc, x, h⟩ := h
  rcases DataW.trod_slice ht h with ⟨rfl, _⟩ | ⟨a, len, cap, elems, rest, q, hq, rfl, _, _, h1, h2, hlen, hel, _, _⟩
  · exact ⟨none, 0, 0, rfl, Nat.le_refl _, by omega, fun i hi => by omega⟩
  · simp only [maxLen] at h2
    have h4 : ∀ i, i < len → ∃ ds x, W.cells? 0 (a.add (i * sz)) sz = some ds ∧ DataW.trod enc Tryz.prog W 0 (fun _ => true) true q e ds = some x := by
      intro i hi
      have := hel i hi
      rw [List.getElem?_eq_getElem O, hc] at this
      obtain ⟨ds, k1, k2⟩ := Option.bind_eq_some_iff.1 this
      exact ⟨ds, _, k1, k2⟩
    refine ⟨some a, len, cap, Z, h1, by omega, fun i hi => ?_⟩
    obtain ⟨ds, y, k1, k2⟩ := h4 i hi
    obtain ⟨_, k3, k4⟩ := World.cells?_some k1
    obtain ⟨b, off, spot⟩ := a
    have hs : spot = none := by
      obtain ⟨ds0, _, j1, _⟩ := h4 0 O
      rw [Nat.zero_mul] at j1
      obtain ⟨_, j3, j4⟩ := World.cells?_some j1
      have := j4 0 hp
      rw [List.getElem?_eq_getElem O] at this
      simpa [Addr.add] using World.cell?_spot this
    subst hs
    refine ⟨b, off, ds, q, Z, fun j v hj => ?_, k3, hq, H, enc, _, k2⟩
    have hl : j < sz := by rw [← k3]; exact (List.getElem?_eq_some_iff.1 hj).1
    have := k4 j hl
    rw [hj, add_lit, add_lit] at this
    exact this
theorem sln_of {α : Type} [Inhabited α] {R : World → α → List Value → Prop} {n sz : Nat} (ht : Tryz.prog.underlying t = some (.slice e)) (hc : Tryz.prog.cellsOf e = sz) (hp : 0 < sz) (h : RdN n W t cs) (hel : ∀ q, n = q + 1 → ∀ ds, RdN q W e ds → ∃ x : α, R W x ds) : ∃ A m c l, cs = [.slice A m c] ∧ Sl sz R W A m c l := by
  obtain ⟨A, m, c, h1, h2, h3, h4⟩ := rdn_slice ht hc hp h
  obtain ⟨f, hf⟩ := choose_lt (α := α) (p := fun i x => ∃ b off ds, A = some ⟨b, off, none⟩ ∧ CellsAt W b (off + i * sz) ds ∧ ds.length = sz ∧ R W x ds) (n := m) (fun i hi => by
    obtain ⟨b, off, ds, q, k1, k2, k3, k5, k4⟩ := h4 i hi
    obtain ⟨x, hx⟩ := hel q k5 ds k4
    exact ⟨x, b, off, ds, k1, k2, k3, hx⟩)
  refine ⟨A, m, c, (List.range m).map f, h1, by simp, h2, h3, fun i x hi => ?_⟩
  rw [List.getElem?_map] at hi
  cases hr : (List.range m)[i]? with
  | none => simp [hr] at hi
  | some j =>
    simp [hr] at hi
    obtain ⟨hi1, hi2⟩ := List.getElem?_eq_some_iff.1 hr
    simp at hi1 hi2
    subst hi2; subst hi
    exact hf i hi1
theorem rd_words (h : Rd W 50 cs) : ∃ A n c l, cs = [.slice A n c] ∧ Wds W A n c l := sl_of Tryz.underlying50 c_u32 (by decide) h fun _ hd => by
  obtain ⟨n, h1, h2⟩ := rd_int Tryz.underlying40 hd
  exact ⟨n, h1, u32_wf h2⟩
theorem rd_strs (h : Rd W 44 cs) : ∃ A n c l, cs = [.slice A n c] ∧ Strs W A n c l :=
  sl_of (α := List UInt8) (R := fun _ x cs => cs = [St x] ∧ x.length ≤ 9223372036854775807) Tryz.underlying44 c_str (by decide) h (fun _ hd => rd_str Tryz.underlying9 hd)
theorem rd_ex (n : Nat) : ∀ cs, RdN n W 97 cs → ∃ x : Ex, ExR n W x cs := by
  refine Nat.strongRecOn n ?_
  intro n ih cs h
  obtain ⟨h1, m, rfl, h2⟩ := rdn_field Tryz.underlying97 h c_ex
  obtain ⟨a, b, c, d, e, rfl⟩ := len5 h1
  obtain ⟨k, e1, _⟩ := rd_int Tryz.underlying3 (h2 0 _ rfl _ _ _ rfl rfl c_int).rd
  obtain ⟨o, e2, _⟩ := rd_int Tryz.underlying3 (h2 1 _ rfl _ _ _ rfl rfl c_int).rd
  obtain ⟨u, e3, w3⟩ := rd_int Tryz.underlying40 (h2 2 _ rfl _ _ _ rfl rfl c_u32).rd
  obtain ⟨w, e4, w4⟩ := rd_str Tryz.underlying9 (h2 3 _ rfl _ _ _ rfl rfl c_str).rd
  obtain ⟨A, p, q, l, e5, w5⟩ := sln_of (R := ExR m) Tryz.underlying95 c_ex (by decide) (h2 4 _ rfl _ _ _ rfl rfl c_exs) fun q hq ds hd => by
    obtain ⟨x, hx⟩ := ih q O ds hd
    exact ⟨x, hx.up O⟩
  have z1 : a = .int .i64 k := one_eq e1
  have z2 : b = .int .i64 o := one_eq e2
  have z3 : c = .int .u32 u := one_eq e3
  have z4 : d = St w := one_eq e4
  have z5 : e = .slice A p q := one_eq e5
  subst z1; subst z2; subst z3; subst z4; subst z5
  exact ⟨.mk k o u w l, A, p, q, rfl, w5, u32_wf w3, w4⟩
theorem rd_exs {n : Nat} (h : RdN n W 95 cs) : ∃ A m c l, cs = [.slice A m c] ∧ Exs n W A m c l :=
  sln_of (R := ExR n) Tryz.underlying95 c_ex (by decide) h fun q hq ds hd => by
    obtain ⟨x, hx⟩ := rd_ex q ds hd
    exact ⟨x, hx.up O⟩
theorem rd_st (n : Nat) : ∀ cs, RdN n W 100 cs → ∃ x : Stm, StR n W x cs := by
  refine Nat.strongRecOn n ?_
  intro n ih cs h
  obtain ⟨h1, m, rfl, h2⟩ := rdn_field Tryz.underlying100 h c_st
  obtain ⟨a, b, c, d, e, rfl⟩ := len5 h1
  have hB : ∀ {cs}, RdN m W 54 cs → ∃ A p q l, cs = [.slice A p q] ∧ Sl 5 (StR m) W A p q l := fun h => sln_of (R := StR m) Tryz.underlying54 c_st (by decide) h fun q hq ds hd => by
    obtain ⟨x, hx⟩ := ih q O ds hd
    exact ⟨x, hx.up O⟩
  obtain ⟨k, e1, _⟩ := rd_int Tryz.underlying3 (h2 0 _ rfl _ _ _ rfl rfl c_int).rd
  obtain ⟨w, e2, w2⟩ := rd_str Tryz.underlying9 (h2 1 _ rfl _ _ _ rfl rfl c_str).rd
  obtain ⟨A1, p1, q1, l1, e3, w3⟩ := rd_exs (h2 2 _ rfl _ _ _ rfl rfl c_exs)
  obtain ⟨A2, p2, q2, l2, e4, w4⟩ := hB (h2 3 _ rfl _ _ _ rfl rfl c_sts)
  obtain ⟨A3, p3, q3, l3, e5, w5⟩ := hB (h2 4 _ rfl _ _ _ rfl rfl c_sts)
  have z1 : a = .int .i64 k := one_eq e1
  have z2 : b = St w := one_eq e2
  have z3 : c = .slice A1 p1 q1 := one_eq e3
  have z4 : d = .slice A2 p2 q2 := one_eq e4
  have z5 : e = .slice A3 p3 q3 := one_eq e5
  subst z1; subst z2; subst z3; subst z4; subst z5
  exact ⟨.mk k w l1 l2 l3, A1, p1, q1, A2, p2, q2, A3, p3, q3, rfl, w3, w4, w5, w2⟩
theorem rd_sts {n : Nat} (h : RdN n W 54 cs) : ∃ A m c l, cs = [.slice A m c] ∧ Stms n W A m c l :=
  sln_of (R := StR n) Tryz.underlying54 c_st (by decide) h fun q hq ds hd => by
    obtain ⟨x, hx⟩ := rd_st q ds hd
    exact ⟨x, hx.up O⟩
theorem FnR.up {d e : Nat} {s : World} {x : Fnc} {cs : List Value} (h : FnR d s x cs) (he : d ≤ e) : FnR e s x cs := by
  obtain ⟨A1, n1, c1, A2, n2, c2, A3, n3, c3, h1, h2, h3, h4, h5⟩ := h
  exact ⟨A1, n1, c1, A2, n2, c2, A3, n3, c3, h1, h2, h3, Stms.up h4 he, h5⟩
theorem rd_fn {n : Nat} {cs : List Value} (h : RdN n W 56 cs) : ∃ x : Fnc, FnR n W x cs := by
  obtain ⟨h1, m, rfl, h2⟩ := rdn_field Tryz.underlying56 h c_fn
  obtain ⟨a, b, c, d, rfl⟩ := len4 h1
  obtain ⟨w, e1, w1⟩ := rd_str Tryz.underlying9 (h2 0 _ rfl _ _ _ rfl rfl c_str).rd
  obtain ⟨A1, p1, q1, l1, e2, w2⟩ := rd_strs (h2 1 _ rfl _ _ _ rfl rfl c_strs).rd
  obtain ⟨A2, p2, q2, l2, e3, w3⟩ := rd_strs (h2 2 _ rfl _ _ _ rfl rfl c_strs).rd
  obtain ⟨A3, p3, q3, l3, e4, w4⟩ := rd_sts (h2 3 _ rfl _ _ _ rfl rfl c_sts)
  have z1 : a = St w := one_eq e1
  have z2 : b = .slice A1 p1 q1 := one_eq e2
  have z3 : c = .slice A2 p2 q2 := one_eq e3
  have z4 : d = .slice A3 p3 q3 := one_eq e4
  subst z1; subst z2; subst z3; subst z4
  exact ⟨⟨w, l1, l2, l3⟩, A1, p1, q1, A2, p2, q2, A3, p3, q3, rfl, w2, w3, Stms.up w4 O, w1⟩
theorem rd_gl {cs : List Value} (h : Rd W 52 cs) : ∃ x : Glo, GlR W x cs := by
  obtain ⟨h1, h2⟩ := rd_field Tryz.underlying52 h c_gl
  obtain ⟨a, b, c, d, rfl⟩ := len4 h1
  obtain ⟨k, e1, _⟩ := rd_int Tryz.underlying3 (h2 0 _ rfl _ _ _ rfl rfl c_int)
  obtain ⟨w, e2, w2⟩ := rd_str Tryz.underlying9 (h2 1 _ rfl _ _ _ rfl rfl c_str)
  obtain ⟨u, e3, w3⟩ := rd_int Tryz.underlying40 (h2 2 _ rfl _ _ _ rfl rfl c_u32)
  obtain ⟨A, p, q, l, e4, w4⟩ := rd_words (h2 3 _ rfl _ _ _ rfl rfl c_words)
  have z1 : a = .int .i64 k := one_eq e1
  have z2 : b = St w := one_eq e2
  have z3 : c = .int .u32 u := one_eq e3
  have z4 : d = .slice A p q := one_eq e4
  subst z1; subst z2; subst z3; subst z4
  exact ⟨⟨k, w, u, l⟩, A, p, q, rfl, w4, u32_wf w3, w2⟩
theorem rd_prg {n : Nat} {cs : List Value} (h : RdN n W 25 cs) : ∃ (p : Prg) (Ag Af : Option Addr) (ng cg nf cf : Nat), cs = [.slice Ag ng cg, .slice Af nf cf] ∧ Glos W Ag ng cg p.globals ∧ Fncs n W Af nf cf p.funcs := by
  obtain ⟨h1, m, rfl, h2⟩ := rdn_field Tryz.underlying25 h c_prg
  obtain ⟨a, b, rfl⟩ := len2 h1
  obtain ⟨Ag, ng, cg, lg, e1, w1⟩ := sl_of (R := GlR) Tryz.underlying22 c_gl (by decide) (h2 0 _ rfl _ _ _ rfl rfl c_gls).rd fun _ hd => rd_gl hd
  obtain ⟨Af, nf, cf, lf, e2, w2⟩ := sln_of (R := FnR (m + 1)) Tryz.underlying23 c_fn (by decide) (h2 1 _ rfl _ _ _ rfl rfl c_fns) fun q hq ds hd => by
    obtain ⟨x, hx⟩ := rd_fn hd
    exact ⟨x, hx.up O⟩
  have z1 : a = .slice Ag ng cg := one_eq e1
  have z2 : b = .slice Af nf cf := one_eq e2
  subst z1; subst z2
  exact ⟨⟨lg, lf⟩, Ag, Af, ng, cg, nf, cf, rfl, w1, w2⟩
end
section
variable {H : Type} {enc : TypeId × Value → H} {W : World} {base : Nat} {v : Value} {d : DataW H} {ps : List MemPlace}
theorem agg_of {t : TypeId} {fs : Array Field} (ht : Tryz.prog.underlying t = some (.struct fs)) (hv : Value.okWide Tryz.prog W .any base t v) : ∃ cs, v = .agg cs := by
  unfold Value.okWide at hv
  rw [ht] at hv
  obtain ⟨cs, h, _⟩ := hv
  exact ⟨cs, h⟩
theorem arg_prg (hv : Value.okWide Tryz.prog W .any base 25 v) (hd : DataW.Trod enc Tryz.prog W 0 (fun _ => true) true 25 v d ps) : ∃ (m : Nat) (p : Prg) (Ag Af : Option Addr) (ng cg nf cf : Nat), v = .agg #[.slice Ag ng cg, .slice Af nf cf] ∧ Glos W Ag ng cg p.globals ∧ Fncs m W Af nf cf p.funcs := by
  obtain ⟨cs, rfl⟩ := agg_of Tryz.underlying25 hv
  obtain ⟨n, h⟩ := hd
  obtain ⟨p, Ag, Af, ng, cg, nf, cf, h1, h2, h3⟩ := rd_prg (n := n) ⟨H, enc, _, h⟩
  refine ⟨n, p, Ag, Af, ng, cg, nf, cf, ?_, h2, h3⟩
  simp only [Value.cells] at h1
  rw [← h1]
end
theorem gw_var {W : World} {nm : String} {g : Nat} {cs : Array Value} (hg : Tryz.prog.globalNamed nm = some g) (h : W.var? Tryz.prog nm = some cs) : ∃ ty fz, W.heap[g]? = some (.cells cs ty fz) := by
  unfold World.var? at h
  rw [hg] at h
  simp only [Option.bind_some] at h
  split at h
  · rename_i c t f hb
    injection h with h
    subst h
    exact ⟨t, f, hb⟩
  · cases h
theorem row_err (u : TypeId) (hu : Tryz.prog.typeName? 3 u = Tryz.prog.typeName? 3 227) : u = 227 :=
  have hn : Tryz.prog.typeName? 3 227 = some ("*" ++ "errors.errorString") := by kernel_rfl
  typeName_ptr_named (nm := "errors.errorString") V V (by decide) u (hu.trans hn)
theorem gp_of {W : World} (h : laidMetH Tryz.prog Rows.syntaxPrintMatchesSpecRow.laid W) : GP W := by
  rw [MakeChecks.laidMetH_plain _ _ _ V] at h
  have h2 := h.tail.tail
  have hpow := Lib.tabIs_of_head (zs := Lib.pow10Tab) (k := .u64) (g := 2) V V Tryz.underlying216 Tryz.underlying128 V V h2
  have h4 := h2.tail
  obtain ⟨a1, s1, hv1, _⟩ := laid_sentinel (g := 5) h4 V V Tryz.underlying124 (fun u hu => row_err u (hu.trans V)) Tryz.underlying227 Tryz.underlying229 rfl rfl Tryz.underlying9 V V
  obtain ⟨a2, s2, hv2, _⟩ := laid_sentinel (g := 4) h4.tail V V Tryz.underlying124 (fun u hu => row_err u (hu.trans V)) Tryz.underlying227 Tryz.underlying229 rfl rfl Tryz.underlying9 V V
  have hasc := Lib.tabIs_of_head (zs := Lib.asciiSpaceTab) (k := .u8) (g := 0) V V Tryz.underlying119 Tryz.underlying5 V V h4.tail.tail.tail
  refine ⟨⟨?_, ?_, ?_⟩, gw_var (g := 0) V hasc⟩
  · exact gw_var (g := 2) V hpow
  · exact ⟨_, _, World.var?_cell (g := 4) V hv2 0⟩
  · exact ⟨_, _, World.var?_cell (g := 5) V hv1 0⟩
open Go Go.FL Go.ChangeShapes Go.WideShapes Go.ChangeAt Go.RowKit
theorem syntaxRoundTrip_reads : ∀ t ∈ Tryz.f5.params.toList, Tryz.prog.readableRec t = true ∧ t < Tryz.prog.types.size := by
  rw [Tryz.params5]
  intro t ht
  simp only [List.mem_cons, List.not_mem_nil, or_false] at ht
  rcases ht with rfl <;> exact ⟨by kernel_rfl, of_decide_eq_true V⟩
theorem syntaxRoundTrip_contract (H : Type) (enc : TypeId × Value → H) (W : World) (base : Nat) (args : Array Value) (ds gs : List (DataW H)) (before : List MemPlace)
    (hval : ∀ (j : Nat) t v, Tryz.f5.params[j]? = some t → args[j]? = some v → Value.okWide Tryz.prog W .any base t v)
    (hW : DataW.Whole enc Tryz.prog Tryz.f5.params.toList Rows.syntaxRoundTripSpec.vars false W args.toList ds gs before) (hL : laidMetH Tryz.prog Rows.syntaxRoundTripRow.laid W) :
    Calls Tryz.prog 5 args W fun e W' => ∃ v, e = .returned v ∧ Rows.syntaxRoundTripSpec.post enc Tryz.prog Tryz.f5 false true false false W args v W' := by
  have hW' := hW
  obtain ⟨p, q, hA0, hV, rfl, hfz, hnd⟩ := hW'
  have hA : DataW.TrodAll enc Tryz.prog W 0 (fun _ => true) true Tryz.f5.params.toList args.toList ds p := hA0
  rw [Tryz.params5] at hA hval
  obtain ⟨v0, vs0, d0, ds0, p0, q0, hargs0, rfl, rfl, h0, r0⟩ := trodAll_cons hA
  obtain ⟨rfl, rfl, rfl⟩ := trodAll_nil r0
  obtain rfl : args = #[v0] := by cases args; simp_all
  obtain ⟨rfl, rfl⟩ := trodVars_none hV
  obtain ⟨m0, p0, Ag0, Af0, ng0, cg0, nf0, cf0, rfl, hGl0, hFn0⟩ := arg_prg (hval 0 25 v0 rfl rfl) h0
  refine (law_calls (args := [_]) fun D => lawRound_ac D [] W (gp_of hL) m0 p0 Ag0 Af0 ng0 cg0 nf0 cf0 hGl0 hFn0).mono fun e W' ⟨he, hg⟩ => ?_
  subst he
  exact ⟨_, rfl, law_post laid_out syntaxRoundTrip_reads V Tryz.underlying4 rfl hW rfl hg⟩
theorem syntaxRoundTrip_lifted (os : Os) (started : os.Started) (H : Type) (enc : TypeId × Value → H) :
    ReturnsInHanded {} Tryz.checked os 5 .any (fun w args => (Rows.syntaxRoundTripSpec.pre enc Tryz.prog Tryz.f5 [] false w args ∧ laidMetH Tryz.prog Rows.syntaxRoundTripRow.laid w) ∧ sizedMet enc Tryz.prog Tryz.f5 (OpenSpec.ofChange Rows.syntaxRoundTripSpec) false w args) (Rows.syntaxRoundTripSpec.post enc Tryz.prog Tryz.f5 false true false false) := by
  refine returnsInHanded_of_change_and (C := Tryz.checked) (X := fun w _ => laidMetH Tryz.prog Rows.syntaxRoundTripRow.laid w) (fun _ _ _ hh h => h.of_heap hh) own_knob started V Tryz.func5
    (ChangeSpec.witness_shaped (enc := enc) (C := Tryz.checked) (os := os) (X := fun w _ => laidMetH Tryz.prog Rows.syntaxRoundTripRow.laid w) false (World.laidAll Tryz.prog os Rows.syntaxRoundTripRow.laid) #[.agg #[.slice none 0 0, .slice none 0 0]] 8 (World.laidAll_os _ _ _)
      (World.shaped_of_ZipB V V) V V V
      (by rw [MakeChecks.laidMetH_plain _ _ _ V]; exact laidMet_laidAll _ V V)) ?_
  intro W base args ds gs before hval hW _ _ hL _
  exact syntaxRoundTrip_contract H enc W base args ds gs before hval hW hL
theorem syntaxRoundTrip_said : Rows.SyntaxRoundTripSaid :=
  OpenClaim.holds_of_wide 5 Tryz.f5 rfl rfl rfl rfl rfl rfl rfl ⟨rfl, rfl, rfl, rfl, rfl⟩ rfl rfl rfl rfl rfl V Tryz.func5 V
    (of_decide_eq_true V) (by unfold Func.isWrapper; first | (rw [if_pos (by decide +kernel)]; kernel_rfl) | (rw [if_neg (by decide +kernel)]; exact ⟨rfl, rfl⟩))
    (fun os started H enc _ => syntaxRoundTrip_lifted os started H enc)
theorem syntaxRoundTrip_plain (f : FuncId) (fn : Func) (hf : Tryz.pinned.checked.prog.funcNamed Rows.syntaxRoundTripRow.func = some f) (hfn : Tryz.pinned.checked.prog.funcs[f]? = some fn) : true = Tryz.pinned.checked.prog.looks [] ∧ ∀ (j : Nat) t, fn.params[j]? = some t → Tryz.pinned.checked.prog.wantsStandIn t = false := by
  obtain rfl : f = 5 := Option.some.inj ((show Tryz.prog.funcNamed Rows.syntaxRoundTripRow.func = some 5 by kernel_rfl).symm.trans hf) |>.symm
  obtain rfl : fn = Tryz.f5 := (Option.some.inj (Tryz.func5.symm.trans hfn)).symm
  exact ⟨by kernel_rfl, fun j t ht => by
    rw [Tryz.params5] at ht
    have hm : t ∈ [25] := by simpa using Array.mem_of_getElem? ht
    have hall : ([25].all fun u => !Tryz.prog.wantsStandIn u) = true := by kernel_rfl
    exact (show Tryz.prog.wantsStandIn t = false by simpa using List.all_eq_true.1 hall t hm)⟩
theorem syntaxRoundTrip_holds : Rows.SyntaxRoundTripCardSaid :=
  Claim7.holds_tied_plain_at .later [] _ _ _ _ syntaxRoundTrip_said (fun _ h => by cases h) V (fun _ h => by cases h) syntaxRoundTrip_row_tie rfl ⟨rfl, rfl⟩ V rfl syntaxRoundTrip_plain V
end Go.Proofs.YtiljephghfngnaaGreatDoor
