/- Tables with other codes. -/
import Derived.Test.YtpjnphonanbopaaV20
namespace Go.Proofs.Ytpjnphonanbopaa
open Go.FL
attribute [local irreducible] JC JO JA JB thenQ blockQ retQ AC fill CellsAt QE Ev Mid

def recode (codes : List Int) : Nat → List Ins → List Ins
  | _, [] => []
  | i, x :: r => { x with code := codes.getD i x.code } :: recode codes (i + 1) r
theorem recode_len (codes : List Int) (k : Nat) (l : List Ins) : (recode codes k l).length = l.length := by
  induction l generalizing k with
  | nil => rfl
  | cons x r ih => simp [recode, ih]
theorem recode_at {codes : List Int} {l : List Ins} {k i : Nat} {x : Ins} (h : l[i]? = some x) : (recode codes k l)[i]? = some { x with code := codes.getD (k + i) x.code } := by
  induction l generalizing k i with
  | nil => cases h
  | cons y r ih =>
    cases i with
    | zero => simp at h; subst h; rfl
    | succ i => simp only [recode, List.getElem?_cons_succ] at h ⊢; rw [ih h, Nat.add_assoc, Nat.add_comm 1 i]
theorem recode_one {codes : List Int} {l : List Ins} {i : Nat} {x : Ins} {c : Int} (h : l[i]? = some x) (hc : codes[i]? = some c) : (recode codes 0 l)[i]? = some { x with code := c } := by
  rw [recode_at h]; simp [List.getD, hc]
def rep (codes : List Int) (i : Nat) : Bool := match codes[i]? with
  | some c => (codes.take i).any fun x => decide (c = x)
  | none => false
theorem rep_at {codes : List Int} {i : Nat} {c : Int} (h : codes[i]? = some c) : rep codes i = (codes.take i).any fun x => decide (c = x) := by simp [rep, h]
def repF (codes : List Int) (i : Nat) : Int := if rep codes i then 8 else 0
def renumF (t : Tab) (codes : List Int) : Int × Int := if (tabFault t).1 ≠ 0 then tabFault t else if codes.length ≠ t.ins.length then (9, -2) else firstBad (repF codes) codes.length 0
def renumR (t : Tab) (codes : List Int) : Tab := if (renumF t codes).1 ≠ 0 then ⟨0, []⟩ else ⟨t.cells, recode codes 0 t.ins⟩
section
variable {t : Tab} {codes : List Int}
theorem rn_bad (h : (tabFault t).1 ≠ 0) : renumF t codes = tabFault t := by unfold renumF; rw [if_pos h]
theorem rn_len (h : (tabFault t).1 = 0) (h2 : ¬ codes.length = t.ins.length) : renumF t codes = (9, -2) := by unfold renumF; rw [if_neg (by simpa using h), if_pos h2]
theorem rn_rep (h : (tabFault t).1 = 0) (h2 : codes.length = t.ins.length) {k : Nat} (hk : k < codes.length) (hb : ∀ i, i < k → rep codes i = false) (hr : rep codes k = true) : renumF t codes = (8, (k : Int)) := by
  unfold renumF
  rw [if_neg (by simpa using h), if_neg (by simpa using h2), firstBad_hit (k := k) (fun i _ hi => by simp [repF, hb i hi]) (Nat.zero_le _) (by simp [repF, hr]) (by omega)]
  simp [repF, hr]
theorem rn_ok (h : (tabFault t).1 = 0) (h2 : codes.length = t.ins.length) (hb : ∀ i, i < codes.length → rep codes i = false) : renumF t codes = (0, 0) := by
  unfold renumF
  rw [if_neg (by simpa using h), if_neg (by simpa using h2), firstBad_none (fun i _ hi => by simp [repF, hb i (by omega)])]
theorem rn_zero (h : (renumF t codes).1 = 0) : (tabFault t).1 = 0 ∧ codes.length = t.ins.length ∧ (renumF t codes).2 = 0 := by
  by_cases h1 : (tabFault t).1 = 0
  · by_cases h2 : codes.length = t.ins.length
    · refine ⟨h1, h2, ?_⟩
      unfold renumF at h ⊢
      rw [if_neg (by simpa using h1), if_neg (by simpa using h2)] at h ⊢
      exact firstBad_zero _ _ _ h
    · rw [rn_len h1 h2] at h; exact absurd h (by decide)
  · rw [rn_bad h1] at h; exact absurd h h1
end
theorem rep_no {codes : List Int} {i : Nat} {c : Int} (h : codes[i]? = some c) (hn : ∀ j x, j < i → codes[j]? = some x → ¬ x = c) : rep codes i = false := by
  rw [rep_at h, List.any_eq_false]
  intro x hx
  obtain ⟨j, hj⟩ := List.getElem?_of_mem hx
  rw [List.getElem?_take] at hj
  split at hj
  · rename_i hlt; have := hn j x hlt hj; simp only [decide_eq_true_eq]; exact fun e => this e.symm
  · cases hj
theorem rep_yes {codes : List Int} {i j : Nat} {c : Int} (h : codes[i]? = some c) (hj : codes[j]? = some c) (hlt : j < i) : rep codes i = true := by
  rw [rep_at h, List.any_eq_true]
  exact ⟨c, List.mem_of_getElem? (i := j) (by rw [List.getElem?_take, if_pos hlt]; exact hj), by simp⟩
theorem Wds.take {s : World} {A : Option Addr} {n c k : Nat} {l : List Int} (h : Wds s A n c l) (hk : k < n) : Wds s A k c (l.take k) := Sl.take h hk

set_option maxHeartbeats 1000000 in
set_option maxRecDepth 100000 in
theorem index_ac (D : Nat) (L : Hl) (s : World) (A : Option Addr) (n c : Nat) (l : List Int) (hA : Wds s A n c l) (v : Int) : AC Try.prog D 65 [.slice A n c, .int .u32 v] L s fun w L' _ => w = .int .i64 (idxOf (fun x => decide (v = x)) l 0) ∧ L = L' := by
 have hn := hA.1
 have hc1 := hA.2.1
 have hc2 := hA.2.2.1
 refine AC_enter (TT := TT) (fn := Try.f65) TT_ok Try.func65 (by kernel_rfl) rfl Try.ntmps65 rfl (rs := [.tmp 4]) rfl [(0, _), (1, _)] rfl ?_
 refine JC_seq ?_
 refine JC_region ?_
 refine JO_q (QE_as rfl) rfl ?_
 refine JO_nil ?_
 refine thenQ_n ?_
 refine JC_seq ?_
 refine JC_seq ?_
 refine JC_region ?_
 refine JO_q (QE_mv rfl) rfl ?_
 refine JO_q (QE_lenS rfl rfl rfl) rfl ?_
 refine JO_q (QE_mv rfl) rfl ?_
 refine JO_nil ?_
 refine thenQ_n ?_
 refine JC_block ?_
 refine JC_loop (γ := Nat) (fun k => [(0, _), (1, _), (4, _), (7, _), (8, .int .i64 (k : Int))]) (fun _ => _) (fun k tw => Le D s tw ∧ (k ≤ n ∧ ∀ i x, i < k → l[i]? = some x → decide (v = x) = false)) (fun k => n - k) (fun _ _ _ h hl => ⟨h.1.trans hl, h.2⟩) 0 (Keeps.cons rfl (Keeps.cons rfl (Keeps.cons rfl (Keeps.cons rfl (Keeps.cons rfl (Keeps.nil _)))))) rfl ⟨Le.refl _, ⟨Nat.zero_le _, fun i c hi => by omega⟩⟩ ?_
 intro k s1 I1
 have hk0 := I1.2.1
 have hI := I1.2.2
 refine JC_seq ?_
 refine JC_region ?_
 refine JO_q (QE_lt rfl rfl) rfl ?_
 refine JO_nil ?_
 refine thenQ_n ?_
 refine JC_seq ?_
 refine JC_ifD rfl (fun c2 => ?_) (fun c2 => ?_)
 ·
  have hk : k < n := by omega
  obtain ⟨b, off, x, rfl, hx, hcx, _⟩ := Wds.at_ (hA.le I1.1) hk
  refine JC_skip ?_
  refine thenQ_n ?_
  refine JC_seq ?_
  refine JC_block ?_
  refine JC_seq ?_
  refine JC_region ?_
  refine JO_q (QE_mv rfl) rfl ?_
  refine JO_q (QE_as rfl) rfl ?_
  refine JO_nil ?_
  refine thenQ_n ?_
  refine JC_seq ?_
  refine JC_region ?_
  refine JO_q (QE_mv rfl) rfl ?_
  refine JO_q (QE_mv rfl) rfl ?_
  refine JO_q (QE_mv rfl) rfl ?_
  refine JO_q (QE_ia1 rfl rfl rfl rfl rfl rfl hk) rfl ?_
  refine JO_q (QE_ldsR0 rfl rfl rfl (hcx.le (Le.refl (D := D) _)) rfl) rfl ?_
  refine JO_q (QE_eq rfl rfl) rfl ?_
  refine JO_nil ?_
  refine thenQ_n ?_
  refine JC_ifD rfl (fun c3 => ?_) (fun c3 => ?_)
  ·
   have hz := c3
   refine JC_seq ?_
   refine JC_region ?_
   refine JO_q (QE_mv rfl) rfl ?_
   refine JO_q (QE_as rfl) rfl ?_
   refine JO_nil ?_
   refine thenQ_n ?_
   refine JC_ret ?_
   refine blockQ_r ?_
   refine thenQ_r ?_
   refine thenQ_r ?_
   refine blockQ_r ?_
   refine thenQ_r ?_
   refine retQ_mk [] L (.inr rfl) (.tmp rfl (.nil)) rfl I1.1 (fun sR hS2 => ?_)
   refine ⟨?_, rfl⟩
   simp [resV, idxOf_hit hI hx (decide_eq_true hz)]; done
  ·
   have hz := c3
   refine JC_skip ?_
   refine blockQ_n ?_
   refine thenQ_n ?_
   refine JC_region ?_
   refine JO_q (QE_add' rfl rfl (w64 (by omega) (by omega))) rfl ?_
   refine JO_q (QE_mv rfl) rfl ?_
   refine JO_nil ?_
   refine thenQ_n ⟨(k + 1), [], (Keeps.cons rfl (Keeps.cons rfl (Keeps.cons rfl (Keeps.cons rfl (Keeps.cons rfl (Keeps.nil _)))))), rfl, ⟨I1.1, ⟨by omega, below_succ hI hx (decide_eq_false hz)⟩⟩, (by omega)⟩
 ·
  refine JC_exit ?_
  refine thenQ_x ?_
  refine thenQ_x ?_
  refine blockQ_x ?_
  refine thenQ_n ?_
  refine JC_seq ?_
  refine JC_region ?_
  refine JO_q (QE_as rfl) rfl ?_
  refine JO_nil ?_
  refine thenQ_n ?_
  refine JC_ret ?_
  refine retQ_mk [] L (.inr rfl) (.tmp rfl (.nil)) rfl I1.1 (fun sR hS2 => ?_)
  refine ⟨?_, rfl⟩
  simp [resV, idxOf_none (fun i a hi h => hI i a (by omega) h)]; done

set_option maxHeartbeats 1000000 in
set_option maxRecDepth 100000 in
theorem contains_ac (D : Nat) (L : Hl) (s : World) (A : Option Addr) (n c : Nat) (l : List Int) (hA : Wds s A n c l) (v : Int) : AC Try.prog D 43 [.slice A n c, .int .u32 v] L s fun w L' _ => w = .bool (l.any fun x => decide (v = x)) ∧ L = L' := by
 refine AC_enter (TT := TT) (fn := Try.f43) TT_ok Try.func43 (by kernel_rfl) rfl Try.ntmps43 rfl (rs := [.tmp 4]) rfl [(0, _), (1, _)] rfl ?_
 refine JC_seq ?_
 refine JC_region ?_
 refine JO_q (QE_as rfl) rfl ?_
 refine JO_nil ?_
 refine thenQ_n ?_
 refine JC_seq ?_
 refine JC_region ?_
 refine JO_q (QE_mv rfl) rfl ?_
 refine JO_q (QE_mv rfl) rfl ?_
 refine JO_call (first := []) (captured := []) rfl rfl rfl (index_ac D _ _ _ _ _ l (hA.le (Le.refl (D := D) _)) _) ?_
 rintro _ _ s1 h1 ⟨rfl, rfl⟩
 refine JO_q (QE_ge rfl rfl) rfl ?_
 refine JO_q (QE_as rfl) rfl ?_
 refine JO_nil ?_
 refine thenQ_n ?_
 refine JC_ret ?_
 refine retQ_mk [] L (.inr rfl) (.tmp rfl (.nil)) rfl h1 (fun sR hS2 => ?_)
 exact ⟨by simp only [resV, idxOf_any], rfl⟩

set_option maxHeartbeats 1000000 in
set_option maxRecDepth 100000 in
theorem cloneA_ac (D : Nat) (L : Hl) (s : World) (A : Option Addr) (n c : Nat) (l : List Ac) (hA : Acs s A n c l) (hn : n ≤ 1000000) : AC Try.prog D 44 [.slice A n c] L s fun v L' _ => ∃ M', L' = M' ++ L ∧ ∃ Ad c', v = .slice Ad n c' ∧ n ≤ c' ∧ c' ≤ 9223372036854775807 ∧ Own 86 6 M' (.slice Ad n c') n (acv l) := by
 refine AC_enter (TT := TT) (fn := Try.f44) TT_ok Try.func44 (by kernel_rfl) rfl Try.ntmps44 rfl (rs := [.tmp 2]) rfl [(0, _)] rfl ?_
 refine JC_seq ?_
 refine JC_region ?_
 refine JO_q (QE_as rfl) rfl ?_
 refine JO_nil ?_
 refine thenQ_n ?_
 refine JC_seq ?_
 refine JC_seq ?_
 refine JC_region ?_
 refine JO_q (QE_mv rfl) rfl ?_
 refine JO_q (QE_snil rfl rfl rfl) rfl ?_
 refine JO_nil ?_
 refine thenQ_n ?_
 refine JC_if rfl (fun c1 => ?_) (fun c1 => ?_)
 ·
  refine JC_seq ?_
  refine JC_region ?_
  refine JO_q (QE_as rfl) rfl ?_
  refine JO_nil ?_
  refine thenQ_n ?_
  refine JC_ret ?_
  refine thenQ_r ?_
  refine retQ_mk [] _ (.inr rfl) (.tmp rfl (.nil)) rfl (Le.refl (D := D) _) (fun sR hS2 => ?_)
  have hz : A = none := by cases A <;> simp_all
  subst hz
  have hl : l = [] := by
    cases l with
    | nil => rfl
    | cons x l => obtain ⟨b, off, cs, h1, _⟩ := hA.2.2.2 0 x rfl; cases h1
  have hn0 := hA.1
  subst hl
  simp at hn0
  subst hn0
  exact ⟨[], rfl, none, 0, rfl, Nat.le_refl _, by omega, .nil⟩
 ·
  refine JC_skip ?_
  refine thenQ_n ?_
  refine JC_seq ?_
  refine JC_region ?_
  refine JO_bs0 (sz := 6) rfl rfl rfl rfl ?_
  intro βo s2 h2 oo
  refine JO_q (QE_mv rfl) rfl ?_
  refine JO_app [] [_] _ rfl rfl rfl rfl rfl rfl rfl oo (hA.row.le h2) ⟨by simp [ti86]; omega, by omega⟩ rfl ?_
  intro v1 A1 s3 h3 o1
  simp only [List.nil_append]
  refine JO_q (QE_as rfl) rfl ?_
  refine JO_nil ?_
  refine thenQ_n ?_
  refine JC_ret ?_
  refine retQ_mk [] _ (.inr rfl) (.tmp rfl (.nil)) rfl (Le.trans h2 h3) (fun sR hS2 => ?_)
  simp only [Nat.zero_add, List.nil_append] at o1
  obtain ⟨Ad, c', rfl, k1, k2⟩ := Own.slice o1
  exact ⟨_, rfl, Ad, c', rfl, k1, k2, o1⟩

set_option maxHeartbeats 4000000 in
set_option maxRecDepth 100000 in
theorem renumberedO_ac (D : Nat) (L : Hl) (s : World) (t : Tab) (A : Option Addr) (n c : Nat) (hA : Inss s A n c t.ins) (A1 : Option Addr) (n1 c1 : Nat) (codes : List Int) (hCo : Wds s A1 n1 c1 codes) (hlen : codes.length = t.ins.length) (hn64 : n ≤ 64) : AC Try.prog D 31 [.agg #[.int .i64 t.cells, .slice A n c], .slice A1 n1 c1] L s fun v L' s' => ∃ M', L' = M' ++ L ∧ ∀ s2, Le D s' s2 → Pub M' s2 → ∃ A2 n2 c2, v = .agg #[.int .i64 t.cells, .slice A2 n2 c2] ∧ Inss s2 A2 n2 c2 (recode codes 0 t.ins) := by
 have hn := hA.1
 have hn1 := hCo.1
 have hc1 := hA.2.1
 have hc2 := hA.2.2.1
 refine AC_enter (TT := TT) (fn := Try.f31) TT_ok Try.func31 (by kernel_rfl) rfl Try.ntmps31 rfl (rs := [.cell 4 24]) rfl [(0, _), (1, _)] rfl ?_
 refine JC_seq ?_
 refine JC_region ?_
 refine JO_boxA rfl rfl ?_
 intro β1 s1 h1
 refine JO_allocZ rfl [_, _] rfl rfl ?_
 intro β2 s2 h2
 refine JO_nil ?_
 refine thenQ_n ?_
 refine JC_seq ?_
 refine JC_region ?_
 refine JO_q (QE_fa0 rfl rfl rfl rfl) rfl ?_
 refine JO_q (QE_ld1 1 rfl rfl rfl rfl rfl) rfl ?_
 refine JO_q (QE_build [(_, _)] [_, _] rfl rfl rfl rfl rfl rfl) rfl ?_
 refine JO_allocZ rfl [_, _] rfl rfl ?_
 intro β3 s3 h3
 refine JO_st 0 [_, _] rfl rfl rfl rfl rfl rfl rfl rfl rfl ?_
 refine JO_nil ?_
 refine thenQ_n ?_
 refine JC_seq ?_
 refine JC_seq ?_
 refine JC_region ?_
 refine JO_q (QE_as rfl) rfl ?_
 refine JO_nil ?_
 refine thenQ_n ?_
 refine JC_block ?_
 refine JC_loop (γ := Nat × Value × Hl × List (List Value)) (fun g => [(1, _), (2, _), (4, _), (5, _), (6, .int .i64 (g.1 : Int))]) (fun g => (β3, cb [.int .i64 t.cells, g.2.1] 24) :: (β2, cb [.int .i64 0, .slice none 0 0] 24) :: (β1, cb [.int .i64 t.cells, .slice A n c] 24) :: (g.2.2.1 ++ L)) (fun g tw => Le D s3 tw ∧ (g.1 ≤ n ∧ Own 60 4 g.2.2.1 g.2.1 g.1 g.2.2.2.flatten ∧ All2 (fun x cs => cs.length = 4 ∧ InsR tw x cs) ((recode codes 0 t.ins).take g.1) g.2.2.2)) (fun g => n - g.1) (fun _ _ _ h hl => ⟨h.1.trans hl, by obtain ⟨_, k1, k2, k3⟩ := h; exact ⟨k1, k2, insA_le k3 hl⟩⟩) (0, .slice none 0 0, [], []) (Keeps.cons rfl (Keeps.cons rfl (Keeps.cons rfl (Keeps.cons rfl (Keeps.cons rfl (Keeps.nil _)))))) rfl ⟨Le.refl _, ⟨Nat.zero_le _, Own.nil, All2.nil⟩⟩ ?_
 intro g s4 I4
 obtain ⟨j, vj, Mj, css⟩ := g
 obtain ⟨hj0, hOj, hAj⟩ := I4.2
 simp only at hj0 hOj hAj
 dsimp only
 refine JC_seq ?_
 refine JC_seq ?_
 refine JC_region ?_
 refine JO_q (QE_mv rfl) rfl ?_
 refine JO_q (QE_faB rfl rfl rfl rfl) rfl ?_
 refine JO_q (QE_ld1 2 rfl rfl rfl rfl rfl) rfl ?_
 refine JO_q (QE_lenS rfl rfl rfl) rfl ?_
 refine JO_q (QE_lt rfl rfl) rfl ?_
 refine JO_nil ?_
 refine thenQ_n ?_
 refine JC_ifD rfl (fun c5 => ?_) (fun c5 => ?_)
 ·
  have hk : j < n := by omega
  obtain ⟨b, off, x, A', n', c', rfl, hx, hcx, hax, hnl, hcd⟩ := Inss.at_ (hA.le (Le.trans (Le.trans (Le.trans h1 h2) h3) I4.1)) hk
  obtain ⟨b2, off2, cd, rfl, hcdx, hccd, hcu⟩ := Wds.at_ (hCo.le (Le.trans (Le.trans (Le.trans h1 h2) h3) I4.1)) (show j < n1 by omega)
  have hY := recode_one hx hcdx
  refine JC_skip ?_
  refine thenQ_n ?_
  refine JC_seq ?_
  refine JC_block ?_
  refine JC_seq ?_
  refine JC_region ?_
  refine JO_q (QE_faB rfl rfl rfl rfl) rfl ?_
  refine JO_q (QE_ld1 2 rfl rfl rfl rfl rfl) rfl ?_
  refine JO_q (QE_mv rfl) rfl ?_
  refine JO_q (QE_iaN rfl rfl rfl rfl rfl rfl hk) rfl ?_
  refine JO_q (QE_ldsA rfl rfl rfl (hcx.le (Le.refl (D := D) _)) rfl) rfl ?_
  refine JO_allocZ rfl [_, _, _, _] rfl rfl ?_
  intro β6 s6 h6
  refine JO_st 0 [_, _, _, _] rfl rfl rfl rfl rfl rfl rfl rfl rfl ?_
  refine JO_nil ?_
  refine thenQ_n ?_
  refine JC_seq ?_
  refine JC_region ?_
  refine JO_q (QE_mv rfl) rfl ?_
  refine JO_q (QE_mv rfl) rfl ?_
  refine JO_q (QE_ia1 rfl rfl rfl rfl rfl rfl (show j < n1 by omega)) rfl ?_
  refine JO_q (QE_ldsR0 rfl rfl rfl (hccd.le h6) rfl) rfl ?_
  refine JO_q (QE_faB rfl rfl rfl rfl) rfl ?_
  refine JO_st 0 [_, _, _, _] rfl rfl rfl rfl rfl rfl rfl rfl rfl ?_
  refine JO_nil ?_
  refine thenQ_n ?_
  refine JC_region ?_
  refine JO_q (QE_faB rfl rfl rfl rfl) rfl ?_
  refine JO_q (QE_ld1 1 rfl rfl rfl rfl rfl) rfl ?_
  refine JO_q (QE_ldA 0 [_, _, _, _] rfl rfl rfl rfl rfl) rfl ?_
  refine JO_bs [(_, _)] [_, _, _, _] rfl rfl rfl rfl rfl rfl rfl rfl rfl ?_
  intro βn s7 h7 hcb
  refine JO_app (sz := 4) [_, _, _, _] Mj L rfl rfl rfl rfl rfl rfl rfl hOj (Row.of_cells (hcb.le (Le.refl (D := D) _)) rfl rfl) ⟨by simp [ti60]; omega, by omega⟩ rfl ?_
  intro vj Aj s8 h8 oj
  obtain ⟨Avj, cvj, rfl, _, _⟩ := Own.slice oj
  simp only [List.cons_append, List.nil_append]
  refine JO_q (QE_faB rfl rfl rfl rfl) rfl ?_
  refine JO_st 1 [_, _] rfl rfl rfl rfl rfl rfl rfl rfl rfl ?_
  refine JO_nil ?_
  refine blockQ_n ?_
  refine thenQ_n ?_
  refine JC_region ?_
  refine JO_q (QE_mv rfl) rfl ?_
  refine JO_q (QE_add' rfl rfl (w64 (by omega) (by omega))) rfl ?_
  refine JO_q (QE_as rfl) rfl ?_
  refine JO_nil ?_
  refine thenQ_n ⟨(j + 1, .slice Avj (j + 1) cvj, Aj, css ++ [_]), [_], (Keeps.cons rfl (Keeps.cons rfl (Keeps.cons rfl (Keeps.cons rfl (Keeps.cons rfl (Keeps.nil _)))))), rfl, ⟨(Le.trans (Le.trans (Le.trans I4.1 h6) h7) h8), ⟨by simp only; omega, by simp only; rw [flat_snoc2]; exact oj, by simp only; rw [std_take hY]; exact All2.snoc (insA_le hAj (Le.trans (Le.trans h6 h7) h8)) ⟨rfl, _, _, _, rfl, hax.le (Le.trans (Le.trans h6 h7) h8), hnl, hcu⟩⟩⟩, (by simp only; omega)⟩
 ·
  have hjn : j = n := by omega
  obtain ⟨Au, cu, rfl, ku1, ku2⟩ := Own.slice hOj
  refine JC_exit ?_
  refine thenQ_x ?_
  refine thenQ_x ?_
  refine blockQ_x ?_
  refine thenQ_n ?_
  refine JC_seq ?_
  refine JC_region ?_
  refine JO_q (QE_ldA 0 [_, _] rfl rfl rfl rfl rfl) rfl ?_
  refine JO_st 1 [_, _] rfl rfl rfl rfl rfl rfl rfl rfl rfl ?_
  refine JO_nil ?_
  refine thenQ_n ?_
  refine JC_ret ?_
  refine retQ_mk [_, _, _] _ (.inr rfl) (.agg (us := [_, _]) 1 rfl rfl rfl rfl rfl (.nil)) rfl (Le.trans (Le.trans (Le.trans h1 h2) h3) I4.1) (fun sR hS2 => ?_)
  refine ⟨Mj, rfl, fun s2 hs2 hp => ⟨_, _, _, rfl, ?_⟩⟩
  have hA2 := insA_le hAj (Le.trans (Le.refl (D := D) _) (Le.trans hS2 hs2))
  rw [List.take_of_length_le (by rw [recode_len]; omega)] at hA2
  exact Own.rows hOj hp hA2 (by rw [recode_len]; omega)

set_option maxHeartbeats 4000000 in
set_option maxRecDepth 100000 in
theorem renumberO_ac (D : Nat) (L : Hl) (s : World) (t : Tab) (A : Option Addr) (n c : Nat) (hA : Inss s A n c t.ins) (A1 : Option Addr) (n1 c1 : Nat) (codes : List Int) (hCo : Wds s A1 n1 c1 codes) : AC Try.prog D 25 [.agg #[.int .i64 t.cells, .slice A n c], .slice A1 n1 c1] L s fun v L' s' => ∃ M', L' = M' ++ L ∧ ∀ s2, Le D s' s2 → Pub M' s2 → ∃ A2 n2 c2, v = .tuple #[.agg #[.int .i64 (renumR t codes).cells, .slice A2 n2 c2], .agg #[.int .i64 (renumF t codes).1, .int .i64 (renumF t codes).2]] ∧ Inss s2 A2 n2 c2 (renumR t codes).ins := by
 have hn := hA.1
 have hn1 := hCo.1
 have hc1 := hA.2.1
 have hc2 := hA.2.2.1
 have hcc1 := hCo.2.1
 have hcc2 := hCo.2.2.1
 have hF := tab_zero t
 refine AC_enter (TT := TT) (fn := Try.f25) TT_ok Try.func25 (by kernel_rfl) rfl Try.ntmps25 rfl (rs := [.cell 4 24, .cell 5 32]) rfl [(0, _), (1, _)] rfl ?_
 refine JC_seq ?_
 refine JC_region ?_
 refine JO_boxA rfl rfl ?_
 intro β1 s1 h1
 refine JO_allocZ rfl [_, _] rfl rfl ?_
 intro β2 s2 h2
 refine JO_allocZ rfl [_, _] rfl rfl ?_
 intro β3 s3 h3
 refine JO_nil ?_
 refine thenQ_n ?_
 refine JC_seq ?_
 refine JC_seq ?_
 refine JC_region ?_
 refine JO_q (QE_ldA 2 [_, _] rfl rfl rfl rfl rfl) rfl ?_
 refine JO_call (first := []) (captured := []) rfl rfl rfl (validate_ac D _ _ _ _ _ _ (hA.le (Le.trans (Le.trans h1 h2) h3))) ?_
 rintro _ _ s4 h4 ⟨rfl, rfl⟩
 refine JO_allocZ rfl [_, _] rfl rfl ?_
 intro β5 s5 h5
 refine JO_st 0 [_, _] rfl rfl rfl rfl rfl rfl rfl rfl rfl ?_
 refine JO_nil ?_
 refine thenQ_n ?_
 refine JC_seq ?_
 refine JC_region ?_
 refine JO_q (QE_ldA 0 [_, _] rfl rfl rfl rfl rfl) rfl ?_
 refine JO_q (QE_build [] [_, _] rfl rfl rfl rfl rfl rfl) rfl ?_
 refine JO_q (QE_ane rfl rfl (eqFault _ _ _ _)) rfl ?_
 refine JO_nil ?_
 refine thenQ_n ?_
 refine JC_ifN rfl (fun c6 => ?_) (fun c6 => ?_)
 ·
  have hbad : (tabFault t).1 ≠ 0 := fun h => c6 ⟨h, hF h⟩
  refine JC_seq ?_
  refine JC_drawE drawsMixed 4 rfl [2, 1] (by intro x hx; exact eraseAll_mem hx) ?_
  intro s7 h7
  refine JA_q 0 rfl (by kernel_rfl) (by kernel_rfl) (by kernel_rfl) trivial (QE_build [] [_, _] rfl rfl rfl rfl rfl rfl) rfl ?_
  refine JA_q 1 rfl (by kernel_rfl) (by kernel_rfl) (by kernel_rfl) trivial (QE_ldA 0 [_, _] rfl rfl rfl rfl rfl) rfl ?_
  refine JA_1 2 (by kernel_rfl) ?_
  refine JB_st rfl trivial 2 [_, _] rfl rfl rfl rfl rfl rfl rfl rfl rfl (fun _ hx => sub_mem (sbY (sbN (sbY (sbE _)))) hx) ?_
  refine JA_1 3 (by kernel_rfl) ?_
  refine JB_st rfl trivial 1 [_, _] rfl rfl rfl rfl rfl rfl rfl rfl rfl (fun _ hx => sub_mem (sbY (sbN (sbY (sbE _)))) hx) ?_
  refine JA_done (by kernel_rfl) ?_
  refine thenQ_n ?_
  refine JC_ret ?_
  refine thenQ_r ?_
  refine retQ_mk [_, _, _, _] _ (.inr rfl) (.agg (us := [_, _]) 2 rfl rfl rfl rfl rfl (.agg (us := [_, _]) 1 rfl rfl rfl rfl rfl (.nil))) rfl (Le.trans (Le.trans (Le.trans (Le.trans (Le.trans h1 h2) h3) h4) h5) h7) (fun sR hS2 => ?_)
  refine ⟨[], rfl, fun s2 hs2 hp => ⟨none, 0, 0, ?_, ?_⟩⟩
  · rw [renumR, rn_bad hbad, if_pos hbad]; rfl
  · rw [renumR, rn_bad hbad, if_pos hbad]; exact ⟨rfl, Nat.le_refl _, by omega, fun i x h => by cases h⟩
 ·
  have ht0 : (tabFault t).1 = 0 := c6.1
  have hG := tabG hA ht0
  have hg64 := hG.len
  refine JC_skip ?_
  refine thenQ_n ?_
  refine JC_seq ?_
  refine JC_seq ?_
  refine JC_region ?_
  refine JO_q (QE_mv rfl) rfl ?_
  refine JO_q (QE_lenS rfl rfl rfl) rfl ?_
  refine JO_q (QE_faB rfl rfl rfl rfl) rfl ?_
  refine JO_q (QE_ld1 3 rfl rfl rfl rfl rfl) rfl ?_
  refine JO_q (QE_lenS rfl rfl rfl) rfl ?_
  refine JO_q (QE_ne rfl rfl) rfl ?_
  refine JO_nil ?_
  refine thenQ_n ?_
  refine JC_ifN rfl (fun c8 => ?_) (fun c8 => ?_)
  ·
   have hle : ¬ codes.length = t.ins.length := by omega
   refine JC_seq ?_
   refine JC_region ?_
   refine JO_q (QE_build [] [_, _] rfl rfl rfl rfl rfl rfl) rfl ?_
   refine JO_call (first := []) (captured := []) rfl rfl rfl (fault_ac D _ _ _ _) ?_
   rintro _ _ s9 h9 ⟨rfl, rfl⟩
   refine JO_st 2 [_, _] rfl rfl rfl rfl rfl rfl rfl rfl rfl ?_
   refine JO_st 1 [_, _] rfl rfl rfl rfl rfl rfl rfl rfl rfl ?_
   refine JO_nil ?_
   refine thenQ_n ?_
   refine JC_ret ?_
   refine thenQ_r ?_
   refine retQ_mk [_, _, _, _] _ (.inr rfl) (.agg (us := [_, _]) 2 rfl rfl rfl rfl rfl (.agg (us := [_, _]) 1 rfl rfl rfl rfl rfl (.nil))) rfl (Le.trans (Le.trans (Le.trans (Le.trans (Le.trans h1 h2) h3) h4) h5) h9) (fun sR hS2 => ?_)
   refine ⟨[], rfl, fun s2 hs2 hp => ⟨none, 0, 0, ?_, ?_⟩⟩
   · rw [renumR, rn_len ht0 hle]; rfl
   · rw [renumR, rn_len ht0 hle]; exact ⟨rfl, Nat.le_refl _, by omega, fun i x h => by cases h⟩
  ·
   have hle : codes.length = t.ins.length := by omega
   refine JC_skip ?_
   refine thenQ_n ?_
   refine JC_seq ?_
   refine JC_region ?_
   refine JO_q (QE_fa0 rfl rfl rfl rfl) rfl ?_
   refine JO_q (QE_ld1 3 rfl rfl rfl rfl rfl) rfl ?_
   refine JO_q (QE_build [(_, _)] [_, _] rfl rfl rfl rfl rfl rfl) rfl ?_
   refine JO_allocZ rfl [_, _] rfl rfl ?_
   intro β10 s10 h10
   refine JO_st 0 [_, _] rfl rfl rfl rfl rfl rfl rfl rfl rfl ?_
   refine JO_nil ?_
   refine thenQ_n ?_
   refine JC_seq ?_
   refine JC_seq ?_
   refine JC_region ?_
   refine JO_q (QE_faB rfl rfl rfl rfl) rfl ?_
   refine JO_q (QE_ld1 4 rfl rfl rfl rfl rfl) rfl ?_
   refine JO_q (QE_lenS rfl rfl rfl) rfl ?_
   refine JO_q (QE_mv rfl) rfl ?_
   refine JO_nil ?_
   refine thenQ_n ?_
   refine JC_block ?_
   refine JC_loop (γ := Nat × Value × Hl × List (List Value)) (fun g => [(1, _), (4, _), (5, _), (7, _), (29, _), (30, _), (31, .int .i64 (g.1 : Int))]) (fun g => (β10, cb [.int .i64 t.cells, g.2.1] 24) :: (β5, cb [.int .i64 (tabFault t).1, .int .i64 (tabFault t).2] 32) :: (β3, cb [.int .i64 0, .int .i64 0] 32) :: (β2, cb [.int .i64 0, .slice none 0 0] 24) :: (β1, cb [.int .i64 t.cells, .slice A n c] 24) :: (g.2.2.1 ++ L)) (fun g tw => Le D s10 tw ∧ (g.1 ≤ n ∧ Own 60 4 g.2.2.1 g.2.1 g.1 g.2.2.2.flatten ∧ All2 (fun x cs => cs.length = 4 ∧ InsR tw x cs) ((recode codes 0 t.ins).take g.1) g.2.2.2 ∧ ∀ i, i < g.1 → rep codes i = false)) (fun g => n - g.1) (fun _ _ _ h hl => ⟨h.1.trans hl, by obtain ⟨_, k1, k2, k3, k4⟩ := h; exact ⟨k1, k2, insA_le k3 hl, k4⟩⟩) (0, .slice none 0 0, [], []) (Keeps.cons rfl (Keeps.cons rfl (Keeps.cons rfl (Keeps.cons rfl (Keeps.cons rfl (Keeps.cons rfl (Keeps.cons rfl (Keeps.nil _)))))))) rfl ⟨Le.refl _, ⟨Nat.zero_le _, Own.nil, All2.nil, fun i hi => by simp at hi⟩⟩ ?_
   intro g s11 I11
   obtain ⟨j, vj, Mj, css⟩ := g
   obtain ⟨hj0, hOj, hAj, hRp⟩ := I11.2
   simp only at hj0 hOj hAj hRp
   dsimp only
   refine JC_seq ?_
   refine JC_region ?_
   refine JO_q (QE_lt rfl rfl) rfl ?_
   refine JO_nil ?_
   refine thenQ_n ?_
   refine JC_seq ?_
   refine JC_ifD rfl (fun c12 => ?_) (fun c12 => ?_)
   ·
    have hk : j < n := by omega
    obtain ⟨b, off, x, A', n', c', rfl, hx, hcx, hax, hnl, hcd⟩ := Inss.at_ (hA.le (Le.trans (Le.trans (Le.trans (Le.trans (Le.trans (Le.trans h1 h2) h3) h4) h5) h10) I11.1)) hk
    obtain ⟨b2, off2, cd, rfl, hcdx, hccd, hcu⟩ := Wds.at_ (hCo.le (Le.trans (Le.trans (Le.trans (Le.trans (Le.trans (Le.trans h1 h2) h3) h4) h5) h10) I11.1)) (show j < n1 by omega)
    have hY := recode_one hx hcdx
    refine JC_skip ?_
    refine thenQ_n ?_
    refine JC_seq ?_
    refine JC_block ?_
    refine JC_seq ?_
    refine JC_region ?_
    refine JO_q (QE_mv rfl) rfl ?_
    refine JO_q (QE_iaN rfl rfl rfl rfl rfl rfl hk) rfl ?_
    refine JO_q (QE_ldsA rfl rfl rfl (hcx.le (Le.refl (D := D) _)) rfl) rfl ?_
    refine JO_allocZ rfl [_, _, _, _] rfl rfl ?_
    intro β13 s13 h13
    refine JO_q (QE_as rfl) rfl ?_
    refine JO_st 0 [_, _, _, _] rfl rfl rfl rfl rfl rfl rfl rfl rfl ?_
    refine JO_nil ?_
    refine thenQ_n ?_
    refine JC_seq ?_
    refine JC_seq ?_
    refine JC_draw drawsMixed 8 rfl _ (fun _ h => h) ?_
    intro s14 h14
    refine JA_q 0 rfl (by kernel_rfl) (by kernel_rfl) (by kernel_rfl) trivial (QE_mv rfl) rfl ?_
    refine JA_q 1 rfl (by kernel_rfl) (by kernel_rfl) (by kernel_rfl) trivial (QE_mv rfl) rfl ?_
    refine JA_q 2 rfl (by kernel_rfl) (by kernel_rfl) (by kernel_rfl) trivial (QE_slH rfl rfl rfl rfl rfl (by omega)) rfl ?_
    refine JA_q 3 rfl (by kernel_rfl) (by kernel_rfl) (by kernel_rfl) trivial (QE_mv rfl) rfl ?_
    refine JA_q 4 rfl (by kernel_rfl) (by kernel_rfl) (by kernel_rfl) trivial (QE_mv rfl) rfl ?_
    refine JA_q 5 rfl (by kernel_rfl) (by kernel_rfl) (by kernel_rfl) trivial (QE_ia1 rfl rfl rfl rfl rfl rfl (show j < n1 by omega)) rfl ?_
    refine JA_q 6 rfl (by kernel_rfl) (by kernel_rfl) (by kernel_rfl) trivial (QE_ldsR0 rfl rfl rfl (hccd.le (Le.trans h13 h14)) rfl) rfl ?_
    refine JA_1 7 (by kernel_rfl) ?_
    refine JB_call rfl trivial (first := []) (captured := []) rfl rfl rfl (contains_ac D _ _ _ _ _ (codes.take j) (Wds.take (hCo.le (Le.trans (Le.trans (Le.trans (Le.trans (Le.trans (Le.trans (Le.trans (Le.trans h1 h2) h3) h4) h5) h10) I11.1) h13) h14)) (by omega)) _) ?_
    rintro _ _ s15 h15 ⟨rfl, rfl⟩
    refine ⟨fun _ _ h => h, ?_⟩
    refine JA_done (by kernel_rfl) ?_
    refine thenQ_n ?_
    refine JC_if rfl (fun c16 => ?_) (fun c16 => ?_)
    ·
     have hrp := c16
     refine JC_seq ?_
     refine JC_region ?_
     refine JO_q (QE_build [] [_, _] rfl rfl rfl rfl rfl rfl) rfl ?_
     refine JO_q (QE_mv rfl) rfl ?_
     refine JO_call (first := []) (captured := []) rfl rfl rfl (fault_ac D _ _ _ _) ?_
     rintro _ _ s17 h17 ⟨rfl, rfl⟩
     refine JO_st 4 [_, _] rfl rfl rfl rfl rfl rfl rfl rfl rfl ?_
     refine JO_st 3 [_, _] rfl rfl rfl rfl rfl rfl rfl rfl rfl ?_
     refine JO_nil ?_
     refine thenQ_n ?_
     refine JC_ret ?_
     refine thenQ_r ?_
     refine blockQ_r ?_
     refine thenQ_r ?_
     refine thenQ_r ?_
     refine blockQ_r ?_
     refine thenQ_r ?_
     refine retQ_mk [_, _, _, _, _, _] _ (.inr rfl) (.agg (us := [_, _]) 4 rfl rfl rfl rfl rfl (.agg (us := [_, _]) 3 rfl rfl rfl rfl rfl (.nil))) rfl (Le.trans (Le.trans (Le.trans (Le.trans (Le.trans (Le.trans (Le.trans (Le.trans (Le.trans (Le.trans h1 h2) h3) h4) h5) h10) I11.1) h13) h14) h15) h17) (fun sR hS2 => ?_)
     refine ⟨Mj, rfl, fun s2 hs2 hp => ⟨none, 0, 0, ?_, ?_⟩⟩
     · rw [renumR, rn_rep ht0 hle (show j < codes.length by omega) hRp (by rw [rep_at hcdx]; exact hrp)]; rfl
     · rw [renumR, rn_rep ht0 hle (show j < codes.length by omega) hRp (by rw [rep_at hcdx]; exact hrp)]; exact ⟨rfl, Nat.le_refl _, by omega, fun i x h => by cases h⟩
    ·
     have hrp := c16
     refine JC_skip ?_
     refine thenQ_n ?_
     refine JC_seq ?_
     refine JC_drawE drawsMixed 11 rfl [0] (by intro x hx; exact eraseAll_mem hx) ?_
     intro s18 h18
     refine JA_q 0 rfl (by kernel_rfl) (by kernel_rfl) (by kernel_rfl) trivial (QE_mv rfl) rfl ?_
     refine JA_q 1 rfl (by kernel_rfl) (by kernel_rfl) (by kernel_rfl) trivial (QE_mv rfl) rfl ?_
     refine JA_q 2 rfl (by kernel_rfl) (by kernel_rfl) (by kernel_rfl) trivial (QE_ia1 rfl rfl rfl rfl rfl rfl (show j < n1 by omega)) rfl ?_
     refine JA_q 3 rfl (by kernel_rfl) (by kernel_rfl) (by kernel_rfl) trivial (QE_ldsR0 rfl rfl rfl (hccd.le (Le.trans (Le.trans (Le.trans h13 h14) h15) h18)) rfl) rfl ?_
     refine JA_q 4 rfl (by kernel_rfl) (by kernel_rfl) (by kernel_rfl) trivial (QE_faB rfl rfl rfl rfl) rfl ?_
     refine JA_1 5 (by kernel_rfl) ?_
     refine JB_q rfl trivial (QE_ld1 0 rfl rfl rfl rfl rfl) rfl ?_
     refine JA_q 7 rfl (by kernel_rfl) (by kernel_rfl) (by kernel_rfl) trivial (QE_faB rfl rfl rfl rfl) rfl ?_
     refine JA_1 6 (by kernel_rfl) ?_
     refine JB_call rfl trivial (first := []) (captured := []) rfl rfl rfl (AC.pub (cloneA_ac D _ _ _ _ _ _ (hax.le (Le.trans (Le.trans (Le.trans h13 h14) h15) h18)) (by have := hG.few _ _ hx; have := hax.1; omega))) ?_
     rintro _ _ s19 h19 ⟨rfl, M1, sw, ⟨Ad, ca1, rfl, _, _, hOw⟩, hsw, hcw⟩
     refine ⟨fun _ _ h => h, ?_⟩
     have hAc := Own.acs hOw hax.u hcw hax.1
     refine JA_1 8 (by kernel_rfl) ?_
     refine JB_st rfl trivial 0 [_, _, _, _] rfl rfl rfl rfl rfl rfl rfl rfl rfl (fun _ hx => sub_mem (sbY (sbY (sbY (sbY (sbY (sbE _)))))) hx) ?_
     refine JA_q 9 rfl (by kernel_rfl) (by kernel_rfl) (by kernel_rfl) trivial (QE_faB rfl rfl rfl rfl) rfl ?_
     refine JA_1 10 (by kernel_rfl) ?_
     refine JB_st rfl trivial 0 [_, _, _, _] rfl rfl rfl rfl rfl rfl rfl rfl rfl (fun _ hx => sub_mem (sbY (sbY (sbY (sbY (sbY (sbE _)))))) hx) ?_
     refine JA_done (by kernel_rfl) ?_
     refine thenQ_n ?_
     refine JC_region ?_
     refine JO_q (QE_faB rfl rfl rfl rfl) rfl ?_
     refine JO_q (QE_ld1 1 rfl rfl rfl rfl rfl) rfl ?_
     refine JO_q (QE_ldA 0 [_, _, _, _] rfl rfl rfl rfl rfl) rfl ?_
     refine JO_bs [(_, _)] [_, _, _, _] rfl rfl rfl rfl rfl rfl rfl rfl rfl ?_
     intro βn s20 h20 hcb
     refine JO_app (sz := 4) [_, _, _, _, _, _] Mj L rfl rfl rfl rfl rfl rfl rfl hOj (Row.of_cells (hcb.le (Le.refl (D := D) _)) rfl rfl) ⟨by simp [ti60]; omega, by omega⟩ rfl ?_
     intro vj Aj s21 h21 oj
     obtain ⟨Avj, cvj, rfl, _, _⟩ := Own.slice oj
     simp only [List.cons_append, List.nil_append]
     refine JO_q (QE_faB rfl rfl rfl rfl) rfl ?_
     refine JO_st 1 [_, _] rfl rfl rfl rfl rfl rfl rfl rfl rfl ?_
     refine JO_nil ?_
     refine blockQ_n ?_
     refine thenQ_n ?_
     refine JC_region ?_
     refine JO_q (QE_add' rfl rfl (w64 (by omega) (by omega))) rfl ?_
     refine JO_q (QE_mv rfl) rfl ?_
     refine JO_nil ?_
     refine thenQ_n ⟨(j + 1, .slice Avj (j + 1) cvj, Aj, css ++ [_]), [_], (Keeps.cons rfl (Keeps.cons rfl (Keeps.cons rfl (Keeps.cons rfl (Keeps.cons rfl (Keeps.cons rfl (Keeps.cons rfl (Keeps.nil _)))))))), rfl, ⟨(Le.trans (Le.trans (Le.trans (Le.trans (Le.trans (Le.trans (Le.trans I11.1 h13) h14) h15) h18) h19) h20) h21), ⟨by simp only; omega, by simp only; rw [flat_snoc2]; exact oj, by simp only; rw [std_take hY]; exact All2.snoc (insA_le hAj (Le.trans (Le.trans (Le.trans (Le.trans (Le.trans (Le.trans h13 h14) h15) h18) h19) h20) h21)) ⟨rfl, _, _, _, rfl, hAc.le (Le.trans h20 h21), hnl, hcu⟩, fun i hi => by simp only at hi; rcases Nat.lt_succ_iff_lt_or_eq.1 hi with h | rfl; exact hRp i h; rw [rep_at hcdx]; exact hrp⟩⟩, (by simp only; omega)⟩
   ·
    have hjn : j = n := by omega
    obtain ⟨Au, cu, rfl, ku1, ku2⟩ := Own.slice hOj
    refine JC_exit ?_
    refine thenQ_x ?_
    refine thenQ_x ?_
    refine blockQ_x ?_
    refine thenQ_n ?_
    refine JC_seq ?_
    refine JC_region ?_
    refine JO_q (QE_ldA 0 [_, _] rfl rfl rfl rfl rfl) rfl ?_
    refine JO_q (QE_build [] [_, _] rfl rfl rfl rfl rfl rfl) rfl ?_
    refine JO_st 3 [_, _] rfl rfl rfl rfl rfl rfl rfl rfl rfl ?_
    refine JO_st 2 [_, _] rfl rfl rfl rfl rfl rfl rfl rfl rfl ?_
    refine JO_nil ?_
    refine thenQ_n ?_
    refine JC_ret ?_
    refine retQ_mk [_, _, _, _, _] _ (.inr rfl) (.agg (us := [_, _]) 3 rfl rfl rfl rfl rfl (.agg (us := [_, _]) 2 rfl rfl rfl rfl rfl (.nil))) rfl (Le.trans (Le.trans (Le.trans (Le.trans (Le.trans (Le.trans h1 h2) h3) h4) h5) h10) I11.1) (fun sR hS2 => ?_)
    refine ⟨Mj, rfl, fun s2 hs2 hp => ?_⟩
    have hz := rn_ok ht0 hle (fun i hi => hRp i (by omega))
    have hR : renumR t codes = ⟨t.cells, recode codes 0 t.ins⟩ := by unfold renumR; rw [hz]; rfl
    have hA2 := insA_le hAj (Le.trans (Le.refl (D := D) _) (Le.trans hS2 hs2))
    rw [List.take_of_length_le (by rw [recode_len]; omega)] at hA2
    rw [hR, hz]
    exact ⟨_, _, _, rfl, Own.rows hOj hp hA2 (by rw [recode_len]; omega)⟩
end Go.Proofs.Ytpjnphonanbopaa
