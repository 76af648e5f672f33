/- Runs in plain terms; a state's value in the shared world. -/
import Derived.Test.YtpjnphonanbopaaDq
import Derived.Test.YtpjnphonanbopaaFlK
namespace Go.Proofs.Ytpjnphonanbopaa
open Go Go.FL
/-- the words of a state are 32-bit numbers -/
structure MU (m : Mst) : Prop where
  u0 : U32 m.r0
  u1 : U32 m.r1
  u2 : U32 m.r2
  u3 : U32 m.r3
  u4 : U32 m.r4
  code : U32 m.code
theorem MOK.mu {m : Mst} (h : MOK m) : MU m := ⟨h.u0, h.u1, h.u2, h.u3, h.u4, h.code⟩
def zeroM : Mst := ⟨[], 0, 0, 0, 0, 0, [], [], 0, 0⟩
theorem zeroU : MU zeroM := by constructor <;> exact ⟨by decide, by decide⟩
/-- a state's value -/
def StW (s : World) (m : Mst) (v : Value) : Prop := ∃ A nA cA B nB cB O nO cO, v = .agg #[.slice A nA cA, .int .u32 m.r0, .int .u32 m.r1, .int .u32 m.r2, .int .u32 m.r3, .int .u32 m.r4, .slice B nB cB, .slice O nO cO, .int .i64 m.stop, .int .u32 m.code]
  ∧ Wds s A nA cA m.cells ∧ Bts s B nB cB m.input ∧ Bts s O nO cO m.output
theorem StW.le {D : Nat} {s s' : World} {m : Mst} {v : Value} (h : StW s m v) (hl : Le D s s') : StW s' m v := by
  obtain ⟨A, nA, cA, B, nB, cB, O, nO, cO, h1, h2, h3, h4⟩ := h
  exact ⟨A, nA, cA, B, nB, cB, O, nO, cO, h1, h2.le hl, h3.le hl, h4.le hl⟩
theorem StW.zero (s : World) : StW s zeroM (.agg #[.slice none 0 0, .int .u32 0, .int .u32 0, .int .u32 0, .int .u32 0, .int .u32 0, .slice none 0 0, .slice none 0 0, .int .i64 0, .int .u32 0]) :=
  ⟨none, 0, 0, none, 0, 0, none, 0, 0, rfl, Wds.nil _ _ _ (by omega), Bts.nil _ _ _ (by omega), Bts.nil _ _ _ (by omega)⟩
/-- a state is one of a machine that has stopped or not -/
structure SOK (m : Mst) : Prop where
  stop : 0 ≤ m.stop ∧ m.stop ≤ 5
  code : m.code ≠ 0 → m.stop = 1
theorem st_zero (t : Tab) (m : Mst) : (stFault t m).1 = 0 → (stFault t m).2 = 0 := by
  unfold stFault
  repeat' split
  all_goals (intro h; first | rfl | contradiction | (exact absurd h (by decide)))
theorem st_mok {t : Tab} {m : Mst} {s : World} {A Ax : Option Addr} {n c nx cx : Nat} (hX : Inss s A n c t.ins) (hA : Wds s Ax nx cx m.cells) (hU : MU m) (h : (stFault t m).1 = 0) : TabG t ∧ MOK m ∧ SOK m ∧ (m.cells.length : Int) = t.cells := by
  unfold stFault at h
  split at h
  · contradiction
  rename_i h0
  simp at h0
  have hG := tabG hX h0
  split at h
  · exact absurd h (by decide)
  rename_i h1
  split at h
  · exact absurd h (by decide)
  rename_i h2
  split at h
  · exact absurd h (by decide)
  rename_i h3
  split at h
  · exact absurd h (by decide)
  rename_i h4
  have := hG.cells
  refine ⟨hG, ⟨by omega, fun x hx => ?_, hU.u0, hU.u1, hU.u2, hU.u3, hU.u4, by omega, by omega, hU.code⟩, ⟨by omega, fun hc => by omega⟩, by omega⟩
  obtain ⟨i, hi⟩ := List.getElem?_of_mem hx
  obtain ⟨_, _, _, _, _, _, _, h5⟩ := hA.2.2.2 i x hi
  exact h5
theorem st_none {t : Tab} {m : Mst} (ht : (tabFault t).1 = 0) (hm : MOK m) (hs : SOK m) (hl : (m.cells.length : Int) = t.cells) : stFault t m = (0, 0) := by
  have h1 := hm.input
  have h2 := hm.output
  have h3 := hs.stop
  have h4 := hs.code
  unfold stFault
  rw [if_neg (by omega), if_neg (by omega), if_neg (by omega), if_neg (by omega), if_neg (by omega)]
theorem act_len (m : Mst) (a : Ac) (op : Int) : (actM m a op).cells.length = m.cells.length := by
  unfold actM
  simp only
  repeat' split
  all_goals simp [setR]
theorem act_sok {m : Mst} (a : Ac) (op : Int) (h0 : m.stop = 0) (hc : m.code = 0) : SOK (actM m a op) ∧ ((actM m a op).stop = 0 → (actM m a op).code = 0) := by
  unfold actM
  simp only
  repeat' split
  all_goals (refine ⟨⟨?_, ?_⟩, ?_⟩ <;> simp [setR, h0, hc])
theorem acts_good {l : List Ac} (hl : ∀ a ∈ l, AcOK a) {m : Mst} (hm : MOK m) (h0 : m.stop = 0) (hc : m.code = 0) {op : Int} (ho : U32 op) :
    MOK (actsM m op l) ∧ SOK (actsM m op l) ∧ (actsM m op l).cells.length = m.cells.length ∧ ((actsM m op l).stop = 0 → (actsM m op l).code = 0) := by
  induction l generalizing m with
  | nil => exact ⟨hm, ⟨by simp only [actsM]; omega, fun h => by simp only [actsM] at h; contradiction⟩, rfl, fun _ => hc⟩
  | cons a r ih =>
    have h1 := act_ok hm (hl a (List.mem_cons_self ..)) ho
    obtain ⟨h2, h3⟩ := act_sok a op h0 hc
    have h4 := act_len m a op
    simp only [actsM]
    split
    · rename_i hs
      obtain ⟨k1, k2, k3, k4⟩ := ih (fun b hb => hl b (List.mem_cons_of_mem _ hb)) h1 hs (h3 hs)
      exact ⟨k1, k2, by omega, k4⟩
    · exact ⟨h1, h2, h4, h3⟩
/-- a step of a machine that has not stopped -/
theorem step_good {t : Tab} (hG : TabG t) {m : Mst} (hm : MOK m) (h0 : m.stop = 0) (hc : m.code = 0) :
    MOK (stepM t m) ∧ SOK (stepM t m) ∧ (stepM t m).cells.length = m.cells.length ∧ ((stepM t m).stop = 0 → (stepM t m).code = 0) := by
  have hu : ∀ i, U32 (m.cells.getD i 0) := fun i => by
    by_cases hl : i < m.cells.length
    · simp only [List.getD, List.getElem?_eq_getElem hl, Option.getD_some]; exact hm.wide _ (List.getElem_mem hl)
    · simp [List.getD, List.getElem?_eq_none (Nat.le_of_not_lt hl)]; exact ⟨by decide, by decide⟩
  have hst : ∀ k : Int, 0 ≤ k → k ≤ 5 → MOK { m with stop := k } ∧ SOK { m with stop := k } ∧ ({ m with stop := k } : Mst).cells.length = m.cells.length ∧ (({ m with stop := k } : Mst).stop = 0 → ({ m with stop := k } : Mst).code = 0) := fun k h1 h2 =>
    ⟨⟨hm.cells, hm.wide, hm.u0, hm.u1, hm.u2, hm.u3, hm.u4, hm.output, hm.input, hm.code⟩, ⟨⟨h1, h2⟩, fun h => absurd hc h⟩, rfl, fun _ => hc⟩
  have hr4 : ∀ v : Int, U32 v → MOK { m with r4 := v } := fun v hv => ⟨hm.cells, hm.wide, hm.u0, hm.u1, hm.u2, hm.u3, hv, hm.output, hm.input, hm.code⟩
  have h4 := hm.u4
  have h5 := hm.cells
  unfold U32 at h4
  unfold stepM
  split
  · exact hst 3 (by omega) (by omega)
  rename_i hfar
  split
  · exact hst 2 (by omega) (by omega)
  rename_i x hx
  have hmem : ∃ i : Nat, t.ins[i]? = some x := List.getElem?_of_mem (List.mem_of_find?_eq_some hx)
  obtain ⟨i, hi⟩ := hmem
  have hac : ∀ a ∈ x.acts, AcOK a := fun a ha => (hG.acts i x a hi ha).1
  split
  · split
    · exact hst 3 (by omega) (by omega)
    · exact acts_good hac (hr4 (m.r4 + 2) ⟨by omega, by omega⟩) h0 hc (hu _)
  · exact acts_good hac (hr4 (m.r4 + 1) ⟨by omega, by omega⟩) h0 hc ⟨by decide, by decide⟩
theorem run_good {t : Tab} (hG : TabG t) {m : Mst} (hm : MOK m) (hs : SOK m) (k : Nat) : MOK (runM t m k).1 ∧ SOK (runM t m k).1 ∧ (runM t m k).1.cells.length = m.cells.length ∧ (runM t m k).2 ≤ k := by
  induction k generalizing m with
  | zero => exact ⟨hm, hs, rfl, Nat.le_refl _⟩
  | succ k ih =>
    simp only [runM]
    split
    · rename_i h0
      have hc : m.code = 0 := by
        by_cases hc : m.code = 0
        · exact hc
        · have := hs.code hc; omega
      obtain ⟨h1, h2, h3, h4⟩ := step_good hG hm h0 hc
      obtain ⟨k1, k2, k3, k4⟩ := ih h1 h2
      exact ⟨k1, k2, k3.trans h3, Nat.succ_le_succ k4⟩
    · exact ⟨hm, hs, rfl, Nat.zero_le _⟩
theorem run_add (t : Tab) (m : Mst) (a b : Nat) : runM t m (a + b) = ((runM t (runM t m a).1 b).1, (runM t m a).2 + (runM t (runM t m a).1 b).2) := by
  induction a generalizing m with
  | zero => simp [runM]
  | succ a ih =>
    rw [Nat.succ_add]
    simp only [runM]
    split
    · rename_i h0
      rw [ih]
      simp only [Prod.mk.injEq, true_and]
      omega
    · rename_i h0
      cases b with
      | zero => simp [runM]
      | succ b => simp [runM, h0]
/-- what Run returns -/
def runR (t : Tab) (m : Mst) (k : Int) : Mst × Int × Int × Int :=
  if (stFault t m).1 ≠ 0 then (zeroM, 0, (stFault t m).1, (stFault t m).2)
  else if k < 0 ∨ 50000000 < k then (zeroM, 0, 4, -3)
  else ((runM t m k.toNat).1, ((runM t m k.toNat).2 : Int), 0, 0)
theorem runR_bad {t : Tab} {m : Mst} {k : Int} (h : (stFault t m).1 ≠ 0) : runR t m k = (zeroM, 0, (stFault t m).1, (stFault t m).2) := by unfold runR; rw [if_pos h]
theorem runR_far {t : Tab} {m : Mst} {k : Int} (h : (stFault t m).1 = 0) (hk : k < 0 ∨ 50000000 < k) : runR t m k = (zeroM, 0, 4, -3) := by unfold runR; rw [if_neg (by simpa using h), if_pos hk]
theorem runR_ok {t : Tab} {m : Mst} {k : Int} (h : (stFault t m).1 = 0) (hk : ¬ (k < 0 ∨ 50000000 < k)) : runR t m k = ((runM t m k.toNat).1, ((runM t m k.toNat).2 : Int), 0, 0) := by unfold runR; rw [if_neg (by simpa using h), if_neg hk]
/-- a run, told from the middle -/
theorem run_mid {t : Tab} {m mk : Mst} {K j : Nat} (h : runM t m K = ((runM t mk (K - j)).1, j + (runM t mk (K - j)).2)) (hj : j < K) (h0 : mk.stop = 0) :
    runM t m K = ((runM t (stepM t mk) (K - (j + 1))).1, (j + 1) + (runM t (stepM t mk) (K - (j + 1))).2) := by
  rw [h]
  obtain ⟨d, hd⟩ : ∃ d, K - j = d + 1 := ⟨K - j - 1, by omega⟩
  rw [hd, show K - (j + 1) = d by omega]
  simp only [runM, h0, if_true, Prod.mk.injEq, true_and]
  omega
theorem run_end {t : Tab} {m mk : Mst} {K j : Nat} (h : runM t m K = ((runM t mk (K - j)).1, j + (runM t mk (K - j)).2)) (he : ¬ j < K ∨ ¬ mk.stop = 0) : runM t m K = (mk, j) := by
  rw [h]
  cases hd : K - j with
  | zero => simp [runM]
  | succ d =>
    rcases he with he | he
    · omega
    · simp [runM, he]
end Go.Proofs.Ytpjnphonanbopaa
