/- Plain facts on tables, instructions and steps. -/
import Derived.Test.YtpjnphonanbopaaDa
namespace Go.Proofs.Ytpjnphonanbopaa
open Go Go.FL
structure TabG (t : Tab) : Prop where
  cells : 1 ≤ t.cells ∧ t.cells ≤ 65536
  len : t.ins.length ≤ 64
  codes : ∀ (i j : Nat) (x y : Ins), t.ins[i]? = some x → t.ins[j]? = some y → x.code = y.code → i = j
  acts : ∀ (i : Nat) (x : Ins) (a : Ac), t.ins[i]? = some x → a ∈ x.acts → AcOK a ∧ (x.operand = false → a.x.kind ≠ 2 ∧ a.y.kind ≠ 2)
  few : ∀ (i : Nat) (x : Ins), t.ins[i]? = some x → x.acts.length ≤ 8
theorem firstBad_all {f : Nat → Int} {m j : Nat} (h : (firstBad f m j).1 = 0) : ∀ i, j ≤ i → i < j + m → f i = 0 := by
  induction m generalizing j with
  | zero => intro i h1 h2; omega
  | succ m ih =>
    simp only [firstBad] at h
    split at h
    · contradiction
    · rename_i h0
      simp at h0
      intro i h1 h2
      rcases Nat.eq_or_lt_of_le h1 with rfl | h3
      · exact h0
      · exact ih h i h3 (by omega)
theorem firstNZ_all {α : Type} {f : α → Int} {l : List α} (h : firstNZ (l.map f) = 0) : ∀ a ∈ l, f a = 0 := by
  induction l with
  | nil => intro a ha; cases ha
  | cons x l ih =>
    simp only [List.map_cons, firstNZ] at h
    split at h
    · contradiction
    · rename_i h0
      simp at h0
      intro a ha
      rcases List.mem_cons.1 ha with rfl | ha
      · exact h0
      · exact ih h a ha
theorem Inss.u32 {s : World} {A : Option Addr} {n c : Nat} {l : List Ins} (h : Inss s A n c l) {i : Nat} {x : Ins} {a : Ac} (hi : l[i]? = some x) (ha : a ∈ x.acts) : U32 a.x.val ∧ U32 a.y.val := by
  obtain ⟨b, off, cs, h1, h2, h3, A', n', c', rfl, h5, h6⟩ := h.2.2.2 i x hi
  obtain ⟨j, hj⟩ := List.getElem?_of_mem ha
  obtain ⟨_, _, _, _, _, _, _, h7⟩ := h5.2.2.2 j a hj
  exact h7
theorem term_ok {x : Tm} {u o : Bool} (h : termB x u o = true) : (x.kind = 1 → x.val ≤ 4) ∧ (o = false → x.kind ≠ 2) := by
  unfold termB at h
  cases u <;> cases o <;> simp at h ⊢ <;> omega
theorem tabG {t : Tab} {s : World} {A : Option Addr} {n c : Nat} (hX : Inss s A n c t.ins) (h : (tabFault t).1 = 0) : TabG t := by
  unfold tabFault at h
  split at h
  · cases h
  rename_i h1
  split at h
  · cases h
  rename_i h2
  have hr := firstBad_all h
  have hrow : ∀ (i : Nat) (x : Ins), t.ins[i]? = some x → insCode x = 0 ∧ (t.ins.take i).any (sameKey x) = false := fun i x hi => by
    have hl : i < t.ins.length := (List.getElem?_eq_some_iff.1 hi).1
    have := hr i (Nat.zero_le _) (by omega)
    simp only [rowCode, hi] at this
    split at this
    · contradiction
    · rename_i h0
      simp at h0
      refine ⟨h0, ?_⟩
      split at this
      · cases this
      · rename_i h3; simpa using h3
  refine ⟨by omega, by omega, ?_, ?_, ?_⟩
  · have key : ∀ (i j : Nat) (x y : Ins), i < j → t.ins[i]? = some x → t.ins[j]? = some y → x.code ≠ y.code := fun i j x y hij hi hj he => by
      have := (hrow j y hj).2
      rw [List.any_eq_false] at this
      have hx : x ∈ t.ins.take j := List.mem_of_getElem? (i := i) (by rw [List.getElem?_take, if_pos hij]; exact hi)
      have := this x hx
      simp [sameKey, he] at this
    intro i j x y hi hj he
    rcases Nat.lt_trichotomy i j with h | h | h
    · exact absurd he (key i j x y h hi hj)
    · exact h
    · exact absurd he.symm (key j i y x h hj hi)
  · intro i x a hi ha
    obtain ⟨hu1, hu2⟩ := Inss.u32 hX hi ha
    have hc := (hrow i x hi).1
    unfold insCode at hc
    split at hc
    · cases hc
    split at hc
    · cases hc
    have hac := firstNZ_all hc a ha
    unfold actCode at hac
    split at hac
    · cases hac
    split at hac
    · cases hac
    split at hac
    · cases hac
    rename_i k1 k2 k3
    simp only [Bool.or_eq_true, not_or, Bool.not_eq_true', Bool.not_eq_false] at k3
    have hx := term_ok k3.1.2
    have hy := term_ok k3.2
    exact ⟨⟨by omega, by omega, fun e => ⟨hu1.1, hx.1 e⟩, fun e => ⟨hu2.1, hy.1 e⟩, hu1, hu2⟩, fun e => ⟨hx.2 e, hy.2 e⟩⟩
  · intro i x hi
    have hc := (hrow i x hi).1
    unfold insCode at hc
    split at hc
    · cases hc
    split at hc
    · cases hc
    omega
theorem posn_le (ins : List Ins) (c : Int) (k : Nat) : posn ins c k ≤ k := by
  induction k with
  | zero => exact Nat.le_refl _
  | succ k ih => simp only [posn]; split <;> (try split) <;> omega
theorem posn_zero {ins : List Ins} {c : Int} {k : Nat} (h : posn ins c k = 0) : ∀ i x, i < k → ins[i]? = some x → x.code ≠ c := by
  induction k with
  | zero => intro i x hi; omega
  | succ k ih =>
    intro i x hi hx
    simp only [posn] at h
    cases hk : ins[k]? with
    | none =>
      rw [hk] at h
      by_cases e : i = k
      · subst e; rw [hk] at hx; cases hx
      · exact ih h i x (by omega) hx
    | some y =>
      rw [hk] at h
      simp only at h
      split at h
      · omega
      · rename_i hy
        by_cases e : i = k
        · subst e; rw [hk] at hx; injection hx with hx; subst hx; exact hy
        · exact ih h i x (by omega) hx
theorem posn_pos {ins : List Ins} {c : Int} {k : Nat} (h : posn ins c k ≠ 0) : ∃ x, ins[posn ins c k - 1]? = some x ∧ x.code = c := by
  induction k with
  | zero => exact absurd rfl h
  | succ k ih =>
    simp only [posn] at h ⊢
    cases hk : ins[k]? with
    | none => simp only [hk] at h ⊢; exact ih h
    | some y =>
      simp only [hk] at h ⊢
      by_cases hy : y.code = c
      · simp only [hy, if_true]; exact ⟨y, hk, hy⟩
      · simp only [hy, if_false] at h ⊢; exact ih h
theorem findI_none {ins : List Ins} {c : Int} (h : ∀ i x, i < ins.length → ins[i]? = some x → x.code ≠ c) : findI ins c = none := by
  unfold findI
  rw [List.find?_eq_none]
  intro x hx
  obtain ⟨i, hi⟩ := List.getElem?_of_mem hx
  have := h i x (List.getElem?_eq_some_iff.1 hi).1 hi
  simp [this]
theorem findI_some {t : Tab} (hG : TabG t) {c : Int} {p : Nat} {x : Ins} (hx : t.ins[p]? = some x) (hc : x.code = c) : findI t.ins c = some x := by
  unfold findI
  cases hf : t.ins.find? (fun x => decide (x.code = c)) with
  | none =>
    rw [List.find?_eq_none] at hf
    have := hf x (List.mem_of_getElem? hx)
    simp [hc] at this
  | some y =>
    have h1 := List.find?_some hf
    obtain ⟨j, hj⟩ := List.getElem?_of_mem (List.mem_of_find?_eq_some hf)
    have := hG.codes p j x y hx hj (by rw [hc]; simpa using (of_decide_eq_true h1).symm)
    subst this
    rw [hx] at hj
    exact hj.symm
theorem setR_ok {m : Mst} (h : MOK m) {i v : Int} (hv : U32 v) : MOK (setR m i v) := by
  refine ⟨h.cells, h.wide, ?_, ?_, ?_, ?_, ?_, h.output, h.input, h.code⟩ <;> simp only [setR] <;> split <;> first | exact hv | exact h.u0 | exact h.u1 | exact h.u2 | exact h.u3 | exact h.u4
theorem comp_ok {k x y : Int} (hx : U32 x) (hy : U32 y) : U32 (comp k x y) := by
  obtain ⟨x1, x2⟩ := hx
  obtain ⟨y1, y2⟩ := hy
  have hX : x.toNat < 2 ^ 32 := by omega
  have hY : y.toNat < 2 ^ 32 := by omega
  have a1 := Nat.and_lt_two_pow x.toNat hY
  have a2 := Nat.or_lt_two_pow hX hY
  have a3 := Nat.xor_lt_two_pow hX hY
  have a4 : x.toNat >>> y.toNat ≤ x.toNat := Nat.shiftRight_le _ _
  have d1 : 0 ≤ x / y := Int.ediv_nonneg x1 y1
  have d2 : x / y ≤ x := Int.ediv_le_self _ x1
  have e1 : 0 ≤ x % y ∧ x % y ≤ x := by
    by_cases h0 : y = 0
    · subst h0; simp; omega
    · exact ⟨Int.emod_nonneg x h0, by have := Int.emod_add_mul_ediv x y; have : 0 ≤ y * (x / y) := Int.mul_nonneg y1 d1; omega⟩
  unfold comp w32
  by_cases h1 : k = 1
  · rw [if_pos h1]; unfold U32; omega
  rw [if_neg h1]
  by_cases h2 : k = 2
  · rw [if_pos h2]; unfold U32; omega
  rw [if_neg h2]
  by_cases h3 : k = 3
  · rw [if_pos h3]; unfold U32; omega
  rw [if_neg h3]
  by_cases h4 : k = 4
  · rw [if_pos h4]; unfold U32; omega
  rw [if_neg h4]
  by_cases h5 : k = 5
  · rw [if_pos h5]; unfold U32; omega
  rw [if_neg h5]
  by_cases h6 : k = 6
  · rw [if_pos h6]; unfold U32; omega
  rw [if_neg h6]
  by_cases h7 : k = 7
  · rw [if_pos h7]; unfold U32; omega
  rw [if_neg h7]
  by_cases h8 : k = 8
  · rw [if_pos h8]; unfold U32; omega
  rw [if_neg h8]
  by_cases h9 : k = 9
  · rw [if_pos h9]; unfold U32; omega
  rw [if_neg h9]
  by_cases h10 : k = 10
  · rw [if_pos h10]; clear a1 a2 a3; generalize x.toNat >>> y.toNat = z at a4 ⊢; unfold U32; omega
  rw [if_neg h10]
  by_cases h11 : k = 11
  · rw [if_pos h11]; by_cases e : x = y
    · rw [if_pos e]; exact ⟨by decide, by decide⟩
    · rw [if_neg e]; exact ⟨by decide, by decide⟩
  rw [if_neg h11]
  by_cases h12 : k = 12
  · rw [if_pos h12]; by_cases e : x < y
    · rw [if_pos e]; exact ⟨by decide, by decide⟩
    · rw [if_neg e]; exact ⟨by decide, by decide⟩
  rw [if_neg h12]; exact ⟨x1, x2⟩
theorem act_ok {m : Mst} (h : MOK m) {a : Ac} (ha : AcOK a) {op : Int} (ho : U32 op) : MOK (actM m a op) := by
  have hx := U32_val h ho ha.ux
  have hy := U32_val h ho ha.uy
  unfold actM
  simp only
  repeat' split
  all_goals first
    | exact h
    | exact ⟨h.cells, h.wide, h.u0, h.u1, h.u2, h.u3, h.u4, h.output, h.input, h.code⟩
    | exact setR_ok h (comp_ok hx hy)
    | exact setR_ok h ⟨by decide, by decide⟩
    | exact ⟨h.cells, h.wide, h.u0, h.u1, h.u2, h.u3, h.u4, h.output, h.input, hx⟩
    | skip
  · refine setR_ok h ?_
    by_cases hl : (valT m op a.x).toNat < m.cells.length
    · simp only [List.getD, List.getElem?_eq_getElem hl, Option.getD_some]
      exact h.wide _ (List.getElem_mem hl)
    · simp [List.getD, List.getElem?_eq_none (Nat.le_of_not_lt hl)]; exact ⟨by decide, by decide⟩
  · refine ⟨by simpa using h.cells, fun x hx => ?_, h.u0, h.u1, h.u2, h.u3, h.u4, h.output, h.input, h.code⟩
    rcases List.mem_or_eq_of_mem_set hx with h1 | h1
    · exact h.wide x h1
    · rw [h1]; exact hy
  · rename_i c r hi
    have hu : U32 (c.toNat : Int) := ⟨by omega, by have := c.toNat_lt; omega⟩
    have h2 := setR_ok (i := a.to) h hu
    have h3 := h.input
    rw [hi] at h3
    exact ⟨h2.cells, h2.wide, h2.u0, h2.u1, h2.u2, h2.u3, h2.u4, h2.output, by simp at h3; show r.length ≤ 400000; omega, h2.code⟩
  · rename_i k1 _ _ _ k2
    have h1 := h.output
    refine ⟨h.cells, h.wide, h.u0, h.u1, h.u2, h.u3, h.u4, ?_, h.input, h.code⟩
    simp only [List.length_append, List.length_cons, List.length_nil]
    have : m.output.length ≠ 20000 := fun e => k1 ⟨k2, e⟩
    omega
/-- the operand does not matter where no term names it -/
theorem act_op {m : Mst} {a : Ac} (hx : a.x.kind ≠ 2) (hy : a.y.kind ≠ 2) (o o' : Int) : actM m a o = actM m a o' := by
  have e1 : valT m o a.x = valT m o' a.x := by simp [valT, hx]
  have e2 : valT m o a.y = valT m o' a.y := by simp [valT, hy]
  unfold actM
  rw [e1, e2]
theorem acts_op {l : List Ac} (h : ∀ a ∈ l, a.x.kind ≠ 2 ∧ a.y.kind ≠ 2) (m : Mst) (o o' : Int) : actsM m o l = actsM m o' l := by
  induction l generalizing m with
  | nil => rfl
  | cons a r ih =>
    have h1 := h a (List.mem_cons_self ..)
    simp only [actsM, act_op h1.1 h1.2 o o']
    rw [ih (fun b hb => h b (List.mem_cons_of_mem _ hb))]
end Go.Proofs.Ytpjnphonanbopaa
