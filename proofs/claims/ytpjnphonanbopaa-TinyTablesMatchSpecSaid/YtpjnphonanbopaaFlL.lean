/- Blocks handed to the shared world on the way; rows of elements of several cells. -/
import Derived.Test.YtpjnphonanbopaaDu
namespace Go.FL
open Go Go.RowKit
/-- blocks that are written no more go to the shared world -/
theorem JC_pubX {P : Program} {TT : TyTab} {D n : Nat} {Q : APost} {fr : Fr} {s : World} {c : Code} (X A Y : Hl) (h : ∀ s', Le D s s' → Pub A s' → JC P TT D n Q c fr (X ++ Y) s') : JC P TT D n Q c fr (X ++ (A ++ Y)) s := fun ht a hr ho => by
  have hp : (X ++ (A ++ Y)).Perm (A ++ (X ++ Y)) := by
    rw [← List.append_assoc, ← List.append_assoc]
    exact (List.perm_append_comm).append_right Y
  rw [fill_perm hp _ ho]
  have ho2 := ho.perm hp
  obtain ⟨e, d1, d2⟩ := drop_own ho2
  rw [e]
  refine h _ d2 (fun b zs t hm j u hj => ?_) ht a hr d1
  rw [mem_cell ho2.left hm, Nat.zero_add]; exact hj
end Go.FL
namespace Go.Proofs.Ytpjnphonanbopaa
open Go Go.FL
theorem All2.len {α β : Type} {R : α → β → Prop} {l : List α} {m : List β} (h : All2 R l m) : l.length = m.length := by
  induction h with
  | nil => rfl
  | cons _ _ ih => simp [ih]
theorem All2.mono {α β : Type} {R R' : α → β → Prop} {l : List α} {m : List β} (h : All2 R l m) (hr : ∀ a b, R a b → R' a b) : All2 R' l m := by
  induction h with
  | nil => exact .nil
  | cons h _ ih => exact .cons (hr _ _ h) ih
theorem All2.snoc {α β : Type} {R : α → β → Prop} {l : List α} {m : List β} {a : α} {b : β} (h : All2 R l m) (k : R a b) : All2 R (l ++ [a]) (m ++ [b]) := by
  induction h with
  | nil => exact .cons k .nil
  | cons h _ ih => exact .cons h ih
/-- an owned row, published: a slice of elements -/
theorem Own.rows {α : Type} {e sz : Nat} {A : Hl} {Ad : Option Addr} {n c : Nat} {css : List (List Value)} {l : List α} {R : World → α → List Value → Prop} {s : World} (h : Own e sz A (.slice Ad n c) n css.flatten) (hp : Pub A s) (ha : All2 (fun x cs => cs.length = sz ∧ R s x cs) l css) (hn : n = l.length) : Sl sz R s Ad n c l := by
  generalize hv : Value.slice Ad n c = v at h
  generalize hx : css.flatten = xs at h
  cases h with
  | nil =>
    injection hv with e1 e2 e3
    subst e1; subst e3
    have : l = [] := List.eq_nil_of_length_eq_zero hn.symm
    subst this
    exact ⟨rfl, Nat.le_refl _, by omega, fun i x h => by cases h⟩
  | blk b cap n xs ys h1 h2 h3 h4 =>
    injection hv with e1 e2 e3
    subst e1; subst e3; subst hx
    have hc : CellsAt s b 0 css.flatten := fun j v hj => hp b _ e (List.mem_cons_self ..) j v (by rw [List.getElem?_append_left (List.getElem?_eq_some_iff.1 hj).1]; exact hj)
    exact ⟨hn, h3, h4, fun i x hi => by
      obtain ⟨cs, k1, k2⟩ := sl_lit ha 0 hc i x hi
      exact ⟨b, 0, cs, rfl, k1, k2⟩⟩
/-- strings -/
def Strs (s : World) (A : Option Addr) (n c : Nat) (l : List (List UInt8)) : Prop := Sl 1 (fun _ x cs => cs = [St x] ∧ x.length ≤ 9223372036854775807) s A n c l
theorem Strs.le {D : Nat} {s s' : World} {A : Option Addr} {n c : Nat} {l : List (List UInt8)} (h : Strs s A n c l) (hl : Le D s s') : Strs s' A n c l := Sl.le (fun _ _ h => h) h hl
theorem Strs.at_ {s : World} {A : Option Addr} {n c k : Nat} {l : List (List UInt8)} (h : Strs s A n c l) (hk : k < n) : ∃ b off x, A = some ⟨b, off, none⟩ ∧ l[k]? = some x ∧ CellsAt s b (off + k) [St x] ∧ x.length ≤ 9223372036854775807 := by
  have hl : k < l.length := by rw [← h.1]; exact hk
  obtain ⟨b, off, cs, h1, h2, _, rfl, h4⟩ := h.2.2.2 k l[k] (List.getElem?_eq_getElem hl)
  exact ⟨b, off, l[k], h1, List.getElem?_eq_getElem hl, by simpa using h2, h4⟩
/- other names -/
def ren (names : List (List UInt8)) : Nat → List Ins → List Ins
  | _, [] => []
  | i, x :: r => { x with name := names.getD i x.name } :: ren names (i + 1) r
theorem ren_len (names : List (List UInt8)) (k : Nat) (l : List Ins) : (ren names k l).length = l.length := by
  induction l generalizing k with
  | nil => rfl
  | cons x r ih => simp [ren, ih]
theorem ren_at {names : List (List UInt8)} {l : List Ins} {k i : Nat} {x : Ins} (h : l[i]? = some x) : (ren names k l)[i]? = some { x with name := names.getD (k + i) x.name } := by
  induction l generalizing k i with
  | nil => cases h
  | cons y r ih =>
    cases i with
    | zero => simp at h; subst h; rfl
    | succ i => simp only [ren, List.getElem?_cons_succ] at h ⊢; rw [ih h, Nat.add_assoc, Nat.add_comm 1 i]
theorem find_ren (names : List (List UInt8)) (l : List Ins) (c : Int) (k : Nat) : (findI l c = none ∧ findI (ren names k l) c = none) ∨ ∃ x y, findI l c = some x ∧ findI (ren names k l) c = some y ∧ y.operand = x.operand ∧ y.acts = x.acts := by
  induction l generalizing k with
  | nil => exact .inl ⟨rfl, rfl⟩
  | cons x r ih =>
    by_cases hc : x.code = c
    · exact .inr ⟨x, { x with name := names.getD k x.name }, by simp [findI, hc], by simp [findI, ren, hc], rfl, rfl⟩
    · have e1 : findI (x :: r) c = findI r c := by simp [findI, hc]
      have e2 : findI (ren names k (x :: r)) c = findI (ren names (k + 1) r) c := by simp [findI, ren, hc]
      rw [e1, e2]
      exact ih (k + 1)
theorem step_ren (names : List (List UInt8)) (t : Tab) (m : Mst) : stepM ⟨t.cells, ren names 0 t.ins⟩ m = stepM t m := by
  unfold stepM
  rcases find_ren names t.ins (m.cells.getD m.r4.toNat 0) 0 with ⟨h1, h2⟩ | ⟨x, y, h1, h2, h3, h4⟩
  · simp only [h1, h2]
  · simp only [h1, h2, h3, h4]
theorem run_ren (names : List (List UInt8)) (t : Tab) (m : Mst) (k : Nat) : runM ⟨t.cells, ren names 0 t.ins⟩ m k = runM t m k := by
  induction k generalizing m with
  | zero => rfl
  | succ k ih => simp only [runM, step_ren, ih]
theorem runR_ren {names : List (List UInt8)} {t : Tab} (h1 : (tabFault t).1 = 0) (h2 : (tabFault ⟨t.cells, ren names 0 t.ins⟩).1 = 0) (m : Mst) (k : Int) : runR ⟨t.cells, ren names 0 t.ins⟩ m k = runR t m k := by
  have e : stFault ⟨t.cells, ren names 0 t.ins⟩ m = stFault t m := by
    simp only [stFault, h1, h2, ne_eq, not_true, if_false]
  unfold runR
  rw [e, run_ren]
end Go.Proofs.Ytpjnphonanbopaa
