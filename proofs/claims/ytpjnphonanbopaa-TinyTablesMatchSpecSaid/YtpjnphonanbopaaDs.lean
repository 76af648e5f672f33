/- Bytes as a string; equal lists by their parts; what a state's fault is. -/
import Derived.Test.YtpjnphonanbopaaDt
import Derived.Test.YtpjnphonanbopaaPl
import Derived.Laws.BytesString
namespace Go.FL
open Go Go.RowKit Go.Proofs.Ytpjnphonanbopaa
theorem bytes_fold (l : List UInt8) (r : ByteArray) : (l.map (fun x => (x.toNat : Int))).foldl (fun r n => r.push (UInt8.ofNat n.toNat)) r = ⟨r.data ++ l.toArray⟩ := by
  induction l generalizing r with
  | nil => cases r; simp
  | cons x l ih =>
    simp only [List.map_cons, List.foldl_cons, ih]
    apply ByteArray.ext
    simp [ByteArray.push]
theorem QE_b2s {P : Program} {TT : TyTab} {D : Nat} {fr : Fr} {ty : Nat} {K : Hl} {s0 : World} {x : Operand} {t t' e : Nat} {A : Option Addr} {n c : Nat} {l : List UInt8} {ti ti' te : TI} (hx : lk fr x = some (.slice A n c)) (ht : tlook TT t = some ti) (hk : ti.kind = .sl e) (he : tlook TT e = some te) (hke : te.desc = .int .u8)
    (ht' : tlook TT t' = some ti') (hk' : ti'.desc = .string) (h : Bts s0 A n c l) : QE P TT D fr (.convert t t' x) ty K s0 (St l) := fun hT dst pos af g ρ hρ L s ho hl _ => by
  obtain ⟨k1, k2, _⟩ := hT.at_ ht
  rw [hk] at k2
  simp only [TK.fits] at k2
  rw [k2] at k1
  have k3 := (hT.at_ he).1
  rw [hke] at k3
  have k4 := (hT.at_ ht').1
  rw [hk'] at k4
  have hc := run_convert_bytes_string (P := P) (fill L s) t t' e A n c k1 k3 k4
  simp only [execOp, hρ x _ hx, Sem.run_bind, hc]
  cases A with
  | none =>
    have : l = [] := by
      cases l with
      | nil => rfl
      | cons y l => obtain ⟨b, off, cs, h1, _⟩ := h.2.2.2 0 y rfl; cases h1
    subst this
    simp [Conv.bytesToString]
    rfl
  | some a =>
    have hcells : ∀ j v, (l.map (fun x => Value.int .u8 (x.toNat : Int)))[j]? = some v → (fill L s).cell? (a.add j) = some v := fun j v hj => by
      rw [List.getElem?_map] at hj
      cases hx : l[j]? with
      | none => simp [hx] at hj
      | some y =>
        simp [hx] at hj
        obtain ⟨b, off, cs, h1, h2, h3, rfl⟩ := h.2.2.2 j y hx
        injection h1 with h1; subst h1
        have := h2 0 _ rfl
        rw [add_lit, ← hj]
        simpa using fill_cell ho (hl.cell this)
    have hload := run_loadCells_list (P := P) (fill L s) a (l.map (fun x => Value.int .u8 (x.toNat : Int))) hcells
    rw [List.length_map, ← h.1] at hload
    have hr := run_bytesToString (P := P) (fill L s) a n c (l.map (fun x => (x.toNat : Int))) (by rw [hload, List.map_map]; rfl)
    rw [hr, bytes_fold]
    have he : (⟨ByteArray.empty.data ++ l.toArray⟩ : ByteArray) = ⟨l.toArray⟩ := by apply ByteArray.ext; exact Array.empty_append
    simp only [Result.andThen_ok, Sem.run_pure, he]
end Go.FL
namespace Go.Proofs.Ytpjnphonanbopaa
open Go Go.FL
theorem same_lists {α : Type} {l m : List α} (hl : l.length = m.length) (h : ∀ i x, i < l.length → l[i]? = some x → m[i]? = some x) : l = m := by
  apply List.ext_getElem?
  intro i
  by_cases hi : i < l.length
  · rw [h i _ hi (List.getElem?_eq_getElem hi), List.getElem?_eq_getElem hi]
  · rw [List.getElem?_eq_none (by omega), List.getElem?_eq_none (by omega)]
theorem diff_lists {α : Type} {l m : List α} {i : Nat} {x y : α} (h1 : l[i]? = some x) (h2 : m[i]? = some y) (h : x ≠ y) : l ≠ m := fun e => by
  subst e; rw [h1] at h2; injection h2; contradiction
theorem firstBad_zero (f : Nat → Int) (m j : Nat) : (firstBad f m j).1 = 0 → (firstBad f m j).2 = 0 := by
  induction m generalizing j with
  | zero => intro _; rfl
  | succ m ih =>
    simp only [firstBad]
    split
    · intro h; contradiction
    · exact ih _
/-- a table without an error code has no fault -/
theorem tab_zero (t : Tab) : (tabFault t).1 = 0 → (tabFault t).2 = 0 := by
  unfold tabFault
  split
  · intro h; cases h
  split
  · intro h; cases h
  · exact firstBad_zero _ _ _
/-- the fault of a state -/
def stFault (t : Tab) (m : Mst) : Int × Int :=
  if (tabFault t).1 ≠ 0 then tabFault t
  else if (m.cells.length : Int) ≠ t.cells then (9, -2)
  else if 400000 < m.input.length ∨ 20000 < m.output.length then (3, -2)
  else if m.stop < 0 ∨ 5 < m.stop then (4, -2)
  else if m.code ≠ 0 ∧ m.stop ≠ 1 then (6, -2)
  else (0, 0)
def startFault (t : Tab) (image : List Int) (input : List UInt8) : Int × Int :=
  if (tabFault t).1 ≠ 0 then tabFault t
  else if t.cells < (image.length : Int) then (3, -2)
  else if 400000 < input.length then (3, -3)
  else (0, 0)
end Go.Proofs.Ytpjnphonanbopaa
