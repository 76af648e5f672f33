/- Slice expressions. -/
import Derived.Test.YtpjnphonanbopaaFlG
namespace Go.FL
open Go Go.RowKit
section
variable {P : Program} {TT : TyTab} {D n : Nat} {Q : APost} {fr : Fr} {L L' K : Hl} {s s' s0 : World} {ops : Array Oper} {rest : List Oper} {d ty : Nat} {op : Op} {pos : String} {af : Array Edge} {v : Value}

theorem bound_ok {ik : IntKind} {j y : Nat} {c : BoundsCode} (h : j ≤ y) (w : World) : (Instr.sliceBound (.int ik (j : Int)) y c).run P w = .ok j w := by
  have h0 : (j : Int) ≤ (y : Int) := by omega
  simp [Instr.sliceBound, asIntOf, h0]
theorem sliceAt_slice {t e : Nat} {x : Value} {lo hi mx : Option Value} {ti : TI} (h : ti.ok P t) (hk : ti.kind = .sl e) : ∀ w, (Instr.sliceAt t x lo hi mx).run P w = (Instr.slice t x lo hi mx).run P w := by
  obtain ⟨k1, k2, _⟩ := h
  rw [hk] at k2
  simp only [TK.fits] at k2
  rw [k2] at k1
  intro w
  simp [Instr.sliceAt, run_underlying k1]
theorem run_slice_sl {t e : Nat} {A : Option Addr} {m c : Nat} {lo hi : Option Value} {ti te : TI} (h : ti.ok P t) (hk : ti.kind = .sl e) (he : te.ok P e) {l u : Nat} (w : World)
    (hb : (Instr.sliceBounds true m c lo hi none).run P w = .ok (l, u, c) w) : (Instr.sliceAt t (.slice A m c) lo hi none).run P w = .ok (.slice (if c = l then A else A.map (·.add (l * te.size))) (u - l) (c - l)) w := by
  rw [sliceAt_slice h hk]
  obtain ⟨k1, k2, _⟩ := h
  rw [hk] at k2
  simp only [TK.fits] at k2
  rw [k2] at k1
  simp [Instr.slice, run_underlying k1, hb, run_sizeOf' he]
theorem add0 (A : Option Addr) (k : Nat) : A.map (·.add (0 * k)) = A := by cases A <;> simp [Addr.add]
/-- x[:j] -/
theorem QE_slH {t e : Nat} {x y : Operand} {ti te : TI} {ik : IntKind} {A : Option Addr} {m c j : Nat} (hx : lk fr x = some (.slice A m c)) (hy : lk fr y = some (.int ik (j : Int))) (ht : tlook TT t = some ti) (hk : ti.kind = .sl e) (he : tlook TT e = some te) (hj : j ≤ c) :
    QE P TT D fr (.slice t x none (some y) none) ty K s0 (.slice A j c) :=
  QE.pure fun hT dst pos af g ρ hρ w => by
    have hb : (Instr.sliceBounds true m c none (some (.int ik (j : Int))) none).run P w = .ok (0, j, c) w := by simp [Instr.sliceBounds, bound_ok hj]
    have hr := run_slice_sl (A := A) (hT.at_ ht) hk (hT.at_ he) w hb
    simp only [execOp, hρ x _ hx, Option.map_none, Option.map_some, hρ y _ hy, Sem.run_bind, hr, Result.andThen_ok, Sem.run_pure, add0]
    simp
/-- x[j:], where something is left of the capacity or j is 0 -/
theorem QE_slL {t e : Nat} {x y : Operand} {ti te : TI} {ik : IntKind} {A : Option Addr} {m c j : Nat} (hx : lk fr x = some (.slice A m c)) (hy : lk fr y = some (.int ik (j : Int))) (ht : tlook TT t = some ti) (hk : ti.kind = .sl e) (he : tlook TT e = some te) (hj : j ≤ m) :
    QE P TT D fr (.slice t x (some y) none none) ty K s0 (.slice (if c = j then A else A.map (·.add (j * te.size))) (m - j) (c - j)) :=
  QE.pure fun hT dst pos af g ρ hρ w => by
    have hb : (Instr.sliceBounds true m c (some (.int ik (j : Int))) none none).run P w = .ok (j, m, c) w := by simp [Instr.sliceBounds, bound_ok hj]
    have hr := run_slice_sl (A := A) (hT.at_ ht) hk (hT.at_ he) w hb
    simp only [execOp, hρ x _ hx, Option.map_none, Option.map_some, hρ y _ hy, Sem.run_bind, hr, Result.andThen_ok, Sem.run_pure]
/-- x[j:u] -/
theorem QE_slLH {t e : Nat} {x y z : Operand} {ti te : TI} {ik ik' : IntKind} {A : Option Addr} {m c j u : Nat} (hx : lk fr x = some (.slice A m c)) (hy : lk fr y = some (.int ik (j : Int))) (hz : lk fr z = some (.int ik' (u : Int))) (ht : tlook TT t = some ti) (hk : ti.kind = .sl e) (he : tlook TT e = some te) (hj : j ≤ u) (hu : u ≤ c) :
    QE P TT D fr (.slice t x (some y) (some z) none) ty K s0 (.slice (if c = j then A else A.map (·.add (j * te.size))) (u - j) (c - j)) :=
  QE.pure fun hT dst pos af g ρ hρ w => by
    have hb : (Instr.sliceBounds true m c (some (.int ik (j : Int))) (some (.int ik' (u : Int))) none).run P w = .ok (j, u, c) w := by simp [Instr.sliceBounds, bound_ok hj, bound_ok hu]
    have hr := run_slice_sl (A := A) (hT.at_ ht) hk (hT.at_ he) w hb
    simp only [execOp, hρ x _ hx, Option.map_none, Option.map_some, hρ y _ hy, hρ z _ hz, Sem.run_bind, hr, Result.andThen_ok, Sem.run_pure]

theorem extract_list (l : List UInt8) (lo hi : Nat) (h : lo ≤ hi) : (⟨l.toArray⟩ : ByteArray).extract lo hi = ⟨((l.drop lo).take (hi - lo)).toArray⟩ := by
  apply ByteArray.ext
  simp [List.take_drop, Nat.add_sub_cancel' h]
theorem run_slice_str {t : Nat} {l : List UInt8} {lo hi : Option Value} {ti : TI} (h : ti.ok P t) (hk : ti.desc = .string) {a u : Nat} (hau : a ≤ u) (w : World) (hb : (Instr.sliceBounds false l.length l.length lo hi none).run P w = .ok (a, u, l.length) w) :
    (Instr.sliceAt t (St l) lo hi none).run P w = .ok (St ((l.drop a).take (u - a))) w := by
  have k1 := h.1
  rw [hk] at k1
  have hsz : (⟨l.toArray⟩ : ByteArray).size = l.length := by simp [ByteArray.size]
  have hx := extract_list l a u hau
  simp only [Instr.sliceAt, Sem.run_bind, run_underlying k1, Result.andThen_ok, Instr.slice, Option.isSome_none, Bool.false_eq_true, if_false, hsz, hb, Sem.run_pure, hx]
/-- s[:u], s[a:], s[a:u] of a string -/
theorem QE_stH {t : Nat} {x y : Operand} {ti : TI} {ik : IntKind} {l : List UInt8} {u : Nat} (hx : lk fr x = some (St l)) (hy : lk fr y = some (.int ik (u : Int))) (ht : tlook TT t = some ti) (hk : ti.desc = .string) (hu : u ≤ l.length) :
    QE P TT D fr (.slice t x none (some y) none) ty K s0 (St (l.take u)) :=
  QE.pure fun hT dst pos af g ρ hρ w => by
    have hb : (Instr.sliceBounds false l.length l.length none (some (.int ik (u : Int))) none).run P w = .ok (0, u, l.length) w := by simp [Instr.sliceBounds, bound_ok hu]
    have hr := run_slice_str (hT.at_ ht) hk (Nat.zero_le u) w hb
    simp only [execOp, hρ x _ hx, Option.map_none, Option.map_some, hρ y _ hy, Sem.run_bind, hr, Result.andThen_ok, Sem.run_pure]
    simp
theorem QE_stL {t : Nat} {x y : Operand} {ti : TI} {ik : IntKind} {l : List UInt8} {a : Nat} (hx : lk fr x = some (St l)) (hy : lk fr y = some (.int ik (a : Int))) (ht : tlook TT t = some ti) (hk : ti.desc = .string) (ha : a ≤ l.length) :
    QE P TT D fr (.slice t x (some y) none none) ty K s0 (St (l.drop a)) :=
  QE.pure fun hT dst pos af g ρ hρ w => by
    have hb : (Instr.sliceBounds false l.length l.length (some (.int ik (a : Int))) none none).run P w = .ok (a, l.length, l.length) w := by simp [Instr.sliceBounds, bound_ok ha]
    have hr := run_slice_str (hT.at_ ht) hk ha w hb
    simp only [execOp, hρ x _ hx, Option.map_none, Option.map_some, hρ y _ hy, Sem.run_bind, hr, Result.andThen_ok, Sem.run_pure]
    have : (l.drop a).take (l.length - a) = l.drop a := List.take_of_length_le (by simp)
    rw [this]
theorem QE_stLH {t : Nat} {x y z : Operand} {ti : TI} {ik ik' : IntKind} {l : List UInt8} {a u : Nat} (hx : lk fr x = some (St l)) (hy : lk fr y = some (.int ik (a : Int))) (hz : lk fr z = some (.int ik' (u : Int))) (ht : tlook TT t = some ti) (hk : ti.desc = .string) (ha : a ≤ u) (hu : u ≤ l.length) :
    QE P TT D fr (.slice t x (some y) (some z) none) ty K s0 (St ((l.drop a).take (u - a))) :=
  QE.pure fun hT dst pos af g ρ hρ w => by
    have hb : (Instr.sliceBounds false l.length l.length (some (.int ik (a : Int))) (some (.int ik' (u : Int))) none).run P w = .ok (a, u, l.length) w := by simp [Instr.sliceBounds, bound_ok ha, bound_ok hu]
    have hr := run_slice_str (hT.at_ ht) hk ha w hb
    simp only [execOp, hρ x _ hx, Option.map_none, Option.map_some, hρ y _ hy, hρ z _ hz, Sem.run_bind, hr, Result.andThen_ok, Sem.run_pure]
end
end Go.FL
