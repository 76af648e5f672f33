/- The rules of the operations that touch memory. -/
import Derived.Test.YtpjnphonanbopaaFlC
namespace Go.FL
open Go Go.RowKit

/-- the cells vs lie in the shared world at block b from off on -/
def CellsAt (s : World) (b off : Nat) (vs : List Value) : Prop := ∀ j v, vs[j]? = some v → s.cell? ⟨b, off + j, none⟩ = some v
theorem CellsAt.le {D : Nat} {s s' : World} {b off : Nat} {vs : List Value} (h : CellsAt s b off vs) (hl : Le D s s') : CellsAt s' b off vs := fun j v hj => hl.cell (h j v hj)
theorem CellsAt.one {s : World} {b off : Nat} {v : Value} (h : s.cell? ⟨b, off, none⟩ = some v) : CellsAt s b off [v] := fun j u hj => by
  cases j with
  | zero => simp at hj; subst hj; exact h
  | succ j => simp at hj

theorem add_lit (b off j : Nat) : (⟨b, off, none⟩ : Addr).add j = ⟨b, off + j, none⟩ := by unfold Addr.add; split <;> simp_all

section
variable {P : Program} {TT : TyTab} {D : Nat}

theorem run_isAgg_sc {t : Nat} {ti : TI} (h : ti.ok P t) (hk : ti.kind = .sc) (w : World) : (isAgg t).run P w = .ok false w := by
  obtain ⟨h1, h2, _⟩ := h
  rw [hk] at h2
  unfold isAgg
  simp only [Sem.run_bind, run_underlying h1, Result.andThen_ok]
  generalize ti.desc = dd at h2
  cases dd <;> simp_all [TK.fits]
theorem run_isAgg_sl {t e : Nat} {ti : TI} (h : ti.ok P t) (hk : ti.kind = .sl e) (w : World) : (isAgg t).run P w = .ok false w := by
  obtain ⟨h1, h2, _⟩ := h
  rw [hk] at h2
  unfold isAgg
  simp only [TK.fits] at h2
  simp [run_underlying h1, h2]
theorem run_isAgg_st {t : Nat} {os : List Nat} {ti : TI} (h : ti.ok P t) (hk : ti.kind = .st os) (w : World) : (isAgg t).run P w = .ok true w := by
  obtain ⟨h1, h2, _⟩ := h
  rw [hk] at h2
  unfold isAgg
  simp only [Sem.run_bind, run_underlying h1, Result.andThen_ok]
  generalize ti.desc = dd at h2
  cases dd <;> simp_all [TK.fits]
theorem run_isAgg_ar {t m e : Nat} {ti : TI} (h : ti.ok P t) (hk : ti.kind = .ar m e) (w : World) : (isAgg t).run P w = .ok true w := by
  obtain ⟨h1, h2, _⟩ := h
  rw [hk] at h2
  unfold isAgg
  simp only [TK.fits] at h2
  simp [run_underlying h1, h2]
theorem info_of {t : Nat} {ti : TI} (h : ti.ok P t) : ∃ i, P.info? t = some i ∧ i.size = ti.size ∧ i.bytes = ti.bytes ∧ i.zero = some ti.zero := by
  obtain ⟨_, _, h3, _⟩ := h
  cases hi : P.info? t with
  | none => simp [hi] at h3
  | some i => simp [hi] at h3; exact ⟨i, rfl, h3.1, h3.2.1, h3.2.2⟩
theorem run_sizeOf' {t : Nat} {ti : TI} (h : ti.ok P t) (w : World) : (sizeOf t).run P w = .ok ti.size w := by
  obtain ⟨i, h1, h2, _, _⟩ := info_of h
  simp [sizeOf, typeInfo, h1, h2]
theorem run_zero' {t : Nat} {ti : TI} (h : ti.ok P t) (w : World) : (zeroValue t).run P w = .ok ti.zero w := by
  obtain ⟨i, h1, _, _, h2⟩ := info_of h
  simp [zeroValue, typeInfo, h1, h2]
theorem run_isAgg' {t : Nat} {ti : TI} (h : ti.ok P t) (w : World) : (isAgg t).run P w = .ok (!isOne ti.kind) w := by
  cases hk : ti.kind with
  | sc => exact run_isAgg_sc h hk w
  | sl e => exact run_isAgg_sl h hk w
  | st os => exact run_isAgg_st h hk w
  | ar m e => exact run_isAgg_ar h hk w
theorem zero_cells {t : Nat} {ti : TI} (h : ti.ok P t) : ti.zero.cells = ti.zeros.toArray := by
  obtain ⟨h1, h2, h3, h4, h5, h6, h7, _⟩ := h
  unfold TI.zero
  cases hk : ti.kind with
  | st os => rfl
  | ar m e => rfl
  | sc =>
    have hl : ti.zeros.length = 1 := by rw [h4]; exact h7 (by rw [hk]; rfl)
    match hz : ti.zeros, hl with
    | [z], _ => rw [hz] at h5; simp at h5; simp only [List.headD]; cases z <;> simp_all [Value.oneCell', Value.cells]
  | sl e =>
    have hl : ti.zeros.length = 1 := by rw [h4]; exact h7 (by rw [hk]; rfl)
    match hz : ti.zeros, hl with
    | [z], _ => rw [hz] at h5; simp at h5; simp only [List.headD]; cases z <;> simp_all [Value.oneCell', Value.cells]
theorem run_new (t : TypeId) (cs : Array Value) (w : World) : (newRow t cs).run P w = .ok ⟨w.heap.size, 0, none⟩ (w.alloc (.cells cs t)) := by
  simp [newRow]

def cellsL : Value → List Value
  | .agg cs => cs.toList
  | v => [v]
theorem cells_cellsL (v : Value) : v.cells = (cellsL v).toArray := by cases v <;> simp [Value.cells, cellsL]

theorem run_loadVar_one {t : Nat} {ti : TI} (h : ti.ok P t) (hk : isOne ti.kind = true) {w : World} {a : Addr} {v : Value} (hc : w.cell? a = some v) : (loadVar t a).run P w = .ok v w := by
  simp [loadVar, run_isAgg' h, hk, hc]
theorem run_loadVar_agg {t : Nat} {ti : TI} (h : ti.ok P t) (hk : isOne ti.kind = false) {w : World} {b off : Nat} {vs : List Value} (hl : vs.length = ti.size)
    (hc : ∀ j v, vs[j]? = some v → w.cell? ⟨b, off + j, none⟩ = some v) : (loadVar t ⟨b, off, none⟩).run P w = .ok (.agg vs.toArray) w := by
  have h1 := run_loadCells_list (P := P) w ⟨b, off, none⟩ vs (fun j v hj => by rw [add_lit]; exact hc j v hj)
  simp [loadVar, run_isAgg' h, hk, run_sizeOf' h, ← hl, h1]

theorem cb_cell {L : Hl} {s : World} (ho : OKL D L s) {i b t : Nat} {zs : List Value} (hi : L[i]? = some (b, cb zs t)) (j : Nat) : (fill L s).cell? ⟨b, j, none⟩ = zs[j]? := by
  have := fill_mem ho (List.mem_of_getElem? hi)
  simp [World.cell?, this, cb]

/-- the cells from off on, n of them -/
def cut (zs : List Value) (off : Nat) : Nat → Option (List Value)
  | 0 => some []
  | n + 1 => match nth zs off with
    | some v => match cut zs (off + 1) n with
      | some r => some (v :: r)
      | none => none
    | none => none
theorem cut_spec {zs : List Value} {off n : Nat} {vs : List Value} (h : cut zs off n = some vs) : vs.length = n ∧ ∀ j v, vs[j]? = some v → zs[off + j]? = some v := by
  induction n generalizing off vs with
  | zero => simp [cut] at h; subst h; simp
  | succ n ih =>
    simp only [cut] at h
    cases h1 : nth zs off with
    | none => simp [h1] at h
    | some x =>
      cases h2 : cut zs (off + 1) n with
      | none => simp [h1, h2] at h
      | some r =>
        simp [h1, h2] at h
        subst h
        obtain ⟨k1, k2⟩ := ih h2
        refine ⟨by simp [k1], fun j v hj => ?_⟩
        cases j with
        | zero => simp at hj; subst hj; rw [nth_eq] at h1; exact h1
        | succ j => simp at hj; have := k2 j v hj; rwa [Nat.add_right_comm, Nat.add_assoc] at this
end

section
variable {P : Program} {TT : TyTab} {D n : Nat} {Q : APost} {fr : Fr} {L L' K : Hl} {s s' s0 : World} {ops : Array Oper} {rest : List Oper} {d ty : Nat} {op : Op} {pos : String} {af : Array Edge} {v : Value}

/-- a new variable: an owned block -/
theorem Ev_alloc {t : Nat} {ti : TI} (ht : tlook TT t = some ti) (ho : OKL D L s) : Ev P TT D fr (.alloc t) ty L s (.value (.pointer (some ⟨s.heap.size, 0, none⟩))) ((s.heap.size, cb ti.zeros t) :: L) (s.alloc (dum D)) := fun hT _ dst pos af g ρ _ => by
  obtain ⟨h1, h2, h3⟩ := alloc_fill ho (cb ti.zeros t)
  refine ⟨?_, h2⟩
  have hz := zero_cells (hT.at_ ht)
  simp only [execOp, Instr.alloc, Sem.run_bind, run_zero' (hT.at_ ht), Result.andThen_ok, newVar, run_new, hz, Sem.run_pure, fill_size]
  rw [← h1]; rfl
theorem Ev_box {t : Nat} {x : Operand} {zs : List Value} (hx : lk fr x = some v) (hz : cellsL v = zs) (ho : OKL D L s) : Ev P TT D fr (.box t x) ty L s (.value (.pointer (some ⟨s.heap.size, 0, none⟩))) ((s.heap.size, cb zs t) :: L) (s.alloc (dum D)) := fun hT _ dst pos af g ρ hρ => by
  obtain ⟨h1, h2, h3⟩ := alloc_fill ho (cb zs t)
  refine ⟨?_, h2⟩
  simp only [execOp, Instr.box, Sem.run_bind, Result.andThen_ok, newVar, run_new, Sem.run_pure, fill_size, hρ x v hx, cells_cellsL, hz]
  rw [← h1]; rfl
theorem JO_alloc {t : Nat} {ti : TI} (ht : tlook TT t = some ti) (hd : Nat.blt d n = true)
    (k : ∀ β s', Le D s s' → JO P TT D n ops Q rest ((d, .pointer (some ⟨β, 0, none⟩)) :: fr) ((β, cb ti.zeros t) :: L) s') : JO P TT D n ops Q (⟨some d, .alloc t, ty, pos, af, none⟩ :: rest) fr L s := fun hT a hr ho =>
  JO_ev hd (Ev_alloc ht ho) (k _ _ (alloc_fill ho (cb ti.zeros t)).2.2) hT a hr ho
/-- the same, its zero cells written out -/
theorem JO_allocZ {t : Nat} {ti : TI} (ht : tlook TT t = some ti) (zs : List Value) (hz : ti.zeros = zs) (hd : Nat.blt d n = true)
    (k : ∀ β s', Le D s s' → JO P TT D n ops Q rest ((d, .pointer (some ⟨β, 0, none⟩)) :: fr) ((β, cb zs t) :: L) s') : JO P TT D n ops Q (⟨some d, .alloc t, ty, pos, af, none⟩ :: rest) fr L s := by subst hz; exact JO_alloc ht hd k
theorem JO_box {t : Nat} {x : Operand} {zs : List Value} (hx : lk fr x = some v) (hz : cellsL v = zs) (hd : Nat.blt d n = true)
    (k : ∀ β s', Le D s s' → JO P TT D n ops Q rest ((d, .pointer (some ⟨β, 0, none⟩)) :: fr) ((β, cb zs t) :: L) s') : JO P TT D n ops Q (⟨some d, .box t x, ty, pos, af, none⟩ :: rest) fr L s := fun hT a hr ho =>
  JO_ev hd (Ev_box hx hz ho) (k _ _ (alloc_fill ho (cb zs t)).2.2) hT a hr ho
/-- a struct's value into a new variable -/
theorem JO_boxA {t : Nat} {x : Operand} {zs : List Value} (hx : lk fr x = some (.agg zs.toArray)) (hd : Nat.blt d n = true)
    (k : ∀ β s', Le D s s' → JO P TT D n ops Q rest ((d, .pointer (some ⟨β, 0, none⟩)) :: fr) ((β, cb zs t) :: L) s') : JO P TT D n ops Q (⟨some d, .box t x, ty, pos, af, none⟩ :: rest) fr L s :=
  JO_box hx (by simp [cellsL]) hd k

theorem mem_cell {zs : List Value} {b t j : Nat} (ho : OKL D L s) (hi : (b, cb zs t) ∈ L) : (fill L s).cell? ⟨b, j, none⟩ = zs[j]? := by
  have := fill_mem ho hi
  simp [World.cell?, this, cb]
theorem QE_ld1 {t b off : Nat} {x : Operand} {ti : TI} {t' : Nat} {zs : List Value} (i : Nat) (hx : lk fr x = some (.pointer (some ⟨b, off, none⟩))) (hi : K[i]? = some (b, cb zs t')) (ht : tlook TT t = some ti) (hk : isOne ti.kind = true)
    (hv : nth zs off = some v) : QE P TT D fr (.load t x) ty K s0 v := fun hT dst pos af g ρ hρ L s ho _ hK => by
  have hc : (fill L s).cell? ⟨b, off, none⟩ = some v := by rw [mem_cell ho (hK _ (List.mem_of_getElem? hi)), ← nth_eq]; exact hv
  simp [execOp, hρ x _ hx, Instr.loadAt, Instr.sureAddr, run_loadVar_one (hT.at_ ht) hk hc]
theorem QE_ldA {t b off : Nat} {x : Operand} {ti : TI} {t' : Nat} {zs : List Value} (i : Nat) (vs : List Value) (hx : lk fr x = some (.pointer (some ⟨b, off, none⟩))) (hi : K[i]? = some (b, cb zs t')) (ht : tlook TT t = some ti) (hk : isOne ti.kind = false)
    (hv : cut zs off ti.size = some vs) : QE P TT D fr (.load t x) ty K s0 (.agg vs.toArray) := fun hT dst pos af g ρ hρ L s ho _ hK => by
  obtain ⟨h1, h2⟩ := cut_spec hv
  have hc : ∀ j v, vs[j]? = some v → (fill L s).cell? ⟨b, off + j, none⟩ = some v := fun j v hj => by rw [mem_cell ho (hK _ (List.mem_of_getElem? hi))]; exact h2 j v hj
  simp [execOp, hρ x _ hx, Instr.loadAt, Instr.sureAddr, run_loadVar_agg (hT.at_ ht) hk h1 hc]
/-- a load from the shared world -/
theorem QE_lds {t b off : Nat} {x : Operand} {ti : TI} (hx : lk fr x = some (.pointer (some ⟨b, off, none⟩))) (ht : tlook TT t = some ti) (hk : isOne ti.kind = true)
    (hv : s0.cell? ⟨b, off, none⟩ = some v) : QE P TT D fr (.load t x) ty K s0 v := fun hT dst pos af g ρ hρ L s ho hl _ => by
  simp [execOp, hρ x _ hx, Instr.loadAt, Instr.sureAddr, run_loadVar_one (hT.at_ ht) hk (fill_cell ho (hl.cell hv))]
theorem QE_ldsA {t b off : Nat} {x : Operand} {ti : TI} {vs : List Value} (hx : lk fr x = some (.pointer (some ⟨b, off, none⟩))) (ht : tlook TT t = some ti) (hk : isOne ti.kind = false)
    (hv : CellsAt s0 b off vs) (hl : vs.length = ti.size) : QE P TT D fr (.load t x) ty K s0 (.agg vs.toArray) := fun hT dst pos af g ρ hρ L s ho hle _ => by
  simp [execOp, hρ x _ hx, Instr.loadAt, Instr.sureAddr, run_loadVar_agg (hT.at_ ht) hk hl (fun j v hj => fill_cell ho (hle.cell (hv j v hj)))]
/-- one cell of a row that lies in the shared world -/
theorem QE_ldsR {t b off : Nat} {x : Operand} {ti : TI} {vs : List Value} (j : Nat) (hx : lk fr x = some (.pointer (some ⟨b, off + j, none⟩))) (ht : tlook TT t = some ti) (hk : isOne ti.kind = true)
    (hv : CellsAt s0 b off vs) (hj : nth vs j = some v) : QE P TT D fr (.load t x) ty K s0 v := QE_lds hx ht hk (hv j v (by rw [← nth_eq]; exact hj))
theorem QE_ldsR0 {t b off : Nat} {x : Operand} {ti : TI} {vs : List Value} (hx : lk fr x = some (.pointer (some ⟨b, off, none⟩))) (ht : tlook TT t = some ti) (hk : isOne ti.kind = true)
    (hv : CellsAt s0 b off vs) (hj : nth vs 0 = some v) : QE P TT D fr (.load t x) ty K s0 v := QE_lds hx ht hk (hv 0 v (by rw [← nth_eq]; exact hj))

/-- the cells from off on replaced -/
def splice (zs : List Value) (off : Nat) (vs : List Value) : List Value := match vs with
  | [] => zs
  | v :: vs => match zs, off with
    | [], _ => []
    | _ :: zs, 0 => v :: splice zs 0 vs
    | z :: zs, o + 1 => z :: splice zs o (v :: vs)
theorem splice_eq (zs : List Value) (off : Nat) (vs : List Value) (h : off + vs.length ≤ zs.length) : splice zs off vs = zs.take off ++ vs ++ zs.drop (off + vs.length) := by
  induction zs generalizing off vs with
  | nil => cases vs <;> simp_all [splice]
  | cons z zs ih =>
    cases vs with
    | nil => simp [splice]
    | cons v vs =>
      cases off with
      | zero => simp only [splice]; rw [ih 0 vs (by simp at h ⊢; omega)]; simp
      | succ o => simp only [splice]; rw [ih o (v :: vs) (by simp at h ⊢; omega)]; simp; rw [show o + 1 + (vs.length + 1) = (o + (vs.length + 1)) + 1 by omega]; rfl
theorem setRow_setBlk {w : World} {b t : Nat} {cs : Array Value} {fz : Nat × Nat} (h : w.heap[b]? = some (.cells cs t fz)) (ds : Array Value) : w.setRow b ds = setBlk w b (.cells ds t fz) := by
  refine world_eq (heap_ext fun k => ?_) rfl rfl rfl rfl
  by_cases hk : k = b
  · subst hk
    rw [setRow_heap w k cs ds t fz h, setBlk_same]
    rcases Nat.lt_or_ge k w.heap.size with h1 | h1
    · exact h1
    · rw [Array.getElem?_eq_none h1] at h; cases h
  · rw [setRow_other w b k ds hk, setBlk_other _ (fun e => hk e.symm)]
theorem Ev_st {t b off : Nat} {x y : Operand} {ti : TI} {t' : Nat} {zs : List Value} (i : Nat) (zs' : List Value) (hx : lk fr x = some (.pointer (some ⟨b, off, none⟩))) (hy : lk fr y = some v) (hi : L[i]? = some (b, cb zs t')) (ht : tlook TT t = some ti)
    (hl : (cellsL v).length = ti.size) (hle : Nat.ble (off + ti.size) zs.length = true) (h1 : (cellsL v).all (·.oneCell') = true) (hs : splice zs off (cellsL v) = zs') : Ev P TT D fr (.store t x y) ty L s .skip (setL L i (cb zs' t')) s := fun hT ho dst pos af g ρ hρ => ⟨by
    have hg := fill_mem ho (List.mem_of_getElem? hi)
    have hle' : off + ti.size ≤ zs.length := Nat.le_of_ble_eq_true hle
    have hst := run_storeCells_at (P := P) b off t' (cellsL v) 0 zs.toArray (fill L s) hg (by simp [hl]; omega) (by simpa using h1)
    rw [fill_setL ho hi, ← hs, splice_eq zs off (cellsL v) (by rw [hl]; exact hle'), cb, ← setRow_setBlk hg]
    simp only [Nat.add_zero, List.toList_toArray] at hst
    have hsz : (cellsL v).toArray.size = ti.size := by simpa using hl
    simp only [execOp, hρ x _ hx, hρ y _ hy, Instr.storeAt, Instr.sureAddr, storeVar, cells_cellsL, Sem.run_bind, Sem.run_pure, Result.andThen_ok, run_sizeOf' (hT.at_ ht), hsz, ne_eq, not_true, if_false, hst, List.toList_toArray], setL_ok ho _ _⟩
/-- a store into an owned block; zs': the block's cells behind it; L': what is owned behind it -/
theorem JO_st {t b off : Nat} {x y : Operand} {ti : TI} {t' : Nat} {zs : List Value} (i : Nat) (zs' : List Value) {L' : Hl} (hx : lk fr x = some (.pointer (some ⟨b, off, none⟩))) (hy : lk fr y = some v) (hi : L[i]? = some (b, cb zs t')) (ht : tlook TT t = some ti)
    (hl : (cellsL v).length = ti.size) (hle : Nat.ble (off + ti.size) zs.length = true) (h1 : (cellsL v).all (·.oneCell') = true) (hs : splice zs off (cellsL v) = zs') (hL : setL L i (cb zs' t') = L')
    (k : JO P TT D n ops Q rest fr L' s) : JO P TT D n ops Q (⟨none, .store t x y, ty, pos, af, none⟩ :: rest) fr L s := by
  subst hL; exact JO_sk (Ev_st i zs' hx hy hi ht hl hle h1 hs) k
end
end Go.FL
