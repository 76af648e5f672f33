/- Literals of structs and slices; small lemmas. -/
import Derived.Test.YtpjnphonanbopaaFlF
import Derived.IntWalk
namespace Go.FL
open Go Go.RowKit

theorem w64 {a : Int} (h1 : -9223372036854775808 ≤ a) (h2 : a ≤ 9223372036854775807) : IntKind.i64.wrap a = a := by
  rw [IntKind.wrap_i64]; omega

/-- the parts of a literal laid into the zero value -/
def bld (places : List (Nat × Nat)) : List Value → List (Nat × Value) → Option (List Value)
  | zs, [] => some zs
  | zs, (i, v) :: rest => match places[i]? with
    | none => none
    | some (off, size) => bif (Nat.beq (cellsL v).length size && Nat.ble (off + size) zs.length) then bld places (splice zs off (cellsL v)) rest else none
theorem splice_len (zs : List Value) (off : Nat) (vs : List Value) : (splice zs off vs).length = zs.length := by
  induction zs generalizing off vs with
  | nil => cases vs <;> simp [splice]
  | cons z zs ih =>
    cases vs with
    | nil => simp [splice]
    | cons v vs => cases off <;> simp [splice, ih]
theorem foldl_splice (vs : List Value) (off k : Nat) (zs : List Value) (h : off + k + vs.length ≤ zs.length) :
    (vs.zipIdx k).foldl (fun (cs : Array Value) (x : Value × Nat) => cs.setIfInBounds (off + x.2) x.1) zs.toArray = (splice zs (off + k) vs).toArray := by
  induction vs generalizing k zs with
  | nil => cases zs <;> simp [splice]
  | cons v vs ih =>
    simp only [List.zipIdx_cons, List.foldl_cons]
    have h0 : off + k < zs.length := by simp at h; omega
    rw [List.setIfInBounds_toArray, ih (k + 1) _ (by simp at h ⊢; omega)]
    congr 1
    rw [splice_eq _ _ _ (by simp at h ⊢; omega), splice_eq _ _ _ (by simpa using h)]
    simp only [List.length_cons]
    rw [show off + (k + 1) = off + k + 1 by omega]
    rw [List.take_succ_eq_append_getElem (by simpa using h0), List.take_set_of_le (by omega), List.drop_set]
    simp [show ¬ (off + k + 1 + vs.length ≤ off + k) by omega, show off + k < off + k + 1 + vs.length by omega]
    congr 1
    omega

theorem fill_bld (places : List (Nat × Nat)) (f : Nat → Option (Nat × Nat)) (hf : ∀ i, f i = places[i]?) (zs : List Value) (parts : List (Nat × Value)) {vs : List Value} (h : bld places zs parts = some vs) :
    Instr.fill f zs.toArray parts = some vs.toArray := by
  induction parts generalizing zs with
  | nil => simp [bld] at h; subst h; rfl
  | cons p rest ih =>
    obtain ⟨i, v⟩ := p
    simp only [bld] at h
    simp only [Instr.fill, hf]
    cases hp : places[i]? with
    | none => simp [hp] at h
    | some os =>
      obtain ⟨off, size⟩ := os
      simp only [hp, cond_eq_ite] at h
      by_cases hc : (Nat.beq (cellsL v).length size && Nat.ble (off + size) zs.length) = true
      · simp only [hc, if_true] at h
        simp only [Bool.and_eq_true] at hc
        have h1 : (cellsL v).length = size := Nat.eq_of_beq_eq_true hc.1
        have h2 : off + size ≤ zs.length := Nat.le_of_ble_eq_true hc.2
        have h3 := foldl_splice (cellsL v) off 0 zs (by omega)
        simp only [cells_cellsL, List.size_toArray, h1, ne_eq, not_true, decide_false, Bool.false_or, gt_iff_lt, decide_eq_true_eq, show ¬ zs.length < off + size by omega, if_false]
        have e : (cellsL v).toArray.zipIdx = ((cellsL v).zipIdx 0).toArray := by simp
        rw [e]
        simp only [List.foldl_toArray, Nat.add_zero] at h3 ⊢
        rw [h3]
        exact ih _ h
      · simp only [hc] at h; cases h

section
variable {P : Program} {TT : TyTab} {D n : Nat} {Q : APost} {fr : Fr} {L L' K : Hl} {s s' s0 : World} {ops : Array Oper} {rest : List Oper} {d ty : Nat} {op : Op} {pos : String} {af : Array Edge} {v : Value}

/-- the values of a literal's parts -/
def lkp (fr : Fr) : List (Nat × Operand) → Option (List (Nat × Value))
  | [] => some []
  | (i, x) :: r => match lk fr x with
    | some v => match lkp fr r with
      | some vs => some ((i, v) :: vs)
      | none => none
    | none => none
theorem lkp_map {fr : Fr} {ρ : Operand → Value} (hρ : ∀ x v, lk fr x = some v → ρ x = v) {xs : List (Nat × Operand)} {vs : List (Nat × Value)} (h : lkp fr xs = some vs) : xs.map (fun p => (p.1, ρ p.2)) = vs := by
  induction xs generalizing vs with
  | nil => simp [lkp] at h; subst h; rfl
  | cons p xs ih =>
    obtain ⟨i, x⟩ := p
    simp only [lkp] at h
    cases h1 : lk fr x with
    | none => simp [h1] at h
    | some v =>
      cases h2 : lkp fr xs with
      | none => simp [h1, h2] at h
      | some r => simp [h1, h2] at h; subst h; simp [hρ x v h1, ih h2]
theorem run_places {fs : List Field} {l : List Nat} (h : fs.map (fun f => P.cellsOf f.type) = l) (hp : fs.all (fun f => decide (0 < P.cellsOf f.type)) = true) (w : World) :
    (fs.mapM (m := Sem) fun f => do pure (f.offset, ← sizeOf f.type)).run P w = .ok ((fs.map (·.offset)).zip l) w := by
  induction fs generalizing l with
  | nil => subst h; simp
  | cons f fs ih =>
    subst h
    simp only [List.all_cons, Bool.and_eq_true, decide_eq_true_eq] at hp
    have hsz : (sizeOf f.type).run P w = .ok (P.cellsOf f.type) w := by
      have hpos := hp.1
      unfold Program.cellsOf at hpos ⊢
      cases hi : P.info? f.type with
      | none => simp [hi] at hpos
      | some i => simp [sizeOf, typeInfo, hi]
    simp only [List.mapM_cons, Sem.run_bind, hsz, Result.andThen_ok, Sem.run_pure, ih rfl hp.2, List.map_cons, List.zip_cons_cons]
/-- a struct's literal -/
theorem QE_build {t : Nat} {ps : List (Nat × Operand)} {ti : TI} {os : List Nat} (vals : List (Nat × Value)) (vs : List Value) (ht : tlook TT t = some ti) (hk : ti.kind = .st os) (hv : lkp fr ps = some vals) {zs fz : List _} (hz : ti.zeros = zs) (hfz : ti.fsz = fz)
    (hb : bld (os.zip fz) zs vals = some vs) : QE P TT D fr (.build t ps.toArray) ty K s0 (.agg vs.toArray) :=
  QE.pure fun hT dst pos af g ρ hρ w => by
    subst hz; subst hfz
    have hok := hT.at_ ht
    have hok2 := hok
    obtain ⟨h1, h2, _, _, _, _, _, h8, h9⟩ := hok2
    rw [hk] at h2
    cases hd : ti.desc with
    | struct fs =>
      rw [hd] at h1 h2 h8 h9
      simp only [TK.fits] at h2
      have hpl := run_places (P := P) (w := w) (fs := fs.toList) (show fs.toList.map (fun f => P.cellsOf f.type) = ti.fsz from h9) h8
      have hz : ti.zero.cells = ti.zeros.toArray := zero_cells hok
      have hpl' : (fs.mapM (m := Sem) fun f => do pure (f.offset, ← sizeOf f.type)).run P w = .ok (os.zip ti.fsz).toArray w := by
        rw [Array.mapM_eq_mapM_toList]
        simp only [map_eq_pure_bind, Sem.run_bind, hpl, Result.andThen_ok, Sem.run_pure, h2]
      have hfill := fill_bld (os.zip ti.fsz) ((os.zip ti.fsz).toArray[·]?) (fun i => by simp) ti.zeros vals hb
      have hm : (ps.toArray.map fun p => (p.1, ρ p.2)).toList = vals := by simpa using lkp_map hρ hv
      simp only [execOp, Instr.build, Sem.run_bind, run_zero' hok, Result.andThen_ok, run_underlying h1, hpl', hz]
      have hm' : (ps.toArray.map fun (x : Nat × Operand) => match x with | (i, x) => (i, ρ x)).toList = vals := hm
      rw [hm', hfill]
      rfl
    | _ => rw [hd] at h2; simp [TK.fits] at h2

/-- an array behind its address, the index a literal -/
theorem QE_iaL {t e b off len : Nat} {x y : Operand} {ti te : TI} {ik : IntKind} (j : Nat) {sz : Nat} (hx : lk fr x = some (.pointer (some ⟨b, off, none⟩))) (hy : lk fr y = some (.int ik (Int.ofNat j))) (ht : tlook TT t = some ti) (hk : ti.kind = .ar len e) (he : tlook TT e = some te)
    (hs : te.size = 1) (h1 : j < len) : QE P TT D fr (.indexAddr t x y) ty K s0 (.pointer (some ⟨b, off + j, none⟩)) := by
  have := QE_iaA (P := P) (D := D) (ty := ty) (K := K) (s0 := s0) (j := j) hx hy ht hk he hs h1
  rwa [Nat.mul_one] at this

def eraseAll (L : Hl) : List Nat → Hl
  | [] => L
  | i :: r => eraseAll (L.eraseIdx i) r
theorem eraseAll_mem {L : Hl} {r : List Nat} {x : Nat × Obj} (h : x ∈ eraseAll L r) : x ∈ L := by
  induction r generalizing L with
  | nil => exact h
  | cons i r ih => exact List.mem_of_mem_eraseIdx (ih h)
theorem JC_drawE {id : Nat} {l : List Oper} (hm : P.follows .mixedOrders = true) (N : Nat) (hN : l.length = N) (r : List Nat) (hK : ∀ x ∈ eraseAll L r, x ∈ L)
    (h : ∀ s', Le D s s' → JA P TT D n l.toArray Q (eraseAll L r) s' N (Array.replicate N false) fr L s') : JC P TT D n Q (.region id l.toArray true) fr L s := JC_draw hm N hN _ hK h

theorem flat_get (zs : List Value) (len i : Nat) (h : i < len * zs.length) : ((List.replicate len zs).flatten)[i]? = zs[i % zs.length]? := by
  induction len generalizing i with
  | zero => simp at h
  | succ len ih =>
    rw [List.replicate_succ, List.flatten_cons]
    by_cases hi : i < zs.length
    · rw [List.getElem?_append_left hi, Nat.mod_eq_of_lt hi]
    · rw [List.getElem?_append_right (by omega), ih (i - zs.length) (by rw [Nat.succ_mul] at h; omega), Nat.mod_eq_sub_mod (by omega : i ≥ zs.length)]
theorem zeroRow (zs : List Value) (len : Nat) (h : 0 < zs.length) : (Array.range (len * zs.length)).map (fun i => zs.toArray[i % zs.toArray.size]!) = ((List.replicate len zs).flatten).toArray := by
  apply Array.ext_getElem?
  intro i
  by_cases hi : i < len * zs.length
  · have hm : i % zs.length < zs.length := Nat.mod_lt _ h
    have := flat_get zs len i hi
    simp only [List.getElem?_toArray, this]
    simp [hi, hm]
  · have hl : ((List.replicate len zs).flatten).length = len * zs.length := by simp
    rw [Array.getElem?_eq_none (by simp; omega), Array.getElem?_eq_none (by simp only [List.size_toArray, hl]; omega)]
/-- where the parts of a slice's literal lie -/
def rowPl (size : Nat) : Nat → Nat → List (Nat × Nat)
  | _, 0 => []
  | o, n + 1 => (o, size) :: rowPl size (o + size) n
theorem rowPl_get (size o n i : Nat) (h : i < n) : (rowPl size o n)[i]? = some (o + i * size, size) := by
  induction n generalizing o i with
  | zero => omega
  | succ n ih =>
    cases i with
    | zero => simp [rowPl]
    | succ i => simp only [rowPl, List.getElem?_cons_succ]; rw [ih (o + size) i (by omega), Nat.succ_mul]; congr 2; omega
theorem bld_congr (p q : List (Nat × Nat)) (zs : List Value) (parts : List (Nat × Value)) (h : ∀ x ∈ parts, p[x.1]? = q[x.1]?) : bld p zs parts = bld q zs parts := by
  induction parts generalizing zs with
  | nil => rfl
  | cons x r ih =>
    obtain ⟨i, v⟩ := x
    simp only [bld]
    rw [h (i, v) (List.mem_cons_self ..)]
    cases q[i]? with
    | none => rfl
    | some os => simp only []; rw [ih _ fun y hy => h y (List.mem_cons_of_mem _ hy)]
theorem fill_row (size len : Nat) (zs : List Value) (parts : List (Nat × Value)) {vs : List Value} (hp : parts.all (fun x => Nat.blt x.1 len) = true) (h : bld (rowPl size 0 len) zs parts = some vs) :
    Instr.fill (fun i => some (i * size, size)) zs.toArray parts = some vs.toArray := by
  induction parts generalizing zs with
  | nil => simp [bld] at h; subst h; rfl
  | cons x rest ih =>
    obtain ⟨i, v⟩ := x
    simp only [List.all_cons, Bool.and_eq_true] at hp
    have hi : i < len := Nat.le_of_ble_eq_true hp.1
    have hg := rowPl_get size 0 len i hi
    rw [Nat.zero_add] at hg
    have h1 := fill_bld (rowPl size 0 len) ((rowPl size 0 len)[·]?) (fun _ => rfl) zs ((i, v) :: rest) h
    simp only [bld, hg, cond_eq_ite] at h
    simp only [Instr.fill, hg] at h1 ⊢
    by_cases hc : (Nat.beq (cellsL v).length size && Nat.ble (i * size + size) zs.length) = true
    · simp only [hc, if_true] at h
      simp only [Bool.and_eq_true] at hc
      have e1 : (cellsL v).length = size := Nat.eq_of_beq_eq_true hc.1
      have e2 : i * size + size ≤ zs.length := Nat.le_of_ble_eq_true hc.2
      have h3 := foldl_splice (cellsL v) (i * size) 0 zs (by omega)
      simp only [cells_cellsL, List.size_toArray, e1, ne_eq, not_true, decide_false, Bool.false_or, gt_iff_lt, decide_eq_true_eq, show ¬ zs.length < i * size + size by omega, if_false]
      have e : (cellsL v).toArray.zipIdx = ((cellsL v).zipIdx 0).toArray := by simp
      rw [e]
      simp only [List.foldl_toArray, Nat.add_zero] at h3 ⊢
      rw [h3]
      exact ih _ hp.2 h
    · simp only [hc] at h; cases h
theorem run_buildSlice {t e len : Nat} {ti te : TI} (hti : ti.ok P t) (hk : ti.kind = .sl e) (hte : te.ok P e) (hsz : Nat.ble (len * te.size) 16777216 = true) (hpos : 0 < len) (vals : List (Nat × Value)) (vs : List Value) (hp : vals.all (fun x => Nat.blt x.1 len) = true)
    (hb : bld (rowPl te.size 0 len) (List.replicate len te.zeros).flatten vals = some vs) (w : World) : (Instr.buildSlice t len vals.toArray).run P w = .ok (.slice (some ⟨w.heap.size, 0, none⟩) len len) (w.alloc (cb vs e)) := by
  obtain ⟨k1, k2, _⟩ := hti
  rw [hk] at k2
  simp only [TK.fits] at k2
  rw [k2] at k1
  have hte2 := hte
  obtain ⟨_, _, _, z1, _, z3, _⟩ := hte2
  have hz := zero_cells hte
  have hle : ¬ (2 ^ 24 < len * te.size) := by have := Nat.le_of_ble_eq_true hsz; omega
  have hne : ¬ (len * te.size = 0) := by
    intro h0
    have := Nat.mul_pos hpos z3
    omega
  have hrow := zeroRow te.zeros len (by omega)
  rw [z1] at hrow
  have hfr := fill_row te.size len _ vals hp hb
  simp only [Instr.buildSlice, Sem.run_bind, run_underlying k1, Result.andThen_ok, run_sizeOf' hte, gt_iff_lt, hle, if_false, Sem.run_pure, hne, run_zero' hte, hz]
  rw [hrow, hfr]
  simp only [Sem.run_bind, run_new, Result.andThen_ok, Sem.run_pure]
  rfl
theorem Ev_bs {t e len : Nat} {ti te : TI} {ps : List (Nat × Operand)} (vals : List (Nat × Value)) (vs : List Value) (ht : tlook TT t = some ti) (hk : ti.kind = .sl e) (he : tlook TT e = some te) (hv : lkp fr ps = some vals) (hsz : Nat.ble (len * te.size) 16777216 = true) (hpos : Nat.blt 0 len = true) (hp : vals.all (fun x => Nat.blt x.1 len) = true)
    (hb : bld (rowPl te.size 0 len) (List.replicate len te.zeros).flatten vals = some vs) (ho : OKL D L s) : Ev P TT D fr (.buildSlice t len ps.toArray) ty L s (.value (.slice (some ⟨s.heap.size, 0, none⟩) len len)) ((s.heap.size, cb vs e) :: L) (s.alloc (dum D)) := fun hT _ dst pos af g ρ hρ => by
  obtain ⟨h1, h2, h3⟩ := alloc_fill ho (cb vs e)
  refine ⟨?_, h2⟩
  have hm : (ps.toArray.map fun (x : Nat × Operand) => match x with | (i, x) => (i, ρ x)) = vals.toArray := by
    have := lkp_map hρ hv
    rw [← this]; simp
  have hpos' : 0 < len := Nat.le_of_ble_eq_true hpos
  simp only [execOp, hm, Sem.run_bind, run_buildSlice (hT.at_ ht) hk (hT.at_ he) hsz hpos' vals vs hp hb, Result.andThen_ok, Sem.run_pure, fill_size]
  rw [← h1]
theorem cells_drop {b t : Nat} {vs : List Value} (ho : OKL D ((b, cb vs t) :: L) s) : CellsAt (fill [(b, cb vs t)] s) b 0 vs := fun j v hj => by
  have h1 : OKL D [(b, cb vs t)] s := ⟨by simp, fun x hx => ho.dm x (by simp at hx; subst hx; exact List.mem_cons_self ..)⟩
  rw [mem_cell h1 (List.mem_cons_self ..), Nat.zero_add]; exact hj
/-- a slice's literal, handed to the shared world at once -/
theorem JO_bs {t e len : Nat} {ti te : TI} {ps : List (Nat × Operand)} (vals : List (Nat × Value)) (vs : List Value) (ht : tlook TT t = some ti) (hk : ti.kind = .sl e) (he : tlook TT e = some te) (hv : lkp fr ps = some vals) (hsz : Nat.ble (len * te.size) 16777216 = true) (hpos : Nat.blt 0 len = true) (hp : vals.all (fun x => Nat.blt x.1 len) = true)
    (hb : bld (rowPl te.size 0 len) (List.replicate len te.zeros).flatten vals = some vs) (hd : Nat.blt d n = true) (k : ∀ β s', Le D s s' → CellsAt s' β 0 vs → JO P TT D n ops Q rest ((d, .slice (some ⟨β, 0, none⟩) len len) :: fr) L s') :
    JO P TT D n ops Q (⟨some d, .buildSlice t len ps.toArray, ty, pos, af, none⟩ :: rest) fr L s := fun hT a hr ho => by
  obtain ⟨h1, h2, h3⟩ := alloc_fill ho (cb vs e)
  obtain ⟨d1, d2, d3⟩ := drop_own (A := [(s.heap.size, cb vs e)]) (B := L) h2
  refine JO_ev (L' := L) (s' := fill [(s.heap.size, cb vs e)] (s.alloc (dum D))) hd (fun hT _ dst pos af g ρ hρ => ⟨?_, d2⟩) (k _ _ (h3.trans d3) (cells_drop h2)) hT a hr ho
  rw [← d1]
  exact (Ev_bs vals vs ht hk he hv hsz hpos hp hb ho hT ho dst pos af g ρ hρ).1
theorem JB_bs {i t e len : Nat} {g : Option (Nat × Bool)} {fuel : Nat} {listed : Array Bool} {ti te : TI} {ps : List (Nat × Operand)} (hi : ops[i]? = some ⟨some d, .buildSlice t len ps.toArray, ty, pos, af, g⟩) (hg : GOK ops fr g) (vals : List (Nat × Value)) (vs : List Value) (ht : tlook TT t = some ti) (hk : ti.kind = .sl e) (he : tlook TT e = some te) (hv : lkp fr ps = some vals) (hsz : Nat.ble (len * te.size) 16777216 = true) (hpos : Nat.blt 0 len = true) (hp : vals.all (fun x => Nat.blt x.1 len) = true)
    (hb : bld (rowPl te.size 0 len) (List.replicate len te.zeros).flatten vals = some vs) (hd : Nat.blt d n = true) (k : ∀ β s', Le D s s' → CellsAt s' β 0 vs → JA P TT D n ops Q K s0 fuel (listed.setIfInBounds i true) ((d, .slice (some ⟨β, 0, none⟩) len len) :: fr) L s') :
    JB P TT D n ops Q K s0 fuel listed i fr L s := fun hT a hr ho hl hK => by
  obtain ⟨h1, h2, h3⟩ := alloc_fill ho (cb vs e)
  obtain ⟨d1, d2, d3⟩ := drop_own (A := [(s.heap.size, cb vs e)]) (B := L) h2
  refine JB_ev (L' := L) (s' := fill [(s.heap.size, cb vs e)] (s.alloc (dum D))) hi hg (fun hT _ dst pos af g ρ hρ => ⟨?_, d2⟩) (h3.trans d3) (fun _ _ h => h) hd (k _ _ (h3.trans d3) (cells_drop h2)) hT a hr ho hl hK
  rw [← d1]
  exact (Ev_bs vals vs ht hk he hv hsz hpos hp hb ho hT ho dst pos af g ρ hρ).1
end
end Go.FL
