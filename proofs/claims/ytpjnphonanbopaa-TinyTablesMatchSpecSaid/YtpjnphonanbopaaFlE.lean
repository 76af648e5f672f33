/- More operations: fields, indexes, lengths, literals, conversions, slices; calls; a function's entry and its end. -/
import Derived.Test.YtpjnphonanbopaaFlD
namespace Go.FL
open Go Go.RowKit

section
variable {P : Program} {TT : TyTab} {D n : Nat} {Q : APost} {fr : Fr} {L L' K : Hl} {s s' s0 : World} {ops : Array Oper} {rest : List Oper} {d ty : Nat} {op : Op} {pos : String} {af : Array Edge} {v : Value}

def nthN : List Nat → Nat → Option Nat
  | [], _ => none
  | x :: _, 0 => some x
  | _ :: r, k + 1 => nthN r k
theorem nthN_eq (l : List Nat) (i : Nat) : nthN l i = l[i]? := by
  induction l generalizing i with
  | nil => rfl
  | cons x l ih => cases i <;> simp [nthN, ih]

theorem run_fieldAt {t f fo b off : Nat} {ti : TI} {os : List Nat} (h : ti.ok P t) (hk : ti.kind = .st os) (hf : nthN os f = some fo) (w : World) :
    (Instr.fieldAt t (.pointer (some ⟨b, off, none⟩)) f).run P w = .ok (.pointer (some ⟨b, off + fo, none⟩)) w := by
  obtain ⟨h1, h2, _, _, _, _, _, h8, _⟩ := h
  rw [hk] at h2
  cases hd : ti.desc with
  | struct fs =>
    rw [hd] at h1 h2 h8
    simp only [TK.fits] at h2
    rw [nthN_eq, ← h2, List.getElem?_map] at hf
    cases hff : fs.toList[f]? with
    | none => simp [hff] at hf
    | some fld =>
      simp [hff] at hf
      have hpos : 0 < P.cellsOf fld.type := by
        have := List.all_eq_true.1 (show fs.toList.all (fun f => decide (0 < P.cellsOf f.type)) = true from h8) fld (List.mem_of_getElem? hff)
        simpa using this
      have hff' : fs[f]? = some fld := by simpa using hff
      have hsz : ∀ w, (sizeOf fld.type).run P w = .ok (P.cellsOf fld.type) w := by
        intro w
        unfold Program.cellsOf at hpos ⊢
        cases hi : P.info? fld.type with
        | none => simp [hi] at hpos
        | some i => simp [sizeOf, typeInfo, hi]
      simp [Instr.fieldAt, run_underlying h1, hff', Instr.sureAddr, fieldPlace, hsz, Nat.pos_iff_ne_zero.1 hpos, add_lit, hf]
  | _ => rw [hd] at h2; simp [TK.fits] at h2
theorem QE_fa {t f fo b off : Nat} {x : Operand} {ti : TI} {os : List Nat} (hx : lk fr x = some (.pointer (some ⟨b, off, none⟩))) (ht : tlook TT t = some ti) (hk : ti.kind = .st os) (hf : nthN os f = some fo) : QE P TT D fr (.fieldAddr t x f) ty K s0 (.pointer (some ⟨b, off + fo, none⟩)) :=
  QE.pure fun hT dst pos af g ρ hρ w => by simp [execOp, hρ x _ hx, run_fieldAt (hT.at_ ht) hk hf]
theorem QE_fa0 {t f b off : Nat} {x : Operand} {ti : TI} {os : List Nat} (hx : lk fr x = some (.pointer (some ⟨b, off, none⟩))) (ht : tlook TT t = some ti) (hk : ti.kind = .st os) (hf : nthN os f = some 0) : QE P TT D fr (.fieldAddr t x f) ty K s0 (.pointer (some ⟨b, off, none⟩)) := QE_fa hx ht hk hf
theorem QE_faB {t f fo b : Nat} {x : Operand} {ti : TI} {os : List Nat} (hx : lk fr x = some (.pointer (some ⟨b, 0, none⟩))) (ht : tlook TT t = some ti) (hk : ti.kind = .st os) (hf : nthN os f = some fo) : QE P TT D fr (.fieldAddr t x f) ty K s0 (.pointer (some ⟨b, fo, none⟩)) := by
  have := QE_fa (P := P) (D := D) (ty := ty) (K := K) (s0 := s0) hx ht hk hf
  simpa using this
/-- a field of a struct value -/
theorem QE_field {t f fo : Nat} {x : Operand} {ti : TI} {os : List Nat} {vs : List Value} (hx : lk fr x = some (.agg vs.toArray)) (ht : tlook TT t = some ti) (hk : ti.kind = .st os) (hf : nthN os f = some fo)
    {fs : Array Field} {fld : Field} (hdesc : ti.desc = .struct fs) (hfld : fs[f]? = some fld) {ti' : TI} (ht' : tlook TT fld.type = some ti') (hk' : isOne ti'.kind = true) (hv : nth vs fo = some v) : QE P TT D fr (.field t x f) ty K s0 v :=
  QE.pure fun hT dst pos af g ρ hρ w => by
    obtain ⟨h1, h2, _⟩ := hT.at_ ht
    rw [hk, hdesc] at h2
    rw [hdesc] at h1
    simp only [TK.fits] at h2
    rw [nthN_eq, ← h2] at hf
    simp [hfld] at hf
    rw [nth_eq] at hv
    simp [execOp, hρ x _ hx, Instr.field, run_underlying h1, hfld, asAgg, part, run_isAgg' (hT.at_ ht'), hk', hf, hv]

theorem run_indexAt_slice {t e b off len cap : Nat} {ti te : TI} {ik : IntKind} {i : Int} (h : ti.ok P t) (hk : ti.kind = .sl e) (he : te.ok P e) (h0 : 0 ≤ i) (h1 : i < len) (w : World) :
    (Instr.indexAt t (.slice (some ⟨b, off, none⟩) len cap) (.int ik i)).run P w = .ok (.pointer (some ⟨b, off + i.toNat * te.size, none⟩)) w := by
  obtain ⟨k1, k2, _⟩ := h
  rw [hk] at k2
  simp only [TK.fits] at k2
  rw [k2] at k1
  simp [Instr.indexAt, asIntOf, run_underlying k1, h0, h1, run_sizeOf' he, add_lit]
theorem QE_ia {t e b off len cap : Nat} {x y : Operand} {ti te : TI} {ik : IntKind} {i : Int} (hx : lk fr x = some (.slice (some ⟨b, off, none⟩) len cap)) (hy : lk fr y = some (.int ik i)) (ht : tlook TT t = some ti) (hk : ti.kind = .sl e) (he : tlook TT e = some te)
    (h0 : 0 ≤ i) (h1 : i < len) : QE P TT D fr (.indexAddr t x y) ty K s0 (.pointer (some ⟨b, off + i.toNat * te.size, none⟩)) :=
  QE.pure fun hT dst pos af g ρ hρ w => by simp [execOp, hρ x _ hx, hρ y _ hy, run_indexAt_slice (hT.at_ ht) hk (hT.at_ he) h0 h1]
/-- the index a natural number, the element's size written out -/
theorem QE_iaN {t e b off len cap : Nat} {x y : Operand} {ti te : TI} {ik : IntKind} {j sz : Nat} (hx : lk fr x = some (.slice (some ⟨b, off, none⟩) len cap)) (hy : lk fr y = some (.int ik (j : Int))) (ht : tlook TT t = some ti) (hk : ti.kind = .sl e) (he : tlook TT e = some te)
    (hs : te.size = sz) (h1 : j < len) : QE P TT D fr (.indexAddr t x y) ty K s0 (.pointer (some ⟨b, off + j * sz, none⟩)) := by
  have := QE_ia (P := P) (D := D) (ty := ty) (K := K) (s0 := s0) hx hy ht hk he (Int.natCast_nonneg _) (by omega)
  rwa [Int.toNat_natCast, hs] at this
/-- elements of one cell -/
theorem QE_ia1 {t e b off len cap : Nat} {x y : Operand} {ti te : TI} {ik : IntKind} {j : Nat} (hx : lk fr x = some (.slice (some ⟨b, off, none⟩) len cap)) (hy : lk fr y = some (.int ik (j : Int))) (ht : tlook TT t = some ti) (hk : ti.kind = .sl e) (he : tlook TT e = some te)
    (hs : te.size = 1) (h1 : j < len) : QE P TT D fr (.indexAddr t x y) ty K s0 (.pointer (some ⟨b, off + j, none⟩)) := by
  have := QE_iaN (P := P) (D := D) (ty := ty) (K := K) (s0 := s0) hx hy ht hk he hs h1
  rwa [Nat.mul_one] at this
/-- an array behind its address -/
theorem QE_iaA {t e b off len : Nat} {x y : Operand} {ti te : TI} {ik : IntKind} {j sz : Nat} (hx : lk fr x = some (.pointer (some ⟨b, off, none⟩))) (hy : lk fr y = some (.int ik (j : Int))) (ht : tlook TT t = some ti) (hk : ti.kind = .ar len e) (he : tlook TT e = some te)
    (hs : te.size = sz) (h1 : j < len) : QE P TT D fr (.indexAddr t x y) ty K s0 (.pointer (some ⟨b, off + j * sz, none⟩)) :=
  QE.pure fun hT dst pos af g ρ hρ w => by
    obtain ⟨k1, k2, _⟩ := hT.at_ ht
    rw [hk] at k2
    simp only [TK.fits] at k2
    rw [k2] at k1
    simp [execOp, hρ x _ hx, hρ y _ hy, Instr.indexAt, asIntOf, run_underlying k1, Instr.sureAddr, h1, run_sizeOf' (hT.at_ he), add_lit, hs]

/-- a string's byte -/
theorem QE_ix {t : Nat} {x y : Operand} {ti : TI} {ik : IntKind} {j : Nat} {l : List UInt8} {c : UInt8} (hx : lk fr x = some (St l)) (hy : lk fr y = some (.int ik (j : Int))) (ht : tlook TT t = some ti) (hk : ti.desc = .string) (hc : l[j]? = some c) : QE P TT D fr (.index t x y) ty K s0 (.int .u8 (c.toNat : Int)) :=
  QE.pure fun hT dst pos af g ρ hρ w => by
    have k1 := (hT.at_ ht).1
    rw [hk] at k1
    have hb : (⟨l.toArray⟩ : ByteArray)[j]? = some c := by
      obtain ⟨hlt, hv⟩ := List.getElem?_eq_some_iff.1 hc
      have hlt' : j < (⟨l.toArray⟩ : ByteArray).size := by simpa [ByteArray.size] using hlt
      rw [getElem?_pos (⟨l.toArray⟩ : ByteArray) j hlt']
      simp only [ByteArray.getElem_eq_getElem_data, List.getElem_toArray, hv]
    simp [execOp, hρ x _ hx, hρ y _ hy, Instr.index, asIntOf, run_underlying k1, hb]
theorem QE_lenS {x : Operand} {t : Nat} {A : Option Addr} {m c : Nat} {ti : TI} {e : Nat} (hx : lk fr x = some (.slice A m c)) (ht : tlook TT t = some ti) (hk : ti.kind = .sl e) : QE P TT D fr (.call { callee := .builtin .len, args := #[x], argTypes := #[t] }) ty K s0 (.int .i64 (m : Int)) :=
  QE.pure fun hT dst pos af g ρ hρ w => by
    obtain ⟨k1, k2, _⟩ := hT.at_ ht
    rw [hk] at k2
    simp only [TK.fits] at k2
    rw [k2] at k1
    simp [execOp, resolve, invoke, builtin, hρ x _ hx, Builtin.len_, run_underlying k1, goInt]
theorem QE_lenT {x : Operand} {t : Nat} {l : List UInt8} {ti : TI} (hx : lk fr x = some (St l)) (ht : tlook TT t = some ti) (hk : ti.desc = .string) : QE P TT D fr (.call { callee := .builtin .len, args := #[x], argTypes := #[t] }) ty K s0 (.int .i64 (l.length : Int)) :=
  QE.pure fun hT dst pos af g ρ hρ w => by
    have k1 := (hT.at_ ht).1
    rw [hk] at k1
    have hsz : (⟨l.toArray⟩ : ByteArray).size = l.length := by simp [ByteArray.size]
    simp [execOp, resolve, invoke, builtin, hρ x _ hx, Builtin.len_, run_underlying k1, goInt, hsz]
theorem QE_conv {x : Operand} {t t' : Nat} {ik ik' : IntKind} {a : Int} {ti ti' : TI} (hx : lk fr x = some (.int ik a)) (ht : tlook TT t = some ti) (ht' : tlook TT t' = some ti') (hk : ti.desc = .int ik) (hk' : ti'.desc = .int ik') : QE P TT D fr (.convert t t' x) ty K s0 (.int ik' (ik'.wrap a)) :=
  QE.pure fun hT dst pos af g ρ hρ w => by
    have k1 := (hT.at_ ht).1
    have k2 := (hT.at_ ht').1
    rw [hk] at k1; rw [hk'] at k2
    simp [execOp, hρ x _ hx, convert, run_underlying k1, run_underlying k2, Conv.intToInt]
theorem QE_conv' {x : Operand} {t t' : Nat} {ik ik' : IntKind} {a c : Int} {ti ti' : TI} (hx : lk fr x = some (.int ik a)) (ht : tlook TT t = some ti) (ht' : tlook TT t' = some ti') (hk : ti.desc = .int ik) (hk' : ti'.desc = .int ik') (hc : ik'.wrap a = c) : QE P TT D fr (.convert t t' x) ty K s0 (.int ik' c) := hc ▸ QE_conv hx ht ht' hk hk'

def lks (fr : Fr) : List Operand → Option (List Value)
  | [] => some []
  | x :: r => match lk fr x with
    | some v => match lks fr r with
      | some vs => some (v :: vs)
      | none => none
    | none => none
theorem lks_map {fr : Fr} {ρ : Operand → Value} (hρ : ∀ x v, lk fr x = some v → ρ x = v) {xs : List Operand} {vs : List Value} (h : lks fr xs = some vs) : xs.map ρ = vs := by
  induction xs generalizing vs with
  | nil => simp [lks] at h; subst h; rfl
  | cons x xs ih =>
    simp only [lks] at h
    cases h1 : lk fr x with
    | none => simp [h1] at h
    | some v =>
      cases h2 : lks fr xs with
      | none => simp [h1, h2] at h
      | some r => simp [h1, h2] at h; subst h; simp [hρ x v h1, ih h2]
theorem QE_func {f : FuncId} {xs : List Operand} {vs : List Value} (hv : lks fr xs = some vs) : QE P TT D fr (.makeFunc (.func f) #[] xs.toArray) ty K s0 (.func (.func f) #[] vs.toArray) :=
  QE.pure fun hT dst pos af g ρ hρ w => by simp [execOp, Instr.makeFunc, lks_map hρ hv]

/-- the function is there, with a body of its own -/
def FnOK (P : Program) (f : FuncId) : Prop := ∃ fn, P.funcs[f]? = some fn ∧ (fn.name == "runtime.NumGoroutine") = false ∧ fn.body.isNone = false
/-- what a call does: its value, what is owned behind it, the shared world behind it -/
def AC (P : Program) (D : Nat) (f : FuncId) (args : List Value) (L : Hl) (s : World) (R : Value → Hl → World → Prop) : Prop :=
  FnOK P f ∧ (OKL D L s → Calls P f args.toArray (fill L s) fun e w' => ∃ v L' s', e = .returned v ∧ w' = fill L' s' ∧ OKL D L' s' ∧ Le D s s' ∧ R v L' s')
theorem AC.mono {f : FuncId} {args : List Value} {R R' : Value → Hl → World → Prop} (h : AC P D f args L s R) (hr : ∀ v L' s', Le D s s' → R v L' s' → R' v L' s') : AC P D f args L s R' :=
  ⟨h.1, fun ho => (h.2 ho).mono fun _ _ ⟨v, L', s', h1, h2, h3, h4, h5⟩ => ⟨v, L', s', h1, h2, h3, h4, hr _ _ _ h4 h5⟩⟩

theorem JO_call {f : FuncId} {x : Operand} {xs : List Operand} {first captured vs : List Value} {ts : Array TypeId} {R : Value → Hl → World → Prop} (hx : lk fr x = some (.func (.func f) first.toArray captured.toArray)) (hv : lks fr xs = some vs)
    (hd : Nat.blt d n = true) (h : AC P D f (first ++ vs ++ captured) L s R) (k : ∀ v L' s', Le D s s' → R v L' s' → JO P TT D n ops Q rest ((d, v) :: fr) L' s') :
    JO P TT D n ops Q (⟨some d, .call { callee := .value x, args := xs.toArray, argTypes := ts }, ty, pos, af, none⟩ :: rest) fr L s := fun hT a hr ho => by
  obtain ⟨⟨fn, h1, h2, h3⟩, hc⟩ := h
  have hρ : ∀ x v, lk fr x = some v → a.eval x = v := fun x v hx => hr.ev hx
  simp only [wpList, Region.wanted, if_true]
  refine .inl ?_
  have hrun : (execOp a.eval ⟨some d, .call { callee := .value x, args := xs.toArray, argTypes := ts }, ty, pos, af, none⟩).run P (fill L s) = .ok (.enter f (first ++ vs ++ captured).toArray) (fill L s) := by
    have h2' : ¬ fn.name = "runtime.NumGoroutine" := by simpa using h2
    have h3' : ¬ fn.body = none := by intro e; simp [e] at h3
    simp [execOp, resolve, Deferred.ofValue, invoke, callFunc, hρ x _ hx, lks_map hρ hv, h1, h2', h3']
  simp only [Oper.wp, hrun, Oper.upon]
  refine (hc ho).mono ?_
  rintro e w' ⟨v, L', s', rfl, rfl, h4, h5, h6⟩
  exact k v L' s' h5 h6 hT _ (hr.put hd v) h4

/-- the results of a function, read off its frame -/
inductive Res (TT : TyTab) (fr : Fr) (L : Hl) : List ResultVar → List Value → Prop
  | nil : Res TT fr L [] []
  | tmp {t : Nat} {v : Value} {rs vs} (h : flook fr t = some v) (k : Res TT fr L rs vs) : Res TT fr L (.tmp t :: rs) (v :: vs)
  | one {a t t' b : Nat} {ti : TI} {zs : List Value} {v : Value} {rs vs} (i : Nat) (h : flook fr a = some (.pointer (some ⟨b, 0, none⟩))) (hi : L[i]? = some (b, cb zs t')) (ht : tlook TT t = some ti) (hk : isOne ti.kind = true) (hv : nth zs 0 = some v) (k : Res TT fr L rs vs) : Res TT fr L (.cell a t :: rs) (v :: vs)
  | agg {a t t' b : Nat} {ti : TI} {zs us : List Value} {rs vs} (i : Nat) (h : flook fr a = some (.pointer (some ⟨b, 0, none⟩))) (hi : L[i]? = some (b, cb zs t')) (ht : tlook TT t = some ti) (hk : isOne ti.kind = false) (hv : cut zs 0 ti.size = some us) (k : Res TT fr L rs vs) : Res TT fr L (.cell a t :: rs) (.agg us.toArray :: vs)
def resV : List Value → Value
  | [v] => v
  | vs => .tuple vs.toArray
def resF (tmps : Array Value) : ResultVar → Sem Value
  | .tmp t => pure (tmps.getD t undef)
  | .cell a t => do loadVar t (← asAddr (tmps.getD a undef))
theorem results_eq (fn : Func) (tmps : Array Value) : results fn tmps = (do let vs ← fn.results.mapM (resF tmps); pure (if h : vs.size = 1 then vs[0] else .tuple vs)) := by
  unfold results
  congr 1
theorem Res.run (hT : TabOK P TT) {a : Act} (hr : FrRel n a fr) (ho : OKL D L s) {rs : List ResultVar} {vs : List Value} (h : Res TT fr L rs vs) :
    (rs.mapM (resF a.tmps)).run P (fill L s) = .ok vs (fill L s) := by
  have hs : ∀ t v, flook fr t = some v → a.tmps.getD t undef = v := fun t v hv => by
    have := hr.slot t (hr.top t v hv) v hv
    simp [this]
  induction h with
  | nil => simp
  | tmp h k ih => simp only [List.mapM_cons, resF, hs _ _ h, Sem.run_bind, Sem.run_pure, Result.andThen_ok, ih]
  | one i h hi ht hk hv k ih =>
    rename_i b _ zs v _ _
    have hc : (fill L s).cell? ⟨b, 0, none⟩ = some v := by rw [cb_cell ho hi, ← nth_eq]; exact hv
    simp only [List.mapM_cons, resF, hs _ _ h, asAddr, Sem.run_bind, Sem.run_pure, Result.andThen_ok, run_loadVar_one (hT.at_ ht) hk hc, ih]
  | agg i h hi ht hk hv k ih =>
    rename_i b _ zs us _ _
    obtain ⟨h1, h2⟩ := cut_spec hv
    have hc : ∀ j v, us[j]? = some v → (fill L s).cell? ⟨b, 0 + j, none⟩ = some v := fun j v hj => by rw [cb_cell ho hi]; exact h2 j v hj
    simp only [List.mapM_cons, resF, hs _ _ h, asAddr, Sem.run_bind, Sem.run_pure, Result.andThen_ok, run_loadVar_agg (hT.at_ ht) hk h1 hc, ih]

def retQ (TT : TyTab) (D : Nat) (rs : List ResultVar) (s0 : World) (R : Value → Hl → World → Prop) : APost := fun e fr L s =>
  (e = .normal ∨ e = .ret) ∧ ∃ vs A L', Res TT fr L rs vs ∧ L = A ++ L' ∧ Le D s0 s ∧ ∀ s', Le D s s' → R (resV vs) L' s'

def slots (k : Nat) : List Value → Fr
  | [] => []
  | v :: vs => (k, v) :: slots (k + 1) vs
theorem flook_slots (vs : List Value) (k t : Nat) : flook (slots k vs) t = if k ≤ t then vs[t - k]? else none := by
  induction vs generalizing k with
  | nil => simp [slots, flook]
  | cons v vs ih =>
    rw [slots, flook_cons, ih]
    by_cases h : k = t
    · subst h; simp
    · by_cases h2 : k + 1 ≤ t
      · have : t - k = (t - (k + 1)) + 1 := by omega
        simp [h, h2, show k ≤ t by omega, this]
      · simp [h, h2, show ¬ k ≤ t by omega]
theorem AC_enter {f : FuncId} {fn : Func} {c : Code} {args : List Value} {R : Value → Hl → World → Prop} (hT : TabOK P TT) (hf : P.funcs[f]? = some fn) (hn : (fn.name == "runtime.NumGoroutine") = false) (hb : fn.body = some c) (hnt : fn.ntmps = n) (hle : Nat.ble args.length n = true) {rs : List ResultVar} (hrs : fn.results.toList = rs) (fr0 : Fr) (hfr : slots 0 args = fr0)
    (h : JC P TT D n (retQ TT D rs s R) c fr0 L s) : AC P D f args L s R := by
  subst hfr; subst hrs
  refine ⟨⟨fn, hf, hn, by simp [hb]⟩, fun ho => calls_of_wp hf hb ?_⟩
  have hle' : args.length ≤ n := Nat.le_of_ble_eq_true hle
  have hr : FrRel n { tmps := args.toArray ++ Array.replicate (fn.ntmps - args.toArray.size) undef, defers := [] } (slots 0 args) := by
    refine ⟨by simp [hnt]; omega, rfl, fun t ht v hv => ?_, fun t v hv => ?_⟩
    · rw [flook_slots] at hv
      simp at hv
      obtain ⟨hlt, _⟩ := List.getElem?_eq_some_iff.1 hv
      simp [Array.getElem?_append, hlt]
      exact (List.getElem?_eq_some_iff.1 hv).2
    · rw [flook_slots] at hv
      simp at hv
      obtain ⟨hlt, _⟩ := List.getElem?_eq_some_iff.1 hv
      omega
  refine wp_mono (h hT _ hr ho) ?_
  rintro e a w ⟨fr', L1, s1, k1, k2, rfl, he, vs, A, L', hres, rfl, hle1, hR⟩
  obtain ⟨d1, d2, d3⟩ := drop_own k2
  have hrun : (results fn a.tmps).run P (fill (A ++ L') s1) = .ok (resV vs) (fill (A ++ L') s1) := by
    have h1 := Res.run hT k1 k2 hres
    have h2 : (fn.results.mapM (resF a.tmps)).run P (fill (A ++ L') s1) = .ok vs.toArray (fill (A ++ L') s1) := by
      rw [Array.mapM_eq_mapM_toList]
      simp only [map_eq_pure_bind, Sem.run_bind, h1, Result.andThen_ok, Sem.run_pure]
    rw [results_eq]
    simp only [Sem.run_bind, h2, Result.andThen_ok, Sem.run_pure]
    congr 1
    match vs with
    | [] => rfl
    | [v] => rfl
    | v :: u :: r => simp [resV]
  have hpost : ∃ v, (results fn a.tmps).run P (fill (A ++ L') s1) = .ok v (fill (A ++ L') s1) ∧ ∃ v_1 L'_1 s', Ending.returned v = .returned v_1 ∧ fill (A ++ L') s1 = fill L'_1 s' ∧ OKL D L'_1 s' ∧ Le D s s' ∧ R v_1 L'_1 s' :=
    ⟨_, hrun, _, L', fill A s1, rfl, d1, d2, hle1.trans d3, hR _ d3⟩
  rcases he with rfl | rfl
  · exact ⟨k1.defers, hpost⟩
  · exact ⟨k1.defers, hpost⟩

theorem thenQ_n {J : Fr → Hl → World → Prop} (h : J fr L s) : thenQ J Q .normal fr L s := h
theorem thenQ_r {J : Fr → Hl → World → Prop} (h : Q .ret fr L s) : thenQ J Q .ret fr L s := h
theorem thenQ_x {J : Fr → Hl → World → Prop} {i : Nat} (h : Q (.exit i) fr L s) : thenQ J Q (.exit i) fr L s := h
theorem blockQ_n {id : Nat} (h : Q .normal fr L s) : blockQ id Q .normal fr L s := h
theorem blockQ_r {id : Nat} (h : Q .ret fr L s) : blockQ id Q .ret fr L s := h
theorem blockQ_x {id : Nat} (h : Q .normal fr L s) : blockQ id Q (.exit id) fr L s := by simpa [blockQ] using h
theorem blockQ_xo {id i : Nat} (hi : Nat.beq i id = false) (h : Q (.exit i) fr L s) : blockQ id Q (.exit i) fr L s := by
  have : i ≠ id := fun e => by subst e; simp at hi
  simpa [blockQ, this] using h
/-- the end of an ordinary call: it owns nothing more than before -/
theorem retQ_mk {rs : List ResultVar} {s0 : World} {R : Value → Hl → World → Prop} {e : Exit} {vs : List Value} (A L' : Hl) (he : e = .normal ∨ e = .ret) (h : Res TT fr L rs vs) (hL : L = A ++ L') (hl : Le D s0 s) (hR : ∀ s', Le D s s' → R (resV vs) L' s') : retQ TT D rs s0 R e fr L s :=
  ⟨he, vs, A, L', h, hL, hl, hR⟩
theorem retQ_pure {rs : List ResultVar} {s0 : World} {R : Value → Hl → World → Prop} {e : Exit} {vs : List Value} {A L' : Hl} (he : e = .normal ∨ e = .ret) (h : Res TT fr (A ++ L') rs vs) (hl : Le D s0 s) (hR : ∀ s', Le D s s' → R (resV vs) L' s') : retQ TT D rs s0 R e fr (A ++ L') s :=
  ⟨he, vs, A, L', h, rfl, hl, hR⟩
end
end Go.FL
