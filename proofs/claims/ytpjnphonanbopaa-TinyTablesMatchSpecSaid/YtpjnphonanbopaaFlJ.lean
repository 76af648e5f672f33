/- Owned maps. -/
import Derived.Test.YtpjnphonanbopaaFlI
namespace Go.FL
open Go Go.RowKit

/-- keys that are compared at once -/
structure KeyK (κ : Type) [DecidableEq κ] (d : TypeDesc) (kf : κ → Value) : Prop where
  same : ∀ a b, Instr.sameNow d (kf a) (kf b) = some (decide (a = b))
  bits : ∀ a, Instr.sameBits 10000 (kf a) (kf a) = true
  check : ∀ (P : Program) (w : World) (t : Nat) (e : Bool) (a : κ), P.underlying t = some d → (Instr.checkKey e 10000 t (kf a)).run P w = .ok () w
theorem KeyK.int (k : IntKind) : KeyK Int (.int k) (Value.int k) :=
  ⟨fun a b => by simp [Instr.sameNow]; rfl, fun a => by simp [Instr.sameBits], fun P w t e a h => by unfold Instr.checkKey; simp [run_underlying h]⟩
theorem ba_beq (a b : List UInt8) : ((⟨a.toArray⟩ : ByteArray) == ⟨b.toArray⟩) = decide (a = b) := by
  have e : ((⟨a.toArray⟩ : ByteArray) == ⟨b.toArray⟩) = (a.toArray == b.toArray) := rfl
  rw [e]
  by_cases h : a = b <;> simp [h]
theorem KeyK.str : KeyK (List UInt8) .string (fun l => St l) :=
  ⟨fun a b => by simp only [Instr.sameNow, ba_beq], fun a => by simp [Instr.sameBits, ba_beq], fun P w t e a h => by unfold Instr.checkKey; simp [run_underlying h]⟩

section
variable {κ : Type} [DecidableEq κ] {dk : TypeDesc} {kf : κ → Value}
/-- a map's block: keys, values, births -/
def mp (kf : κ → Value) (es : List (κ × Value × Nat)) (ck : Nat) : Obj := .map (es.map fun x => ⟨kf x.1, x.2.1, x.2.2⟩).toArray ck
def assoc : List (κ × Value × Nat) → κ → Option Value
  | [], _ => none
  | x :: r, k => if k = x.1 then some x.2.1 else assoc r k
/-- a map with one entry changed or added -/
def mset (es : List (κ × Value × Nat)) (k : κ) (v : Value) (ck : Nat) : List (κ × Value × Nat) := match es with
  | [] => [(k, v, ck)]
  | x :: r => if k = x.1 then (x.1, v, x.2.2) :: r else x :: mset r k v ck
theorem assoc_mset (es : List (κ × Value × Nat)) (k : κ) (v : Value) (ck : Nat) (j : κ) : assoc (mset es k v ck) j = if j = k then some v else assoc es j := by
  induction es with
  | nil => simp [mset, assoc]
  | cons x r ih =>
    simp only [mset]
    by_cases h : k = x.1
    · simp only [h, if_true, assoc]
      by_cases hj : j = x.1 <;> simp [hj, h]
    · simp only [h, if_false, assoc, ih]
      by_cases hj : j = x.1
      · have : ¬ x.1 = k := fun e => h e.symm
        simp [hj, this]
      · simp [hj]
theorem findNow_assoc (K : KeyK κ dk kf) (es : List (κ × Value × Nat)) (k : κ) (i : Nat) :
    (assoc es k = none ∧ Instr.findNow dk (kf k) (es.map fun x => ⟨kf x.1, x.2.1, x.2.2⟩) i = some none) ∨
    ∃ j v b, assoc es k = some v ∧ es[j]? = some (k, v, b) ∧ (∀ v' ck, mset es k v' ck = es.set j (k, v', b)) ∧ Instr.findNow dk (kf k) (es.map fun x => ⟨kf x.1, x.2.1, x.2.2⟩) i = some (some (i + j, v)) := by
  induction es generalizing i with
  | nil => exact .inl ⟨rfl, rfl⟩
  | cons x r ih =>
    obtain ⟨a, v, b⟩ := x
    simp only [List.map_cons, Instr.findNow, K.same]
    by_cases h : k = a
    · subst h
      exact .inr ⟨0, v, b, by simp [assoc], rfl, fun v' ck => by simp [mset], by simp⟩
    · rcases ih (i + 1) with ⟨h1, h2⟩ | ⟨j, v', b', h1, h2, h3, h4⟩
      · exact .inl ⟨by simp [assoc, h, h1], by simp [h, h2]⟩
      · exact .inr ⟨j + 1, v', b', by simp [assoc, h, h1], by simpa using h2, fun v'' ck => by simp [mset, h, h3], by simp [h, h4]; omega⟩
variable {P : Program} {TT : TyTab} {D n : Nat} {Q : APost} {fr : Fr} {L L' K : Hl} {s s' s0 : World} {ops : Array Oper} {rest : List Oper} {d ty : Nat} {op : Op} {pos : String} {af : Array Edge} {v : Value}

/-- the type of a map -/
def MapTy (P : Program) (t : Nat) (dk : TypeDesc) (z : Value) : Prop := ∃ kt et, P.underlying t = some (.map kt et) ∧ P.underlying kt = some dk ∧ ∀ w, (zeroValue et).run P w = .ok z w

theorem run_lookup' (KK : KeyK κ dk kf) {t b : Nat} {z : Value} (hm : MapTy P t dk z) {es : List (κ × Value × Nat)} {ck : Nat} {w : World} (hb : w.heap[b]? = some (mp kf es ck)) (k : κ) (c : Bool) :
    (Instr.lookup t (.map (some b)) (kf k) c).run P w = .ok (if c then .tuple #[(assoc es k).getD z, .bool (assoc es k).isSome] else (assoc es k).getD z) w := by
  obtain ⟨kt, et, h1, h2, h3⟩ := hm
  rcases findNow_assoc KK es k 0 with ⟨a1, a2⟩ | ⟨j, v, bn, a1, _, _, a2⟩
  · simp only [Instr.lookup, Sem.run_bind, run_underlying h1, Result.andThen_ok, Go.MapKept.run_getObj_map hb, Sem.run_pure, KK.check P w kt _ k h2, Go.MapKept.run_findKey h2 a2, h3, a1]
    cases c <;> rfl
  · simp only [Instr.lookup, Sem.run_bind, run_underlying h1, Result.andThen_ok, Go.MapKept.run_getObj_map hb, Sem.run_pure, KK.check P w kt _ k h2, Go.MapKept.run_findKey h2 a2, a1]
    cases c <;> rfl
theorem QE_lookup (KK : KeyK κ dk kf) {t b : Nat} {x y : Operand} {z : Value} (i : Nat) (hm : MapTy P t dk z) {es : List (κ × Value × Nat)} {ck : Nat} {k : κ} (hx : lk fr x = some (.map (some b))) (hy : lk fr y = some (kf k)) (hi : K[i]? = some (b, mp kf es ck)) :
    QE P TT D fr (.lookup t x y false) ty K s0 ((assoc es k).getD z) := fun hT dst pos af g ρ hρ L s ho _ hK => by
  have hb := fill_mem ho (hK _ (List.mem_of_getElem? hi))
  simp only [execOp, hρ x _ hx, hρ y _ hy, Sem.run_bind, run_lookup' KK hm hb, Result.andThen_ok, Sem.run_pure]
  rfl
theorem QE_lookup2 (KK : KeyK κ dk kf) {t b : Nat} {x y : Operand} {z : Value} (i : Nat) (hm : MapTy P t dk z) {es : List (κ × Value × Nat)} {ck : Nat} {k : κ} (hx : lk fr x = some (.map (some b))) (hy : lk fr y = some (kf k)) (hi : K[i]? = some (b, mp kf es ck)) :
    QE P TT D fr (.lookup t x y true) ty K s0 (.tuple #[(assoc es k).getD z, .bool (assoc es k).isSome]) := fun hT dst pos af g ρ hρ L s ho _ hK => by
  have hb := fill_mem ho (hK _ (List.mem_of_getElem? hi))
  simp only [execOp, hρ x _ hx, hρ y _ hy, Sem.run_bind, run_lookup' KK hm hb, Result.andThen_ok, Sem.run_pure]
  rfl
omit [DecidableEq κ] in
theorem Ev_mkmap {t : Nat} (kf : κ → Value) (ho : OKL D L s) : Ev P TT D fr (.makeMap t none) ty L s (.value (.map (some s.heap.size))) ((s.heap.size, mp kf [] 0) :: L) (s.alloc (dum D)) := fun hT _ dst pos af g ρ _ => by
  obtain ⟨h1, h2, h3⟩ := alloc_fill ho (mp kf [] 0)
  refine ⟨?_, h2⟩
  rw [← h1]
  simp [execOp, Instr.makeMap, fill_size, mp]
omit [DecidableEq κ] in
theorem JO_mkmap {t : Nat} (kf : κ → Value) (hd : Nat.blt d n = true) (k : ∀ β s', Le D s s' → JO P TT D n ops Q rest ((d, .map (some β)) :: fr) ((β, mp kf [] 0) :: L) s') :
    JO P TT D n ops Q (⟨some d, .makeMap t none, ty, pos, af, none⟩ :: rest) fr L s := fun hT a hr ho => JO_ev hd (Ev_mkmap kf ho) (k _ _ (alloc_fill ho (mp kf [] 0)).2.2) hT a hr ho
theorem Ev_mupd (KK : KeyK κ dk kf) {t b : Nat} {x y z : Operand} {zv : Value} (i : Nat) (hm : MapTy P t dk zv) {es : List (κ × Value × Nat)} {ck : Nat} {k : κ} (hx : lk fr x = some (.map (some b))) (hy : lk fr y = some (kf k)) (hz : lk fr z = some v) (hi : L[i]? = some (b, mp kf es ck)) :
    ∃ ck', Ev P TT D fr (.mapUpdate t x y z) ty L s .skip (setL L i (mp kf (mset es k v ck) ck')) s := by
  obtain ⟨kt, et, h1, h2, h3⟩ := hm
  rcases findNow_assoc KK es k 0 with ⟨a1, a2⟩ | ⟨j, v', bn, a1, a3, a4, a2⟩
  · refine ⟨ck + 1, fun hT ho dst pos af g ρ hρ => ⟨?_, setL_ok ho _ _⟩⟩
    have hb := fill_mem ho (List.mem_of_getElem? hi)
    have hms : mset es k v ck = es ++ [(k, v, ck)] := by
      clear hi a2 hb
      induction es with
      | nil => rfl
      | cons x r ih =>
        simp only [assoc] at a1
        split at a1
        · cases a1
        · rename_i h; simp [mset, h, ih a1]
    rw [fill_setL ho hi]
    simp only [execOp, hρ x _ hx, hρ y _ hy, hρ z _ hz, Instr.mapUpdate, Sem.run_bind, run_underlying h1, Result.andThen_ok, Go.MapKept.run_getObj_map hb, Sem.run_pure, KK.check P _ kt _ k h2, Go.MapKept.run_findKey h2 a2, Go.MapKept.run_setObj_map _ hb]
    simp [setBlk, mp, hms]
  · refine ⟨ck, fun hT ho dst pos af g ρ hρ => ⟨?_, setL_ok ho _ _⟩⟩
    have hb := fill_mem ho (List.mem_of_getElem? hi)
    rw [fill_setL ho hi]
    have hkey : ((((es.map fun x => (⟨kf x.1, x.2.1, x.2.2⟩ : MapEntry)).toArray)[0 + j]?.map (·.key)).getD (kf k)) = kf k := by simp [a3]
    simp only [execOp, hρ x _ hx, hρ y _ hy, hρ z _ hz, Instr.mapUpdate, Sem.run_bind, run_underlying h1, Result.andThen_ok, Go.MapKept.run_getObj_map hb, Sem.run_pure, KK.check P _ kt _ k h2, Go.MapKept.run_findKey h2 a2, hkey, Instr.keyThatStays, KK.bits, if_true, Go.MapKept.run_setObj_map _ hb, a4]
    have hmod : ((es.map fun x => (⟨kf x.1, x.2.1, x.2.2⟩ : MapEntry)).toArray).modify (0 + j) (fun e => { e with key := kf k, val := v }) = ((es.set j (k, v, bn)).map fun x => (⟨kf x.1, x.2.1, x.2.2⟩ : MapEntry)).toArray := by
      apply Array.ext_getElem?
      intro q
      rw [Array.getElem?_modify]
      by_cases hq : 0 + j = q
      · have : j = q := by omega
        subst this
        obtain ⟨hlt, _⟩ := List.getElem?_eq_some_iff.1 a3
        simp [hlt, a3]
        have := List.getElem?_eq_some_iff.1 a3
        obtain ⟨_, e⟩ := this
        simp [e]
      · have hne : j ≠ q := by omega
        simp [hq, hne]
    rw [hmod]
    rfl
theorem JO_mupd (KK : KeyK κ dk kf) {t b : Nat} {x y z : Operand} {zv : Value} (i : Nat) (hm : MapTy P t dk zv) {es : List (κ × Value × Nat)} {ck : Nat} {k : κ} (hx : lk fr x = some (.map (some b))) (hy : lk fr y = some (kf k)) (hz : lk fr z = some v) (hi : L[i]? = some (b, mp kf es ck))
    (kk : ∀ ck', JO P TT D n ops Q rest fr (setL L i (mp kf (mset es k v ck) ck')) s) : JO P TT D n ops Q (⟨none, .mapUpdate t x y z, ty, pos, af, none⟩ :: rest) fr L s := by
  obtain ⟨ck', h⟩ := Ev_mupd (TT := TT) (D := D) (s := s) (ty := ty) KK i hm hx hy hz hi
  exact JO_sk h (kk ck')
theorem JB_mupd {i0 : Nat} {g : Option (Nat × Bool)} {fuel : Nat} {listed : Array Bool} (KK : KeyK κ dk kf) {t b : Nat} {x y z : Operand} {zv : Value} (hi0 : ops[i0]? = some ⟨none, .mapUpdate t x y z, ty, pos, af, g⟩) (hg : GOK ops fr g) (i : Nat) (hm : MapTy P t dk zv) {es : List (κ × Value × Nat)} {ck : Nat} {k : κ} (hx : lk fr x = some (.map (some b))) (hy : lk fr y = some (kf k)) (hz : lk fr z = some v) (hi : L[i]? = some (b, mp kf es ck))
    (hK' : ∀ x ∈ K, x ∈ L.eraseIdx i) (kk : ∀ ck', JA P TT D n ops Q K s0 fuel (listed.setIfInBounds i0 true) fr (setL L i (mp kf (mset es k v ck) ck')) s) : JB P TT D n ops Q K s0 fuel listed i0 fr L s := by
  obtain ⟨ck', h⟩ := Ev_mupd (TT := TT) (D := D) (s := s) (ty := ty) KK i hm hx hy hz hi
  exact JB_sk hi0 hg h (Le.refl _) (fun x hx _ => erase_setL (hK' x hx) _) (kk ck')
end
end Go.FL
