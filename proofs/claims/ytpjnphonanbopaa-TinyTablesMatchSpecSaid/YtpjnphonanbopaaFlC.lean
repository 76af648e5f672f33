/- The rules of the operations that touch no memory; steps of a plain region. -/
import Derived.Test.YtpjnphonanbopaaFlB
namespace Go.FL
open Go Go.RowKit

/-- an owned row of cells -/
def cb (zs : List Value) (t : Nat) : Obj := .cells zs.toArray t (0, 0)
/-- a string, by its bytes -/
abbrev St (l : List UInt8) : Value := .string ⟨l.toArray⟩

/-- an operation's run, with what is owned and shared behind it -/
def Ev (P : Program) (TT : TyTab) (D : Nat) (fr : Fr) (op : Op) (ty : Nat) (L : Hl) (s : World) (r : Next) (L' : Hl) (s' : World) : Prop :=
  TabOK P TT → OKL D L s → ∀ (dst : Option Nat) (pos : String) (af : Array Edge) (g : Option (Nat × Bool)) (ρ : Operand → Value), (∀ x v, lk fr x = some v → ρ x = v) → (execOp ρ ⟨dst, op, ty, pos, af, g⟩).run P (fill L s) = .ok r (fill L' s') ∧ OKL D L' s'
/-- a quiet operation: its value is v, whatever else is owned or has come to the shared world -/
def QE (P : Program) (TT : TyTab) (D : Nat) (fr : Fr) (op : Op) (ty : Nat) (K : Hl) (s0 : World) (v : Value) : Prop :=
  TabOK P TT → ∀ (dst : Option Nat) (pos : String) (af : Array Edge) (g : Option (Nat × Bool)) (ρ : Operand → Value), (∀ x v, lk fr x = some v → ρ x = v) →
    ∀ L s, OKL D L s → Le D s0 s → (∀ x ∈ K, x ∈ L) → (execOp ρ ⟨dst, op, ty, pos, af, g⟩).run P (fill L s) = .ok (.value v) (fill L s)
theorem QE.pure {P : Program} {TT : TyTab} {D : Nat} {fr : Fr} {op : Op} {ty : Nat} {K : Hl} {s0 : World} {v : Value}
    (h : TabOK P TT → ∀ (dst : Option Nat) (pos : String) (af : Array Edge) (g : Option (Nat × Bool)) (ρ : Operand → Value), (∀ x v, lk fr x = some v → ρ x = v) → ∀ w, (execOp ρ ⟨dst, op, ty, pos, af, g⟩).run P w = .ok (.value v) w) : QE P TT D fr op ty K s0 v :=
  fun ht dst pos af g ρ hρ L s _ _ _ => h ht dst pos af g ρ hρ _

section
variable {P : Program} {TT : TyTab} {D n : Nat} {Q : APost} {fr : Fr} {L L' : Hl} {s s' : World} {ops : Array Oper} {rest : List Oper} {d ty : Nat} {op : Op} {pos : String} {af : Array Edge} {v : Value}

theorem JO_ev (hd : Nat.blt d n = true) (h : Ev P TT D fr op ty L s (.value v) L' s') (k : JO P TT D n ops Q rest ((d, v) :: fr) L' s') :
    JO P TT D n ops Q (⟨some d, op, ty, pos, af, none⟩ :: rest) fr L s := fun ht a hr ho => by
  obtain ⟨h1, h2⟩ := h ht ho (some d) pos af none a.eval (fun x v hx => hr.ev hx)
  simp only [wpList, Region.wanted, if_true]
  refine .inl ?_
  simp only [Oper.wp, h1, Oper.upon]
  exact k ht _ (hr.put hd v) h2
theorem JO_sk (h : Ev P TT D fr op ty L s .skip L' s') (k : JO P TT D n ops Q rest fr L' s') :
    JO P TT D n ops Q (⟨none, op, ty, pos, af, none⟩ :: rest) fr L s := fun ht a hr ho => by
  obtain ⟨h1, h2⟩ := h ht ho none pos af none a.eval (fun x v hx => hr.ev hx)
  simp only [wpList, Region.wanted, if_true]
  refine .inl ?_
  simp only [Oper.wp, h1, Oper.upon]
  exact k ht _ hr h2
theorem JO_q (h : QE P TT D fr op ty L s v) (hd : Nat.blt d n = true) (k : JO P TT D n ops Q rest ((d, v) :: fr) L s) : JO P TT D n ops Q (⟨some d, op, ty, pos, af, none⟩ :: rest) fr L s :=
  JO_ev hd (fun ht ho dst pos af g ρ hρ => ⟨h ht dst pos af g ρ hρ L s ho (Le.refl _) (fun _ hx => hx), ho⟩) k
/-- a guarded operation whose guard stands: as an unguarded one -/
def gslot (ops : Array Oper) (j : Nat) : Option Nat := (ops[j]?).bind (·.dst)
theorem JO_gT {dst : Option Nat} {j t : Nat} {w : Bool} (hj : gslot ops j = some t) (hv : flook fr t = some (.bool w))
    (k : JO P TT D n ops Q (⟨dst, op, ty, pos, af, none⟩ :: rest) fr L s) : JO P TT D n ops Q (⟨dst, op, ty, pos, af, some (j, w)⟩ :: rest) fr L s := fun ht a hr ho => by
  have k1 := k ht a hr ho
  have hy : yielded ops a.tmps j = some w := by
    have h1 := hr.slot t (hr.top _ _ hv) _ hv
    unfold gslot at hj
    simp [yielded, hj, h1]
  simp only [wpList, Region.wanted, if_true] at k1
  simp only [wpList, Region.wanted, hy, beq_self_eq_true, if_true]
  exact k1
theorem JO_gF {d : Nat} {j t : Nat} {w b : Bool} (hd : Nat.blt d n = true) (hj : gslot ops j = some t) (hv : flook fr t = some (.bool b)) (hb : (b != w) = true)
    (k : JO P TT D n ops Q rest ((d, undef) :: fr) L s) : JO P TT D n ops Q (⟨some d, op, ty, pos, af, some (j, w)⟩ :: rest) fr L s := fun ht a hr ho => by
  have hy : yielded ops a.tmps j = some b := by
    have h1 := hr.slot t (hr.top _ _ hv) _ hv
    unfold gslot at hj
    simp [yielded, hj, h1]
  have hne : (some b == some w) = false := by cases b <;> cases w <;> simp_all
  simp only [wpList, Region.wanted, hy, hne, Bool.false_eq_true, if_false]
  exact k ht _ (hr.put hd undef) ho
theorem JO_gU {d : Nat} {j t : Nat} {w : Bool} (hd : Nat.blt d n = true) (hj : gslot ops j = some t) (hv : flook fr t = some undef)
    (k : JO P TT D n ops Q rest ((d, undef) :: fr) L s) : JO P TT D n ops Q (⟨some d, op, ty, pos, af, some (j, w)⟩ :: rest) fr L s := fun ht a hr ho => by
  have hy : yielded ops a.tmps j = none := by
    have h1 := hr.slot t (hr.top _ _ hv) _ hv
    unfold gslot at hj
    simp [yielded, hj, h1, undef]
  simp only [wpList, Region.wanted, hy]
  exact k ht _ (hr.put hd undef) ho
/-- a test that is not known yet: both ways, its slot as a plain true or false -/
theorem JO_case {l : List Oper} {t : Nat} {b : Bool} (hv : flook fr t = some (.bool b)) (h1 : b = true → JO P TT D n ops Q l ((t, .bool true) :: fr) L s) (h2 : b = false → JO P TT D n ops Q l ((t, .bool false) :: fr) L s) :
    JO P TT D n ops Q l fr L s := fun ht a hr ho => by
  cases b with
  | true => exact h1 rfl ht a (hr.sub fun t' v' h => by rw [flook_cons] at h; split at h <;> simp_all) ho
  | false => exact h2 rfl ht a (hr.sub fun t' v' h => by rw [flook_cons] at h; split at h <;> simp_all) ho
theorem JO_caseD {l : List Oper} {t : Nat} {p : Prop} [Decidable p] (hv : flook fr t = some (.bool (decide p))) (h1 : p → JO P TT D n ops Q l ((t, .bool true) :: fr) L s) (h2 : ¬ p → JO P TT D n ops Q l ((t, .bool false) :: fr) L s) :
    JO P TT D n ops Q l fr L s := JO_case hv (fun h => h1 (of_decide_eq_true h)) (fun h => h2 (of_decide_eq_false h))
theorem JO_caseM {l : List Oper} {t : Nat} {b : Bool} (hv : flook fr t = some (.bool (!b))) (h1 : b = false → JO P TT D n ops Q l ((t, .bool true) :: fr) L s) (h2 : b = true → JO P TT D n ops Q l ((t, .bool false) :: fr) L s) :
    JO P TT D n ops Q l fr L s := JO_case hv (fun h => h1 (by simpa using h)) (fun h => h2 (by simpa using h))
theorem JO_caseN {l : List Oper} {t : Nat} {p : Prop} [Decidable p] (hv : flook fr t = some (.bool (!decide p))) (h1 : ¬ p → JO P TT D n ops Q l ((t, .bool true) :: fr) L s) (h2 : p → JO P TT D n ops Q l ((t, .bool false) :: fr) L s) :
    JO P TT D n ops Q l fr L s := JO_case hv (fun h => h1 (by simpa using h)) (fun h => h2 (by simpa using h))

end

section
variable {P : Program} {TT : TyTab} {D : Nat} {fr : Fr} {ty : Nat} {v : Value} {K : Hl} {s0 : World}
theorem QE_mv {x : Operand} (hx : lk fr x = some v) : QE P TT D fr (.move x) ty K s0 v := QE.pure fun _ dst pos af g ρ hρ w => by simp [execOp, hρ x v hx]
theorem QE_as {x : Operand} (hx : lk fr x = some v) : QE P TT D fr (.assign x) ty K s0 v := QE.pure fun _ dst pos af g ρ hρ w => by simp [execOp, hρ x v hx]
theorem QE_pickT {c x y : Operand} (hc : lk fr c = some (.bool true)) (hx : lk fr x = some v) : QE P TT D fr (.pick c x y) ty K s0 v := QE.pure fun _ dst pos af g ρ hρ w => by simp [execOp, hρ x v hx, hρ c _ hc, asBool]
theorem QE_pickF {c x y : Operand} (hc : lk fr c = some (.bool false)) (hx : lk fr y = some v) : QE P TT D fr (.pick c x y) ty K s0 v := QE.pure fun _ dst pos af g ρ hρ w => by simp [execOp, hρ y v hx, hρ c _ hc, asBool]
theorem QE_not {x : Operand} {b : Bool} {t : Nat} (hx : lk fr x = some (.bool b)) : QE P TT D fr (.unOp .not t x) ty K s0 (.bool (!b)) := QE.pure fun _ dst pos af g ρ hρ w => by simp [execOp, hρ x _ hx, Op.unary]
theorem QE_notT {x : Operand} {t : Nat} (hx : lk fr x = some (.bool true)) : QE P TT D fr (.unOp .not t x) ty K s0 (.bool false) := QE_not hx
theorem QE_notF {x : Operand} {t : Nat} (hx : lk fr x = some (.bool false)) : QE P TT D fr (.unOp .not t x) ty K s0 (.bool true) := QE_not hx
def nth : List Value → Nat → Option Value
  | [], _ => none
  | x :: _, 0 => some x
  | _ :: r, k + 1 => nth r k
theorem nth_eq (l : List Value) (i : Nat) : nth l i = l[i]? := by
  induction l generalizing i with
  | nil => rfl
  | cons x l ih => cases i <;> simp [nth, ih]
theorem QE_ext {x : Operand} {i : Nat} {vs : List Value} (hx : lk fr x = some (.tuple vs.toArray)) (hi : nth vs i = some v) : QE P TT D fr (.extract x i) ty K s0 v :=
  QE.pure fun _ dst pos af g ρ hρ w => by rw [nth_eq] at hi; simp [execOp, hρ x _ hx, Instr.extract, hi]
theorem QE_nil {x : Operand} {a : Addr} (hx : lk fr x = some (.pointer (some a))) : QE P TT D fr (.nilCheck x) ty K s0 (.pointer (some a)) := QE.pure fun _ dst pos af g ρ hρ w => by simp [execOp, hρ x _ hx]
theorem QE_nilF {x : Operand} {f : Fn} {a b : Array Value} (hm : ∀ m, f ≠ .method m) (hx : lk fr x = some (.func f a b)) : QE P TT D fr (.nilCheck x) ty K s0 (.func f a b) :=
  QE.pure fun _ dst pos af g ρ hρ w => by cases f <;> simp_all [execOp, hρ x _ hx]
theorem QE_eq {x y : Operand} {ik : IntKind} {a b : Int} {t t' : Nat} (hx : lk fr x = some (.int ik a)) (hy : lk fr y = some (.int ik b)) : QE P TT D fr (.binOp .eql t x y t') ty K s0 (.bool (decide (a = b))) :=
  QE.pure fun _ dst pos af g ρ hρ w => by simp [execOp, hρ x _ hx, hρ y _ hy, eqGuard, binOp, Op.intCmp]; rfl
theorem QE_ne {x y : Operand} {ik : IntKind} {a b : Int} {t t' : Nat} (hx : lk fr x = some (.int ik a)) (hy : lk fr y = some (.int ik b)) : QE P TT D fr (.binOp .neq t x y t') ty K s0 (.bool (!decide (a = b))) :=
  QE.pure fun _ dst pos af g ρ hρ w => by simp [execOp, hρ x _ hx, hρ y _ hy, eqGuard, binOp, Op.intCmp]; rfl
theorem QE_lt {x y : Operand} {ik : IntKind} {a b : Int} {t t' : Nat} (hx : lk fr x = some (.int ik a)) (hy : lk fr y = some (.int ik b)) : QE P TT D fr (.binOp .lss t x y t') ty K s0 (.bool (decide (a < b))) :=
  QE.pure fun _ dst pos af g ρ hρ w => by simp [execOp, hρ x _ hx, hρ y _ hy, eqGuard, binOp, Op.intCmp]
theorem QE_le {x y : Operand} {ik : IntKind} {a b : Int} {t t' : Nat} (hx : lk fr x = some (.int ik a)) (hy : lk fr y = some (.int ik b)) : QE P TT D fr (.binOp .leq t x y t') ty K s0 (.bool (decide (a ≤ b))) :=
  QE.pure fun _ dst pos af g ρ hρ w => by simp [execOp, hρ x _ hx, hρ y _ hy, eqGuard, binOp, Op.intCmp]
theorem QE_gt {x y : Operand} {ik : IntKind} {a b : Int} {t t' : Nat} (hx : lk fr x = some (.int ik a)) (hy : lk fr y = some (.int ik b)) : QE P TT D fr (.binOp .gtr t x y t') ty K s0 (.bool (decide (b < a))) :=
  QE.pure fun _ dst pos af g ρ hρ w => by simp [execOp, hρ x _ hx, hρ y _ hy, eqGuard, binOp, Op.intCmp]
theorem QE_ge {x y : Operand} {ik : IntKind} {a b : Int} {t t' : Nat} (hx : lk fr x = some (.int ik a)) (hy : lk fr y = some (.int ik b)) : QE P TT D fr (.binOp .geq t x y t') ty K s0 (.bool (decide (b ≤ a))) :=
  QE.pure fun _ dst pos af g ρ hρ w => by simp [execOp, hρ x _ hx, hρ y _ hy, eqGuard, binOp, Op.intCmp]
theorem QE_add {x y : Operand} {ik : IntKind} {a b : Int} {t t' : Nat} (hx : lk fr x = some (.int ik a)) (hy : lk fr y = some (.int ik b)) : QE P TT D fr (.binOp .add t x y t') ty K s0 (.int ik (ik.wrap (a + b))) :=
  QE.pure fun _ dst pos af g ρ hρ w => by simp [execOp, hρ x _ hx, hρ y _ hy, eqGuard, binOp, Op.intArith]
/-- where the result is known to fit -/
theorem QE_add' {x y : Operand} {ik : IntKind} {a b c : Int} {t t' : Nat} (hx : lk fr x = some (.int ik a)) (hy : lk fr y = some (.int ik b)) (hc : ik.wrap (a + b) = c) : QE P TT D fr (.binOp .add t x y t') ty K s0 (.int ik c) := hc ▸ QE_add hx hy
theorem QE_sub {x y : Operand} {ik : IntKind} {a b : Int} {t t' : Nat} (hx : lk fr x = some (.int ik a)) (hy : lk fr y = some (.int ik b)) : QE P TT D fr (.binOp .sub t x y t') ty K s0 (.int ik (ik.wrap (a - b))) :=
  QE.pure fun _ dst pos af g ρ hρ w => by simp [execOp, hρ x _ hx, hρ y _ hy, eqGuard, binOp, Op.intArith]
/-- where the result is known to fit -/
theorem QE_sub' {x y : Operand} {ik : IntKind} {a b c : Int} {t t' : Nat} (hx : lk fr x = some (.int ik a)) (hy : lk fr y = some (.int ik b)) (hc : ik.wrap (a - b) = c) : QE P TT D fr (.binOp .sub t x y t') ty K s0 (.int ik c) := hc ▸ QE_sub hx hy
theorem QE_mul {x y : Operand} {ik : IntKind} {a b : Int} {t t' : Nat} (hx : lk fr x = some (.int ik a)) (hy : lk fr y = some (.int ik b)) : QE P TT D fr (.binOp .mul t x y t') ty K s0 (.int ik (ik.wrap (a * b))) :=
  QE.pure fun _ dst pos af g ρ hρ w => by simp [execOp, hρ x _ hx, hρ y _ hy, eqGuard, binOp, Op.intArith]
/-- where the result is known to fit -/
theorem QE_mul' {x y : Operand} {ik : IntKind} {a b c : Int} {t t' : Nat} (hx : lk fr x = some (.int ik a)) (hy : lk fr y = some (.int ik b)) (hc : ik.wrap (a * b) = c) : QE P TT D fr (.binOp .mul t x y t') ty K s0 (.int ik c) := hc ▸ QE_mul hx hy
theorem QE_quo {x y : Operand} {ik : IntKind} {a b : Int} {t t' : Nat} (hx : lk fr x = some (.int ik a)) (hy : lk fr y = some (.int ik b)) (hb : b ≠ 0) : QE P TT D fr (.binOp .quo t x y t') ty K s0 (.int ik (ik.wrap (a.tdiv b))) :=
  QE.pure fun _ dst pos af g ρ hρ w => by simp [execOp, hρ x _ hx, hρ y _ hy, eqGuard, binOp, Op.intDiv, hb]
theorem QE_rem {x y : Operand} {ik : IntKind} {a b : Int} {t t' : Nat} (hx : lk fr x = some (.int ik a)) (hy : lk fr y = some (.int ik b)) (hb : b ≠ 0) : QE P TT D fr (.binOp .rem t x y t') ty K s0 (.int ik (a.tmod b)) :=
  QE.pure fun _ dst pos af g ρ hρ w => by simp [execOp, hρ x _ hx, hρ y _ hy, eqGuard, binOp, Op.intDiv, hb]
/-- any other operation on two integers, by its own equation -/
theorem QE_bin {x y : Operand} {ik jk : IntKind} {a b : Int} {t t' : Nat} {bo : BinOp} (hx : lk fr x = some (.int ik a)) (hy : lk fr y = some (.int jk b)) (hne : bo ≠ .eql ∧ bo ≠ .neq) (h : ∀ w, (binOp bo t (.int ik a) (.int jk b)).run P w = .ok v w) : QE P TT D fr (.binOp bo t x y t') ty K s0 v :=
  QE.pure fun _ dst pos af g ρ hρ w => by
    obtain ⟨h1, h2⟩ := hne
    have hg : (eqGuard bo t x y (.int ik a) (.int jk b)).run P w = .ok () w := by cases bo <;> simp_all [eqGuard]
    simp [execOp, hρ x _ hx, hρ y _ hy, hg, h w]
theorem QE_seq {x y : Operand} {a b : List UInt8} {t t' : Nat} (hx : lk fr x = some (St a)) (hy : lk fr y = some (St b)) : QE P TT D fr (.binOp .eql t x y t') ty K s0 (.bool (decide (a = b))) :=
  QE.pure fun _ dst pos af g ρ hρ w => by simp [execOp, hρ x _ hx, hρ y _ hy, eqGuard, binOp, Op.stringOp]; by_cases h : a = b <;> simp [h]
theorem QE_sne {x y : Operand} {a b : List UInt8} {t t' : Nat} (hx : lk fr x = some (St a)) (hy : lk fr y = some (St b)) : QE P TT D fr (.binOp .neq t x y t') ty K s0 (.bool (!decide (a = b))) :=
  QE.pure fun _ dst pos af g ρ hρ w => by simp [execOp, hρ x _ hx, hρ y _ hy, eqGuard, binOp, Op.stringOp]; by_cases h : a = b <;> simp [h]
theorem run_bool_eql {P : Program} {t : Nat} (h : P.underlying t = some .bool) (a b : Bool) (w : World) : (Op.equal t (.bool a) (.bool b)).run P w = .ok (decide (a = b)) w := by
  rw [run_equal_bool w t a b h]
  cases a <;> cases b <;> rfl
/-- what '==' gives at two structs or arrays -/
def EqA (P : Program) (t : Nat) (xs ys : List Value) (b : Bool) : Prop := P.eqGuardType P.depth t = false ∧ ∀ w, (Op.equal t (.agg xs.toArray) (.agg ys.toArray)).run P w = .ok b w
theorem QE_aeq {x y : Operand} {xs ys : List Value} {b : Bool} {t t' : Nat} (hx : lk fr x = some (.agg xs.toArray)) (hy : lk fr y = some (.agg ys.toArray)) (hE : EqA P t xs ys b) : QE P TT D fr (.binOp .eql t x y t') ty K s0 (.bool b) :=
  QE.pure fun ht dst pos af g ρ hρ w => by simp [execOp, hρ x _ hx, hρ y _ hy, eqGuard, binOp, hE.1, hE.2 w]
theorem QE_ane {x y : Operand} {xs ys : List Value} {b : Bool} {t t' : Nat} (hx : lk fr x = some (.agg xs.toArray)) (hy : lk fr y = some (.agg ys.toArray)) (hE : EqA P t xs ys b) : QE P TT D fr (.binOp .neq t x y t') ty K s0 (.bool (!b)) :=
  QE.pure fun ht dst pos af g ρ hρ w => by simp [execOp, hρ x _ hx, hρ y _ hy, eqGuard, binOp, hE.1, hE.2 w]
theorem QE_beq {x y : Operand} {a b : Bool} {t t' : Nat} {ti : TI} (hx : lk fr x = some (.bool a)) (hy : lk fr y = some (.bool b)) (hu : tlook TT t = some ti) (hu' : ti.desc = .bool) : QE P TT D fr (.binOp .eql t x y t') ty K s0 (.bool (decide (a = b))) :=
  QE.pure fun ht dst pos af g ρ hρ w => by
    have h1 := (ht.at_ hu).1; rw [hu'] at h1
    simp [execOp, hρ x _ hx, hρ y _ hy, eqGuard, binOp, run_bool_eql h1]
theorem QE_bne {x y : Operand} {a b : Bool} {t t' : Nat} {ti : TI} (hx : lk fr x = some (.bool a)) (hy : lk fr y = some (.bool b)) (hu : tlook TT t = some ti) (hu' : ti.desc = .bool) : QE P TT D fr (.binOp .neq t x y t') ty K s0 (.bool (!decide (a = b))) :=
  QE.pure fun ht dst pos af g ρ hρ w => by
    have h1 := (ht.at_ hu).1; rw [hu'] at h1
    simp [execOp, hρ x _ hx, hρ y _ hy, eqGuard, binOp, run_bool_eql h1]
end
end Go.FL
