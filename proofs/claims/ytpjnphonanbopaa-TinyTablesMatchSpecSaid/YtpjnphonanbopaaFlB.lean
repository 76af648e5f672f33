/- Frames as short lists of slots; the judgements on code and on lists of operations; the rules of control. -/
import Derived.Test.YtpjnphonanbopaaFlA
import Derived.Deep.LoopGhost
namespace Go.FL
open Go Go.RowKit

abbrev Fr := List (Nat × Value)

def flook : Fr → Nat → Option Value
  | [], _ => none
  | (d, v) :: r, t => bif Nat.beq d t then some v else flook r t
def lk (fr : Fr) : Operand → Option Value
  | .tmp t => flook fr t
  | .const v => some v
  | .global g => some (.pointer (some ⟨g, 0, none⟩))
  | .func f => some (.func (.func f) #[] #[])
def evE (fr : Fr) (x : Operand) : Value := (lk fr x).getD undef

structure FrRel (n : Nat) (a : Act) (fr : Fr) : Prop where
  size : a.tmps.size = n
  defers : a.defers = []
  slot : ∀ t, t < n → ∀ v, flook fr t = some v → a.tmps[t]? = some v
  top : ∀ t v, flook fr t = some v → t < n

theorem FrRel.ev {n : Nat} {a : Act} {fr : Fr} (h : FrRel n a fr) {x : Operand} {v : Value} (hx : lk fr x = some v) : a.eval x = v := by
  cases x with
  | tmp t =>
    have := h.slot t (h.top t v hx) v hx
    simp [Act.eval, this]
  | const u => simpa [lk, Act.eval] using hx
  | global g => simpa [lk, Act.eval] using hx
  | func f => simpa [lk, Act.eval] using hx

theorem flook_cons (d : Nat) (v : Value) (fr : Fr) (t : Nat) : flook ((d, v) :: fr) t = if d = t then some v else flook fr t := by
  simp only [flook, cond_eq_ite]
  by_cases h : d = t
  · subst h; simp
  · have : Nat.beq d t = false := by
      cases hb : Nat.beq d t with
      | false => rfl
      | true => exact absurd (Nat.eq_of_beq_eq_true hb) h
    simp [h, this]
theorem FrRel.put {n : Nat} {a : Act} {fr : Fr} (h : FrRel n a fr) {d : Nat} (hd : Nat.blt d n = true) (v : Value) : FrRel n (a.put (some d) v) ((d, v) :: fr) := by
  have hd' : d < n := Nat.le_of_ble_eq_true hd
  refine ⟨by simp [Act.put, h.size], by simp [Act.put, h.defers], fun t ht u hu => ?_, fun t u hu => ?_⟩
  · rw [flook_cons] at hu
    by_cases he : d = t
    · subst he; simp at hu; subst hu; simp [Act.put, h.size, hd']
    · simp only [he, if_false] at hu
      simp only [Act.put, Array.getElem?_setIfInBounds_ne he]
      exact h.slot t ht u hu
  · rw [flook_cons] at hu
    by_cases he : d = t
    · subst he; exact hd'
    · simp only [he, if_false] at hu; exact h.top t u hu

/-- what is known of a type -/
inductive TK where
  | sc                       -- one cell
  | sl (elem : Nat)          -- a slice
  | st (offs : List Nat)     -- a struct; the offsets of its fields
  | ar (len elem : Nat)      -- an array
def isOne : TK → Bool
  | .sc => true
  | .sl _ => true
  | _ => false
structure TI where
  kind : TK
  desc : TypeDesc
  size : Nat
  bytes : Nat
  zeros : List Value
  fsz : List Nat := []      -- a struct: the sizes of its fields
def TI.zero (x : TI) : Value := match x.kind with
  | .st _ => .agg x.zeros.toArray
  | .ar _ _ => .agg x.zeros.toArray
  | _ => x.zeros.headD undef
abbrev TyTab := List (Nat × TI)
def TK.fits : TK → TypeDesc → Prop
  | .sc, .struct _ => False
  | .sc, .array _ _ => False
  | .sc, _ => True
  | .sl e, d => d = .slice e
  | .st offs, .struct fs => fs.toList.map (·.offset) = offs
  | .st _, _ => False
  | .ar n e, d => d = .array n e
def fieldsPos (P : Program) : TypeDesc → Bool
  | .struct fs => fs.toList.all (fun f => decide (0 < P.cellsOf f.type))
  | _ => true
def fieldSizes (P : Program) : TypeDesc → List Nat
  | .struct fs => fs.toList.map fun f => P.cellsOf f.type
  | _ => []
def TI.ok (P : Program) (t : Nat) (x : TI) : Prop :=
  P.underlying t = some x.desc ∧ x.kind.fits x.desc ∧ (P.info? t).map (fun i => (i.size, i.bytes, i.zero)) = some (x.size, x.bytes, some x.zero) ∧ x.zeros.length = x.size ∧ x.zeros.all (·.oneCell') = true ∧ 0 < x.size ∧ (isOne x.kind = true → x.size = 1) ∧
  fieldsPos P x.desc = true ∧ fieldSizes P x.desc = x.fsz
def TabOK (P : Program) (TT : TyTab) : Prop := ∀ x ∈ TT, x.2.ok P x.1
def tlook : TyTab → Nat → Option TI
  | [], _ => none
  | (d, v) :: r, t => bif Nat.beq d t then some v else tlook r t
theorem tlook_mem {TT : TyTab} {t : Nat} {x : TI} (h : tlook TT t = some x) : (t, x) ∈ TT := by
  induction TT with
  | nil => cases h
  | cons y TT ih =>
    obtain ⟨d, v⟩ := y
    simp only [tlook, cond_eq_ite] at h
    by_cases he : Nat.beq d t = true
    · simp only [he, if_true, Option.some.injEq] at h
      have : d = t := by simpa using he
      subst h; subst this; exact List.mem_cons_self ..
    · simp only [he] at h; exact List.mem_cons_of_mem _ (ih h)
theorem TabOK.at_ {P : Program} {TT : TyTab} (h : TabOK P TT) {t : Nat} {x : TI} (hx : tlook TT t = some x) : x.ok P t := h _ (tlook_mem hx)

abbrev APost := Exit → Fr → Hl → World → Prop
def conc (D n : Nat) (Q : APost) : Exit → Act → World → Prop := fun e a w => ∃ fr L s, FrRel n a fr ∧ OKL D L s ∧ w = fill L s ∧ Q e fr L s

def JC (P : Program) (TT : TyTab) (D n : Nat) (Q : APost) (c : Code) (fr : Fr) (L : Hl) (s : World) : Prop :=
  TabOK P TT → ∀ a, FrRel n a fr → OKL D L s → c.wp P (conc D n Q) a (fill L s)
def JO (P : Program) (TT : TyTab) (D n : Nat) (ops : Array Oper) (Q : APost) (l : List Oper) (fr : Fr) (L : Hl) (s : World) : Prop :=
  TabOK P TT → ∀ a, FrRel n a fr → OKL D L s → wpList P ops (conc D n Q) l a (fill L s)

section control
variable {P : Program} {TT : TyTab} {D n : Nat} {Q : APost} {fr : Fr} {L : Hl} {s : World}

def thenQ (J : Fr → Hl → World → Prop) (Q : APost) : APost
  | .normal, fr, L, s => J fr L s
  | e, fr, L, s => Q e fr L s
def blockQ (id : Nat) (Q : APost) : APost
  | .exit i, fr, L, s => if i = id then Q .normal fr L s else Q (.exit i) fr L s
  | e, fr, L, s => Q e fr L s

theorem JC_skip (h : Q .normal fr L s) : JC P TT D n Q .skip fr L s := fun _ _ hr ho => wp_skip ⟨fr, L, s, hr, ho, rfl, h⟩
theorem JC_exit {id : Nat} (h : Q (.exit id) fr L s) : JC P TT D n Q (.exit id) fr L s := fun _ _ hr ho => wp_exit ⟨fr, L, s, hr, ho, rfl, h⟩
theorem JC_ret (h : Q .ret fr L s) : JC P TT D n Q .ret fr L s := fun _ _ hr ho => wp_ret ⟨fr, L, s, hr, ho, rfl, h⟩
theorem JC_seq {x y : Code} (h : JC P TT D n (thenQ (JC P TT D n Q y) Q) x fr L s) : JC P TT D n Q (.seq x y) fr L s := fun ht a hr ho =>
  wp_seq (wp_mono (h ht a hr ho) fun e a w ⟨fr', L', s', h1, h2, h3, h4⟩ => by
    cases e with
    | normal => subst h3; exact h4 ht a h1 h2
    | _ => exact ⟨fr', L', s', h1, h2, h3, h4⟩)
theorem JC_block {id : Nat} {c : Code} (h : JC P TT D n (blockQ id Q) c fr L s) : JC P TT D n Q (.block id c) fr L s := fun ht a hr ho =>
  wp_block (wp_mono (h ht a hr ho) fun e a w ⟨fr', L', s', h1, h2, h3, h4⟩ => by
    cases e with
    | exit i =>
      simp only [blockQ] at h4
      simp only [Exit.inBlock]
      by_cases hi : i = id
      · simp only [hi, if_true] at h4 ⊢; exact ⟨fr', L', s', h1, h2, h3, h4⟩
      · simp only [hi, if_false] at h4 ⊢; exact ⟨fr', L', s', h1, h2, h3, h4⟩
    | _ => exact ⟨fr', L', s', h1, h2, h3, h4⟩)
theorem JC_if {c : Operand} {x y : Code} {b : Bool} (hc : lk fr c = some (.bool b)) (h1 : b = true → JC P TT D n Q x fr L s) (h2 : b = false → JC P TT D n Q y fr L s) : JC P TT D n Q (.cond c x y) fr L s :=
  fun ht a hr ho => wp_cond_split (hr.ev hc) (fun hb => h1 hb ht a hr ho) (fun hb => h2 hb ht a hr ho)
theorem JC_ifD {c : Operand} {x y : Code} {p : Prop} [Decidable p] (hc : lk fr c = some (.bool (decide p))) (h1 : p → JC P TT D n Q x fr L s) (h2 : ¬ p → JC P TT D n Q y fr L s) : JC P TT D n Q (.cond c x y) fr L s :=
  JC_if hc (fun hb => h1 (of_decide_eq_true hb)) (fun hb => h2 (of_decide_eq_false hb))
theorem JC_ifN {c : Operand} {x y : Code} {p : Prop} [Decidable p] (hc : lk fr c = some (.bool (!decide p))) (h1 : ¬ p → JC P TT D n Q x fr L s) (h2 : p → JC P TT D n Q y fr L s) : JC P TT D n Q (.cond c x y) fr L s :=
  JC_if hc (fun hb => h1 (by simpa using hb)) (fun hb => h2 (by simpa using hb))
theorem JC_ifM {c : Operand} {x y : Code} {b : Bool} (hc : lk fr c = some (.bool (!b))) (h1 : b = false → JC P TT D n Q x fr L s) (h2 : b = true → JC P TT D n Q y fr L s) : JC P TT D n Q (.cond c x y) fr L s :=
  JC_if hc (fun hb => h1 (by simpa using hb)) (fun hb => h2 (by simpa using hb))
theorem JC_ifT {c : Operand} {x y : Code} (hc : lk fr c = some (.bool true)) (h1 : JC P TT D n Q x fr L s) : JC P TT D n Q (.cond c x y) fr L s :=
  JC_if hc (fun _ => h1) (fun hb => by cases hb)
theorem JC_ifF {c : Operand} {x y : Code} (hc : lk fr c = some (.bool false)) (h2 : JC P TT D n Q y fr L s) : JC P TT D n Q (.cond c x y) fr L s :=
  JC_if hc (fun hb => by cases hb) (fun _ => h2)

theorem JC_region {id : Nat} {l : List Oper} (h : JO P TT D n l.toArray Q l fr L s) : JC P TT D n Q (.region id l.toArray false) fr L s :=
  fun ht a hr ho => wp_region_lit (h ht a hr ho)
theorem JO_nil {ops : Array Oper} (h : Q .normal fr L s) : JO P TT D n ops Q [] fr L s := fun _ _ hr ho => ⟨fr, L, s, hr, ho, rfl, h⟩

/-- what a frame's list says of the slots that are named; the others are free -/
def agree : Fr → Fr → Prop := fun fr l => ∀ x ∈ l, flook fr x.1 = some x.2
theorem flook_append {l fr : Fr} (t : Nat) : flook (l ++ fr) t = (flook l t).or (flook fr t) := by
  induction l with
  | nil => simp [flook]
  | cons x l ih =>
    obtain ⟨d, v⟩ := x
    rw [List.cons_append, flook_cons, flook_cons]
    by_cases h : d = t <;> simp [h, ih]
theorem FrRel.sub {n : Nat} {a : Act} {fr l : Fr} (h : FrRel n a fr) (hs : ∀ t v, flook l t = some v → flook fr t = some v) : FrRel n a l :=
  ⟨h.size, h.defers, fun t ht v hv => h.slot t ht v (hs t v hv), fun t v hv => h.top t v (hs t v hv)⟩
/-- forget all slots but those of l -/
theorem JC_only {c : Code} (l : Fr) (hs : ∀ t v, flook l t = some v → flook fr t = some v) (h : JC P TT D n Q c l L s) : JC P TT D n Q c fr L s :=
  fun ht a hr ho => h ht a (hr.sub hs) ho

/-- owned blocks that are not used any more go to the shared world -/
theorem JC_drop {c : Code} (A : Hl) (h : ∀ s', Le D s s' → JC P TT D n Q c fr L s') : JC P TT D n Q c fr (A ++ L) s := fun ht a hr ho => by
  obtain ⟨e, h1, h2⟩ := drop_own ho
  rw [e]
  exact h _ h2 ht a hr h1

def Keeps (fr l : Fr) : Prop := ∀ t v, flook l t = some v → flook fr t = some v
theorem Keeps.nil (fr : Fr) : Keeps fr [] := fun _ _ h => by cases h
theorem Keeps.cons {fr l : Fr} {d : Nat} {v : Value} (h1 : flook fr d = some v) (h : Keeps fr l) : Keeps fr ((d, v) :: l) := fun t u hu => by
  rw [flook_cons] at hu
  by_cases he : d = t
  · subst he; simp at hu; subst hu; exact h1
  · simp only [he, if_false] at hu; exact h t u hu

/-- a loop: g are the numbers that change from round to round; 'A' the blocks that a round has made and leaves behind -/
theorem JC_loop {γ : Type} {c : Code} (S : γ → Fr) (H : γ → Hl) (I : γ → World → Prop) (μ : γ → Nat) (mono : ∀ g s s', I g s → Le D s s' → I g s') (g0 : γ)
    (hS : Keeps fr (S g0)) (hL : L = H g0) (hI : I g0 s)
    (round : ∀ g s, I g s → JC P TT D n (thenQ (fun fr' L' s' => ∃ g' A, Keeps fr' (S g') ∧ L' = A ++ H g' ∧ I g' s' ∧ μ g' < μ g) Q) c (S g) (H g) s) :
    JC P TT D n Q (.loop c) fr L s := fun ht a hr ho => by
  refine wp_loop_ghost (fun m a w => ∃ g s, μ g = m ∧ FrRel n a (S g) ∧ OKL D (H g) s ∧ w = fill (H g) s ∧ I g s) (μ g0) ⟨g0, s, rfl, hr.sub hS, hL ▸ ho, hL ▸ rfl, hI⟩ ?_
  rintro m a w ⟨g, s, rfl, h1, h2, rfl, h4⟩
  refine wp_mono (round g s h4 ht a h1 h2) ?_
  rintro e a' w' ⟨fr', L', s', k1, k2, rfl, k4⟩
  cases e with
  | normal =>
    obtain ⟨g', A, j1, rfl, j3, j4⟩ := k4
    obtain ⟨e, d1, d2⟩ := drop_own k2
    exact ⟨μ g', j4, g', _, rfl, k1.sub j1, d1, e, mono _ _ _ j3 d2⟩
  | _ => exact ⟨fr', L', s', k1, k2, rfl, k4⟩
end control
end Go.FL
