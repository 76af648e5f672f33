/- Part 1 of the proof of primerReadMatchesSpec_holds: texts FlA, FlB, FlC, FlD, FlE, FlF, FlG, FlH, Dt, Pl, Nu, Pa, Pb, Pc, Pd, Pe, Pf. -/
import Derived.Tactics
import Derived.Below
import Derived.Orders
import Derived.Laws.Rows
import Derived.WalkKit
import Derived.Deep.LoopGhost
import Derived.OrdersHeld
import Derived.IntWalk
import Derived.Lib.ItoaMem
import Derived.Lib.ParseIntBCases
set_option linter.unusedVariables false
set_option linter.unusedSimpArgs false
set_option linter.unnecessarySimpa false
namespace Go.FL
open Go Go.RowKit
abbrev Hl := List (Nat × Obj)
def dum (D : Nat) : Obj := .mapIter none D #[] 0
def setBlk (w : World) (b : Nat) (o : Obj) : World := { w with heap := w.heap.setIfInBounds b o }
def fill : Hl → World → World
  | [], s => s
  | x :: L, s => setBlk (fill L s) x.1 x.2
structure OKL (D : Nat) (L : Hl) (s : World) : Prop where
  nd : (L.map (·.1)).Nodup
  dm : ∀ x ∈ L, s.heap[x.1]? = some (dum D)
structure Le (D : Nat) (s s' : World) : Prop where
  os : s'.os = s.os
  tape : s'.tape = s.tape
  output : s'.output = s.output
  size : s.heap.size ≤ s'.heap.size
  block : ∀ k, k < s.heap.size → s.heap[k]? = some (dum D) ∨ s'.heap[k]? = s.heap[k]?
variable {D : Nat}
theorem Le.refl (s : World) : Le D s s := ⟨rfl, rfl, rfl, Nat.le_refl _, fun _ _ => .inr rfl⟩
theorem Le.trans {a b c : World} (h : Le D a b) (k : Le D b c) : Le D a c :=
  ⟨k.os.trans h.os, k.tape.trans h.tape, k.output.trans h.output, Nat.le_trans h.size k.size, fun i hi => by
    rcases h.block i hi with h1 | h1
    · exact .inl h1
    · rcases k.block i (Nat.lt_of_lt_of_le hi h.size) with h2 | h2
      · exact .inl (h1 ▸ h2)
      · exact .inr (h2.trans h1)⟩
theorem Le.of_ext {s s' : World} (h : Below s.heap.size s s') : Le D s s' := ⟨h.os, h.tape, h.output, h.size, fun k hk => .inr (h.block k hk)⟩
theorem cell_lt {w : World} {a : Addr} {u : Value} (h : w.cell? a = some u) : a.block < w.heap.size := World.block_lt_of_cell? w a h
theorem cell_not_dum {w : World} {a : Addr} {u : Value} (h : w.cell? a = some u) : w.heap[a.block]? ≠ some (dum D) := by
  intro e; simp [World.cell?, e, dum] at h
theorem Le.cell {s s' : World} (h : Le D s s') {a : Addr} {u : Value} (hc : s.cell? a = some u) : s'.cell? a = some u := by
  rcases h.block a.block (cell_lt hc) with h1 | h1
  · exact absurd h1 (cell_not_dum hc)
  · rw [← hc]; exact World.cell?_of_block h1
@[simp] theorem setBlk_size (w : World) (b : Nat) (o : Obj) : (setBlk w b o).heap.size = w.heap.size := by simp [setBlk]
theorem setBlk_same {w : World} {b : Nat} (o : Obj) (h : b < w.heap.size) : (setBlk w b o).heap[b]? = some o := by
  simp [setBlk, h]
theorem setBlk_other {w : World} {b k : Nat} (o : Obj) (h : b ≠ k) : (setBlk w b o).heap[k]? = w.heap[k]? := by
  simp [setBlk, Array.getElem?_setIfInBounds_ne h]
theorem fill_size (L : Hl) (s : World) : (fill L s).heap.size = s.heap.size := by
  induction L with
  | nil => rfl
  | cons x L ih => simp [fill, ih]
theorem fill_os (L : Hl) (s : World) : (fill L s).os = s.os := by induction L with
  | nil => rfl
  | cons x L ih => exact ih
theorem fill_tape (L : Hl) (s : World) : (fill L s).tape = s.tape := by induction L with
  | nil => rfl
  | cons x L ih => exact ih
theorem fill_drawn (L : Hl) (s : World) : (fill L s).drawn = s.drawn := by induction L with
  | nil => rfl
  | cons x L ih => exact ih
theorem fill_output (L : Hl) (s : World) : (fill L s).output = s.output := by induction L with
  | nil => rfl
  | cons x L ih => exact ih
theorem fill_other {L : Hl} {s : World} {k : Nat} (h : k ∉ L.map (·.1)) : (fill L s).heap[k]? = s.heap[k]? := by
  induction L with
  | nil => rfl
  | cons x L ih =>
    simp only [List.map_cons, List.mem_cons, not_or] at h
    rw [fill, setBlk_other _ (fun e => h.1 e.symm), ih h.2]
theorem OKL.lt {L : Hl} {s : World} (h : OKL D L s) {x : Nat × Obj} (hx : x ∈ L) : x.1 < s.heap.size := by
  have := h.dm x hx
  rcases Nat.lt_or_ge x.1 s.heap.size with h1 | h1
  · exact h1
  · rw [Array.getElem?_eq_none h1] at this; cases this
theorem OKL.tail {x : Nat × Obj} {L : Hl} {s : World} (h : OKL D (x :: L) s) : OKL D L s :=
  ⟨by have := h.nd; simp only [List.map_cons, List.nodup_cons] at this; exact this.2, fun y hy => h.dm y (List.mem_cons_of_mem _ hy)⟩
theorem fill_mem {L : Hl} {s : World} (h : OKL D L s) {b : Nat} {o : Obj} (hx : (b, o) ∈ L) : (fill L s).heap[b]? = some o := by
  induction L with
  | nil => cases hx
  | cons x L ih =>
    have hnd := h.nd
    simp only [List.map_cons, List.nodup_cons] at hnd
    rcases List.mem_cons.1 hx with rfl | hx
    · rw [fill]; exact setBlk_same _ (by rw [fill_size]; exact h.lt (List.mem_cons_self ..))
    · rw [fill, setBlk_other]
      · exact ih h.tail hx
      · intro e; exact hnd.1 (by rw [e]; exact List.mem_map.2 ⟨_, hx, rfl⟩)
theorem not_key {L : Hl} {s : World} (h : OKL D L s) {k : Nat} (hk : s.heap[k]? ≠ some (dum D)) : k ∉ L.map (·.1) := by
  intro hm
  obtain ⟨x, hx, rfl⟩ := List.mem_map.1 hm
  exact hk (h.dm x hx)
theorem fill_cell {L : Hl} {s : World} (h : OKL D L s) {a : Addr} {u : Value} (hc : s.cell? a = some u) : (fill L s).cell? a = some u := by
  rw [← hc]; exact World.cell?_of_block (fill_other (not_key h (cell_not_dum hc)))
theorem fill_le {L : Hl} {s : World} (h : OKL D L s) : Le D s (fill L s) :=
  ⟨fill_os L s, fill_tape L s, fill_output L s, by rw [fill_size]; exact Nat.le_refl _, fun k hk => by
    by_cases hd : s.heap[k]? = some (dum D)
    · exact .inl hd
    · exact .inr (fill_other (not_key h hd))⟩
theorem world_eq {w w' : World} (h1 : w.heap = w'.heap) (h2 : w.tape = w'.tape) (h3 : w.drawn = w'.drawn) (h4 : w.os = w'.os) (h5 : w.output = w'.output) : w = w' := by
  cases w; cases w'; simp_all
theorem heap_ext {a b : Array Obj} (h : ∀ k : Nat, a[k]? = b[k]?) : a = b := Array.ext_getElem? h
theorem fill_append (A B : Hl) (s : World) : fill (A ++ B) s = fill A (fill B s) := by
  induction A with
  | nil => rfl
  | cons x A ih => simp [fill, ih]
theorem setBlk_comm {w : World} {b c : Nat} (o p : Obj) (h : b ≠ c) : setBlk (setBlk w b o) c p = setBlk (setBlk w c p) b o := by
  unfold setBlk; simp [Array.setIfInBounds_comm _ _ h]
theorem fill_setBlk {L : Hl} {s : World} {b : Nat} {o : Obj} (h : b ∉ L.map (·.1)) : fill L (setBlk s b o) = setBlk (fill L s) b o := by
  induction L with
  | nil => rfl
  | cons x L ih =>
    simp only [List.map_cons, List.mem_cons, not_or] at h
    rw [fill, ih h.2, fill, setBlk_comm _ _ h.1]
theorem fill_comm {A B : Hl} {s : World} (h : ((A ++ B).map (·.1)).Nodup) : fill A (fill B s) = fill B (fill A s) := by
  induction A with
  | nil => rfl
  | cons x A ih =>
    simp only [List.cons_append, List.map_cons, List.nodup_cons] at h
    rw [fill, ih h.2, fill, fill_setBlk]
    intro hb; exact h.1 (by rw [List.map_append]; exact List.mem_append_right _ hb)
theorem OKL.left {A B : Hl} {s : World} (h : OKL D (A ++ B) s) : OKL D A s :=
  ⟨by have := h.nd; rw [List.map_append] at this; exact (List.nodup_append.1 this).1, fun x hx => h.dm x (List.mem_append_left _ hx)⟩
theorem OKL.right {A B : Hl} {s : World} (h : OKL D (A ++ B) s) : OKL D B s :=
  ⟨by have := h.nd; rw [List.map_append] at this; exact (List.nodup_append.1 this).2.1, fun x hx => h.dm x (List.mem_append_right _ hx)⟩
theorem drop_own {A B : Hl} {s : World} (h : OKL D (A ++ B) s) : fill (A ++ B) s = fill B (fill A s) ∧ OKL D B (fill A s) ∧ Le D s (fill A s) := by
  refine ⟨by rw [fill_append, fill_comm h.nd], ⟨h.right.nd, fun x hx => ?_⟩, fill_le h.left⟩
  rw [fill_other]
  · exact h.right.dm x hx
  · intro hm
    have := h.nd
    rw [List.map_append] at this
    exact (List.nodup_append.1 this).2.2 _ hm _ (List.mem_map.2 ⟨x, hx, rfl⟩) rfl
def blank (D : Nat) : Hl → World → World
  | [], w => w
  | x :: L, w => setBlk (blank D L w) x.1 (dum D)
theorem blank_size (L : Hl) (w : World) : (blank D L w).heap.size = w.heap.size := by
  induction L with
  | nil => rfl
  | cons x L ih => simp [blank, ih]
theorem blank_other {L : Hl} {w : World} {k : Nat} (h : k ∉ L.map (·.1)) : (blank D L w).heap[k]? = w.heap[k]? := by
  induction L with
  | nil => rfl
  | cons x L ih =>
    simp only [List.map_cons, List.mem_cons, not_or] at h
    rw [blank, setBlk_other _ (fun e => h.1 e.symm), ih h.2]
theorem blank_mem {L : Hl} {w : World} (hlt : ∀ x ∈ L, x.1 < w.heap.size) {k : Nat} (h : k ∈ L.map (·.1)) : (blank D L w).heap[k]? = some (dum D) := by
  induction L with
  | nil => cases h
  | cons x L ih =>
    by_cases hk : x.1 = k
    · subst hk; rw [blank]; exact setBlk_same _ (by rw [blank_size]; exact hlt x (List.mem_cons_self ..))
    · rw [blank, setBlk_other _ hk]
      simp only [List.map_cons, List.mem_cons] at h
      exact ih (fun y hy => hlt y (List.mem_cons_of_mem _ hy)) (h.resolve_left (fun e => hk e.symm))
theorem blank_os (L : Hl) (s : World) : (blank D L s).os = s.os := by induction L with
  | nil => rfl
  | cons x L ih => exact ih
theorem blank_tape (L : Hl) (s : World) : (blank D L s).tape = s.tape := by induction L with
  | nil => rfl
  | cons x L ih => exact ih
theorem blank_drawn (L : Hl) (s : World) : (blank D L s).drawn = s.drawn := by induction L with
  | nil => rfl
  | cons x L ih => exact ih
theorem blank_output (L : Hl) (s : World) : (blank D L s).output = s.output := by induction L with
  | nil => rfl
  | cons x L ih => exact ih
theorem of_ext {L : Hl} {s w' : World} (h : OKL D L s) (hb : Below (fill L s).heap.size (fill L s) w') :
    w' = fill L (blank D L w') ∧ OKL D L (blank D L w') ∧ Le D s (blank D L w') := by
  have hsz : s.heap.size ≤ w'.heap.size := by have := hb.size; rwa [fill_size] at this
  have hlt : ∀ x ∈ L, x.1 < w'.heap.size := fun x hx => Nat.lt_of_lt_of_le (h.lt hx) hsz
  have hok : OKL D L (blank D L w') := ⟨h.nd, fun x hx => blank_mem hlt (List.mem_map.2 ⟨x, hx, rfl⟩)⟩
  refine ⟨world_eq (heap_ext fun k => ?_) ?_ ?_ ?_ ?_, hok, ⟨?_, ?_, ?_, by rw [blank_size]; exact hsz, fun k hk => ?_⟩⟩
  · by_cases hk : k ∈ L.map (·.1)
    · obtain ⟨x, hx, rfl⟩ := List.mem_map.1 hk
      rw [fill_mem hok hx, hb.block x.1 (by rw [fill_size]; exact h.lt hx), fill_mem h hx]
    · rw [fill_other hk, blank_other hk]
  · rw [fill_tape, blank_tape]
  · rw [fill_drawn, blank_drawn]
  · rw [fill_os, blank_os]
  · rw [fill_output, blank_output]
  · rw [blank_os, hb.os, fill_os]
  · rw [blank_tape, hb.tape, fill_tape]
  · rw [blank_output, hb.output, fill_output]
  · by_cases hd : s.heap[k]? = some (dum D)
    · exact .inl hd
    · have hk' := not_key h hd
      exact .inr (by rw [blank_other hk', hb.block k (by rw [fill_size]; exact hk), fill_other hk'])
theorem alloc_fill {L : Hl} {s : World} (h : OKL D L s) (o : Obj) :
    (fill L s).alloc o = fill ((s.heap.size, o) :: L) (s.alloc (dum D)) ∧ OKL D ((s.heap.size, o) :: L) (s.alloc (dum D)) ∧ Le D s (s.alloc (dum D)) := by
  have hold : ∀ k, k < s.heap.size → (s.alloc (dum D)).heap[k]? = s.heap[k]? := fun k hk => Below.heap_alloc s _ k hk
  have hok : OKL D ((s.heap.size, o) :: L) (s.alloc (dum D)) := by
    refine ⟨?_, ?_⟩
    · simp only [List.map_cons, List.nodup_cons]
      refine ⟨fun hm => ?_, h.nd⟩
      obtain ⟨x, hx, he⟩ := List.mem_map.1 hm
      have := h.lt hx
      omega
    · intro x hx
      rcases List.mem_cons.1 hx with rfl | hx
      · exact heap_alloc_new s _
      · rw [hold _ (h.lt hx)]; exact h.dm x hx
  refine ⟨world_eq (heap_ext fun k => ?_) ?_ ?_ ?_ ?_, hok, ⟨rfl, rfl, rfl, by simp, fun k hk => .inr (hold k hk)⟩⟩
  · rcases Nat.lt_trichotomy k s.heap.size with hk | rfl | hk
    · rw [Below.heap_alloc _ _ _ (by rw [fill_size]; exact hk)]
      by_cases hm : k ∈ L.map (·.1)
      · obtain ⟨x, hx, rfl⟩ := List.mem_map.1 hm
        rw [fill_mem h hx, fill_mem hok (List.mem_cons_of_mem _ hx)]
      · rw [fill_other hm, fill_other (by simp only [List.map_cons, List.mem_cons, not_or]; exact ⟨by omega, hm⟩), hold k hk]
    · rw [fill_mem hok (List.mem_cons_self ..), ← fill_size L s]; exact heap_alloc_new _ _
    · rw [Array.getElem?_eq_none (by simp [fill_size]; omega), Array.getElem?_eq_none (by rw [fill_size]; simp; omega)]
  · show (fill L s).tape = _; rw [fill_tape, fill_tape]; rfl
  · show (fill L s).drawn = _; rw [fill_drawn, fill_drawn]; rfl
  · show (fill L s).os = _; rw [fill_os, fill_os]; rfl
  · show (fill L s).output = _; rw [fill_output, fill_output]; rfl
def setL (L : Hl) (i : Nat) (o : Obj) : Hl := match L, i with
  | [], _ => []
  | x :: L, 0 => (x.1, o) :: L
  | x :: L, i + 1 => x :: setL L i o
theorem setL_keys (L : Hl) (i : Nat) (o : Obj) : (setL L i o).map (·.1) = L.map (·.1) := by
  induction L generalizing i with
  | nil => cases i <;> rfl
  | cons x L ih => cases i with
    | zero => rfl
    | succ i => simp [setL, ih]
theorem setL_ok {L : Hl} {s : World} (h : OKL D L s) (i : Nat) (o : Obj) : OKL D (setL L i o) s := by
  refine ⟨by rw [setL_keys]; exact h.nd, fun x hx => ?_⟩
  have : x.1 ∈ (setL L i o).map (·.1) := List.mem_map.2 ⟨x, hx, rfl⟩
  rw [setL_keys] at this
  obtain ⟨y, hy, he⟩ := List.mem_map.1 this
  rw [← he]; exact h.dm y hy
theorem setBlk_setBlk (w : World) (b : Nat) (o p : Obj) : setBlk (setBlk w b o) b p = setBlk w b p := by
  unfold setBlk; simp
theorem fill_setL {L : Hl} {s : World} (h : OKL D L s) {i b : Nat} {p : Obj} (hi : L[i]? = some (b, p)) (o : Obj) : fill (setL L i o) s = setBlk (fill L s) b o := by
  induction L generalizing i with
  | nil => cases hi
  | cons x L ih =>
    cases i with
    | zero =>
      simp only [List.getElem?_cons_zero, Option.some.injEq] at hi
      subst hi
      simp only [setL, fill]
      rw [setBlk_setBlk]
    | succ i =>
      simp only [List.getElem?_cons_succ] at hi
      have hnd := h.nd
      simp only [List.map_cons, List.nodup_cons] at hnd
      simp only [setL, fill]
      rw [ih h.tail hi, setBlk_comm]
      intro e
      exact hnd.1 (by rw [← e]; exact List.mem_map.2 ⟨_, List.mem_of_getElem? hi, rfl⟩)
theorem drew_fill (L : Hl) (s : World) : (fill L s).drew = fill L s.drew := by
  induction L with
  | nil => rfl
  | cons x L ih => show setBlk (fill L s).drew x.1 x.2 = setBlk (fill L s.drew) x.1 x.2; rw [ih]
theorem Le.drew (s : World) : Le D s s.drew := ⟨rfl, rfl, rfl, Nat.le_refl _, fun _ _ => .inr rfl⟩
theorem OKL.drew {L : Hl} {s : World} (h : OKL D L s) : OKL D L s.drew := ⟨h.nd, h.dm⟩
end Go.FL
namespace Go.FL
open Go Go.RowKit
abbrev Fr := List (Nat × Value)
def flook : Fr → Nat → Option Value
  | [], _ => none
  | (d, v) :: r, t => bif Nat.beq d t then some v else flook r t
def lk (fr : Fr) : Operand → Option Value
  | .tmp t => flook fr t
  | .const v => some v
  | .global g => some (.pointer (some ⟨g, 0, none⟩))
  | .func f => some (.func (.func f) #[] #[])
structure FrRel (n : Nat) (a : Act) (fr : Fr) : Prop where
  size : a.tmps.size = n
  defers : a.defers = []
  slot : ∀ t, t < n → ∀ v, flook fr t = some v → a.tmps[t]? = some v
  top : ∀ t v, flook fr t = some v → t < n
theorem FrRel.ev {n : Nat} {a : Act} {fr : Fr} (h : FrRel n a fr) {x : Operand} {v : Value} (hx : lk fr x = some v) : a.eval x = v := by
  cases x with
  | tmp t =>
    have := h.slot t (h.top t v hx) v hx
    simp [Act.eval, this]
  | const u => simpa [lk, Act.eval] using hx
  | global g => simpa [lk, Act.eval] using hx
  | func f => simpa [lk, Act.eval] using hx
theorem flook_cons (d : Nat) (v : Value) (fr : Fr) (t : Nat) : flook ((d, v) :: fr) t = if d = t then some v else flook fr t := by
  simp only [flook, cond_eq_ite]
  by_cases h : d = t
  · subst h; simp
  · have : Nat.beq d t = false := by
      cases hb : Nat.beq d t with
      | false => rfl
      | true => exact absurd (Nat.eq_of_beq_eq_true hb) h
    simp [h, this]
theorem FrRel.put {n : Nat} {a : Act} {fr : Fr} (h : FrRel n a fr) {d : Nat} (hd : Nat.blt d n = true) (v : Value) : FrRel n (a.put (some d) v) ((d, v) :: fr) := by
  have hd' : d < n := Nat.le_of_ble_eq_true hd
  refine ⟨by simp [Act.put, h.size], by simp [Act.put, h.defers], fun t ht u hu => ?_, fun t u hu => ?_⟩
  · rw [flook_cons] at hu
    by_cases he : d = t
    · subst he; simp at hu; subst hu; simp [Act.put, h.size, hd']
    · simp only [he, if_false] at hu
      simp only [Act.put, Array.getElem?_setIfInBounds_ne he]
      exact h.slot t ht u hu
  · rw [flook_cons] at hu
    by_cases he : d = t
    · subst he; exact hd'
    · simp only [he, if_false] at hu; exact h.top t u hu
inductive TK where
  | sc                       -- one cell
  | sl (elem : Nat)          -- a slice
  | st (offs : List Nat)     -- a struct; the offsets of its fields
  | ar (len elem : Nat)      -- an array
def isOne : TK → Bool
  | .sc => true
  | .sl _ => true
  | _ => false
structure TI where
  kind : TK
  desc : TypeDesc
  size : Nat
  bytes : Nat
  zeros : List Value
  fsz : List Nat := []      -- a struct: the sizes of its fields
def TI.zero (x : TI) : Value := match x.kind with
  | .st _ => .agg x.zeros.toArray
  | .ar _ _ => .agg x.zeros.toArray
  | _ => x.zeros.headD undef
abbrev TyTab := List (Nat × TI)
def TK.fits : TK → TypeDesc → Prop
  | .sc, .struct _ => False
  | .sc, .array _ _ => False
  | .sc, _ => True
  | .sl e, d => d = .slice e
  | .st offs, .struct fs => fs.toList.map (·.offset) = offs
  | .st _, _ => False
  | .ar n e, d => d = .array n e
def fieldsPos (P : Program) : TypeDesc → Bool
  | .struct fs => fs.toList.all (fun f => decide (0 < P.cellsOf f.type))
  | _ => true
def fieldSizes (P : Program) : TypeDesc → List Nat
  | .struct fs => fs.toList.map fun f => P.cellsOf f.type
  | _ => []
def TI.ok (P : Program) (t : Nat) (x : TI) : Prop :=
  P.underlying t = some x.desc ∧ x.kind.fits x.desc ∧ (P.info? t).map (fun i => (i.size, i.bytes, i.zero)) = some (x.size, x.bytes, some x.zero) ∧ x.zeros.length = x.size ∧ x.zeros.all (·.oneCell') = true ∧ 0 < x.size ∧ (isOne x.kind = true → x.size = 1) ∧
  fieldsPos P x.desc = true ∧ fieldSizes P x.desc = x.fsz
def TabOK (P : Program) (TT : TyTab) : Prop := ∀ x ∈ TT, x.2.ok P x.1
def tlook : TyTab → Nat → Option TI
  | [], _ => none
  | (d, v) :: r, t => bif Nat.beq d t then some v else tlook r t
theorem tlook_mem {TT : TyTab} {t : Nat} {x : TI} (h : tlook TT t = some x) : (t, x) ∈ TT := by
  induction TT with
  | nil => cases h
  | cons y TT ih =>
    obtain ⟨d, v⟩ := y
    simp only [tlook, cond_eq_ite] at h
    by_cases he : Nat.beq d t = true
    · simp only [he, if_true, Option.some.injEq] at h
      have : d = t := by simpa using he
      subst h; subst this; exact List.mem_cons_self ..
    · simp only [he] at h; exact List.mem_cons_of_mem _ (ih h)
theorem TabOK.at_ {P : Program} {TT : TyTab} (h : TabOK P TT) {t : Nat} {x : TI} (hx : tlook TT t = some x) : x.ok P t := h _ (tlook_mem hx)
abbrev APost := Exit → Fr → Hl → World → Prop
def conc (D n : Nat) (Q : APost) : Exit → Act → World → Prop := fun e a w => ∃ fr L s, FrRel n a fr ∧ OKL D L s ∧ w = fill L s ∧ Q e fr L s
def JC (P : Program) (TT : TyTab) (D n : Nat) (Q : APost) (c : Code) (fr : Fr) (L : Hl) (s : World) : Prop :=
  TabOK P TT → ∀ a, FrRel n a fr → OKL D L s → c.wp P (conc D n Q) a (fill L s)
def JO (P : Program) (TT : TyTab) (D n : Nat) (ops : Array Oper) (Q : APost) (l : List Oper) (fr : Fr) (L : Hl) (s : World) : Prop :=
  TabOK P TT → ∀ a, FrRel n a fr → OKL D L s → wpList P ops (conc D n Q) l a (fill L s)
section control
variable {P : Program} {TT : TyTab} {D n : Nat} {Q : APost} {fr : Fr} {L : Hl} {s : World}
def thenQ (J : Fr → Hl → World → Prop) (Q : APost) : APost
  | .normal, fr, L, s => J fr L s
  | e, fr, L, s => Q e fr L s
def blockQ (id : Nat) (Q : APost) : APost
  | .exit i, fr, L, s => if i = id then Q .normal fr L s else Q (.exit i) fr L s
  | e, fr, L, s => Q e fr L s
theorem JC_skip (h : Q .normal fr L s) : JC P TT D n Q .skip fr L s := fun _ _ hr ho => wp_skip ⟨fr, L, s, hr, ho, rfl, h⟩
theorem JC_exit {id : Nat} (h : Q (.exit id) fr L s) : JC P TT D n Q (.exit id) fr L s := fun _ _ hr ho => wp_exit ⟨fr, L, s, hr, ho, rfl, h⟩
theorem JC_ret (h : Q .ret fr L s) : JC P TT D n Q .ret fr L s := fun _ _ hr ho => wp_ret ⟨fr, L, s, hr, ho, rfl, h⟩
theorem JC_seq {x y : Code} (h : JC P TT D n (thenQ (JC P TT D n Q y) Q) x fr L s) : JC P TT D n Q (.seq x y) fr L s := fun ht a hr ho =>
  wp_seq (wp_mono (h ht a hr ho) fun e a w ⟨fr', L', s', h1, h2, h3, h4⟩ => by
    cases e with
    | normal => subst h3; exact h4 ht a h1 h2
    | _ => exact ⟨fr', L', s', h1, h2, h3, h4⟩)
theorem JC_block {id : Nat} {c : Code} (h : JC P TT D n (blockQ id Q) c fr L s) : JC P TT D n Q (.block id c) fr L s := fun ht a hr ho =>
  wp_block (wp_mono (h ht a hr ho) fun e a w ⟨fr', L', s', h1, h2, h3, h4⟩ => by
    cases e with
    | exit i =>
      simp only [blockQ] at h4
      simp only [Exit.inBlock]
      by_cases hi : i = id
      · simp only [hi, if_true] at h4 ⊢; exact ⟨fr', L', s', h1, h2, h3, h4⟩
      · simp only [hi, if_false] at h4 ⊢; exact ⟨fr', L', s', h1, h2, h3, h4⟩
    | _ => exact ⟨fr', L', s', h1, h2, h3, h4⟩)
theorem JC_if {c : Operand} {x y : Code} {b : Bool} (hc : lk fr c = some (.bool b)) (h1 : b = true → JC P TT D n Q x fr L s) (h2 : b = false → JC P TT D n Q y fr L s) : JC P TT D n Q (.cond c x y) fr L s :=
  fun ht a hr ho => wp_cond_split (hr.ev hc) (fun hb => h1 hb ht a hr ho) (fun hb => h2 hb ht a hr ho)
theorem JC_ifD {c : Operand} {x y : Code} {p : Prop} [Decidable p] (hc : lk fr c = some (.bool (decide p))) (h1 : p → JC P TT D n Q x fr L s) (h2 : ¬ p → JC P TT D n Q y fr L s) : JC P TT D n Q (.cond c x y) fr L s :=
  JC_if hc (fun hb => h1 (of_decide_eq_true hb)) (fun hb => h2 (of_decide_eq_false hb))
theorem JC_ifN {c : Operand} {x y : Code} {p : Prop} [Decidable p] (hc : lk fr c = some (.bool (!decide p))) (h1 : ¬ p → JC P TT D n Q x fr L s) (h2 : p → JC P TT D n Q y fr L s) : JC P TT D n Q (.cond c x y) fr L s :=
  JC_if hc (fun hb => h1 (by simpa using hb)) (fun hb => h2 (by simpa using hb))
theorem JC_ifM {c : Operand} {x y : Code} {b : Bool} (hc : lk fr c = some (.bool (!b))) (h1 : b = false → JC P TT D n Q x fr L s) (h2 : b = true → JC P TT D n Q y fr L s) : JC P TT D n Q (.cond c x y) fr L s :=
  JC_if hc (fun hb => h1 (by simpa using hb)) (fun hb => h2 (by simpa using hb))
theorem JC_ifT {c : Operand} {x y : Code} (hc : lk fr c = some (.bool true)) (h1 : JC P TT D n Q x fr L s) : JC P TT D n Q (.cond c x y) fr L s :=
  JC_if hc (fun _ => h1) (fun hb => by cases hb)
theorem JC_ifF {c : Operand} {x y : Code} (hc : lk fr c = some (.bool false)) (h2 : JC P TT D n Q y fr L s) : JC P TT D n Q (.cond c x y) fr L s :=
  JC_if hc (fun hb => by cases hb) (fun _ => h2)
theorem JC_region {id : Nat} {l : List Oper} (h : JO P TT D n l.toArray Q l fr L s) : JC P TT D n Q (.region id l.toArray false) fr L s :=
  fun ht a hr ho => wp_region_lit (h ht a hr ho)
theorem JO_nil {ops : Array Oper} (h : Q .normal fr L s) : JO P TT D n ops Q [] fr L s := fun _ _ hr ho => ⟨fr, L, s, hr, ho, rfl, h⟩
theorem flook_append {l fr : Fr} (t : Nat) : flook (l ++ fr) t = (flook l t).or (flook fr t) := by
  induction l with
  | nil => simp [flook]
  | cons x l ih =>
    obtain ⟨d, v⟩ := x
    rw [List.cons_append, flook_cons, flook_cons]
    by_cases h : d = t <;> simp [h, ih]
theorem FrRel.sub {n : Nat} {a : Act} {fr l : Fr} (h : FrRel n a fr) (hs : ∀ t v, flook l t = some v → flook fr t = some v) : FrRel n a l :=
  ⟨h.size, h.defers, fun t ht v hv => h.slot t ht v (hs t v hv), fun t v hv => h.top t v (hs t v hv)⟩
def Keeps (fr l : Fr) : Prop := ∀ t v, flook l t = some v → flook fr t = some v
theorem Keeps.nil (fr : Fr) : Keeps fr [] := fun _ _ h => by cases h
theorem Keeps.cons {fr l : Fr} {d : Nat} {v : Value} (h1 : flook fr d = some v) (h : Keeps fr l) : Keeps fr ((d, v) :: l) := fun t u hu => by
  rw [flook_cons] at hu
  by_cases he : d = t
  · subst he; simp at hu; subst hu; exact h1
  · simp only [he, if_false] at hu; exact h t u hu
theorem JC_loop {γ : Type} {c : Code} (S : γ → Fr) (H : γ → Hl) (I : γ → World → Prop) (μ : γ → Nat) (mono : ∀ g s s', I g s → Le D s s' → I g s') (g0 : γ)
    (hS : Keeps fr (S g0)) (hL : L = H g0) (hI : I g0 s)
    (round : ∀ g s, I g s → JC P TT D n (thenQ (fun fr' L' s' => ∃ g' A, Keeps fr' (S g') ∧ L' = A ++ H g' ∧ I g' s' ∧ μ g' < μ g) Q) c (S g) (H g) s) :
    JC P TT D n Q (.loop c) fr L s := fun ht a hr ho => by
  refine wp_loop_ghost (fun m a w => ∃ g s, μ g = m ∧ FrRel n a (S g) ∧ OKL D (H g) s ∧ w = fill (H g) s ∧ I g s) (μ g0) ⟨g0, s, rfl, hr.sub hS, hL ▸ ho, hL ▸ rfl, hI⟩ ?_
  rintro m a w ⟨g, s, rfl, h1, h2, rfl, h4⟩
  refine wp_mono (round g s h4 ht a h1 h2) ?_
  rintro e a' w' ⟨fr', L', s', k1, k2, rfl, k4⟩
  cases e with
  | normal =>
    obtain ⟨g', A, j1, rfl, j3, j4⟩ := k4
    obtain ⟨e, d1, d2⟩ := drop_own k2
    exact ⟨μ g', j4, g', _, rfl, k1.sub j1, d1, e, mono _ _ _ j3 d2⟩
  | _ => exact ⟨fr', L', s', k1, k2, rfl, k4⟩
end control
end Go.FL
namespace Go.FL
open Go Go.RowKit
def cb (zs : List Value) (t : Nat) : Obj := .cells zs.toArray t (0, 0)
abbrev St (l : List UInt8) : Value := .string ⟨l.toArray⟩
def Ev (P : Program) (TT : TyTab) (D : Nat) (fr : Fr) (op : Op) (ty : Nat) (L : Hl) (s : World) (r : Next) (L' : Hl) (s' : World) : Prop :=
  TabOK P TT → OKL D L s → ∀ (dst : Option Nat) (pos : String) (af : Array Edge) (g : Option (Nat × Bool)) (ρ : Operand → Value), (∀ x v, lk fr x = some v → ρ x = v) → (execOp ρ ⟨dst, op, ty, pos, af, g⟩).run P (fill L s) = .ok r (fill L' s') ∧ OKL D L' s'
def QE (P : Program) (TT : TyTab) (D : Nat) (fr : Fr) (op : Op) (ty : Nat) (K : Hl) (s0 : World) (v : Value) : Prop :=
  TabOK P TT → ∀ (dst : Option Nat) (pos : String) (af : Array Edge) (g : Option (Nat × Bool)) (ρ : Operand → Value), (∀ x v, lk fr x = some v → ρ x = v) →
    ∀ L s, OKL D L s → Le D s0 s → (∀ x ∈ K, x ∈ L) → (execOp ρ ⟨dst, op, ty, pos, af, g⟩).run P (fill L s) = .ok (.value v) (fill L s)
theorem QE.pure {P : Program} {TT : TyTab} {D : Nat} {fr : Fr} {op : Op} {ty : Nat} {K : Hl} {s0 : World} {v : Value}
    (h : TabOK P TT → ∀ (dst : Option Nat) (pos : String) (af : Array Edge) (g : Option (Nat × Bool)) (ρ : Operand → Value), (∀ x v, lk fr x = some v → ρ x = v) → ∀ w, (execOp ρ ⟨dst, op, ty, pos, af, g⟩).run P w = .ok (.value v) w) : QE P TT D fr op ty K s0 v :=
  fun ht dst pos af g ρ hρ L s _ _ _ => h ht dst pos af g ρ hρ _
section
variable {P : Program} {TT : TyTab} {D n : Nat} {Q : APost} {fr : Fr} {L L' : Hl} {s s' : World} {ops : Array Oper} {rest : List Oper} {d ty : Nat} {op : Op} {pos : String} {af : Array Edge} {v : Value}
theorem JO_ev (hd : Nat.blt d n = true) (h : Ev P TT D fr op ty L s (.value v) L' s') (k : JO P TT D n ops Q rest ((d, v) :: fr) L' s') :
    JO P TT D n ops Q (⟨some d, op, ty, pos, af, none⟩ :: rest) fr L s := fun ht a hr ho => by
  obtain ⟨h1, h2⟩ := h ht ho (some d) pos af none a.eval (fun x v hx => hr.ev hx)
  simp only [wpList, Region.wanted, if_true]
  refine .inl ?_
  simp only [Oper.wp, h1, Oper.upon]
  exact k ht _ (hr.put hd v) h2
theorem JO_sk (h : Ev P TT D fr op ty L s .skip L' s') (k : JO P TT D n ops Q rest fr L' s') :
    JO P TT D n ops Q (⟨none, op, ty, pos, af, none⟩ :: rest) fr L s := fun ht a hr ho => by
  obtain ⟨h1, h2⟩ := h ht ho none pos af none a.eval (fun x v hx => hr.ev hx)
  simp only [wpList, Region.wanted, if_true]
  refine .inl ?_
  simp only [Oper.wp, h1, Oper.upon]
  exact k ht _ hr h2
theorem JO_q (h : QE P TT D fr op ty L s v) (hd : Nat.blt d n = true) (k : JO P TT D n ops Q rest ((d, v) :: fr) L s) : JO P TT D n ops Q (⟨some d, op, ty, pos, af, none⟩ :: rest) fr L s :=
  JO_ev hd (fun ht ho dst pos af g ρ hρ => ⟨h ht dst pos af g ρ hρ L s ho (Le.refl _) (fun _ hx => hx), ho⟩) k
def gslot (ops : Array Oper) (j : Nat) : Option Nat := (ops[j]?).bind (·.dst)
theorem JO_gT {dst : Option Nat} {j t : Nat} {w : Bool} (hj : gslot ops j = some t) (hv : flook fr t = some (.bool w))
    (k : JO P TT D n ops Q (⟨dst, op, ty, pos, af, none⟩ :: rest) fr L s) : JO P TT D n ops Q (⟨dst, op, ty, pos, af, some (j, w)⟩ :: rest) fr L s := fun ht a hr ho => by
  have k1 := k ht a hr ho
  have hy : yielded ops a.tmps j = some w := by
    have h1 := hr.slot t (hr.top _ _ hv) _ hv
    unfold gslot at hj
    simp [yielded, hj, h1]
  simp only [wpList, Region.wanted, if_true] at k1
  simp only [wpList, Region.wanted, hy, beq_self_eq_true, if_true]
  exact k1
theorem JO_gF {d : Nat} {j t : Nat} {w b : Bool} (hd : Nat.blt d n = true) (hj : gslot ops j = some t) (hv : flook fr t = some (.bool b)) (hb : (b != w) = true)
    (k : JO P TT D n ops Q rest ((d, undef) :: fr) L s) : JO P TT D n ops Q (⟨some d, op, ty, pos, af, some (j, w)⟩ :: rest) fr L s := fun ht a hr ho => by
  have hy : yielded ops a.tmps j = some b := by
    have h1 := hr.slot t (hr.top _ _ hv) _ hv
    unfold gslot at hj
    simp [yielded, hj, h1]
  have hne : (some b == some w) = false := by cases b <;> cases w <;> simp_all
  simp only [wpList, Region.wanted, hy, hne, Bool.false_eq_true, if_false]
  exact k ht _ (hr.put hd undef) ho
theorem JO_gU {d : Nat} {j t : Nat} {w : Bool} (hd : Nat.blt d n = true) (hj : gslot ops j = some t) (hv : flook fr t = some undef)
    (k : JO P TT D n ops Q rest ((d, undef) :: fr) L s) : JO P TT D n ops Q (⟨some d, op, ty, pos, af, some (j, w)⟩ :: rest) fr L s := fun ht a hr ho => by
  have hy : yielded ops a.tmps j = none := by
    have h1 := hr.slot t (hr.top _ _ hv) _ hv
    unfold gslot at hj
    simp [yielded, hj, h1, undef]
  simp only [wpList, Region.wanted, hy]
  exact k ht _ (hr.put hd undef) ho
theorem JO_case {l : List Oper} {t : Nat} {b : Bool} (hv : flook fr t = some (.bool b)) (h1 : b = true → JO P TT D n ops Q l ((t, .bool true) :: fr) L s) (h2 : b = false → JO P TT D n ops Q l ((t, .bool false) :: fr) L s) :
    JO P TT D n ops Q l fr L s := fun ht a hr ho => by
  cases b with
  | true => exact h1 rfl ht a (hr.sub fun t' v' h => by rw [flook_cons] at h; split at h <;> simp_all) ho
  | false => exact h2 rfl ht a (hr.sub fun t' v' h => by rw [flook_cons] at h; split at h <;> simp_all) ho
theorem JO_caseD {l : List Oper} {t : Nat} {p : Prop} [Decidable p] (hv : flook fr t = some (.bool (decide p))) (h1 : p → JO P TT D n ops Q l ((t, .bool true) :: fr) L s) (h2 : ¬ p → JO P TT D n ops Q l ((t, .bool false) :: fr) L s) :
    JO P TT D n ops Q l fr L s := JO_case hv (fun h => h1 (of_decide_eq_true h)) (fun h => h2 (of_decide_eq_false h))
theorem JO_caseM {l : List Oper} {t : Nat} {b : Bool} (hv : flook fr t = some (.bool (!b))) (h1 : b = false → JO P TT D n ops Q l ((t, .bool true) :: fr) L s) (h2 : b = true → JO P TT D n ops Q l ((t, .bool false) :: fr) L s) :
    JO P TT D n ops Q l fr L s := JO_case hv (fun h => h1 (by simpa using h)) (fun h => h2 (by simpa using h))
theorem JO_caseN {l : List Oper} {t : Nat} {p : Prop} [Decidable p] (hv : flook fr t = some (.bool (!decide p))) (h1 : ¬ p → JO P TT D n ops Q l ((t, .bool true) :: fr) L s) (h2 : p → JO P TT D n ops Q l ((t, .bool false) :: fr) L s) :
    JO P TT D n ops Q l fr L s := JO_case hv (fun h => h1 (by simpa using h)) (fun h => h2 (by simpa using h))
end
section
variable {P : Program} {TT : TyTab} {D : Nat} {fr : Fr} {ty : Nat} {v : Value} {K : Hl} {s0 : World}
theorem QE_mv {x : Operand} (hx : lk fr x = some v) : QE P TT D fr (.move x) ty K s0 v := QE.pure fun _ dst pos af g ρ hρ w => by simp [execOp, hρ x v hx]
theorem QE_as {x : Operand} (hx : lk fr x = some v) : QE P TT D fr (.assign x) ty K s0 v := QE.pure fun _ dst pos af g ρ hρ w => by simp [execOp, hρ x v hx]
theorem QE_pickT {c x y : Operand} (hc : lk fr c = some (.bool true)) (hx : lk fr x = some v) : QE P TT D fr (.pick c x y) ty K s0 v := QE.pure fun _ dst pos af g ρ hρ w => by simp [execOp, hρ x v hx, hρ c _ hc, asBool]
theorem QE_pickF {c x y : Operand} (hc : lk fr c = some (.bool false)) (hx : lk fr y = some v) : QE P TT D fr (.pick c x y) ty K s0 v := QE.pure fun _ dst pos af g ρ hρ w => by simp [execOp, hρ y v hx, hρ c _ hc, asBool]
theorem QE_not {x : Operand} {b : Bool} {t : Nat} (hx : lk fr x = some (.bool b)) : QE P TT D fr (.unOp .not t x) ty K s0 (.bool (!b)) := QE.pure fun _ dst pos af g ρ hρ w => by simp [execOp, hρ x _ hx, Op.unary]
theorem QE_notT {x : Operand} {t : Nat} (hx : lk fr x = some (.bool true)) : QE P TT D fr (.unOp .not t x) ty K s0 (.bool false) := QE_not hx
theorem QE_notF {x : Operand} {t : Nat} (hx : lk fr x = some (.bool false)) : QE P TT D fr (.unOp .not t x) ty K s0 (.bool true) := QE_not hx
def nth : List Value → Nat → Option Value
  | [], _ => none
  | x :: _, 0 => some x
  | _ :: r, k + 1 => nth r k
theorem nth_eq (l : List Value) (i : Nat) : nth l i = l[i]? := by
  induction l generalizing i with
  | nil => rfl
  | cons x l ih => cases i <;> simp [nth, ih]
theorem QE_ext {x : Operand} {i : Nat} {vs : List Value} (hx : lk fr x = some (.tuple vs.toArray)) (hi : nth vs i = some v) : QE P TT D fr (.extract x i) ty K s0 v :=
  QE.pure fun _ dst pos af g ρ hρ w => by rw [nth_eq] at hi; simp [execOp, hρ x _ hx, Instr.extract, hi]
theorem QE_eq {x y : Operand} {ik : IntKind} {a b : Int} {t t' : Nat} (hx : lk fr x = some (.int ik a)) (hy : lk fr y = some (.int ik b)) : QE P TT D fr (.binOp .eql t x y t') ty K s0 (.bool (decide (a = b))) :=
  QE.pure fun _ dst pos af g ρ hρ w => by simp [execOp, hρ x _ hx, hρ y _ hy, eqGuard, binOp, Op.intCmp]; rfl
theorem QE_ne {x y : Operand} {ik : IntKind} {a b : Int} {t t' : Nat} (hx : lk fr x = some (.int ik a)) (hy : lk fr y = some (.int ik b)) : QE P TT D fr (.binOp .neq t x y t') ty K s0 (.bool (!decide (a = b))) :=
  QE.pure fun _ dst pos af g ρ hρ w => by simp [execOp, hρ x _ hx, hρ y _ hy, eqGuard, binOp, Op.intCmp]; rfl
theorem QE_lt {x y : Operand} {ik : IntKind} {a b : Int} {t t' : Nat} (hx : lk fr x = some (.int ik a)) (hy : lk fr y = some (.int ik b)) : QE P TT D fr (.binOp .lss t x y t') ty K s0 (.bool (decide (a < b))) :=
  QE.pure fun _ dst pos af g ρ hρ w => by simp [execOp, hρ x _ hx, hρ y _ hy, eqGuard, binOp, Op.intCmp]
theorem QE_le {x y : Operand} {ik : IntKind} {a b : Int} {t t' : Nat} (hx : lk fr x = some (.int ik a)) (hy : lk fr y = some (.int ik b)) : QE P TT D fr (.binOp .leq t x y t') ty K s0 (.bool (decide (a ≤ b))) :=
  QE.pure fun _ dst pos af g ρ hρ w => by simp [execOp, hρ x _ hx, hρ y _ hy, eqGuard, binOp, Op.intCmp]
theorem QE_gt {x y : Operand} {ik : IntKind} {a b : Int} {t t' : Nat} (hx : lk fr x = some (.int ik a)) (hy : lk fr y = some (.int ik b)) : QE P TT D fr (.binOp .gtr t x y t') ty K s0 (.bool (decide (b < a))) :=
  QE.pure fun _ dst pos af g ρ hρ w => by simp [execOp, hρ x _ hx, hρ y _ hy, eqGuard, binOp, Op.intCmp]
theorem QE_ge {x y : Operand} {ik : IntKind} {a b : Int} {t t' : Nat} (hx : lk fr x = some (.int ik a)) (hy : lk fr y = some (.int ik b)) : QE P TT D fr (.binOp .geq t x y t') ty K s0 (.bool (decide (b ≤ a))) :=
  QE.pure fun _ dst pos af g ρ hρ w => by simp [execOp, hρ x _ hx, hρ y _ hy, eqGuard, binOp, Op.intCmp]
theorem QE_add {x y : Operand} {ik : IntKind} {a b : Int} {t t' : Nat} (hx : lk fr x = some (.int ik a)) (hy : lk fr y = some (.int ik b)) : QE P TT D fr (.binOp .add t x y t') ty K s0 (.int ik (ik.wrap (a + b))) :=
  QE.pure fun _ dst pos af g ρ hρ w => by simp [execOp, hρ x _ hx, hρ y _ hy, eqGuard, binOp, Op.intArith]
theorem QE_add' {x y : Operand} {ik : IntKind} {a b c : Int} {t t' : Nat} (hx : lk fr x = some (.int ik a)) (hy : lk fr y = some (.int ik b)) (hc : ik.wrap (a + b) = c) : QE P TT D fr (.binOp .add t x y t') ty K s0 (.int ik c) := hc ▸ QE_add hx hy
theorem QE_sub {x y : Operand} {ik : IntKind} {a b : Int} {t t' : Nat} (hx : lk fr x = some (.int ik a)) (hy : lk fr y = some (.int ik b)) : QE P TT D fr (.binOp .sub t x y t') ty K s0 (.int ik (ik.wrap (a - b))) :=
  QE.pure fun _ dst pos af g ρ hρ w => by simp [execOp, hρ x _ hx, hρ y _ hy, eqGuard, binOp, Op.intArith]
theorem QE_sub' {x y : Operand} {ik : IntKind} {a b c : Int} {t t' : Nat} (hx : lk fr x = some (.int ik a)) (hy : lk fr y = some (.int ik b)) (hc : ik.wrap (a - b) = c) : QE P TT D fr (.binOp .sub t x y t') ty K s0 (.int ik c) := hc ▸ QE_sub hx hy
theorem QE_mul {x y : Operand} {ik : IntKind} {a b : Int} {t t' : Nat} (hx : lk fr x = some (.int ik a)) (hy : lk fr y = some (.int ik b)) : QE P TT D fr (.binOp .mul t x y t') ty K s0 (.int ik (ik.wrap (a * b))) :=
  QE.pure fun _ dst pos af g ρ hρ w => by simp [execOp, hρ x _ hx, hρ y _ hy, eqGuard, binOp, Op.intArith]
theorem QE_mul' {x y : Operand} {ik : IntKind} {a b c : Int} {t t' : Nat} (hx : lk fr x = some (.int ik a)) (hy : lk fr y = some (.int ik b)) (hc : ik.wrap (a * b) = c) : QE P TT D fr (.binOp .mul t x y t') ty K s0 (.int ik c) := hc ▸ QE_mul hx hy
theorem QE_quo {x y : Operand} {ik : IntKind} {a b : Int} {t t' : Nat} (hx : lk fr x = some (.int ik a)) (hy : lk fr y = some (.int ik b)) (hb : b ≠ 0) : QE P TT D fr (.binOp .quo t x y t') ty K s0 (.int ik (ik.wrap (a.tdiv b))) :=
  QE.pure fun _ dst pos af g ρ hρ w => by simp [execOp, hρ x _ hx, hρ y _ hy, eqGuard, binOp, Op.intDiv, hb]
theorem QE_rem {x y : Operand} {ik : IntKind} {a b : Int} {t t' : Nat} (hx : lk fr x = some (.int ik a)) (hy : lk fr y = some (.int ik b)) (hb : b ≠ 0) : QE P TT D fr (.binOp .rem t x y t') ty K s0 (.int ik (a.tmod b)) :=
  QE.pure fun _ dst pos af g ρ hρ w => by simp [execOp, hρ x _ hx, hρ y _ hy, eqGuard, binOp, Op.intDiv, hb]
theorem QE_seq {x y : Operand} {a b : List UInt8} {t t' : Nat} (hx : lk fr x = some (St a)) (hy : lk fr y = some (St b)) : QE P TT D fr (.binOp .eql t x y t') ty K s0 (.bool (decide (a = b))) :=
  QE.pure fun _ dst pos af g ρ hρ w => by simp [execOp, hρ x _ hx, hρ y _ hy, eqGuard, binOp, Op.stringOp]; by_cases h : a = b <;> simp [h]
theorem QE_sne {x y : Operand} {a b : List UInt8} {t t' : Nat} (hx : lk fr x = some (St a)) (hy : lk fr y = some (St b)) : QE P TT D fr (.binOp .neq t x y t') ty K s0 (.bool (!decide (a = b))) :=
  QE.pure fun _ dst pos af g ρ hρ w => by simp [execOp, hρ x _ hx, hρ y _ hy, eqGuard, binOp, Op.stringOp]; by_cases h : a = b <;> simp [h]
theorem run_bool_eql {P : Program} {t : Nat} (h : P.underlying t = some .bool) (a b : Bool) (w : World) : (Op.equal t (.bool a) (.bool b)).run P w = .ok (decide (a = b)) w := by
  rw [run_equal_bool w t a b h]
  cases a <;> cases b <;> rfl
def EqA (P : Program) (t : Nat) (xs ys : List Value) (b : Bool) : Prop := P.eqGuardType P.depth t = false ∧ ∀ w, (Op.equal t (.agg xs.toArray) (.agg ys.toArray)).run P w = .ok b w
theorem QE_aeq {x y : Operand} {xs ys : List Value} {b : Bool} {t t' : Nat} (hx : lk fr x = some (.agg xs.toArray)) (hy : lk fr y = some (.agg ys.toArray)) (hE : EqA P t xs ys b) : QE P TT D fr (.binOp .eql t x y t') ty K s0 (.bool b) :=
  QE.pure fun ht dst pos af g ρ hρ w => by simp [execOp, hρ x _ hx, hρ y _ hy, eqGuard, binOp, hE.1, hE.2 w]
theorem QE_ane {x y : Operand} {xs ys : List Value} {b : Bool} {t t' : Nat} (hx : lk fr x = some (.agg xs.toArray)) (hy : lk fr y = some (.agg ys.toArray)) (hE : EqA P t xs ys b) : QE P TT D fr (.binOp .neq t x y t') ty K s0 (.bool (!b)) :=
  QE.pure fun ht dst pos af g ρ hρ w => by simp [execOp, hρ x _ hx, hρ y _ hy, eqGuard, binOp, hE.1, hE.2 w]
theorem QE_beq {x y : Operand} {a b : Bool} {t t' : Nat} {ti : TI} (hx : lk fr x = some (.bool a)) (hy : lk fr y = some (.bool b)) (hu : tlook TT t = some ti) (hu' : ti.desc = .bool) : QE P TT D fr (.binOp .eql t x y t') ty K s0 (.bool (decide (a = b))) :=
  QE.pure fun ht dst pos af g ρ hρ w => by
    have h1 := (ht.at_ hu).1; rw [hu'] at h1
    simp [execOp, hρ x _ hx, hρ y _ hy, eqGuard, binOp, run_bool_eql h1]
theorem QE_bne {x y : Operand} {a b : Bool} {t t' : Nat} {ti : TI} (hx : lk fr x = some (.bool a)) (hy : lk fr y = some (.bool b)) (hu : tlook TT t = some ti) (hu' : ti.desc = .bool) : QE P TT D fr (.binOp .neq t x y t') ty K s0 (.bool (!decide (a = b))) :=
  QE.pure fun ht dst pos af g ρ hρ w => by
    have h1 := (ht.at_ hu).1; rw [hu'] at h1
    simp [execOp, hρ x _ hx, hρ y _ hy, eqGuard, binOp, run_bool_eql h1]
end
end Go.FL
namespace Go.FL
open Go Go.RowKit
def CellsAt (s : World) (b off : Nat) (vs : List Value) : Prop := ∀ j v, vs[j]? = some v → s.cell? ⟨b, off + j, none⟩ = some v
theorem CellsAt.le {D : Nat} {s s' : World} {b off : Nat} {vs : List Value} (h : CellsAt s b off vs) (hl : Le D s s') : CellsAt s' b off vs := fun j v hj => hl.cell (h j v hj)
theorem CellsAt.one {s : World} {b off : Nat} {v : Value} (h : s.cell? ⟨b, off, none⟩ = some v) : CellsAt s b off [v] := fun j u hj => by
  cases j with
  | zero => simp at hj; subst hj; exact h
  | succ j => simp at hj
theorem add_lit (b off j : Nat) : (⟨b, off, none⟩ : Addr).add j = ⟨b, off + j, none⟩ := by unfold Addr.add; split <;> simp_all
section
variable {P : Program} {TT : TyTab} {D : Nat}
theorem run_isAgg_sc {t : Nat} {ti : TI} (h : ti.ok P t) (hk : ti.kind = .sc) (w : World) : (isAgg t).run P w = .ok false w := by
  obtain ⟨h1, h2, _⟩ := h
  rw [hk] at h2
  unfold isAgg
  simp only [Sem.run_bind, run_underlying h1, Result.andThen_ok]
  generalize ti.desc = dd at h2
  cases dd <;> simp_all [TK.fits]
theorem run_isAgg_sl {t e : Nat} {ti : TI} (h : ti.ok P t) (hk : ti.kind = .sl e) (w : World) : (isAgg t).run P w = .ok false w := by
  obtain ⟨h1, h2, _⟩ := h
  rw [hk] at h2
  unfold isAgg
  simp only [TK.fits] at h2
  simp [run_underlying h1, h2]
theorem run_isAgg_st {t : Nat} {os : List Nat} {ti : TI} (h : ti.ok P t) (hk : ti.kind = .st os) (w : World) : (isAgg t).run P w = .ok true w := by
  obtain ⟨h1, h2, _⟩ := h
  rw [hk] at h2
  unfold isAgg
  simp only [Sem.run_bind, run_underlying h1, Result.andThen_ok]
  generalize ti.desc = dd at h2
  cases dd <;> simp_all [TK.fits]
theorem run_isAgg_ar {t m e : Nat} {ti : TI} (h : ti.ok P t) (hk : ti.kind = .ar m e) (w : World) : (isAgg t).run P w = .ok true w := by
  obtain ⟨h1, h2, _⟩ := h
  rw [hk] at h2
  unfold isAgg
  simp only [TK.fits] at h2
  simp [run_underlying h1, h2]
theorem info_of {t : Nat} {ti : TI} (h : ti.ok P t) : ∃ i, P.info? t = some i ∧ i.size = ti.size ∧ i.bytes = ti.bytes ∧ i.zero = some ti.zero := by
  obtain ⟨_, _, h3, _⟩ := h
  cases hi : P.info? t with
  | none => simp [hi] at h3
  | some i => simp [hi] at h3; exact ⟨i, rfl, h3.1, h3.2.1, h3.2.2⟩
theorem run_sizeOf' {t : Nat} {ti : TI} (h : ti.ok P t) (w : World) : (sizeOf t).run P w = .ok ti.size w := by
  obtain ⟨i, h1, h2, _, _⟩ := info_of h
  simp [sizeOf, typeInfo, h1, h2]
theorem run_zero' {t : Nat} {ti : TI} (h : ti.ok P t) (w : World) : (zeroValue t).run P w = .ok ti.zero w := by
  obtain ⟨i, h1, _, _, h2⟩ := info_of h
  simp [zeroValue, typeInfo, h1, h2]
theorem run_isAgg' {t : Nat} {ti : TI} (h : ti.ok P t) (w : World) : (isAgg t).run P w = .ok (!isOne ti.kind) w := by
  cases hk : ti.kind with
  | sc => exact run_isAgg_sc h hk w
  | sl e => exact run_isAgg_sl h hk w
  | st os => exact run_isAgg_st h hk w
  | ar m e => exact run_isAgg_ar h hk w
theorem zero_cells {t : Nat} {ti : TI} (h : ti.ok P t) : ti.zero.cells = ti.zeros.toArray := by
  obtain ⟨h1, h2, h3, h4, h5, h6, h7, _⟩ := h
  unfold TI.zero
  cases hk : ti.kind with
  | st os => rfl
  | ar m e => rfl
  | sc =>
    have hl : ti.zeros.length = 1 := by rw [h4]; exact h7 (by rw [hk]; rfl)
    match hz : ti.zeros, hl with
    | [z], _ => rw [hz] at h5; simp at h5; simp only [List.headD]; cases z <;> simp_all [Value.oneCell', Value.cells]
  | sl e =>
    have hl : ti.zeros.length = 1 := by rw [h4]; exact h7 (by rw [hk]; rfl)
    match hz : ti.zeros, hl with
    | [z], _ => rw [hz] at h5; simp at h5; simp only [List.headD]; cases z <;> simp_all [Value.oneCell', Value.cells]
theorem run_new (t : TypeId) (cs : Array Value) (w : World) : (newRow t cs).run P w = .ok ⟨w.heap.size, 0, none⟩ (w.alloc (.cells cs t)) := by
  simp [newRow]
def cellsL : Value → List Value
  | .agg cs => cs.toList
  | v => [v]
theorem cells_cellsL (v : Value) : v.cells = (cellsL v).toArray := by cases v <;> simp [Value.cells, cellsL]
theorem run_loadVar_one {t : Nat} {ti : TI} (h : ti.ok P t) (hk : isOne ti.kind = true) {w : World} {a : Addr} {v : Value} (hc : w.cell? a = some v) : (loadVar t a).run P w = .ok v w := by
  simp [loadVar, run_isAgg' h, hk, hc]
theorem run_loadVar_agg {t : Nat} {ti : TI} (h : ti.ok P t) (hk : isOne ti.kind = false) {w : World} {b off : Nat} {vs : List Value} (hl : vs.length = ti.size)
    (hc : ∀ j v, vs[j]? = some v → w.cell? ⟨b, off + j, none⟩ = some v) : (loadVar t ⟨b, off, none⟩).run P w = .ok (.agg vs.toArray) w := by
  have h1 := run_loadCells_list (P := P) w ⟨b, off, none⟩ vs (fun j v hj => by rw [add_lit]; exact hc j v hj)
  simp [loadVar, run_isAgg' h, hk, run_sizeOf' h, ← hl, h1]
theorem cb_cell {L : Hl} {s : World} (ho : OKL D L s) {i b t : Nat} {zs : List Value} (hi : L[i]? = some (b, cb zs t)) (j : Nat) : (fill L s).cell? ⟨b, j, none⟩ = zs[j]? := by
  have := fill_mem ho (List.mem_of_getElem? hi)
  simp [World.cell?, this, cb]
def cut (zs : List Value) (off : Nat) : Nat → Option (List Value)
  | 0 => some []
  | n + 1 => match nth zs off with
    | some v => match cut zs (off + 1) n with
      | some r => some (v :: r)
      | none => none
    | none => none
theorem cut_spec {zs : List Value} {off n : Nat} {vs : List Value} (h : cut zs off n = some vs) : vs.length = n ∧ ∀ j v, vs[j]? = some v → zs[off + j]? = some v := by
  induction n generalizing off vs with
  | zero => simp [cut] at h; subst h; simp
  | succ n ih =>
    simp only [cut] at h
    cases h1 : nth zs off with
    | none => simp [h1] at h
    | some x =>
      cases h2 : cut zs (off + 1) n with
      | none => simp [h1, h2] at h
      | some r =>
        simp [h1, h2] at h
        subst h
        obtain ⟨k1, k2⟩ := ih h2
        refine ⟨by simp [k1], fun j v hj => ?_⟩
        cases j with
        | zero => simp at hj; subst hj; rw [nth_eq] at h1; exact h1
        | succ j => simp at hj; have := k2 j v hj; rwa [Nat.add_right_comm, Nat.add_assoc] at this
end
section
variable {P : Program} {TT : TyTab} {D n : Nat} {Q : APost} {fr : Fr} {L L' K : Hl} {s s' s0 : World} {ops : Array Oper} {rest : List Oper} {d ty : Nat} {op : Op} {pos : String} {af : Array Edge} {v : Value}
theorem Ev_alloc {t : Nat} {ti : TI} (ht : tlook TT t = some ti) (ho : OKL D L s) : Ev P TT D fr (.alloc t) ty L s (.value (.pointer (some ⟨s.heap.size, 0, none⟩))) ((s.heap.size, cb ti.zeros t) :: L) (s.alloc (dum D)) := fun hT _ dst pos af g ρ _ => by
  obtain ⟨h1, h2, h3⟩ := alloc_fill ho (cb ti.zeros t)
  refine ⟨?_, h2⟩
  have hz := zero_cells (hT.at_ ht)
  simp only [execOp, Instr.alloc, Sem.run_bind, run_zero' (hT.at_ ht), Result.andThen_ok, newVar, run_new, hz, Sem.run_pure, fill_size]
  rw [← h1]; rfl
theorem Ev_box {t : Nat} {x : Operand} {zs : List Value} (hx : lk fr x = some v) (hz : cellsL v = zs) (ho : OKL D L s) : Ev P TT D fr (.box t x) ty L s (.value (.pointer (some ⟨s.heap.size, 0, none⟩))) ((s.heap.size, cb zs t) :: L) (s.alloc (dum D)) := fun hT _ dst pos af g ρ hρ => by
  obtain ⟨h1, h2, h3⟩ := alloc_fill ho (cb zs t)
  refine ⟨?_, h2⟩
  simp only [execOp, Instr.box, Sem.run_bind, Result.andThen_ok, newVar, run_new, Sem.run_pure, fill_size, hρ x v hx, cells_cellsL, hz]
  rw [← h1]; rfl
theorem JO_alloc {t : Nat} {ti : TI} (ht : tlook TT t = some ti) (hd : Nat.blt d n = true)
    (k : ∀ β s', Le D s s' → JO P TT D n ops Q rest ((d, .pointer (some ⟨β, 0, none⟩)) :: fr) ((β, cb ti.zeros t) :: L) s') : JO P TT D n ops Q (⟨some d, .alloc t, ty, pos, af, none⟩ :: rest) fr L s := fun hT a hr ho =>
  JO_ev hd (Ev_alloc ht ho) (k _ _ (alloc_fill ho (cb ti.zeros t)).2.2) hT a hr ho
theorem JO_allocZ {t : Nat} {ti : TI} (ht : tlook TT t = some ti) (zs : List Value) (hz : ti.zeros = zs) (hd : Nat.blt d n = true)
    (k : ∀ β s', Le D s s' → JO P TT D n ops Q rest ((d, .pointer (some ⟨β, 0, none⟩)) :: fr) ((β, cb zs t) :: L) s') : JO P TT D n ops Q (⟨some d, .alloc t, ty, pos, af, none⟩ :: rest) fr L s := by subst hz; exact JO_alloc ht hd k
theorem JO_box {t : Nat} {x : Operand} {zs : List Value} (hx : lk fr x = some v) (hz : cellsL v = zs) (hd : Nat.blt d n = true)
    (k : ∀ β s', Le D s s' → JO P TT D n ops Q rest ((d, .pointer (some ⟨β, 0, none⟩)) :: fr) ((β, cb zs t) :: L) s') : JO P TT D n ops Q (⟨some d, .box t x, ty, pos, af, none⟩ :: rest) fr L s := fun hT a hr ho =>
  JO_ev hd (Ev_box hx hz ho) (k _ _ (alloc_fill ho (cb zs t)).2.2) hT a hr ho
theorem JO_boxA {t : Nat} {x : Operand} {zs : List Value} (hx : lk fr x = some (.agg zs.toArray)) (hd : Nat.blt d n = true)
    (k : ∀ β s', Le D s s' → JO P TT D n ops Q rest ((d, .pointer (some ⟨β, 0, none⟩)) :: fr) ((β, cb zs t) :: L) s') : JO P TT D n ops Q (⟨some d, .box t x, ty, pos, af, none⟩ :: rest) fr L s :=
  JO_box hx (by simp [cellsL]) hd k
theorem mem_cell {zs : List Value} {b t j : Nat} (ho : OKL D L s) (hi : (b, cb zs t) ∈ L) : (fill L s).cell? ⟨b, j, none⟩ = zs[j]? := by
  have := fill_mem ho hi
  simp [World.cell?, this, cb]
theorem QE_ld1 {t b off : Nat} {x : Operand} {ti : TI} {t' : Nat} {zs : List Value} (i : Nat) (hx : lk fr x = some (.pointer (some ⟨b, off, none⟩))) (hi : K[i]? = some (b, cb zs t')) (ht : tlook TT t = some ti) (hk : isOne ti.kind = true)
    (hv : nth zs off = some v) : QE P TT D fr (.load t x) ty K s0 v := fun hT dst pos af g ρ hρ L s ho _ hK => by
  have hc : (fill L s).cell? ⟨b, off, none⟩ = some v := by rw [mem_cell ho (hK _ (List.mem_of_getElem? hi)), ← nth_eq]; exact hv
  simp [execOp, hρ x _ hx, Instr.loadAt, Instr.sureAddr, run_loadVar_one (hT.at_ ht) hk hc]
theorem QE_ldA {t b off : Nat} {x : Operand} {ti : TI} {t' : Nat} {zs : List Value} (i : Nat) (vs : List Value) (hx : lk fr x = some (.pointer (some ⟨b, off, none⟩))) (hi : K[i]? = some (b, cb zs t')) (ht : tlook TT t = some ti) (hk : isOne ti.kind = false)
    (hv : cut zs off ti.size = some vs) : QE P TT D fr (.load t x) ty K s0 (.agg vs.toArray) := fun hT dst pos af g ρ hρ L s ho _ hK => by
  obtain ⟨h1, h2⟩ := cut_spec hv
  have hc : ∀ j v, vs[j]? = some v → (fill L s).cell? ⟨b, off + j, none⟩ = some v := fun j v hj => by rw [mem_cell ho (hK _ (List.mem_of_getElem? hi))]; exact h2 j v hj
  simp [execOp, hρ x _ hx, Instr.loadAt, Instr.sureAddr, run_loadVar_agg (hT.at_ ht) hk h1 hc]
theorem QE_lds {t b off : Nat} {x : Operand} {ti : TI} (hx : lk fr x = some (.pointer (some ⟨b, off, none⟩))) (ht : tlook TT t = some ti) (hk : isOne ti.kind = true)
    (hv : s0.cell? ⟨b, off, none⟩ = some v) : QE P TT D fr (.load t x) ty K s0 v := fun hT dst pos af g ρ hρ L s ho hl _ => by
  simp [execOp, hρ x _ hx, Instr.loadAt, Instr.sureAddr, run_loadVar_one (hT.at_ ht) hk (fill_cell ho (hl.cell hv))]
theorem QE_ldsA {t b off : Nat} {x : Operand} {ti : TI} {vs : List Value} (hx : lk fr x = some (.pointer (some ⟨b, off, none⟩))) (ht : tlook TT t = some ti) (hk : isOne ti.kind = false)
    (hv : CellsAt s0 b off vs) (hl : vs.length = ti.size) : QE P TT D fr (.load t x) ty K s0 (.agg vs.toArray) := fun hT dst pos af g ρ hρ L s ho hle _ => by
  simp [execOp, hρ x _ hx, Instr.loadAt, Instr.sureAddr, run_loadVar_agg (hT.at_ ht) hk hl (fun j v hj => fill_cell ho (hle.cell (hv j v hj)))]
theorem QE_ldsR {t b off : Nat} {x : Operand} {ti : TI} {vs : List Value} (j : Nat) (hx : lk fr x = some (.pointer (some ⟨b, off + j, none⟩))) (ht : tlook TT t = some ti) (hk : isOne ti.kind = true)
    (hv : CellsAt s0 b off vs) (hj : nth vs j = some v) : QE P TT D fr (.load t x) ty K s0 v := QE_lds hx ht hk (hv j v (by rw [← nth_eq]; exact hj))
theorem QE_ldsR0 {t b off : Nat} {x : Operand} {ti : TI} {vs : List Value} (hx : lk fr x = some (.pointer (some ⟨b, off, none⟩))) (ht : tlook TT t = some ti) (hk : isOne ti.kind = true)
    (hv : CellsAt s0 b off vs) (hj : nth vs 0 = some v) : QE P TT D fr (.load t x) ty K s0 v := QE_lds hx ht hk (hv 0 v (by rw [← nth_eq]; exact hj))
def splice (zs : List Value) (off : Nat) (vs : List Value) : List Value := match vs with
  | [] => zs
  | v :: vs => match zs, off with
    | [], _ => []
    | _ :: zs, 0 => v :: splice zs 0 vs
    | z :: zs, o + 1 => z :: splice zs o (v :: vs)
theorem splice_eq (zs : List Value) (off : Nat) (vs : List Value) (h : off + vs.length ≤ zs.length) : splice zs off vs = zs.take off ++ vs ++ zs.drop (off + vs.length) := by
  induction zs generalizing off vs with
  | nil => cases vs <;> simp_all [splice]
  | cons z zs ih =>
    cases vs with
    | nil => simp [splice]
    | cons v vs =>
      cases off with
      | zero => simp only [splice]; rw [ih 0 vs (by simp at h ⊢; omega)]; simp
      | succ o => simp only [splice]; rw [ih o (v :: vs) (by simp at h ⊢; omega)]; simp; rw [show o + 1 + (vs.length + 1) = (o + (vs.length + 1)) + 1 by omega]; rfl
theorem setRow_setBlk {w : World} {b t : Nat} {cs : Array Value} {fz : Nat × Nat} (h : w.heap[b]? = some (.cells cs t fz)) (ds : Array Value) : w.setRow b ds = setBlk w b (.cells ds t fz) := by
  refine world_eq (heap_ext fun k => ?_) rfl rfl rfl rfl
  by_cases hk : k = b
  · subst hk
    rw [setRow_heap w k cs ds t fz h, setBlk_same]
    rcases Nat.lt_or_ge k w.heap.size with h1 | h1
    · exact h1
    · rw [Array.getElem?_eq_none h1] at h; cases h
  · rw [setRow_other w b k ds hk, setBlk_other _ (fun e => hk e.symm)]
theorem Ev_st {t b off : Nat} {x y : Operand} {ti : TI} {t' : Nat} {zs : List Value} (i : Nat) (zs' : List Value) (hx : lk fr x = some (.pointer (some ⟨b, off, none⟩))) (hy : lk fr y = some v) (hi : L[i]? = some (b, cb zs t')) (ht : tlook TT t = some ti)
    (hl : (cellsL v).length = ti.size) (hle : Nat.ble (off + ti.size) zs.length = true) (h1 : (cellsL v).all (·.oneCell') = true) (hs : splice zs off (cellsL v) = zs') : Ev P TT D fr (.store t x y) ty L s .skip (setL L i (cb zs' t')) s := fun hT ho dst pos af g ρ hρ => ⟨by
    have hg := fill_mem ho (List.mem_of_getElem? hi)
    have hle' : off + ti.size ≤ zs.length := Nat.le_of_ble_eq_true hle
    have hst := run_storeCells_at (P := P) b off t' (cellsL v) 0 zs.toArray (fill L s) hg (by simp [hl]; omega) (by simpa using h1)
    rw [fill_setL ho hi, ← hs, splice_eq zs off (cellsL v) (by rw [hl]; exact hle'), cb, ← setRow_setBlk hg]
    simp only [Nat.add_zero, List.toList_toArray] at hst
    have hsz : (cellsL v).toArray.size = ti.size := by simpa using hl
    simp only [execOp, hρ x _ hx, hρ y _ hy, Instr.storeAt, Instr.sureAddr, storeVar, cells_cellsL, Sem.run_bind, Sem.run_pure, Result.andThen_ok, run_sizeOf' (hT.at_ ht), hsz, ne_eq, not_true, if_false, hst, List.toList_toArray], setL_ok ho _ _⟩
theorem JO_st {t b off : Nat} {x y : Operand} {ti : TI} {t' : Nat} {zs : List Value} (i : Nat) (zs' : List Value) {L' : Hl} (hx : lk fr x = some (.pointer (some ⟨b, off, none⟩))) (hy : lk fr y = some v) (hi : L[i]? = some (b, cb zs t')) (ht : tlook TT t = some ti)
    (hl : (cellsL v).length = ti.size) (hle : Nat.ble (off + ti.size) zs.length = true) (h1 : (cellsL v).all (·.oneCell') = true) (hs : splice zs off (cellsL v) = zs') (hL : setL L i (cb zs' t') = L')
    (k : JO P TT D n ops Q rest fr L' s) : JO P TT D n ops Q (⟨none, .store t x y, ty, pos, af, none⟩ :: rest) fr L s := by
  subst hL; exact JO_sk (Ev_st i zs' hx hy hi ht hl hle h1 hs) k
end
end Go.FL
namespace Go.FL
open Go Go.RowKit
section
variable {P : Program} {TT : TyTab} {D n : Nat} {Q : APost} {fr : Fr} {L L' K : Hl} {s s' s0 : World} {ops : Array Oper} {rest : List Oper} {d ty : Nat} {op : Op} {pos : String} {af : Array Edge} {v : Value}
def nthN : List Nat → Nat → Option Nat
  | [], _ => none
  | x :: _, 0 => some x
  | _ :: r, k + 1 => nthN r k
theorem nthN_eq (l : List Nat) (i : Nat) : nthN l i = l[i]? := by
  induction l generalizing i with
  | nil => rfl
  | cons x l ih => cases i <;> simp [nthN, ih]
theorem run_fieldAt {t f fo b off : Nat} {ti : TI} {os : List Nat} (h : ti.ok P t) (hk : ti.kind = .st os) (hf : nthN os f = some fo) (w : World) :
    (Instr.fieldAt t (.pointer (some ⟨b, off, none⟩)) f).run P w = .ok (.pointer (some ⟨b, off + fo, none⟩)) w := by
  obtain ⟨h1, h2, _, _, _, _, _, h8, _⟩ := h
  rw [hk] at h2
  cases hd : ti.desc with
  | struct fs =>
    rw [hd] at h1 h2 h8
    simp only [TK.fits] at h2
    rw [nthN_eq, ← h2, List.getElem?_map] at hf
    cases hff : fs.toList[f]? with
    | none => simp [hff] at hf
    | some fld =>
      simp [hff] at hf
      have hpos : 0 < P.cellsOf fld.type := by
        have := List.all_eq_true.1 (show fs.toList.all (fun f => decide (0 < P.cellsOf f.type)) = true from h8) fld (List.mem_of_getElem? hff)
        simpa using this
      have hff' : fs[f]? = some fld := by simpa using hff
      have hsz : ∀ w, (sizeOf fld.type).run P w = .ok (P.cellsOf fld.type) w := by
        intro w
        unfold Program.cellsOf at hpos ⊢
        cases hi : P.info? fld.type with
        | none => simp [hi] at hpos
        | some i => simp [sizeOf, typeInfo, hi]
      simp [Instr.fieldAt, run_underlying h1, hff', Instr.sureAddr, fieldPlace, hsz, Nat.pos_iff_ne_zero.1 hpos, add_lit, hf]
  | _ => rw [hd] at h2; simp [TK.fits] at h2
theorem QE_fa {t f fo b off : Nat} {x : Operand} {ti : TI} {os : List Nat} (hx : lk fr x = some (.pointer (some ⟨b, off, none⟩))) (ht : tlook TT t = some ti) (hk : ti.kind = .st os) (hf : nthN os f = some fo) : QE P TT D fr (.fieldAddr t x f) ty K s0 (.pointer (some ⟨b, off + fo, none⟩)) :=
  QE.pure fun hT dst pos af g ρ hρ w => by simp [execOp, hρ x _ hx, run_fieldAt (hT.at_ ht) hk hf]
theorem QE_fa0 {t f b off : Nat} {x : Operand} {ti : TI} {os : List Nat} (hx : lk fr x = some (.pointer (some ⟨b, off, none⟩))) (ht : tlook TT t = some ti) (hk : ti.kind = .st os) (hf : nthN os f = some 0) : QE P TT D fr (.fieldAddr t x f) ty K s0 (.pointer (some ⟨b, off, none⟩)) := QE_fa hx ht hk hf
theorem QE_faB {t f fo b : Nat} {x : Operand} {ti : TI} {os : List Nat} (hx : lk fr x = some (.pointer (some ⟨b, 0, none⟩))) (ht : tlook TT t = some ti) (hk : ti.kind = .st os) (hf : nthN os f = some fo) : QE P TT D fr (.fieldAddr t x f) ty K s0 (.pointer (some ⟨b, fo, none⟩)) := by
  have := QE_fa (P := P) (D := D) (ty := ty) (K := K) (s0 := s0) hx ht hk hf
  simpa using this
theorem run_indexAt_slice {t e b off len cap : Nat} {ti te : TI} {ik : IntKind} {i : Int} (h : ti.ok P t) (hk : ti.kind = .sl e) (he : te.ok P e) (h0 : 0 ≤ i) (h1 : i < len) (w : World) :
    (Instr.indexAt t (.slice (some ⟨b, off, none⟩) len cap) (.int ik i)).run P w = .ok (.pointer (some ⟨b, off + i.toNat * te.size, none⟩)) w := by
  obtain ⟨k1, k2, _⟩ := h
  rw [hk] at k2
  simp only [TK.fits] at k2
  rw [k2] at k1
  simp [Instr.indexAt, asIntOf, run_underlying k1, h0, h1, run_sizeOf' he, add_lit]
theorem QE_ia {t e b off len cap : Nat} {x y : Operand} {ti te : TI} {ik : IntKind} {i : Int} (hx : lk fr x = some (.slice (some ⟨b, off, none⟩) len cap)) (hy : lk fr y = some (.int ik i)) (ht : tlook TT t = some ti) (hk : ti.kind = .sl e) (he : tlook TT e = some te)
    (h0 : 0 ≤ i) (h1 : i < len) : QE P TT D fr (.indexAddr t x y) ty K s0 (.pointer (some ⟨b, off + i.toNat * te.size, none⟩)) :=
  QE.pure fun hT dst pos af g ρ hρ w => by simp [execOp, hρ x _ hx, hρ y _ hy, run_indexAt_slice (hT.at_ ht) hk (hT.at_ he) h0 h1]
theorem QE_iaN {t e b off len cap : Nat} {x y : Operand} {ti te : TI} {ik : IntKind} {j sz : Nat} (hx : lk fr x = some (.slice (some ⟨b, off, none⟩) len cap)) (hy : lk fr y = some (.int ik (j : Int))) (ht : tlook TT t = some ti) (hk : ti.kind = .sl e) (he : tlook TT e = some te)
    (hs : te.size = sz) (h1 : j < len) : QE P TT D fr (.indexAddr t x y) ty K s0 (.pointer (some ⟨b, off + j * sz, none⟩)) := by
  have := QE_ia (P := P) (D := D) (ty := ty) (K := K) (s0 := s0) hx hy ht hk he (Int.natCast_nonneg _) (by omega)
  rwa [Int.toNat_natCast, hs] at this
theorem QE_ia1 {t e b off len cap : Nat} {x y : Operand} {ti te : TI} {ik : IntKind} {j : Nat} (hx : lk fr x = some (.slice (some ⟨b, off, none⟩) len cap)) (hy : lk fr y = some (.int ik (j : Int))) (ht : tlook TT t = some ti) (hk : ti.kind = .sl e) (he : tlook TT e = some te)
    (hs : te.size = 1) (h1 : j < len) : QE P TT D fr (.indexAddr t x y) ty K s0 (.pointer (some ⟨b, off + j, none⟩)) := by
  have := QE_iaN (P := P) (D := D) (ty := ty) (K := K) (s0 := s0) hx hy ht hk he hs h1
  rwa [Nat.mul_one] at this
theorem QE_ix {t : Nat} {x y : Operand} {ti : TI} {ik : IntKind} {j : Nat} {l : List UInt8} {c : UInt8} (hx : lk fr x = some (St l)) (hy : lk fr y = some (.int ik (j : Int))) (ht : tlook TT t = some ti) (hk : ti.desc = .string) (hc : l[j]? = some c) : QE P TT D fr (.index t x y) ty K s0 (.int .u8 (c.toNat : Int)) :=
  QE.pure fun hT dst pos af g ρ hρ w => by
    have k1 := (hT.at_ ht).1
    rw [hk] at k1
    have hb : (⟨l.toArray⟩ : ByteArray)[j]? = some c := by
      obtain ⟨hlt, hv⟩ := List.getElem?_eq_some_iff.1 hc
      have hlt' : j < (⟨l.toArray⟩ : ByteArray).size := by simpa [ByteArray.size] using hlt
      rw [getElem?_pos (⟨l.toArray⟩ : ByteArray) j hlt']
      simp only [ByteArray.getElem_eq_getElem_data, List.getElem_toArray, hv]
    simp [execOp, hρ x _ hx, hρ y _ hy, Instr.index, asIntOf, run_underlying k1, hb]
theorem QE_lenS {x : Operand} {t : Nat} {A : Option Addr} {m c : Nat} {ti : TI} {e : Nat} (hx : lk fr x = some (.slice A m c)) (ht : tlook TT t = some ti) (hk : ti.kind = .sl e) : QE P TT D fr (.call { callee := .builtin .len, args := #[x], argTypes := #[t] }) ty K s0 (.int .i64 (m : Int)) :=
  QE.pure fun hT dst pos af g ρ hρ w => by
    obtain ⟨k1, k2, _⟩ := hT.at_ ht
    rw [hk] at k2
    simp only [TK.fits] at k2
    rw [k2] at k1
    simp [execOp, resolve, invoke, builtin, hρ x _ hx, Builtin.len_, run_underlying k1, goInt]
theorem QE_lenT {x : Operand} {t : Nat} {l : List UInt8} {ti : TI} (hx : lk fr x = some (St l)) (ht : tlook TT t = some ti) (hk : ti.desc = .string) : QE P TT D fr (.call { callee := .builtin .len, args := #[x], argTypes := #[t] }) ty K s0 (.int .i64 (l.length : Int)) :=
  QE.pure fun hT dst pos af g ρ hρ w => by
    have k1 := (hT.at_ ht).1
    rw [hk] at k1
    have hsz : (⟨l.toArray⟩ : ByteArray).size = l.length := by simp [ByteArray.size]
    simp [execOp, resolve, invoke, builtin, hρ x _ hx, Builtin.len_, run_underlying k1, goInt, hsz]
theorem QE_conv {x : Operand} {t t' : Nat} {ik ik' : IntKind} {a : Int} {ti ti' : TI} (hx : lk fr x = some (.int ik a)) (ht : tlook TT t = some ti) (ht' : tlook TT t' = some ti') (hk : ti.desc = .int ik) (hk' : ti'.desc = .int ik') : QE P TT D fr (.convert t t' x) ty K s0 (.int ik' (ik'.wrap a)) :=
  QE.pure fun hT dst pos af g ρ hρ w => by
    have k1 := (hT.at_ ht).1
    have k2 := (hT.at_ ht').1
    rw [hk] at k1; rw [hk'] at k2
    simp [execOp, hρ x _ hx, convert, run_underlying k1, run_underlying k2, Conv.intToInt]
theorem QE_conv' {x : Operand} {t t' : Nat} {ik ik' : IntKind} {a c : Int} {ti ti' : TI} (hx : lk fr x = some (.int ik a)) (ht : tlook TT t = some ti) (ht' : tlook TT t' = some ti') (hk : ti.desc = .int ik) (hk' : ti'.desc = .int ik') (hc : ik'.wrap a = c) : QE P TT D fr (.convert t t' x) ty K s0 (.int ik' c) := hc ▸ QE_conv hx ht ht' hk hk'
def lks (fr : Fr) : List Operand → Option (List Value)
  | [] => some []
  | x :: r => match lk fr x with
    | some v => match lks fr r with
      | some vs => some (v :: vs)
      | none => none
    | none => none
theorem lks_map {fr : Fr} {ρ : Operand → Value} (hρ : ∀ x v, lk fr x = some v → ρ x = v) {xs : List Operand} {vs : List Value} (h : lks fr xs = some vs) : xs.map ρ = vs := by
  induction xs generalizing vs with
  | nil => simp [lks] at h; subst h; rfl
  | cons x xs ih =>
    simp only [lks] at h
    cases h1 : lk fr x with
    | none => simp [h1] at h
    | some v =>
      cases h2 : lks fr xs with
      | none => simp [h1, h2] at h
      | some r => simp [h1, h2] at h; subst h; simp [hρ x v h1, ih h2]
theorem QE_func {f : FuncId} {xs : List Operand} {vs : List Value} (hv : lks fr xs = some vs) : QE P TT D fr (.makeFunc (.func f) #[] xs.toArray) ty K s0 (.func (.func f) #[] vs.toArray) :=
  QE.pure fun hT dst pos af g ρ hρ w => by simp [execOp, Instr.makeFunc, lks_map hρ hv]
def FnOK (P : Program) (f : FuncId) : Prop := ∃ fn, P.funcs[f]? = some fn ∧ (fn.name == "runtime.NumGoroutine") = false ∧ fn.body.isNone = false
def AC (P : Program) (D : Nat) (f : FuncId) (args : List Value) (L : Hl) (s : World) (R : Value → Hl → World → Prop) : Prop :=
  FnOK P f ∧ (OKL D L s → Calls P f args.toArray (fill L s) fun e w' => ∃ v L' s', e = .returned v ∧ w' = fill L' s' ∧ OKL D L' s' ∧ Le D s s' ∧ R v L' s')
theorem AC.mono {f : FuncId} {args : List Value} {R R' : Value → Hl → World → Prop} (h : AC P D f args L s R) (hr : ∀ v L' s', Le D s s' → R v L' s' → R' v L' s') : AC P D f args L s R' :=
  ⟨h.1, fun ho => (h.2 ho).mono fun _ _ ⟨v, L', s', h1, h2, h3, h4, h5⟩ => ⟨v, L', s', h1, h2, h3, h4, hr _ _ _ h4 h5⟩⟩
theorem JO_call {f : FuncId} {x : Operand} {xs : List Operand} {first captured vs : List Value} {ts : Array TypeId} {R : Value → Hl → World → Prop} (hx : lk fr x = some (.func (.func f) first.toArray captured.toArray)) (hv : lks fr xs = some vs)
    (hd : Nat.blt d n = true) (h : AC P D f (first ++ vs ++ captured) L s R) (k : ∀ v L' s', Le D s s' → R v L' s' → JO P TT D n ops Q rest ((d, v) :: fr) L' s') :
    JO P TT D n ops Q (⟨some d, .call { callee := .value x, args := xs.toArray, argTypes := ts }, ty, pos, af, none⟩ :: rest) fr L s := fun hT a hr ho => by
  obtain ⟨⟨fn, h1, h2, h3⟩, hc⟩ := h
  have hρ : ∀ x v, lk fr x = some v → a.eval x = v := fun x v hx => hr.ev hx
  simp only [wpList, Region.wanted, if_true]
  refine .inl ?_
  have hrun : (execOp a.eval ⟨some d, .call { callee := .value x, args := xs.toArray, argTypes := ts }, ty, pos, af, none⟩).run P (fill L s) = .ok (.enter f (first ++ vs ++ captured).toArray) (fill L s) := by
    have h2' : ¬ fn.name = "runtime.NumGoroutine" := by simpa using h2
    have h3' : ¬ fn.body = none := by intro e; simp [e] at h3
    simp [execOp, resolve, Deferred.ofValue, invoke, callFunc, hρ x _ hx, lks_map hρ hv, h1, h2', h3']
  simp only [Oper.wp, hrun, Oper.upon]
  refine (hc ho).mono ?_
  rintro e w' ⟨v, L', s', rfl, rfl, h4, h5, h6⟩
  exact k v L' s' h5 h6 hT _ (hr.put hd v) h4
inductive Res (TT : TyTab) (fr : Fr) (L : Hl) : List ResultVar → List Value → Prop
  | nil : Res TT fr L [] []
  | tmp {t : Nat} {v : Value} {rs vs} (h : flook fr t = some v) (k : Res TT fr L rs vs) : Res TT fr L (.tmp t :: rs) (v :: vs)
  | one {a t t' b : Nat} {ti : TI} {zs : List Value} {v : Value} {rs vs} (i : Nat) (h : flook fr a = some (.pointer (some ⟨b, 0, none⟩))) (hi : L[i]? = some (b, cb zs t')) (ht : tlook TT t = some ti) (hk : isOne ti.kind = true) (hv : nth zs 0 = some v) (k : Res TT fr L rs vs) : Res TT fr L (.cell a t :: rs) (v :: vs)
  | agg {a t t' b : Nat} {ti : TI} {zs us : List Value} {rs vs} (i : Nat) (h : flook fr a = some (.pointer (some ⟨b, 0, none⟩))) (hi : L[i]? = some (b, cb zs t')) (ht : tlook TT t = some ti) (hk : isOne ti.kind = false) (hv : cut zs 0 ti.size = some us) (k : Res TT fr L rs vs) : Res TT fr L (.cell a t :: rs) (.agg us.toArray :: vs)
def resV : List Value → Value
  | [v] => v
  | vs => .tuple vs.toArray
def resF (tmps : Array Value) : ResultVar → Sem Value
  | .tmp t => pure (tmps.getD t undef)
  | .cell a t => do loadVar t (← asAddr (tmps.getD a undef))
theorem results_eq (fn : Func) (tmps : Array Value) : results fn tmps = (do let vs ← fn.results.mapM (resF tmps); pure (if h : vs.size = 1 then vs[0] else .tuple vs)) := by
  unfold results
  congr 1
theorem Res.run (hT : TabOK P TT) {a : Act} (hr : FrRel n a fr) (ho : OKL D L s) {rs : List ResultVar} {vs : List Value} (h : Res TT fr L rs vs) :
    (rs.mapM (resF a.tmps)).run P (fill L s) = .ok vs (fill L s) := by
  have hs : ∀ t v, flook fr t = some v → a.tmps.getD t undef = v := fun t v hv => by
    have := hr.slot t (hr.top t v hv) v hv
    simp [this]
  induction h with
  | nil => simp
  | tmp h k ih => simp only [List.mapM_cons, resF, hs _ _ h, Sem.run_bind, Sem.run_pure, Result.andThen_ok, ih]
  | one i h hi ht hk hv k ih =>
    rename_i b _ zs v _ _
    have hc : (fill L s).cell? ⟨b, 0, none⟩ = some v := by rw [cb_cell ho hi, ← nth_eq]; exact hv
    simp only [List.mapM_cons, resF, hs _ _ h, asAddr, Sem.run_bind, Sem.run_pure, Result.andThen_ok, run_loadVar_one (hT.at_ ht) hk hc, ih]
  | agg i h hi ht hk hv k ih =>
    rename_i b _ zs us _ _
    obtain ⟨h1, h2⟩ := cut_spec hv
    have hc : ∀ j v, us[j]? = some v → (fill L s).cell? ⟨b, 0 + j, none⟩ = some v := fun j v hj => by rw [cb_cell ho hi]; exact h2 j v hj
    simp only [List.mapM_cons, resF, hs _ _ h, asAddr, Sem.run_bind, Sem.run_pure, Result.andThen_ok, run_loadVar_agg (hT.at_ ht) hk h1 hc, ih]
def retQ (TT : TyTab) (D : Nat) (rs : List ResultVar) (s0 : World) (R : Value → Hl → World → Prop) : APost := fun e fr L s =>
  (e = .normal ∨ e = .ret) ∧ ∃ vs A L', Res TT fr L rs vs ∧ L = A ++ L' ∧ Le D s0 s ∧ ∀ s', Le D s s' → R (resV vs) L' s'
def slots (k : Nat) : List Value → Fr
  | [] => []
  | v :: vs => (k, v) :: slots (k + 1) vs
theorem flook_slots (vs : List Value) (k t : Nat) : flook (slots k vs) t = if k ≤ t then vs[t - k]? else none := by
  induction vs generalizing k with
  | nil => simp [slots, flook]
  | cons v vs ih =>
    rw [slots, flook_cons, ih]
    by_cases h : k = t
    · subst h; simp
    · by_cases h2 : k + 1 ≤ t
      · have : t - k = (t - (k + 1)) + 1 := by omega
        simp [h, h2, show k ≤ t by omega, this]
      · simp [h, h2, show ¬ k ≤ t by omega]
theorem AC_enter {f : FuncId} {fn : Func} {c : Code} {args : List Value} {R : Value → Hl → World → Prop} (hT : TabOK P TT) (hf : P.funcs[f]? = some fn) (hn : (fn.name == "runtime.NumGoroutine") = false) (hb : fn.body = some c) (hnt : fn.ntmps = n) (hle : Nat.ble args.length n = true) {rs : List ResultVar} (hrs : fn.results.toList = rs) (fr0 : Fr) (hfr : slots 0 args = fr0)
    (h : JC P TT D n (retQ TT D rs s R) c fr0 L s) : AC P D f args L s R := by
  subst hfr; subst hrs
  refine ⟨⟨fn, hf, hn, by simp [hb]⟩, fun ho => calls_of_wp hf hb ?_⟩
  have hle' : args.length ≤ n := Nat.le_of_ble_eq_true hle
  have hr : FrRel n { tmps := args.toArray ++ Array.replicate (fn.ntmps - args.toArray.size) undef, defers := [] } (slots 0 args) := by
    refine ⟨by simp [hnt]; omega, rfl, fun t ht v hv => ?_, fun t v hv => ?_⟩
    · rw [flook_slots] at hv
      simp at hv
      obtain ⟨hlt, _⟩ := List.getElem?_eq_some_iff.1 hv
      simp [Array.getElem?_append, hlt]
      exact (List.getElem?_eq_some_iff.1 hv).2
    · rw [flook_slots] at hv
      simp at hv
      obtain ⟨hlt, _⟩ := List.getElem?_eq_some_iff.1 hv
      omega
  refine wp_mono (h hT _ hr ho) ?_
  rintro e a w ⟨fr', L1, s1, k1, k2, rfl, he, vs, A, L', hres, rfl, hle1, hR⟩
  obtain ⟨d1, d2, d3⟩ := drop_own k2
  have hrun : (results fn a.tmps).run P (fill (A ++ L') s1) = .ok (resV vs) (fill (A ++ L') s1) := by
    have h1 := Res.run hT k1 k2 hres
    have h2 : (fn.results.mapM (resF a.tmps)).run P (fill (A ++ L') s1) = .ok vs.toArray (fill (A ++ L') s1) := by
      rw [Array.mapM_eq_mapM_toList]
      simp only [map_eq_pure_bind, Sem.run_bind, h1, Result.andThen_ok, Sem.run_pure]
    rw [results_eq]
    simp only [Sem.run_bind, h2, Result.andThen_ok, Sem.run_pure]
    congr 1
    match vs with
    | [] => rfl
    | [v] => rfl
    | v :: u :: r => simp [resV]
  have hpost : ∃ v, (results fn a.tmps).run P (fill (A ++ L') s1) = .ok v (fill (A ++ L') s1) ∧ ∃ v_1 L'_1 s', Ending.returned v = .returned v_1 ∧ fill (A ++ L') s1 = fill L'_1 s' ∧ OKL D L'_1 s' ∧ Le D s s' ∧ R v_1 L'_1 s' :=
    ⟨_, hrun, _, L', fill A s1, rfl, d1, d2, hle1.trans d3, hR _ d3⟩
  rcases he with rfl | rfl
  · exact ⟨k1.defers, hpost⟩
  · exact ⟨k1.defers, hpost⟩
theorem thenQ_n {J : Fr → Hl → World → Prop} (h : J fr L s) : thenQ J Q .normal fr L s := h
theorem thenQ_r {J : Fr → Hl → World → Prop} (h : Q .ret fr L s) : thenQ J Q .ret fr L s := h
theorem thenQ_x {J : Fr → Hl → World → Prop} {i : Nat} (h : Q (.exit i) fr L s) : thenQ J Q (.exit i) fr L s := h
theorem blockQ_n {id : Nat} (h : Q .normal fr L s) : blockQ id Q .normal fr L s := h
theorem blockQ_r {id : Nat} (h : Q .ret fr L s) : blockQ id Q .ret fr L s := h
theorem blockQ_x {id : Nat} (h : Q .normal fr L s) : blockQ id Q (.exit id) fr L s := by simpa [blockQ] using h
theorem blockQ_xo {id i : Nat} (hi : Nat.beq i id = false) (h : Q (.exit i) fr L s) : blockQ id Q (.exit i) fr L s := by
  have : i ≠ id := fun e => by subst e; simp at hi
  simpa [blockQ, this] using h
theorem retQ_mk {rs : List ResultVar} {s0 : World} {R : Value → Hl → World → Prop} {e : Exit} {vs : List Value} (A L' : Hl) (he : e = .normal ∨ e = .ret) (h : Res TT fr L rs vs) (hL : L = A ++ L') (hl : Le D s0 s) (hR : ∀ s', Le D s s' → R (resV vs) L' s') : retQ TT D rs s0 R e fr L s :=
  ⟨he, vs, A, L', h, hL, hl, hR⟩
end
end Go.FL
namespace Go.FL
open Go Go.RowKit
def SH (D : Nat) (K : Hl) (s0 : World) : World → Prop := fun w => ∃ L s, w = fill L s ∧ OKL D L s ∧ Le D s0 s ∧ ∀ x ∈ K, x ∈ L
def noPan (Q : Exit → Act → World → Prop) : Exit → Act → World → Prop
  | .panic _, _, _ => False
  | e, a, w => Q e a w
def JA (P : Program) (TT : TyTab) (D n : Nat) (ops : Array Oper) (Q : APost) (K : Hl) (s0 : World) (fuel : Nat) (listed : Array Bool) (fr : Fr) (L : Hl) (s : World) : Prop :=
  TabOK P TT → ∀ a, FrRel n a fr → OKL D L s → Le D s0 s → (∀ x ∈ K, x ∈ L) → wpAnyH P .any ops (noPan (conc D n Q)) (SH D K s0) fuel listed a (fill L s)
def JB (P : Program) (TT : TyTab) (D n : Nat) (ops : Array Oper) (Q : APost) (K : Hl) (s0 : World) (fuel : Nat) (listed : Array Bool) (i : Nat) (fr : Fr) (L : Hl) (s : World) : Prop :=
  TabOK P TT → ∀ a, FrRel n a fr → OKL D L s → Le D s0 s → (∀ x ∈ K, x ∈ L) →
    wpOp P ops (noPan (conc D n Q)) i (fun a' w' => SH D K s0 w' ∧ wpAnyH P .any ops (noPan (conc D n Q)) (SH D K s0) fuel (listed.setIfInBounds i true) a' w') a (fill L s)
def GOK (ops : Array Oper) (fr : Fr) : Option (Nat × Bool) → Prop
  | none => True
  | some (j, w) => ∃ t, gslot ops j = some t ∧ flook fr t = some (.bool w)
section
variable {P : Program} {TT : TyTab} {D n : Nat} {Q : APost} {fr : Fr} {L L' K : Hl} {s s' s0 : World} {ops : Array Oper} {d ty : Nat} {op : Op} {pos : String} {af : Array Edge} {g : Option (Nat × Bool)} {v : Value} {fuel : Nat} {listed : Array Bool}
theorem GOK.wanted {dst : Option Nat} {a : Act} (hr : FrRel n a fr) (h : GOK ops fr g) : Region.wanted ⟨dst, op, ty, pos, af, g⟩ (yielded ops a.tmps) = true := by
  cases g with
  | none => rfl
  | some jw =>
    obtain ⟨j, w⟩ := jw
    obtain ⟨t, h1, h2⟩ := h
    have h3 := hr.slot t (hr.top _ _ h2) _ h2
    unfold gslot at h1
    simp [Region.wanted, yielded, h1, h3]
theorem erase_setL {L : Hl} {i : Nat} {x : Nat × Obj} (h : x ∈ L.eraseIdx i) (o : Obj) : x ∈ setL L i o := by
  induction L generalizing i with
  | nil => simp at h
  | cons y L ih =>
    cases i with
    | zero => exact List.mem_cons_of_mem _ (by simpa using h)
    | succ i =>
      simp only [List.eraseIdx_cons_succ, List.mem_cons] at h
      rcases h with rfl | h
      · exact List.mem_cons_self ..
      · exact List.mem_cons_of_mem _ (ih h)
theorem sbY {α : Type} {a b : List α} {x : α} (h : a.Sublist b) : (x :: a).Sublist (x :: b) := List.cons_sublist_cons.2 h
theorem sbN {α : Type} {a b : List α} {x : α} (h : a.Sublist b) : a.Sublist (x :: b) := List.Sublist.cons _ h
theorem sbE {α : Type} (a : List α) : a.Sublist a := List.Sublist.refl a
theorem sub_mem {α : Type} {a b : List α} {x : α} (h : a.Sublist b) (hx : x ∈ a) : x ∈ b := h.subset hx
theorem JC_draw {id : Nat} {l : List Oper} (hm : P.follows .mixedOrders = true) (N : Nat) (hN : l.length = N) (K : Hl) (hK : ∀ x ∈ K, x ∈ L)
    (h : ∀ s', Le D s s' → JA P TT D n l.toArray Q K s' N (Array.replicate N false) fr L s') : JC P TT D n Q (.region id l.toArray true) fr L s := fun ht a hr ho => by
  subst hN
  have h1 := h s.drew (Le.drew s) ht a hr ho.drew (Le.refl _) hK
  refine wp_mono (wp_region_held (Q := noPan (conc D n Q)) (S := SH D K s.drew) hm ?_) (fun e a w hq => by cases e <;> first | exact hq | exact hq.elim)
  rw [← drew_fill] at h1
  simpa using h1
theorem JA_done (hr : Region.ready .any ops listed = []) (h : Q .normal fr L s) : JA P TT D n ops Q K s0 fuel listed fr L s := fun _ a hf ho _ _ =>
  wpAnyH_done hr ⟨fr, L, s, hf, ho, rfl, h⟩ fuel
theorem JA_q (i : Nat) (hi : ops[i]? = some ⟨some d, op, ty, pos, af, g⟩) (hs : Region.noSelect ops = true) (hf : Region.free .any ops listed i = true) (hr : (Region.ready .any ops listed).contains i = true) (hg : GOK ops fr g)
    (hq : QE P TT D fr op ty K s0 v) (hd : Nat.blt d n = true) (k : JA P TT D n ops Q K s0 fuel (listed.setIfInBounds i true) ((d, v) :: fr) L s) : JA P TT D n ops Q K s0 (fuel + 1) listed fr L s := fun ht a hfr ho hl hK => by
  refine wpAnyH_take hi hs hf hr (fun _ _ _ h => h.elim) (v := v) (.inl ⟨hg.wanted hfr, ?_⟩) ⟨L, s, rfl, ho, hl, hK⟩ (k ht _ (hfr.put hd v) ho hl hK)
  rintro w ⟨L2, s2, rfl, h1, h2, h3⟩
  exact hq ht _ _ _ _ _ (fun x v hx => hfr.ev hx) L2 s2 h1 h2 h3
theorem JA_no (i : Nat) {j t : Nat} {w b : Bool} (hi : ops[i]? = some ⟨some d, op, ty, pos, af, some (j, w)⟩) (hs : Region.noSelect ops = true) (hf : Region.free .any ops listed i = true) (hr : (Region.ready .any ops listed).contains i = true)
    (hj : gslot ops j = some t) (hv : flook fr t = some (.bool b)) (hb : (b != w) = true) (hd : Nat.blt d n = true) (k : JA P TT D n ops Q K s0 fuel (listed.setIfInBounds i true) ((d, undef) :: fr) L s) : JA P TT D n ops Q K s0 (fuel + 1) listed fr L s := fun ht a hfr ho hl hK => by
  refine wpAnyH_take hi hs hf hr (fun _ _ _ h => h.elim) (v := undef) (.inr ⟨?_, rfl⟩) ⟨L, s, rfl, ho, hl, hK⟩ (k ht _ (hfr.put hd undef) ho hl hK)
  have h3 := hfr.slot t (hfr.top _ _ hv) _ hv
  unfold gslot at hj
  have hne : (some b == some w) = false := by cases b <;> cases w <;> simp_all
  simp [Region.wanted, yielded, hj, h3, hne]
theorem JA_case {t : Nat} {b : Bool} (hv : flook fr t = some (.bool b)) (h1 : b = true → JA P TT D n ops Q K s0 fuel listed ((t, .bool true) :: fr) L s) (h2 : b = false → JA P TT D n ops Q K s0 fuel listed ((t, .bool false) :: fr) L s) :
    JA P TT D n ops Q K s0 fuel listed fr L s := fun ht a hr ho hl hK => by
  cases b with
  | true => exact h1 rfl ht a (hr.sub fun t' v' h => by rw [flook_cons] at h; split at h <;> simp_all) ho hl hK
  | false => exact h2 rfl ht a (hr.sub fun t' v' h => by rw [flook_cons] at h; split at h <;> simp_all) ho hl hK
theorem JA_caseD {t : Nat} {p : Prop} [Decidable p] (hv : flook fr t = some (.bool (decide p))) (h1 : p → JA P TT D n ops Q K s0 fuel listed ((t, .bool true) :: fr) L s) (h2 : ¬ p → JA P TT D n ops Q K s0 fuel listed ((t, .bool false) :: fr) L s) :
    JA P TT D n ops Q K s0 fuel listed fr L s := JA_case hv (fun h => h1 (of_decide_eq_true h)) (fun h => h2 (of_decide_eq_false h))
theorem JA_caseM {t : Nat} {b : Bool} (hv : flook fr t = some (.bool (!b))) (h1 : b = false → JA P TT D n ops Q K s0 fuel listed ((t, .bool true) :: fr) L s) (h2 : b = true → JA P TT D n ops Q K s0 fuel listed ((t, .bool false) :: fr) L s) :
    JA P TT D n ops Q K s0 fuel listed fr L s := JA_case hv (fun h => h1 (by simpa using h)) (fun h => h2 (by simpa using h))
theorem JA_caseN {t : Nat} {p : Prop} [Decidable p] (hv : flook fr t = some (.bool (!decide p))) (h1 : ¬ p → JA P TT D n ops Q K s0 fuel listed ((t, .bool true) :: fr) L s) (h2 : p → JA P TT D n ops Q K s0 fuel listed ((t, .bool false) :: fr) L s) :
    JA P TT D n ops Q K s0 fuel listed fr L s := JA_case hv (fun h => h1 (by simpa using h)) (fun h => h2 (by simpa using h))
theorem JA_all {rs : List Nat} (hr : Region.ready .any ops listed = rs) (hne : rs ≠ []) (h : ∀ i ∈ rs, JB P TT D n ops Q K s0 fuel listed i fr L s) : JA P TT D n ops Q K s0 (fuel + 1) listed fr L s := fun ht a hf ho hl hK =>
  wpAnyH_all hr hne fun i hi => h i hi ht a hf ho hl hK
theorem JA_1 (i : Nat) (hr : Region.ready .any ops listed = [i]) (h : JB P TT D n ops Q K s0 fuel listed i fr L s) : JA P TT D n ops Q K s0 (fuel + 1) listed fr L s :=
  JA_all hr (by simp) (by simpa using h)
theorem JB_ev {i : Nat} (hi : ops[i]? = some ⟨some d, op, ty, pos, af, g⟩) (hg : GOK ops fr g) (h : Ev P TT D fr op ty L s (.value v) L' s') (hle : Le D s s') (hK' : ∀ x ∈ K, x ∈ L → x ∈ L') (hd : Nat.blt d n = true) (k : JA P TT D n ops Q K s0 fuel (listed.setIfInBounds i true) ((d, v) :: fr) L' s') :
    JB P TT D n ops Q K s0 fuel listed i fr L s := fun ht a hf ho hl hK => by
  obtain ⟨h1, h2⟩ := h ht ho (some d) pos af g a.eval (fun x v hx => hf.ev hx)
  simp only [wpOp, hi, hg.wanted hf, if_true]
  refine .inl ?_
  simp only [Oper.wp, h1, Oper.upon]
  have hK2 : ∀ x ∈ K, x ∈ L' := fun x hx => hK' x hx (hK x hx)
  exact ⟨⟨L', s', rfl, h2, hl.trans hle, hK2⟩, k ht _ (hf.put hd v) h2 (hl.trans hle) hK2⟩
theorem JB_sk {i : Nat} (hi : ops[i]? = some ⟨none, op, ty, pos, af, g⟩) (hg : GOK ops fr g) (h : Ev P TT D fr op ty L s .skip L' s') (hle : Le D s s') (hK' : ∀ x ∈ K, x ∈ L → x ∈ L') (k : JA P TT D n ops Q K s0 fuel (listed.setIfInBounds i true) fr L' s') :
    JB P TT D n ops Q K s0 fuel listed i fr L s := fun ht a hf ho hl hK => by
  obtain ⟨h1, h2⟩ := h ht ho none pos af g a.eval (fun x v hx => hf.ev hx)
  simp only [wpOp, hi, hg.wanted hf, if_true]
  refine .inl ?_
  simp only [Oper.wp, h1, Oper.upon]
  have hK2 : ∀ x ∈ K, x ∈ L' := fun x hx => hK' x hx (hK x hx)
  exact ⟨⟨L', s', rfl, h2, hl.trans hle, hK2⟩, k ht _ hf h2 (hl.trans hle) hK2⟩
theorem JB_call {i : Nat} {f : FuncId} {x : Operand} {xs : List Operand} {first captured vs : List Value} {ts : Array TypeId} {R : Value → Hl → World → Prop} (hi : ops[i]? = some ⟨some d, .call { callee := .value x, args := xs.toArray, argTypes := ts }, ty, pos, af, g⟩) (hg : GOK ops fr g)
    (hx : lk fr x = some (.func (.func f) first.toArray captured.toArray)) (hv : lks fr xs = some vs) (hd : Nat.blt d n = true) (h : AC P D f (first ++ vs ++ captured) L s R)
    (k : ∀ v L' s', Le D s s' → R v L' s' → (∀ x ∈ K, x ∈ L → x ∈ L') ∧ JA P TT D n ops Q K s0 fuel (listed.setIfInBounds i true) ((d, v) :: fr) L' s') :
    JB P TT D n ops Q K s0 fuel listed i fr L s := fun hT a hf ho hl hK => by
  obtain ⟨⟨fn, h1, h2, h3⟩, hc⟩ := h
  have hρ : ∀ x v, lk fr x = some v → a.eval x = v := fun x v hx => hf.ev hx
  simp only [wpOp, hi, hg.wanted hf, if_true]
  refine .inl ?_
  have hrun : (execOp a.eval ⟨some d, .call { callee := .value x, args := xs.toArray, argTypes := ts }, ty, pos, af, g⟩).run P (fill L s) = .ok (.enter f (first ++ vs ++ captured).toArray) (fill L s) := by
    have h2' : ¬ fn.name = "runtime.NumGoroutine" := by simpa using h2
    have h3' : ¬ fn.body = none := by intro e; simp [e] at h3
    simp [execOp, resolve, Deferred.ofValue, invoke, callFunc, hρ x _ hx, lks_map hρ hv, h1, h2', h3']
  simp only [Oper.wp, hrun, Oper.upon]
  refine (hc ho).mono ?_
  rintro e w' ⟨v, L', s', rfl, rfl, h4, h5, h6⟩
  obtain ⟨k1, k2⟩ := k v L' s' h5 h6
  have hK2 : ∀ x ∈ K, x ∈ L' := fun x hx => k1 x hx (hK x hx)
  exact ⟨⟨L', s', rfl, h4, hl.trans h5, hK2⟩, k2 hT _ (hf.put hd v) h4 (hl.trans h5) hK2⟩
theorem JB_alloc {i t : Nat} {ti : TI} (hi : ops[i]? = some ⟨some d, .alloc t, ty, pos, af, g⟩) (hg : GOK ops fr g) (ht : tlook TT t = some ti) (zs : List Value) (hz : ti.zeros = zs) (hd : Nat.blt d n = true)
    (k : ∀ β s', Le D s s' → JA P TT D n ops Q K s0 fuel (listed.setIfInBounds i true) ((d, .pointer (some ⟨β, 0, none⟩)) :: fr) ((β, cb zs t) :: L) s') : JB P TT D n ops Q K s0 fuel listed i fr L s := fun hT a hf ho hl hK => by
  subst hz
  exact JB_ev hi hg (Ev_alloc ht ho) (alloc_fill ho (cb ti.zeros t)).2.2 (fun x _ h => List.mem_cons_of_mem _ h) hd (k _ _ (alloc_fill ho (cb ti.zeros t)).2.2) hT a hf ho hl hK
theorem JB_st {i0 t b off : Nat} {x y : Operand} {ti : TI} {t' : Nat} {zs : List Value} (hi0 : ops[i0]? = some ⟨none, .store t x y, ty, pos, af, g⟩) (hg : GOK ops fr g) (i : Nat) (zs' : List Value) {L' : Hl} (hx : lk fr x = some (.pointer (some ⟨b, off, none⟩))) (hy : lk fr y = some v) (hi : L[i]? = some (b, cb zs t')) (ht : tlook TT t = some ti)
    (hl : (cellsL v).length = ti.size) (hle : Nat.ble (off + ti.size) zs.length = true) (h1 : (cellsL v).all (·.oneCell') = true) (hs : splice zs off (cellsL v) = zs') (hL : setL L i (cb zs' t') = L') (hK' : ∀ x ∈ K, x ∈ L.eraseIdx i)
    (k : JA P TT D n ops Q K s0 fuel (listed.setIfInBounds i0 true) fr L' s) : JB P TT D n ops Q K s0 fuel listed i0 fr L s := by
  subst hL; exact JB_sk hi0 hg (Ev_st i zs' hx hy hi ht hl hle h1 hs) (Le.refl _) (fun x hx _ => erase_setL (hK' x hx) _) k
theorem fill_perm {A B : Hl} (h : A.Perm B) : ∀ s, OKL D A s → fill A s = fill B s := by
  induction h with
  | nil => intro s _; rfl
  | cons x _ ih => intro s ho; simp only [fill]; rw [ih s ho.tail]
  | swap x y l =>
    intro s ho
    simp only [fill]
    have := ho.nd
    simp only [List.map_cons, List.nodup_cons, List.mem_cons, not_or] at this
    exact setBlk_comm _ _ (fun e => this.1.1 e.symm)
  | trans h1 h2 ih1 ih2 =>
    intro s ho
    rw [ih1 s ho, ih2 s ⟨(h1.map _).nodup_iff.1 ho.nd, fun x hx => ho.dm x (h1.mem_iff.2 hx)⟩]
theorem OKL.perm {A B : Hl} (h : A.Perm B) (ho : OKL D A s) : OKL D B s := ⟨(h.map _).nodup_iff.1 ho.nd, fun x hx => ho.dm x (h.mem_iff.2 hx)⟩
def Mid {γ : Type} (S : γ → Fr) (H : γ → Hl) (I : γ → World → Prop) : Fr → Hl → World → Prop := fun fr' L' s' => ∃ g A, Keeps fr' (S g) ∧ L'.Perm (A ++ H g) ∧ I g s'
theorem Mid.mk {γ : Type} {S : γ → Fr} {H : γ → Hl} {I : γ → World → Prop} (g : γ) (A : Hl) (h1 : Keeps fr (S g)) (h2 : L.Perm (A ++ H g)) (h3 : I g s) : Mid S H I fr L s := ⟨g, A, h1, h2, h3⟩
end
end Go.FL
namespace Go.FL
open Go Go.RowKit
theorem w64 {a : Int} (h1 : -9223372036854775808 ≤ a) (h2 : a ≤ 9223372036854775807) : IntKind.i64.wrap a = a := by
  rw [IntKind.wrap_i64]; omega
def bld (places : List (Nat × Nat)) : List Value → List (Nat × Value) → Option (List Value)
  | zs, [] => some zs
  | zs, (i, v) :: rest => match places[i]? with
    | none => none
    | some (off, size) => bif (Nat.beq (cellsL v).length size && Nat.ble (off + size) zs.length) then bld places (splice zs off (cellsL v)) rest else none
theorem foldl_splice (vs : List Value) (off k : Nat) (zs : List Value) (h : off + k + vs.length ≤ zs.length) :
    (vs.zipIdx k).foldl (fun (cs : Array Value) (x : Value × Nat) => cs.setIfInBounds (off + x.2) x.1) zs.toArray = (splice zs (off + k) vs).toArray := by
  induction vs generalizing k zs with
  | nil => cases zs <;> simp [splice]
  | cons v vs ih =>
    simp only [List.zipIdx_cons, List.foldl_cons]
    have h0 : off + k < zs.length := by simp at h; omega
    rw [List.setIfInBounds_toArray, ih (k + 1) _ (by simp at h ⊢; omega)]
    congr 1
    rw [splice_eq _ _ _ (by simp at h ⊢; omega), splice_eq _ _ _ (by simpa using h)]
    simp only [List.length_cons]
    rw [show off + (k + 1) = off + k + 1 by omega]
    rw [List.take_succ_eq_append_getElem (by simpa using h0), List.take_set_of_le (by omega), List.drop_set]
    simp [show ¬ (off + k + 1 + vs.length ≤ off + k) by omega, show off + k < off + k + 1 + vs.length by omega]
    congr 1
    omega
theorem fill_bld (places : List (Nat × Nat)) (f : Nat → Option (Nat × Nat)) (hf : ∀ i, f i = places[i]?) (zs : List Value) (parts : List (Nat × Value)) {vs : List Value} (h : bld places zs parts = some vs) :
    Instr.fill f zs.toArray parts = some vs.toArray := by
  induction parts generalizing zs with
  | nil => simp [bld] at h; subst h; rfl
  | cons p rest ih =>
    obtain ⟨i, v⟩ := p
    simp only [bld] at h
    simp only [Instr.fill, hf]
    cases hp : places[i]? with
    | none => simp [hp] at h
    | some os =>
      obtain ⟨off, size⟩ := os
      simp only [hp, cond_eq_ite] at h
      by_cases hc : (Nat.beq (cellsL v).length size && Nat.ble (off + size) zs.length) = true
      · simp only [hc, if_true] at h
        simp only [Bool.and_eq_true] at hc
        have h1 : (cellsL v).length = size := Nat.eq_of_beq_eq_true hc.1
        have h2 : off + size ≤ zs.length := Nat.le_of_ble_eq_true hc.2
        have h3 := foldl_splice (cellsL v) off 0 zs (by omega)
        simp only [cells_cellsL, List.size_toArray, h1, ne_eq, not_true, decide_false, Bool.false_or, gt_iff_lt, decide_eq_true_eq, show ¬ zs.length < off + size by omega, if_false]
        have e : (cellsL v).toArray.zipIdx = ((cellsL v).zipIdx 0).toArray := by simp
        rw [e]
        simp only [List.foldl_toArray, Nat.add_zero] at h3 ⊢
        rw [h3]
        exact ih _ h
      · simp only [hc] at h; cases h
section
variable {P : Program} {TT : TyTab} {D n : Nat} {Q : APost} {fr : Fr} {L L' K : Hl} {s s' s0 : World} {ops : Array Oper} {rest : List Oper} {d ty : Nat} {op : Op} {pos : String} {af : Array Edge} {v : Value}
def lkp (fr : Fr) : List (Nat × Operand) → Option (List (Nat × Value))
  | [] => some []
  | (i, x) :: r => match lk fr x with
    | some v => match lkp fr r with
      | some vs => some ((i, v) :: vs)
      | none => none
    | none => none
theorem lkp_map {fr : Fr} {ρ : Operand → Value} (hρ : ∀ x v, lk fr x = some v → ρ x = v) {xs : List (Nat × Operand)} {vs : List (Nat × Value)} (h : lkp fr xs = some vs) : xs.map (fun p => (p.1, ρ p.2)) = vs := by
  induction xs generalizing vs with
  | nil => simp [lkp] at h; subst h; rfl
  | cons p xs ih =>
    obtain ⟨i, x⟩ := p
    simp only [lkp] at h
    cases h1 : lk fr x with
    | none => simp [h1] at h
    | some v =>
      cases h2 : lkp fr xs with
      | none => simp [h1, h2] at h
      | some r => simp [h1, h2] at h; subst h; simp [hρ x v h1, ih h2]
theorem run_places {fs : List Field} {l : List Nat} (h : fs.map (fun f => P.cellsOf f.type) = l) (hp : fs.all (fun f => decide (0 < P.cellsOf f.type)) = true) (w : World) :
    (fs.mapM (m := Sem) fun f => do pure (f.offset, ← sizeOf f.type)).run P w = .ok ((fs.map (·.offset)).zip l) w := by
  induction fs generalizing l with
  | nil => subst h; simp
  | cons f fs ih =>
    subst h
    simp only [List.all_cons, Bool.and_eq_true, decide_eq_true_eq] at hp
    have hsz : (sizeOf f.type).run P w = .ok (P.cellsOf f.type) w := by
      have hpos := hp.1
      unfold Program.cellsOf at hpos ⊢
      cases hi : P.info? f.type with
      | none => simp [hi] at hpos
      | some i => simp [sizeOf, typeInfo, hi]
    simp only [List.mapM_cons, Sem.run_bind, hsz, Result.andThen_ok, Sem.run_pure, ih rfl hp.2, List.map_cons, List.zip_cons_cons]
theorem QE_build {t : Nat} {ps : List (Nat × Operand)} {ti : TI} {os : List Nat} (vals : List (Nat × Value)) (vs : List Value) (ht : tlook TT t = some ti) (hk : ti.kind = .st os) (hv : lkp fr ps = some vals) {zs fz : List _} (hz : ti.zeros = zs) (hfz : ti.fsz = fz)
    (hb : bld (os.zip fz) zs vals = some vs) : QE P TT D fr (.build t ps.toArray) ty K s0 (.agg vs.toArray) :=
  QE.pure fun hT dst pos af g ρ hρ w => by
    subst hz; subst hfz
    have hok := hT.at_ ht
    have hok2 := hok
    obtain ⟨h1, h2, _, _, _, _, _, h8, h9⟩ := hok2
    rw [hk] at h2
    cases hd : ti.desc with
    | struct fs =>
      rw [hd] at h1 h2 h8 h9
      simp only [TK.fits] at h2
      have hpl := run_places (P := P) (w := w) (fs := fs.toList) (show fs.toList.map (fun f => P.cellsOf f.type) = ti.fsz from h9) h8
      have hz : ti.zero.cells = ti.zeros.toArray := zero_cells hok
      have hpl' : (fs.mapM (m := Sem) fun f => do pure (f.offset, ← sizeOf f.type)).run P w = .ok (os.zip ti.fsz).toArray w := by
        rw [Array.mapM_eq_mapM_toList]
        simp only [map_eq_pure_bind, Sem.run_bind, hpl, Result.andThen_ok, Sem.run_pure, h2]
      have hfill := fill_bld (os.zip ti.fsz) ((os.zip ti.fsz).toArray[·]?) (fun i => by simp) ti.zeros vals hb
      have hm : (ps.toArray.map fun p => (p.1, ρ p.2)).toList = vals := by simpa using lkp_map hρ hv
      simp only [execOp, Instr.build, Sem.run_bind, run_zero' hok, Result.andThen_ok, run_underlying h1, hpl', hz]
      have hm' : (ps.toArray.map fun (x : Nat × Operand) => match x with | (i, x) => (i, ρ x)).toList = vals := hm
      rw [hm', hfill]
      rfl
    | _ => rw [hd] at h2; simp [TK.fits] at h2
def eraseAll (L : Hl) : List Nat → Hl
  | [] => L
  | i :: r => eraseAll (L.eraseIdx i) r
theorem eraseAll_mem {L : Hl} {r : List Nat} {x : Nat × Obj} (h : x ∈ eraseAll L r) : x ∈ L := by
  induction r generalizing L with
  | nil => exact h
  | cons i r ih => exact List.mem_of_mem_eraseIdx (ih h)
theorem JC_drawE {id : Nat} {l : List Oper} (hm : P.follows .mixedOrders = true) (N : Nat) (hN : l.length = N) (r : List Nat) (hK : ∀ x ∈ eraseAll L r, x ∈ L)
    (h : ∀ s', Le D s s' → JA P TT D n l.toArray Q (eraseAll L r) s' N (Array.replicate N false) fr L s') : JC P TT D n Q (.region id l.toArray true) fr L s := JC_draw hm N hN _ hK h
theorem flat_get (zs : List Value) (len i : Nat) (h : i < len * zs.length) : ((List.replicate len zs).flatten)[i]? = zs[i % zs.length]? := by
  induction len generalizing i with
  | zero => simp at h
  | succ len ih =>
    rw [List.replicate_succ, List.flatten_cons]
    by_cases hi : i < zs.length
    · rw [List.getElem?_append_left hi, Nat.mod_eq_of_lt hi]
    · rw [List.getElem?_append_right (by omega), ih (i - zs.length) (by rw [Nat.succ_mul] at h; omega), Nat.mod_eq_sub_mod (by omega : i ≥ zs.length)]
theorem zeroRow (zs : List Value) (len : Nat) (h : 0 < zs.length) : (Array.range (len * zs.length)).map (fun i => zs.toArray[i % zs.toArray.size]!) = ((List.replicate len zs).flatten).toArray := by
  apply Array.ext_getElem?
  intro i
  by_cases hi : i < len * zs.length
  · have hm : i % zs.length < zs.length := Nat.mod_lt _ h
    have := flat_get zs len i hi
    simp only [List.getElem?_toArray, this]
    simp [hi, hm]
  · have hl : ((List.replicate len zs).flatten).length = len * zs.length := by simp
    rw [Array.getElem?_eq_none (by simp; omega), Array.getElem?_eq_none (by simp only [List.size_toArray, hl]; omega)]
def rowPl (size : Nat) : Nat → Nat → List (Nat × Nat)
  | _, 0 => []
  | o, n + 1 => (o, size) :: rowPl size (o + size) n
theorem rowPl_get (size o n i : Nat) (h : i < n) : (rowPl size o n)[i]? = some (o + i * size, size) := by
  induction n generalizing o i with
  | zero => omega
  | succ n ih =>
    cases i with
    | zero => simp [rowPl]
    | succ i => simp only [rowPl, List.getElem?_cons_succ]; rw [ih (o + size) i (by omega), Nat.succ_mul]; congr 2; omega
theorem fill_row (size len : Nat) (zs : List Value) (parts : List (Nat × Value)) {vs : List Value} (hp : parts.all (fun x => Nat.blt x.1 len) = true) (h : bld (rowPl size 0 len) zs parts = some vs) :
    Instr.fill (fun i => some (i * size, size)) zs.toArray parts = some vs.toArray := by
  induction parts generalizing zs with
  | nil => simp [bld] at h; subst h; rfl
  | cons x rest ih =>
    obtain ⟨i, v⟩ := x
    simp only [List.all_cons, Bool.and_eq_true] at hp
    have hi : i < len := Nat.le_of_ble_eq_true hp.1
    have hg := rowPl_get size 0 len i hi
    rw [Nat.zero_add] at hg
    have h1 := fill_bld (rowPl size 0 len) ((rowPl size 0 len)[·]?) (fun _ => rfl) zs ((i, v) :: rest) h
    simp only [bld, hg, cond_eq_ite] at h
    simp only [Instr.fill, hg] at h1 ⊢
    by_cases hc : (Nat.beq (cellsL v).length size && Nat.ble (i * size + size) zs.length) = true
    · simp only [hc, if_true] at h
      simp only [Bool.and_eq_true] at hc
      have e1 : (cellsL v).length = size := Nat.eq_of_beq_eq_true hc.1
      have e2 : i * size + size ≤ zs.length := Nat.le_of_ble_eq_true hc.2
      have h3 := foldl_splice (cellsL v) (i * size) 0 zs (by omega)
      simp only [cells_cellsL, List.size_toArray, e1, ne_eq, not_true, decide_false, Bool.false_or, gt_iff_lt, decide_eq_true_eq, show ¬ zs.length < i * size + size by omega, if_false]
      have e : (cellsL v).toArray.zipIdx = ((cellsL v).zipIdx 0).toArray := by simp
      rw [e]
      simp only [List.foldl_toArray, Nat.add_zero] at h3 ⊢
      rw [h3]
      exact ih _ hp.2 h
    · simp only [hc] at h; cases h
theorem run_buildSlice {t e len : Nat} {ti te : TI} (hti : ti.ok P t) (hk : ti.kind = .sl e) (hte : te.ok P e) (hsz : Nat.ble (len * te.size) 16777216 = true) (hpos : 0 < len) (vals : List (Nat × Value)) (vs : List Value) (hp : vals.all (fun x => Nat.blt x.1 len) = true)
    (hb : bld (rowPl te.size 0 len) (List.replicate len te.zeros).flatten vals = some vs) (w : World) : (Instr.buildSlice t len vals.toArray).run P w = .ok (.slice (some ⟨w.heap.size, 0, none⟩) len len) (w.alloc (cb vs e)) := by
  obtain ⟨k1, k2, _⟩ := hti
  rw [hk] at k2
  simp only [TK.fits] at k2
  rw [k2] at k1
  have hte2 := hte
  obtain ⟨_, _, _, z1, _, z3, _⟩ := hte2
  have hz := zero_cells hte
  have hle : ¬ (2 ^ 24 < len * te.size) := by have := Nat.le_of_ble_eq_true hsz; omega
  have hne : ¬ (len * te.size = 0) := by
    intro h0
    have := Nat.mul_pos hpos z3
    omega
  have hrow := zeroRow te.zeros len (by omega)
  rw [z1] at hrow
  have hfr := fill_row te.size len _ vals hp hb
  simp only [Instr.buildSlice, Sem.run_bind, run_underlying k1, Result.andThen_ok, run_sizeOf' hte, gt_iff_lt, hle, if_false, Sem.run_pure, hne, run_zero' hte, hz]
  rw [hrow, hfr]
  simp only [Sem.run_bind, run_new, Result.andThen_ok, Sem.run_pure]
  rfl
theorem Ev_bs {t e len : Nat} {ti te : TI} {ps : List (Nat × Operand)} (vals : List (Nat × Value)) (vs : List Value) (ht : tlook TT t = some ti) (hk : ti.kind = .sl e) (he : tlook TT e = some te) (hv : lkp fr ps = some vals) (hsz : Nat.ble (len * te.size) 16777216 = true) (hpos : Nat.blt 0 len = true) (hp : vals.all (fun x => Nat.blt x.1 len) = true)
    (hb : bld (rowPl te.size 0 len) (List.replicate len te.zeros).flatten vals = some vs) (ho : OKL D L s) : Ev P TT D fr (.buildSlice t len ps.toArray) ty L s (.value (.slice (some ⟨s.heap.size, 0, none⟩) len len)) ((s.heap.size, cb vs e) :: L) (s.alloc (dum D)) := fun hT _ dst pos af g ρ hρ => by
  obtain ⟨h1, h2, h3⟩ := alloc_fill ho (cb vs e)
  refine ⟨?_, h2⟩
  have hm : (ps.toArray.map fun (x : Nat × Operand) => match x with | (i, x) => (i, ρ x)) = vals.toArray := by
    have := lkp_map hρ hv
    rw [← this]; simp
  have hpos' : 0 < len := Nat.le_of_ble_eq_true hpos
  simp only [execOp, hm, Sem.run_bind, run_buildSlice (hT.at_ ht) hk (hT.at_ he) hsz hpos' vals vs hp hb, Result.andThen_ok, Sem.run_pure, fill_size]
  rw [← h1]
theorem cells_drop {b t : Nat} {vs : List Value} (ho : OKL D ((b, cb vs t) :: L) s) : CellsAt (fill [(b, cb vs t)] s) b 0 vs := fun j v hj => by
  have h1 : OKL D [(b, cb vs t)] s := ⟨by simp, fun x hx => ho.dm x (by simp at hx; subst hx; exact List.mem_cons_self ..)⟩
  rw [mem_cell h1 (List.mem_cons_self ..), Nat.zero_add]; exact hj
theorem JO_bs {t e len : Nat} {ti te : TI} {ps : List (Nat × Operand)} (vals : List (Nat × Value)) (vs : List Value) (ht : tlook TT t = some ti) (hk : ti.kind = .sl e) (he : tlook TT e = some te) (hv : lkp fr ps = some vals) (hsz : Nat.ble (len * te.size) 16777216 = true) (hpos : Nat.blt 0 len = true) (hp : vals.all (fun x => Nat.blt x.1 len) = true)
    (hb : bld (rowPl te.size 0 len) (List.replicate len te.zeros).flatten vals = some vs) (hd : Nat.blt d n = true) (k : ∀ β s', Le D s s' → CellsAt s' β 0 vs → JO P TT D n ops Q rest ((d, .slice (some ⟨β, 0, none⟩) len len) :: fr) L s') :
    JO P TT D n ops Q (⟨some d, .buildSlice t len ps.toArray, ty, pos, af, none⟩ :: rest) fr L s := fun hT a hr ho => by
  obtain ⟨h1, h2, h3⟩ := alloc_fill ho (cb vs e)
  obtain ⟨d1, d2, d3⟩ := drop_own (A := [(s.heap.size, cb vs e)]) (B := L) h2
  refine JO_ev (L' := L) (s' := fill [(s.heap.size, cb vs e)] (s.alloc (dum D))) hd (fun hT _ dst pos af g ρ hρ => ⟨?_, d2⟩) (k _ _ (h3.trans d3) (cells_drop h2)) hT a hr ho
  rw [← d1]
  exact (Ev_bs vals vs ht hk he hv hsz hpos hp hb ho hT ho dst pos af g ρ hρ).1
end
end Go.FL
namespace Go.FL
open Go Go.RowKit
section
variable {P : Program} {TT : TyTab} {D n : Nat} {Q : APost} {fr : Fr} {L L' K : Hl} {s s' s0 : World} {ops : Array Oper} {rest : List Oper} {d ty : Nat} {op : Op} {pos : String} {af : Array Edge} {v : Value}
theorem bound_ok {ik : IntKind} {j y : Nat} {c : BoundsCode} (h : j ≤ y) (w : World) : (Instr.sliceBound (.int ik (j : Int)) y c).run P w = .ok j w := by
  have h0 : (j : Int) ≤ (y : Int) := by omega
  simp [Instr.sliceBound, asIntOf, h0]
theorem sliceAt_slice {t e : Nat} {x : Value} {lo hi mx : Option Value} {ti : TI} (h : ti.ok P t) (hk : ti.kind = .sl e) : ∀ w, (Instr.sliceAt t x lo hi mx).run P w = (Instr.slice t x lo hi mx).run P w := by
  obtain ⟨k1, k2, _⟩ := h
  rw [hk] at k2
  simp only [TK.fits] at k2
  rw [k2] at k1
  intro w
  simp [Instr.sliceAt, run_underlying k1]
theorem run_slice_sl {t e : Nat} {A : Option Addr} {m c : Nat} {lo hi : Option Value} {ti te : TI} (h : ti.ok P t) (hk : ti.kind = .sl e) (he : te.ok P e) {l u : Nat} (w : World)
    (hb : (Instr.sliceBounds true m c lo hi none).run P w = .ok (l, u, c) w) : (Instr.sliceAt t (.slice A m c) lo hi none).run P w = .ok (.slice (if c = l then A else A.map (·.add (l * te.size))) (u - l) (c - l)) w := by
  rw [sliceAt_slice h hk]
  obtain ⟨k1, k2, _⟩ := h
  rw [hk] at k2
  simp only [TK.fits] at k2
  rw [k2] at k1
  simp [Instr.slice, run_underlying k1, hb, run_sizeOf' he]
theorem add0 (A : Option Addr) (k : Nat) : A.map (·.add (0 * k)) = A := by cases A <;> simp [Addr.add]
theorem QE_slH {t e : Nat} {x y : Operand} {ti te : TI} {ik : IntKind} {A : Option Addr} {m c j : Nat} (hx : lk fr x = some (.slice A m c)) (hy : lk fr y = some (.int ik (j : Int))) (ht : tlook TT t = some ti) (hk : ti.kind = .sl e) (he : tlook TT e = some te) (hj : j ≤ c) :
    QE P TT D fr (.slice t x none (some y) none) ty K s0 (.slice A j c) :=
  QE.pure fun hT dst pos af g ρ hρ w => by
    have hb : (Instr.sliceBounds true m c none (some (.int ik (j : Int))) none).run P w = .ok (0, j, c) w := by simp [Instr.sliceBounds, bound_ok hj]
    have hr := run_slice_sl (A := A) (hT.at_ ht) hk (hT.at_ he) w hb
    simp only [execOp, hρ x _ hx, Option.map_none, Option.map_some, hρ y _ hy, Sem.run_bind, hr, Result.andThen_ok, Sem.run_pure, add0]
    simp
theorem QE_slL {t e : Nat} {x y : Operand} {ti te : TI} {ik : IntKind} {A : Option Addr} {m c j : Nat} (hx : lk fr x = some (.slice A m c)) (hy : lk fr y = some (.int ik (j : Int))) (ht : tlook TT t = some ti) (hk : ti.kind = .sl e) (he : tlook TT e = some te) (hj : j ≤ m) :
    QE P TT D fr (.slice t x (some y) none none) ty K s0 (.slice (if c = j then A else A.map (·.add (j * te.size))) (m - j) (c - j)) :=
  QE.pure fun hT dst pos af g ρ hρ w => by
    have hb : (Instr.sliceBounds true m c (some (.int ik (j : Int))) none none).run P w = .ok (j, m, c) w := by simp [Instr.sliceBounds, bound_ok hj]
    have hr := run_slice_sl (A := A) (hT.at_ ht) hk (hT.at_ he) w hb
    simp only [execOp, hρ x _ hx, Option.map_none, Option.map_some, hρ y _ hy, Sem.run_bind, hr, Result.andThen_ok, Sem.run_pure]
theorem QE_slLH {t e : Nat} {x y z : Operand} {ti te : TI} {ik ik' : IntKind} {A : Option Addr} {m c j u : Nat} (hx : lk fr x = some (.slice A m c)) (hy : lk fr y = some (.int ik (j : Int))) (hz : lk fr z = some (.int ik' (u : Int))) (ht : tlook TT t = some ti) (hk : ti.kind = .sl e) (he : tlook TT e = some te) (hj : j ≤ u) (hu : u ≤ c) :
    QE P TT D fr (.slice t x (some y) (some z) none) ty K s0 (.slice (if c = j then A else A.map (·.add (j * te.size))) (u - j) (c - j)) :=
  QE.pure fun hT dst pos af g ρ hρ w => by
    have hb : (Instr.sliceBounds true m c (some (.int ik (j : Int))) (some (.int ik' (u : Int))) none).run P w = .ok (j, u, c) w := by simp [Instr.sliceBounds, bound_ok hj, bound_ok hu]
    have hr := run_slice_sl (A := A) (hT.at_ ht) hk (hT.at_ he) w hb
    simp only [execOp, hρ x _ hx, Option.map_none, Option.map_some, hρ y _ hy, hρ z _ hz, Sem.run_bind, hr, Result.andThen_ok, Sem.run_pure]
theorem extract_list (l : List UInt8) (lo hi : Nat) (h : lo ≤ hi) : (⟨l.toArray⟩ : ByteArray).extract lo hi = ⟨((l.drop lo).take (hi - lo)).toArray⟩ := by
  apply ByteArray.ext
  simp [List.take_drop, Nat.add_sub_cancel' h]
theorem run_slice_str {t : Nat} {l : List UInt8} {lo hi : Option Value} {ti : TI} (h : ti.ok P t) (hk : ti.desc = .string) {a u : Nat} (hau : a ≤ u) (w : World) (hb : (Instr.sliceBounds false l.length l.length lo hi none).run P w = .ok (a, u, l.length) w) :
    (Instr.sliceAt t (St l) lo hi none).run P w = .ok (St ((l.drop a).take (u - a))) w := by
  have k1 := h.1
  rw [hk] at k1
  have hsz : (⟨l.toArray⟩ : ByteArray).size = l.length := by simp [ByteArray.size]
  have hx := extract_list l a u hau
  simp only [Instr.sliceAt, Sem.run_bind, run_underlying k1, Result.andThen_ok, Instr.slice, Option.isSome_none, Bool.false_eq_true, if_false, hsz, hb, Sem.run_pure, hx]
theorem QE_stH {t : Nat} {x y : Operand} {ti : TI} {ik : IntKind} {l : List UInt8} {u : Nat} (hx : lk fr x = some (St l)) (hy : lk fr y = some (.int ik (u : Int))) (ht : tlook TT t = some ti) (hk : ti.desc = .string) (hu : u ≤ l.length) :
    QE P TT D fr (.slice t x none (some y) none) ty K s0 (St (l.take u)) :=
  QE.pure fun hT dst pos af g ρ hρ w => by
    have hb : (Instr.sliceBounds false l.length l.length none (some (.int ik (u : Int))) none).run P w = .ok (0, u, l.length) w := by simp [Instr.sliceBounds, bound_ok hu]
    have hr := run_slice_str (hT.at_ ht) hk (Nat.zero_le u) w hb
    simp only [execOp, hρ x _ hx, Option.map_none, Option.map_some, hρ y _ hy, Sem.run_bind, hr, Result.andThen_ok, Sem.run_pure]
    simp
theorem QE_stL {t : Nat} {x y : Operand} {ti : TI} {ik : IntKind} {l : List UInt8} {a : Nat} (hx : lk fr x = some (St l)) (hy : lk fr y = some (.int ik (a : Int))) (ht : tlook TT t = some ti) (hk : ti.desc = .string) (ha : a ≤ l.length) :
    QE P TT D fr (.slice t x (some y) none none) ty K s0 (St (l.drop a)) :=
  QE.pure fun hT dst pos af g ρ hρ w => by
    have hb : (Instr.sliceBounds false l.length l.length (some (.int ik (a : Int))) none none).run P w = .ok (a, l.length, l.length) w := by simp [Instr.sliceBounds, bound_ok ha]
    have hr := run_slice_str (hT.at_ ht) hk ha w hb
    simp only [execOp, hρ x _ hx, Option.map_none, Option.map_some, hρ y _ hy, Sem.run_bind, hr, Result.andThen_ok, Sem.run_pure]
    have : (l.drop a).take (l.length - a) = l.drop a := List.take_of_length_le (by simp)
    rw [this]
theorem QE_stLH {t : Nat} {x y z : Operand} {ti : TI} {ik ik' : IntKind} {l : List UInt8} {a u : Nat} (hx : lk fr x = some (St l)) (hy : lk fr y = some (.int ik (a : Int))) (hz : lk fr z = some (.int ik' (u : Int))) (ht : tlook TT t = some ti) (hk : ti.desc = .string) (ha : a ≤ u) (hu : u ≤ l.length) :
    QE P TT D fr (.slice t x (some y) (some z) none) ty K s0 (St ((l.drop a).take (u - a))) :=
  QE.pure fun hT dst pos af g ρ hρ w => by
    have hb : (Instr.sliceBounds false l.length l.length (some (.int ik (a : Int))) (some (.int ik' (u : Int))) none).run P w = .ok (a, u, l.length) w := by simp [Instr.sliceBounds, bound_ok ha, bound_ok hu]
    have hr := run_slice_str (hT.at_ ht) hk ha w hb
    simp only [execOp, hρ x _ hx, Option.map_none, Option.map_some, hρ y _ hy, hρ z _ hz, Sem.run_bind, hr, Result.andThen_ok, Sem.run_pure]
end
end Go.FL
namespace Go.Proofs.YtoeeblegplghmaaGreatDoor
open Go Go.FL
structure Tm where
  kind : Int
  val : Int
  deriving DecidableEq
structure Ac where
  kind : Int
  tgt : Int
  x : Tm
  y : Tm
  deriving DecidableEq
structure Ins where
  name : List UInt8
  code : Int
  operand : Bool
  acts : List Ac
  deriving DecidableEq
structure Tab where
  cells : Int
  ins : List Ins
  deriving DecidableEq
def Sl {α : Type} (sz : Nat) (R : World → α → List Value → Prop) (s : World) (A : Option Addr) (n c : Nat) (l : List α) : Prop :=
  n = l.length ∧ n ≤ c ∧ c ≤ 9223372036854775807 ∧ ∀ i x, l[i]? = some x → ∃ b off cs, A = some ⟨b, off, none⟩ ∧ CellsAt s b (off + i * sz) cs ∧ cs.length = sz ∧ R s x cs
theorem Sl.le {α : Type} {sz : Nat} {R : World → α → List Value → Prop} {D : Nat} {s s' : World} {A : Option Addr} {n c : Nat} {l : List α} (hR : ∀ x cs, R s x cs → R s' x cs) (h : Sl sz R s A n c l) (hl : Le D s s') : Sl sz R s' A n c l :=
  ⟨h.1, h.2.1, h.2.2.1, fun i x hi => by
    obtain ⟨b, off, cs, h1, h2, h3, h4⟩ := h.2.2.2 i x hi
    exact ⟨b, off, cs, h1, h2.le hl, h3, hR x cs h4⟩⟩
def U32 (x : Int) : Prop := 0 ≤ x ∧ x < 4294967296
def Ac.cs (a : Ac) : List Value := [.int .i64 a.kind, .int .i64 a.tgt, .int .i64 a.x.kind, .int .u32 a.x.val, .int .i64 a.y.kind, .int .u32 a.y.val]
def Acs (s : World) (A : Option Addr) (n c : Nat) (l : List Ac) : Prop := Sl 6 (fun _ a cs => cs = a.cs ∧ U32 a.x.val ∧ U32 a.y.val) s A n c l
theorem Acs.le {D : Nat} {s s' : World} {A : Option Addr} {n c : Nat} {l : List Ac} (h : Acs s A n c l) (hl : Le D s s') : Acs s' A n c l := Sl.le (fun _ _ h => h) h hl
def InsR (s : World) (x : Ins) (cs : List Value) : Prop := ∃ A n c, cs = [St x.name, .int .u32 x.code, .bool x.operand, .slice A n c] ∧ Acs s A n c x.acts ∧ x.name.length ≤ 9223372036854775807 ∧ U32 x.code
def Inss (s : World) (A : Option Addr) (n c : Nat) (l : List Ins) : Prop := Sl 4 InsR s A n c l
theorem InsR.le {D : Nat} {s s' : World} {x : Ins} {cs : List Value} (h : InsR s x cs) (hl : Le D s s') : InsR s' x cs := by
  obtain ⟨A, n, c, h1, h2, h3⟩ := h
  exact ⟨A, n, c, h1, h2.le hl, h3⟩
theorem Inss.le {D : Nat} {s s' : World} {A : Option Addr} {n c : Nat} {l : List Ins} (h : Inss s A n c l) (hl : Le D s s') : Inss s' A n c l := Sl.le (fun _ _ h => h.le hl) h hl
theorem Acs.at_ {s : World} {A : Option Addr} {n c k : Nat} {l : List Ac} (h : Acs s A n c l) (hk : k < n) : ∃ b off a, A = some ⟨b, off, none⟩ ∧ l[k]? = some a ∧
    CellsAt s b (off + k * 6) [.int .i64 a.kind, .int .i64 a.tgt, .int .i64 a.x.kind, .int .u32 a.x.val, .int .i64 a.y.kind, .int .u32 a.y.val] ∧ U32 a.x.val ∧ U32 a.y.val := by
  have hl : k < l.length := by rw [← h.1]; exact hk
  obtain ⟨b, off, cs, h1, h2, _, rfl, h5⟩ := h.2.2.2 k l[k] (List.getElem?_eq_getElem hl)
  exact ⟨b, off, l[k], h1, List.getElem?_eq_getElem hl, h2, h5⟩
theorem Inss.at_ {s : World} {A : Option Addr} {n c k : Nat} {l : List Ins} (h : Inss s A n c l) (hk : k < n) : ∃ b off x A' n' c', A = some ⟨b, off, none⟩ ∧ l[k]? = some x ∧
    CellsAt s b (off + k * 4) [St x.name, .int .u32 x.code, .bool x.operand, .slice A' n' c'] ∧ Acs s A' n' c' x.acts ∧ x.name.length ≤ 9223372036854775807 ∧ U32 x.code := by
  have hl : k < l.length := by rw [← h.1]; exact hk
  obtain ⟨b, off, cs, h1, h2, _, A', n', c', rfl, h5, h6⟩ := h.2.2.2 k l[k] (List.getElem?_eq_getElem hl)
  exact ⟨b, off, l[k], A', n', c', h1, List.getElem?_eq_getElem hl, h2, h5, h6⟩
theorem Sl.take {α : Type} {sz : Nat} {R : World → α → List Value → Prop} {s : World} {A : Option Addr} {n c k : Nat} {l : List α} (h : Sl sz R s A n c l) (hk : k < n) : Sl sz R s A k c (l.take k) :=
  ⟨by have := h.1; simp; omega, by have := h.2.1; omega, h.2.2.1, fun i x hi => h.2.2.2 i x (by
    rw [List.getElem?_take] at hi
    split at hi
    · exact hi
    · cases hi)⟩
theorem Inss.take {s : World} {A : Option Addr} {n c k : Nat} {l : List Ins} (h : Inss s A n c l) (hk : k < n) : Inss s A k c (l.take k) := Sl.take h hk
def Wds (s : World) (A : Option Addr) (n c : Nat) (l : List Int) : Prop := Sl 1 (fun _ x cs => cs = [.int .u32 x] ∧ U32 x) s A n c l
def Bts (s : World) (A : Option Addr) (n c : Nat) (l : List UInt8) : Prop := Sl 1 (fun _ x cs => cs = [.int .u8 (x.toNat : Int)]) s A n c l
theorem Wds.le {D : Nat} {s s' : World} {A : Option Addr} {n c : Nat} {l : List Int} (h : Wds s A n c l) (hl : Le D s s') : Wds s' A n c l := Sl.le (fun _ _ h => h) h hl
theorem Bts.le {D : Nat} {s s' : World} {A : Option Addr} {n c : Nat} {l : List UInt8} (h : Bts s A n c l) (hl : Le D s s') : Bts s' A n c l := Sl.le (fun _ _ h => h) h hl
theorem Wds.at_ {s : World} {A : Option Addr} {n c k : Nat} {l : List Int} (h : Wds s A n c l) (hk : k < n) : ∃ b off x, A = some ⟨b, off, none⟩ ∧ l[k]? = some x ∧ CellsAt s b (off + k) [.int .u32 x] ∧ U32 x := by
  have hl : k < l.length := by rw [← h.1]; exact hk
  obtain ⟨b, off, cs, h1, h2, _, rfl, h4⟩ := h.2.2.2 k l[k] (List.getElem?_eq_getElem hl)
  exact ⟨b, off, l[k], h1, List.getElem?_eq_getElem hl, by simpa using h2, h4⟩
theorem Bts.at_ {s : World} {A : Option Addr} {n c k : Nat} {l : List UInt8} (h : Bts s A n c l) (hk : k < n) : ∃ b off x, A = some ⟨b, off, none⟩ ∧ l[k]? = some x ∧ CellsAt s b (off + k) [.int .u8 (x.toNat : Int)] := by
  have hl : k < l.length := by rw [← h.1]; exact hk
  obtain ⟨b, off, cs, h1, h2, _, rfl⟩ := h.2.2.2 k l[k] (List.getElem?_eq_getElem hl)
  exact ⟨b, off, l[k], h1, List.getElem?_eq_getElem hl, by simpa using h2⟩
end Go.Proofs.YtoeeblegplghmaaGreatDoor
namespace Go.Proofs.YtoeeblegplghmaaGreatDoor
open Go Go.FL
theorem below_succ {α : Type} {p : Nat → α → Prop} {l : List α} {k : Nat} {a : α} (h : ∀ i b, i < k → l[i]? = some b → p i b) (hk : l[k]? = some a) (ha : p k a) : ∀ i b, i < k + 1 → l[i]? = some b → p i b := by
  intro i b hi hb
  rcases Nat.lt_succ_iff_lt_or_eq.1 hi with h1 | rfl
  · exact h i b h1 hb
  · rw [hk] at hb; injection hb with hb; subst hb; exact ha
def letB (c : UInt8) : Bool := decide (97 ≤ c.toNat) && decide (c.toNat ≤ 122)
def digB (c : UInt8) : Bool := decide (48 ≤ c.toNat) && decide (c.toNat ≤ 57)
def chOK (i : Nat) (c : UInt8) : Bool := letB c || (digB c && decide (i ≠ 0))
def charsFrom (i : Nat) : List UInt8 → Bool
  | [] => true
  | c :: r => chOK i c && charsFrom (i + 1) r
theorem charsFrom_iff (l : List UInt8) (i : Nat) : charsFrom i l = true ↔ ∀ j c, l[j]? = some c → chOK (i + j) c = true := by
  induction l generalizing i with
  | nil => simp [charsFrom]
  | cons c r ih =>
    simp only [charsFrom, Bool.and_eq_true, ih]
    constructor
    · rintro ⟨h1, h2⟩ j d hj
      cases j with
      | zero => simp at hj; subst hj; exact h1
      | succ j => simp at hj; have := h2 j d hj; rwa [Nat.add_assoc, Nat.add_comm 1 j] at this
    · intro h
      exact ⟨by simpa using h 0 c (by simp), fun j d hj => by have := h (j + 1) d (by simpa using hj); rwa [Nat.add_assoc, Nat.add_comm 1 j]⟩
theorem chars_all {l : List UInt8} (h : ∀ i c, i < l.length → l[i]? = some c → chOK i c = true) : charsFrom 0 l = true :=
  (charsFrom_iff l 0).2 fun j c hj => by
    have hl : j < l.length := (List.getElem?_eq_some_iff.1 hj).1
    simpa using h j c hl hj
theorem chars_not {l : List UInt8} {k : Nat} {c : UInt8} (hk : l[k]? = some c) (h : chOK k c = false) : charsFrom 0 l = false := by
  cases hb : charsFrom 0 l with
  | false => rfl
  | true => have := (charsFrom_iff l 0).1 hb k c hk; simp at this; rw [this] at h; cases h
def labelB (l : List UInt8) : Bool := decide (l ≠ []) && decide (l.length ≤ 6) && charsFrom 0 l
def mnemB (l : List UInt8) : Bool := labelB l && decide (l ≠ [119, 111, 114, 100]) && decide (l ≠ [115, 112, 97, 99, 101])
def firstNZ : List Int → Int
  | [] => 0
  | c :: r => if c ≠ 0 then c else firstNZ r
theorem firstNZ_hit {α : Type} {f : α → Int} {l : List α} {k : Nat} {a : α} (h : ∀ i b, i < k → l[i]? = some b → f b = 0) (hk : l[k]? = some a) (ha : f a ≠ 0) : firstNZ (l.map f) = f a := by
  induction l generalizing k with
  | nil => simp at hk
  | cons b r ih =>
    cases k with
    | zero => simp at hk; subst hk; simp [firstNZ, ha]
    | succ k =>
      have h0 := h 0 b (by omega) (by simp)
      simp only [List.map_cons, firstNZ, h0, ne_eq, not_true, if_false]
      exact ih (k := k) (fun i c hi hc => h (i + 1) c (by omega) (by simpa using hc)) (by simpa using hk)
theorem firstNZ_none {α : Type} {f : α → Int} {l : List α} (h : ∀ i b, i < l.length → l[i]? = some b → f b = 0) : firstNZ (l.map f) = 0 := by
  induction l with
  | nil => rfl
  | cons b r ih =>
    have h0 := h 0 b (by simp) (by simp)
    simp only [List.map_cons, firstNZ, h0, ne_eq, not_true, if_false]
    exact ih fun i c hi hc => h (i + 1) c (by simp; omega) (by simpa using hc)
def firstBad (f : Nat → Int) : Nat → Nat → Int × Int
  | 0, _ => (0, 0)
  | m + 1, k => if f k ≠ 0 then (f k, (k : Int)) else firstBad f m (k + 1)
theorem firstBad_hit {f : Nat → Int} {m k j : Nat} (h : ∀ i, j ≤ i → i < k → f i = 0) (hj : j ≤ k) (hk : f k ≠ 0) (hm : k < j + m) : firstBad f m j = (f k, (k : Int)) := by
  induction m generalizing j with
  | zero => omega
  | succ m ih =>
    by_cases he : j = k
    · subst he; simp [firstBad, hk]
    · have h0 := h j (Nat.le_refl _) (by omega)
      simp only [firstBad, h0, ne_eq, not_true, if_false]
      exact ih (fun i h1 h2 => h i (by omega) h2) (by omega) (by omega)
theorem firstBad_none {f : Nat → Int} {m j : Nat} (h : ∀ i, j ≤ i → i < j + m → f i = 0) : firstBad f m j = (0, 0) := by
  induction m generalizing j with
  | zero => rfl
  | succ m ih =>
    have h0 := h j (Nat.le_refl _) (by omega)
    simp only [firstBad, h0, ne_eq, not_true, if_false]
    exact ih fun i h1 h2 => h i (by omega) (by omega)
def usesT (k : Int) : Bool := !(decide (k = 14) || decide (k = 18) || decide (k = 16) || decide (k = 17))
def usesX (k : Int) : Bool := !(decide (k = 15))
def usesY (k : Int) : Bool := !(decide (k = 16) || decide (k = 17) || decide (k = 15) || decide (k = 0) || decide (k = 13))
def termB (t : Tm) (u o : Bool) : Bool := if u then (decide (t.kind = 0) || decide (t.kind = 1) && decide (t.val ≤ 4) || decide (t.kind = 2) && decide (t.val = 0) && o) else decide (t.kind = 0) && decide (t.val = 0)
def actCode (a : Ac) (o : Bool) : Int :=
  if a.kind < 0 ∨ 20 ≤ a.kind then 5 else if a.tgt < 0 ∨ 4 < a.tgt then 4
  else if (!usesT a.kind && decide (a.tgt ≠ 0)) || !termB a.x (usesX a.kind) o || !termB a.y (usesY a.kind) o then 6 else 0
def insCode (x : Ins) : Int := if mnemB x.name = false then 7 else if 8 < x.acts.length then 2 else firstNZ (x.acts.map fun a => actCode a x.operand)
def sameKey (x y : Ins) : Bool := decide (x.name = y.name) || decide (x.code = y.code)
def idxOf {α : Type} (p : α → Bool) : List α → Nat → Int
  | [], _ => -1
  | x :: r, k => if p x then (k : Int) else idxOf p r (k + 1)
theorem idxOf_hit {α : Type} {p : α → Bool} {l : List α} {k j : Nat} {a : α} (h : ∀ i b, i < k → l[i]? = some b → p b = false) (hk : l[k]? = some a) (ha : p a = true) : idxOf p l j = (j + k : Nat) := by
  induction l generalizing k j with
  | nil => simp at hk
  | cons b r ih =>
    cases k with
    | zero => simp at hk; subst hk; simp [idxOf, ha]
    | succ k =>
      have h0 := h 0 b (by omega) (by simp)
      simp only [idxOf, h0, Bool.false_eq_true, if_false]
      rw [ih (k := k) (fun i c hi hc => h (i + 1) c (by omega) (by simpa using hc)) (by simpa using hk)]
      congr 1; omega
theorem idxOf_none {α : Type} {p : α → Bool} {l : List α} {j : Nat} (h : ∀ i b, i < l.length → l[i]? = some b → p b = false) : idxOf p l j = -1 := by
  induction l generalizing j with
  | nil => rfl
  | cons b r ih =>
    have h0 := h 0 b (by simp) (by simp)
    simp only [idxOf, h0, Bool.false_eq_true, if_false]
    exact ih fun i c hi hc => h (i + 1) c (by simp; omega) (by simpa using hc)
theorem idxOf_any {α : Type} (p : α → Bool) (l : List α) (j : Nat) : decide (0 ≤ idxOf p l j) = l.any p := by
  induction l generalizing j with
  | nil => simp [idxOf]
  | cons b r ih =>
    by_cases hb : p b = true
    · simp [idxOf, hb]
    · simp only [idxOf, hb]; simpa [hb] using ih (j + 1)
def rowCode (l : List Ins) (k : Nat) : Int := match l[k]? with
  | none => 0
  | some x => if insCode x ≠ 0 then insCode x else if (l.take k).any (sameKey x) then 8 else 0
def tabFault (t : Tab) : Int × Int :=
  if t.cells < 1 ∨ 65536 < t.cells then (4, -1) else if 64 < t.ins.length then (2, -1) else firstBad (rowCode t.ins) t.ins.length 0
theorem tab_hit {t : Tab} {k : Nat} {c : Int} (h0 : 1 ≤ t.cells ∧ t.cells ≤ 65536) (h1 : t.ins.length ≤ 64) (hI : ∀ i, i < k → rowCode t.ins i = 0) (hk : k < t.ins.length) (hr : rowCode t.ins k = c) (hc : c ≠ 0) : tabFault t = (c, (k : Int)) := by
  subst hr
  have hb := firstBad_hit (f := rowCode t.ins) (m := t.ins.length) (j := 0) (k := k) (fun i _ hi => hI i hi) (by omega) hc (by omega)
  unfold tabFault
  rw [if_neg (by omega), if_neg (by omega), hb]
theorem tab_none {t : Tab} (h0 : 1 ≤ t.cells ∧ t.cells ≤ 65536) (h1 : t.ins.length ≤ 64) (hI : ∀ i, i < t.ins.length → rowCode t.ins i = 0) : tabFault t = (0, 0) := by
  have hb := firstBad_none (f := rowCode t.ins) (m := t.ins.length) (j := 0) (fun i _ hi => hI i (by omega))
  unfold tabFault
  rw [if_neg (by omega), if_neg (by omega), hb]
theorem any_take {α : Type} {l : List α} {p : α → Bool} {m k : Nat} {y : α} (hy : l[m]? = some y) (hm : m < k) (h : p y = true) : (l.take k).any p = true := by
  rw [List.any_eq_true]
  exact ⟨y, List.mem_of_getElem? (i := m) (by rw [List.getElem?_take, if_pos hm]; exact hy), h⟩
theorem any_take_none {α : Type} {l : List α} {p : α → Bool} {k : Nat} (h : ∀ i y, i < k → l[i]? = some y → p y = false) : (l.take k).any p = false := by
  rw [List.any_eq_false]
  intro y hy
  obtain ⟨i, hi, he⟩ := List.getElem_of_mem hy
  have hlt : i < k := by simp at hi; omega
  have hg : l[i]? = some y := by
    have := List.getElem?_eq_getElem hi
    rw [List.getElem?_take, if_pos hlt] at this
    rw [this, he]
  simp [h i y hlt hg]
theorem row_ok {l : List Ins} {k : Nat} {x : Ins} (hx : l[k]? = some x) (hm : mnemB x.name = true) (h8 : ¬ 8 < x.acts.length) (hJ : ∀ i a, i < x.acts.length → x.acts[i]? = some a → actCode a x.operand = 0) (hM : ∀ i y, i < k → l[i]? = some y → sameKey x y = false) : rowCode l k = 0 := by
  have hf := firstNZ_none (l := x.acts) (f := fun a => actCode a x.operand) hJ
  simp [rowCode, hx, insCode, hm, h8, hf, any_take_none hM]
theorem mnem_T {l : List UInt8} (h : labelB l = true) (h1 : ¬ l = [119, 111, 114, 100]) (h2 : ¬ l = [115, 112, 97, 99, 101]) : mnemB l = true := by simp [mnemB, h, h1, h2]
theorem mnem_F1 {l : List UInt8} (h : labelB l = false) : mnemB l = false := by simp [mnemB, h]
theorem mnem_F2 {l : List UInt8} (h : l = [119, 111, 114, 100]) : mnemB l = false := by simp [mnemB, h]
theorem mnem_F3 {l : List UInt8} (h : l = [115, 112, 97, 99, 101]) : mnemB l = false := by simp [mnemB, h]
theorem same_T1 {x y : Ins} (h : y.name = x.name) : sameKey x y = true := by simp [sameKey, h]
theorem same_T2 {x y : Ins} (h : y.code = x.code) : sameKey x y = true := by simp [sameKey, h]
theorem same_F {x y : Ins} (h1 : ¬ y.name = x.name) (h2 : ¬ y.code = x.code) : sameKey x y = false := by
  simp only [sameKey, Bool.or_eq_false_iff, decide_eq_false_iff_not]
  exact ⟨fun e => h1 e.symm, fun e => h2 e.symm⟩
end Go.Proofs.YtoeeblegplghmaaGreatDoor
namespace Go.Proofs.YtoeeblegplghmaaGreatDoor
open Go Go.FL
def valD (acc : Nat) (l : List UInt8) : Nat := l.foldl (fun a c => a * 10 + (c.toNat - 48)) acc
def canonB (l : List UInt8) : Bool := decide (l ≠ []) && l.all digB && (decide (l.length ≤ 1) || decide (l.head? ≠ some 48))
def numL (l : List UInt8) : Option Nat := if canonB l = true ∧ valD 0 l < 4294967296 then some (valD 0 l) else none
theorem valD_nil (acc : Nat) : valD acc [] = acc := rfl
theorem valD_cons (acc : Nat) (c : UInt8) (r : List UInt8) : valD acc (c :: r) = valD (acc * 10 + (c.toNat - 48)) r := by unfold valD; rw [List.foldl_cons]
theorem valD_one (c : UInt8) : valD 0 [c] = c.toNat - 48 := by rw [valD_cons, valD_nil, Nat.zero_mul, Nat.zero_add]
attribute [local irreducible] valD
theorem valD_snoc (l : List UInt8) (c : UInt8) (acc : Nat) : valD acc (l ++ [c]) = valD acc l * 10 + (c.toNat - 48) := by
  induction l generalizing acc with
  | nil => rw [List.nil_append, valD_cons, valD_nil, valD_nil]
  | cons x l ih => rw [List.cons_append, valD_cons, valD_cons]; exact ih _
theorem valD_ge (l : List UInt8) (acc : Nat) : acc ≤ valD acc l := by
  induction l generalizing acc with
  | nil => rw [valD_nil]; exact Nat.le_refl _
  | cons x l ih => have := ih (acc * 10 + (x.toNat - 48)); rw [valD_cons]; omega
theorem parseM_of {M acc : Nat} {l : List UInt8} (hM : M < 1844674407370955162) (h : l.all digB = true) (hv : valD acc l ≤ M) : Lib.parseUintM M acc l = .ok (valD acc l) := by
  induction l generalizing acc with
  | nil => rw [valD_nil]; rfl
  | cons c l ih =>
    simp only [List.all_cons, Bool.and_eq_true, digB, decide_eq_true_eq] at h
    rw [valD_cons] at hv ⊢
    have h1 := valD_ge l (acc * 10 + (c.toNat - 48))
    simp only [Lib.parseUintM]
    rw [if_pos h.1, if_neg (by omega), if_neg (by omega)]
    exact ih (by simpa [digB] using h.2) hv
theorem dig_of {u : Nat} (h : u < 10) : (UInt8.ofNat (48 + u)).toNat = 48 + u := by simp; omega
theorem dec_val (u : Nat) : valD 0 (Lib.decDigits u) = u := by
  induction u using Nat.strongRecOn with
  | _ u ih =>
    by_cases h : u < 10
    · rw [Lib.decDigits, dif_pos h]; rw [valD_one, dig_of h]; omega
    · rw [Lib.decDigits, dif_neg h, valD_snoc, ih (u / 10) (by omega), dig_of (by omega)]; omega
theorem dec_ne (u : Nat) : Lib.decDigits u ≠ [] := by
  by_cases h : u < 10
  · rw [Lib.decDigits, dif_pos h]; simp
  · rw [Lib.decDigits, dif_neg h]; simp
theorem dec_dig (u : Nat) : (Lib.decDigits u).all digB = true := by
  induction u using Nat.strongRecOn with
  | _ u ih =>
    by_cases h : u < 10
    · rw [Lib.decDigits, dif_pos h]; simp only [List.all_cons, List.all_nil, Bool.and_true, digB, dig_of h, Bool.and_eq_true, decide_eq_true_eq]; omega
    · rw [Lib.decDigits, dif_neg h, List.all_append, ih (u / 10) (by omega)]
      simp only [List.all_cons, List.all_nil, Bool.and_true, digB, dig_of (show u % 10 < 10 by omega), Bool.and_eq_true, decide_eq_true_eq, Bool.true_and]; omega
theorem dec_head (u : Nat) (h : 1 ≤ u) : (Lib.decDigits u).head? ≠ some 48 := by
  induction u using Nat.strongRecOn with
  | _ u ih =>
    by_cases h1 : u < 10
    · rw [Lib.decDigits, dif_pos h1]; intro e
      simp only [List.head?_cons, Option.some.injEq] at e
      have := congrArg UInt8.toNat e; rw [dig_of h1] at this; simp at this; omega
    · rw [Lib.decDigits, dif_neg h1]
      have hne := dec_ne (u / 10)
      have := ih (u / 10) (by omega) (by omega)
      cases hd : Lib.decDigits (u / 10) with
      | nil => exact absurd hd hne
      | cons x r => rw [hd] at this; simpa using this
theorem dec_canon (u : Nat) : canonB (Lib.decDigits u) = true := by
  simp only [canonB, dec_dig, dec_ne, ne_eq, not_false_eq_true, decide_true, Bool.true_and, Bool.or_eq_true, decide_eq_true_eq]
  by_cases h : u < 10
  · left; rw [Lib.decDigits, dif_pos h]; simp
  · right; exact dec_head u (by omega)
theorem valD_pos {l : List UInt8} {c : UInt8} {r : List UInt8} (he : l = c :: r) (hd : digB c = true) (h : c ≠ 48) : 1 ≤ valD 0 l := by
  subst he
  have h1 := valD_ge r (0 * 10 + (c.toNat - 48))
  simp only [digB, Bool.and_eq_true, decide_eq_true_eq] at hd
  have : c.toNat ≠ 48 := fun e => h (UInt8.toNat_inj.1 e)
  rw [valD_cons]; omega
theorem canon_dec {l : List UInt8} (h : canonB l = true) : Lib.decDigits (valD 0 l) = l := by
  induction hn : l.length using Nat.strongRecOn generalizing l with
  | _ n ih =>
    simp only [canonB, Bool.and_eq_true, decide_eq_true_eq, Bool.or_eq_true] at h
    obtain ⟨⟨h0, h1⟩, h2⟩ := h
    obtain ⟨m, c, rfl⟩ : ∃ m c, l = m ++ [c] := ⟨l.dropLast, l.getLast h0, (List.dropLast_concat_getLast h0).symm⟩
    rw [List.all_append, Bool.and_eq_true] at h1
    have hc : 48 ≤ c.toNat ∧ c.toNat ≤ 57 := by simpa [digB] using h1.2
    have hcc : UInt8.ofNat (48 + (c.toNat - 48)) = c := by apply UInt8.toNat_inj.1; simp; omega
    rw [valD_snoc]
    cases hm : m with
    | nil => rw [valD_nil, Lib.decDigits, dif_pos (by omega)]; simp [hcc]
    | cons x r =>
      have hx : (m ++ [c]).head? = some x := by rw [hm]; rfl
      have hx48 : x ≠ 48 := by
        rcases h2 with h2 | h2
        · rw [hm] at h2; simp at h2
        · intro e; exact h2 (by rw [hx, e])
      have hdx : digB x = true := by have := h1.1; rw [hm, List.all_cons, Bool.and_eq_true] at this; exact this.1
      have hp := valD_pos hm hdx hx48
      have hcm : canonB m = true := by
        simp only [canonB, Bool.and_eq_true, decide_eq_true_eq, Bool.or_eq_true]
        refine ⟨⟨by rw [hm]; simp, h1.1⟩, .inr ?_⟩
        rw [hm]; simpa using hx48
      have hd := ih m.length (by rw [← hn]; simp) hcm rfl
      rw [← hm]
      rw [Lib.decDigits, dif_neg (by omega)]
      rw [show (valD 0 m * 10 + (c.toNat - 48)) / 10 = valD 0 m by omega, hd, show (valD 0 m * 10 + (c.toNat - 48)) % 10 = c.toNat - 48 by omega, hcc]
theorem numL_dec {u : Nat} (h : u < 4294967296) : numL (Lib.decDigits u) = some u := by rw [numL, if_pos ⟨dec_canon u, by rw [dec_val]; exact h⟩, dec_val]
theorem numL_some {l : List UInt8} {u : Nat} (h : numL l = some u) : l = Lib.decDigits u ∧ u < 4294967296 := by
  unfold numL at h
  split at h
  · rename_i hh; injection h with h; subst h; exact ⟨(canon_dec hh.1).symm, hh.2⟩
  · cases h
theorem parse_num (l : List UInt8) (u : Nat) : (Lib.parseUintB 32 l = .ok u ∧ Lib.decDigits u = l) ↔ numL l = some u := by
  constructor
  · rintro ⟨h, rfl⟩
    exact numL_dec (by have := Lib.parseUintB_le h; omega)
  · intro h
    obtain ⟨rfl, hu⟩ := numL_some h
    refine ⟨?_, rfl⟩
    rw [Lib.parseUintB, if_neg (dec_ne u)]
    have := parseM_of (M := 2 ^ 32 - 1) (acc := 0) (by decide) (dec_dig u) (by rw [dec_val]; omega)
    rw [dec_val] at this; exact this
theorem nDig_le (k u : Nat) (h : u < 10 ^ (k + 1)) : Lib.nDigits u ≤ k + 1 := by
  induction k generalizing u with
  | zero => rw [Lib.nDigits_small (by simpa using h)]; exact Nat.le_refl _
  | succ k ih =>
    by_cases h1 : u < 10
    · rw [Lib.nDigits_small h1]; omega
    · rw [Lib.nDigits_big h1]; have := ih (u / 10) (by rw [Nat.pow_succ] at h; omega); omega
theorem dec_len {u : Nat} (h : u < 4294967296) : 1 ≤ (Lib.decDigits u).length ∧ (Lib.decDigits u).length ≤ 10 := by
  rw [Lib.decDigits_length]
  exact ⟨Lib.nDigits_pos u, nDig_le 9 u (by omega)⟩
end Go.Proofs.YtoeeblegplghmaaGreatDoor
namespace Go.Proofs.YtoeeblegplghmaaGreatDoor
open Go Go.FL
abbrev Str := List UInt8
def isBlk (c : UInt8) : Bool := decide (c = 32) || decide (c = 10)
def fw : Str → Str → List Str
  | cur, [] => if cur = [] then [] else [cur]
  | cur, c :: r => if isBlk c = true then (if cur = [] then fw [] r else cur :: fw [] r) else fw (cur ++ [c]) r
def flds (l : Str) : List Str := fw [] l
def bare1 (w : Str) : Prop := w ≠ [] ∧ ∀ c ∈ w, isBlk c = false
def joinW : List Str → Str
  | [] => []
  | [x] => x
  | x :: y :: r => x ++ 32 :: joinW (y :: r)
theorem fw_run (cur w r : Str) (h : ∀ c ∈ w, isBlk c = false) : fw cur (w ++ r) = fw (cur ++ w) r := by
  induction w generalizing cur with
  | nil => simp
  | cons c w ih =>
    have h1 := h c (List.mem_cons_self ..)
    simp only [List.cons_append, fw, h1, Bool.false_eq_true, if_false]
    rw [ih _ (fun x hx => h x (List.mem_cons_of_mem _ hx))]
    simp
theorem fw_word (w r : Str) (b : UInt8) (h : bare1 w) (hb : isBlk b = true) : fw [] (w ++ b :: r) = w :: fw [] r := by
  rw [fw_run _ _ _ h.2, List.nil_append, fw, if_pos hb, if_neg h.1]
theorem fw_last (w : Str) (h : bare1 w) : fw [] w = [w] := by
  have := fw_run [] w [] h.2
  simp only [List.append_nil, List.nil_append] at this
  rw [this, fw, if_neg h.1]
theorem fw_bare : ∀ (l cur : Str), (∀ c ∈ cur, isBlk c = false) → ∀ w ∈ fw cur l, bare1 w := by
  intro l
  induction l with
  | nil =>
    intro cur hc w hw
    rw [fw] at hw
    split at hw
    · cases hw
    · rename_i h
      simp only [List.mem_singleton] at hw
      subst hw; exact ⟨h, hc⟩
  | cons c r ih =>
    intro cur hc w hw
    rw [fw] at hw
    split at hw
    · split at hw
      · exact ih [] (fun _ h => by cases h) w hw
      · rename_i h
        rcases List.mem_cons.1 hw with rfl | hw
        · exact ⟨h, hc⟩
        · exact ih [] (fun _ h => by cases h) w hw
    · rename_i hb
      refine ih _ (fun x hx => ?_) w hw
      rcases List.mem_append.1 hx with h | h
      · exact hc x h
      · simp only [List.mem_singleton] at h; subst h; simpa using hb
theorem flds_bare (l : Str) : ∀ w ∈ flds l, bare1 w := fw_bare l [] (fun _ h => by cases h)
theorem flds_join : ∀ (ws : List Str), (∀ w ∈ ws, bare1 w) → flds (joinW ws) = ws
  | [], _ => rfl
  | [x], h => fw_last x (h x (List.mem_cons_self ..))
  | x :: y :: r, h => by
    show fw [] (x ++ 32 :: joinW (y :: r)) = _
    rw [fw_word _ _ _ (h x (List.mem_cons_self ..)) (by decide)]
    have := flds_join (y :: r) (fun w hw => h w (List.mem_cons_of_mem _ hw))
    rw [flds] at this
    rw [this]
theorem join_inj {a b : List Str} (ha : ∀ w ∈ a, bare1 w) (hb : ∀ w ∈ b, bare1 w) (h : joinW a = joinW b) : a = b := by
  rw [← flds_join a ha, ← flds_join b hb, h]
def lnF : Str → Str → List Str → Str
  | text, line, [] => text ++ line ++ [10]
  | text, line, w :: r => if line = [] then lnF text w r else if 72 < line.length + 1 + w.length then lnF (text ++ line ++ [10]) w r else lnF text (line ++ 32 :: w) r
def linesW (ws : List Str) : Str := lnF [] [] ws
theorem fw_append_blank : ∀ (l : Str) (cur : Str) (b : UInt8) (r : Str), isBlk b = true → fw cur (l ++ b :: r) = fw cur (l ++ [b]) ++ fw [] r := by
  intro l
  induction l with
  | nil =>
    intro cur b r hb
    simp only [List.nil_append, fw, hb, if_true]
    split <;> simp_all
  | cons c l ih =>
    intro cur b r hb
    simp only [List.cons_append, fw]
    split
    · split
      · exact ih [] b r hb
      · rw [ih [] b r hb]; rfl
    · exact ih _ b r hb
theorem fw_snoc_blank : ∀ (l cur : Str) (b : UInt8), isBlk b = true → fw cur (l ++ [b]) = fw cur l := by
  intro l
  induction l with
  | nil => intro cur b hb; simp only [List.nil_append, fw, hb, if_true]
  | cons c l ih =>
    intro cur b hb
    simp only [List.cons_append, fw]
    rw [ih _ b hb, ih _ b hb]
theorem flds_sep (l r : Str) (b : UInt8) (hb : isBlk b = true) : flds (l ++ b :: r) = flds l ++ flds r := by
  unfold flds
  rw [fw_append_blank _ _ _ _ hb, fw_snoc_blank _ _ _ hb]
theorem flds_nil : flds [] = [] := rfl
theorem flds_one {w : Str} (h : bare1 w) : flds w = [w] := fw_last w h
theorem flds_end (l : Str) (b : UInt8) (hb : isBlk b = true) : flds (l ++ [b]) = flds l := fw_snoc_blank l [] b hb
def DoneT (t : Str) : Prop := t = [] ∨ ∃ u, t = u ++ [10]
theorem done_flds {t r : Str} (h : DoneT t) : flds (t ++ r) = flds t ++ flds r := by
  rcases h with rfl | ⟨u, rfl⟩
  · rfl
  · rw [flds_end _ _ (by decide), List.append_assoc, List.singleton_append, flds_sep _ _ _ (by decide)]
theorem lnF_flds : ∀ (ws : List Str) (text line : Str), (∀ w ∈ ws, bare1 w) → DoneT text → flds (lnF text line ws) = flds text ++ flds line ++ ws := by
  intro ws
  induction ws with
  | nil =>
    intro text line _ hd
    rw [lnF, flds_end _ _ (by decide), done_flds hd]; simp
  | cons w r ih =>
    intro text line h hd
    have hw := h w (List.mem_cons_self ..)
    have hr : ∀ w ∈ r, bare1 w := fun x hx => h x (List.mem_cons_of_mem _ hx)
    rw [lnF]
    split
    · rename_i h0
      rw [ih _ _ hr hd, h0, flds_one hw]; simp [flds_nil]
    · split
      · rw [ih _ _ hr (.inr ⟨_, rfl⟩), flds_end _ _ (by decide), done_flds hd, flds_one hw]; simp
      · rw [ih _ _ hr hd, flds_sep _ _ _ (by decide), flds_one hw]; simp
theorem lines_flds {ws : List Str} (h : ∀ w ∈ ws, bare1 w) : flds (linesW ws) = ws := by
  rw [linesW, lnF_flds ws [] [] h (.inl rfl)]; rfl
end Go.Proofs.YtoeeblegplghmaaGreatDoor
namespace Go.Proofs.YtoeeblegplghmaaGreatDoor
open Go Go.FL
inductive It where
  | lit (w : Str)
  | tt (sg : Str)
  | xx (sg : Str)
  | yy (sg : Str)
  deriving DecidableEq
def sentI : List (List It) := [
  [.lit [80, 117, 116], .xx [], .lit [105, 110, 116, 111], .tt [46]],
  [.lit [80, 117, 116], .lit [116, 104, 101], .lit [115, 117, 109], .lit [111, 102], .xx [], .lit [97, 110, 100], .yy [], .lit [105, 110, 116, 111], .tt [46]],
  [.lit [80, 117, 116], .lit [116, 104, 101], .lit [100, 105, 102, 102, 101, 114, 101, 110, 99, 101], .lit [111, 102], .xx [], .lit [97, 110, 100], .yy [], .lit [105, 110, 116, 111], .tt [46]],
  [.lit [80, 117, 116], .lit [116, 104, 101], .lit [112, 114, 111, 100, 117, 99, 116], .lit [111, 102], .xx [], .lit [97, 110, 100], .yy [], .lit [105, 110, 116, 111], .tt [46]],
  [.lit [80, 117, 116], .lit [116, 104, 101], .lit [113, 117, 111, 116, 105, 101, 110, 116], .lit [111, 102], .xx [], .lit [97, 110, 100], .yy [], .lit [105, 110, 116, 111], .tt [46]],
  [.lit [80, 117, 116], .lit [116, 104, 101], .lit [114, 101, 109, 97, 105, 110, 100, 101, 114], .lit [111, 102], .xx [], .lit [97, 110, 100], .yy [], .lit [105, 110, 116, 111], .tt [46]],
  [.lit [80, 117, 116], .lit [116, 104, 101], .lit [98, 105, 116, 115], .lit [116, 104, 97, 116], .xx [], .lit [97, 110, 100], .yy [], .lit [115, 104, 97, 114, 101], .lit [105, 110, 116, 111], .tt [46]],
  [.lit [80, 117, 116], .lit [116, 104, 101], .lit [98, 105, 116, 115], .lit [116, 104, 97, 116], .xx [], .lit [111, 114], .yy [], .lit [104, 97, 115], .lit [105, 110, 116, 111], .tt [46]],
  [.lit [80, 117, 116], .lit [116, 104, 101], .lit [98, 105, 116, 115], .lit [105, 110], .lit [119, 104, 105, 99, 104], .xx [], .lit [97, 110, 100], .yy [], .lit [100, 105, 102, 102, 101, 114], .lit [105, 110, 116, 111], .tt [46]],
  [.lit [80, 117, 116], .xx [], .lit [109, 111, 118, 101, 100], .lit [116, 111], .lit [116, 104, 101], .lit [108, 101, 102, 116], .lit [98, 121], .yy [], .lit [105, 110, 116, 111], .tt [46]],
  [.lit [80, 117, 116], .xx [], .lit [109, 111, 118, 101, 100], .lit [116, 111], .lit [116, 104, 101], .lit [114, 105, 103, 104, 116], .lit [98, 121], .yy [], .lit [105, 110, 116, 111], .tt [46]],
  [.lit [80, 117, 116], .lit [49], .lit [105, 110, 116, 111], .tt [], .lit [105, 102], .xx [], .lit [101, 113, 117, 97, 108, 115], .yy [44], .lit [97, 110, 100], .lit [48], .lit [105, 102], .lit [110, 111, 116, 46]],
  [.lit [80, 117, 116], .lit [49], .lit [105, 110, 116, 111], .tt [], .lit [105, 102], .xx [], .lit [105, 115], .lit [108, 101, 115, 115], .lit [116, 104, 97, 110], .yy [44], .lit [97, 110, 100], .lit [48], .lit [105, 102], .lit [110, 111, 116, 46]],
  [.lit [80, 117, 116], .lit [116, 104, 101], .lit [110, 117, 109, 98, 101, 114], .lit [105, 110], .lit [99, 101, 108, 108], .xx [], .lit [105, 110, 116, 111], .tt [46]],
  [.lit [80, 117, 116], .yy [], .lit [105, 110, 116, 111], .lit [99, 101, 108, 108], .xx [46]],
  [.lit [80, 117, 116], .lit [116, 104, 101], .lit [110, 101, 120, 116], .lit [105, 110, 112, 117, 116], .lit [105, 110, 116, 111], .tt [46]],
  [.lit [87, 114, 105, 116, 101], .xx [46]],
  [.lit [83, 116, 111, 112], .lit [119, 105, 116, 104], .xx [46]],
  [.lit [83, 116, 111, 112], .lit [119, 105, 116, 104], .xx [], .lit [105, 102], .yy [], .lit [105, 115], .lit [48, 46]],
  [.lit [80, 117, 116], .xx [], .lit [105, 110, 116, 111], .tt [], .lit [105, 102], .yy [], .lit [105, 115], .lit [48, 46]]]
def regN (w : Str) : Int := if w = [65] then 0 else if w = [66] then 1 else if w = [67] then 2 else if w = [68] then 3 else if w = [80] then 4 else -1
def regS (v : Int) : Str := if v = 0 then [65] else if v = 1 then [66] else if v = 2 then [67] else if v = 3 then [68] else [80]
def termS (t : Tm) : Str := if t.kind = 1 then regS t.val else if t.kind = 2 then [78] else Lib.decDigits t.val.toNat
def trmO (w : Str) : Option Tm := if w = [78] then some ⟨2, 0⟩ else if 0 ≤ regN w then some ⟨1, regN w⟩ else (numL w).map fun (n : Nat) => ⟨0, (n : Int)⟩
def TmG (t : Tm) : Prop := (t.kind = 0 ∧ U32 t.val) ∨ (t.kind = 1 ∧ 0 ≤ t.val ∧ t.val ≤ 4) ∨ (t.kind = 2 ∧ t.val = 0)
def AcT (a : Ac) : Prop := (0 ≤ a.tgt ∧ a.tgt ≤ 4) ∧ TmG a.x ∧ TmG a.y
def cutS (w sg : Str) : Str := w.take (w.length - sg.length)
def ends (w sg : Str) : Bool := decide (w = cutS w sg ++ sg)
def genI (a : Ac) : It → Str
  | .lit w => w
  | .tt sg => regS a.tgt ++ sg
  | .xx sg => termS a.x ++ sg
  | .yy sg => termS a.y ++ sg
def prsI (a : Ac) : It → Str → Option Ac
  | .lit v, w => if w = v then some a else none
  | .tt sg, w => if ends w sg = true ∧ 0 ≤ regN (cutS w sg) then some { a with tgt := regN (cutS w sg) } else none
  | .xx sg, w => if ends w sg = true then (trmO (cutS w sg)).map fun t => { a with x := t } else none
  | .yy sg, w => if ends w sg = true then (trmO (cutS w sg)).map fun t => { a with y := t } else none
def prsL : List It → List Str → Ac → Option Ac
  | [], [], a => some a
  | it :: is, w :: ws, a => (prsI a it w).bind (prsL is ws)
  | _, _, _ => none
theorem cutS_app (c sg : Str) : cutS (c ++ sg) sg = c := by simp [cutS]
theorem ends_app (c sg : Str) : ends (c ++ sg) sg = true := by simp [ends, cutS_app]
theorem ends_iff {w sg : Str} (h : ends w sg = true) : w = cutS w sg ++ sg := of_decide_eq_true h
theorem regN_regS {v : Int} (h : 0 ≤ v ∧ v ≤ 4) : regN (regS v) = v := by
  have : v = 0 ∨ v = 1 ∨ v = 2 ∨ v = 3 ∨ v = 4 := by omega
  rcases this with rfl | rfl | rfl | rfl | rfl <;> decide
theorem regS_regN {w : Str} (h : 0 ≤ regN w) : regS (regN w) = w ∧ regN w ≤ 4 := by
  unfold regN at h ⊢
  split at h
  · rename_i e; simp only [e]; decide
  split at h
  · rename_i e; simp only [e]; decide
  split at h
  · rename_i e; simp only [e]; decide
  split at h
  · rename_i e; simp only [e]; decide
  split at h
  · rename_i e; simp only [e]; decide
  · omega
theorem regN_dec (n : Nat) : regN (Lib.decDigits n) = -1 := by
  have h := dec_dig n
  unfold regN
  split
  · rename_i e; rw [e] at h; exact absurd h (by decide)
  split
  · rename_i e; rw [e] at h; exact absurd h (by decide)
  split
  · rename_i e; rw [e] at h; exact absurd h (by decide)
  split
  · rename_i e; rw [e] at h; exact absurd h (by decide)
  split
  · rename_i e; rw [e] at h; exact absurd h (by decide)
  · rfl
theorem trmO_termS {t : Tm} (h : TmG t) : trmO (termS t) = some t := by
  obtain ⟨k, v⟩ := t
  rcases h with ⟨h1, h2⟩ | ⟨h1, h2⟩ | ⟨h1, h2⟩
  · simp only at h1 h2; subst h1
    have hne : Lib.decDigits v.toNat ≠ [78] := fun e => by have := dec_dig v.toNat; rw [e] at this; exact absurd this (by decide)
    have hv : v.toNat < 4294967296 := by have := h2.1; have := h2.2; omega
    have e : termS ⟨0, v⟩ = Lib.decDigits v.toNat := rfl
    rw [e, trmO, if_neg hne, if_neg (by rw [regN_dec]; decide), numL_dec hv]
    simp only [Option.map_some, Option.some.injEq, Tm.mk.injEq, true_and]
    have := h2.1; omega
  · simp only at h1 h2; subst h1
    have e : termS ⟨1, v⟩ = regS v := rfl
    have hne : regS v ≠ [78] := fun e => by have := regN_regS h2; rw [e] at this; rw [← this] at h2; exact absurd h2.1 (by decide)
    rw [e, trmO, if_neg hne, regN_regS h2, if_pos h2.1]
  · simp only at h1 h2; subst h1; subst h2; rfl
theorem termS_trmO {w : Str} {t : Tm} (h : trmO w = some t) : termS t = w ∧ TmG t := by
  unfold trmO at h
  split at h
  · rename_i e; injection h with h; subst h; subst e; exact ⟨rfl, .inr (.inr ⟨rfl, rfl⟩)⟩
  split at h
  · rename_i e; injection h with h; subst h
    exact ⟨(regS_regN e).1, .inr (.inl ⟨rfl, e, (regS_regN e).2⟩)⟩
  · obtain ⟨n, hn, rfl⟩ := Option.map_eq_some_iff.1 h
    have := numL_some hn
    refine ⟨?_, .inl ⟨rfl, ?_⟩⟩
    · show Lib.decDigits ((n : Int).toNat) = w
      rw [Int.toNat_natCast]; exact this.1.symm
    · exact ⟨by simp, by simp only; omega⟩
def isT : It → Bool | .tt _ => true | _ => false
def isX : It → Bool | .xx _ => true | _ => false
def isY : It → Bool | .yy _ => true | _ => false
def oneEach : List It → Bool
  | [] => true
  | it :: is => !(isT it && is.any isT) && !(isX it && is.any isX) && !(isY it && is.any isY) && oneEach is
theorem prsI_keep {a a' : Ac} {it : It} {w : Str} (h : prsI a it w = some a') : a'.kind = a.kind ∧ (isT it = false → a'.tgt = a.tgt) ∧ (isX it = false → a'.x = a.x) ∧ (isY it = false → a'.y = a.y) ∧ genI a' it = w ∧ (AcT a → AcT a') := by
  cases it with
  | lit v =>
    simp only [prsI] at h
    split at h
    · rename_i e; injection h with h; subst h; exact ⟨rfl, fun _ => rfl, fun _ => rfl, fun _ => rfl, e.symm, fun h => h⟩
    · cases h
  | tt sg =>
    simp only [prsI] at h
    split at h
    · rename_i e; injection h with h; subst h
      refine ⟨rfl, fun h => (by cases h), fun _ => rfl, fun _ => rfl, ?_, fun h => ⟨⟨e.2, (regS_regN e.2).2⟩, h.2⟩⟩
      show regS (regN (cutS w sg)) ++ sg = w
      rw [(regS_regN e.2).1]; exact (ends_iff e.1).symm
    · cases h
  | xx sg =>
    simp only [prsI] at h
    split at h
    · rename_i e
      obtain ⟨t, ht, rfl⟩ := Option.map_eq_some_iff.1 h
      have hh := termS_trmO ht
      refine ⟨rfl, fun _ => rfl, fun h => (by cases h), fun _ => rfl, ?_, fun h => ⟨h.1, hh.2, h.2.2⟩⟩
      show termS t ++ sg = w
      rw [hh.1]; exact (ends_iff e).symm
    · cases h
  | yy sg =>
    simp only [prsI] at h
    split at h
    · rename_i e
      obtain ⟨t, ht, rfl⟩ := Option.map_eq_some_iff.1 h
      have hh := termS_trmO ht
      refine ⟨rfl, fun _ => rfl, fun _ => rfl, fun h => (by cases h), ?_, fun h => ⟨h.1, h.2.1, hh.2⟩⟩
      show termS t ++ sg = w
      rw [hh.1]; exact (ends_iff e).symm
    · cases h
theorem prsL_keep : ∀ (is : List It) (ws : List Str) (a a' : Ac), prsL is ws a = some a' → a'.kind = a.kind ∧ (is.any isT = false → a'.tgt = a.tgt) ∧ (is.any isX = false → a'.x = a.x) ∧ (is.any isY = false → a'.y = a.y) ∧ (AcT a → AcT a') := by
  intro is
  induction is with
  | nil =>
    intro ws a a' h
    cases ws with
    | nil => simp only [prsL] at h; injection h with h; subst h; exact ⟨rfl, fun _ => rfl, fun _ => rfl, fun _ => rfl, fun h => h⟩
    | cons w ws => cases h
  | cons it is ih =>
    intro ws a a' h
    cases ws with
    | nil => cases h
    | cons w ws =>
      simp only [prsL] at h
      obtain ⟨a1, h1, h2⟩ := Option.bind_eq_some_iff.1 h
      obtain ⟨k1, k2, k3, k4, _, k6⟩ := prsI_keep h1
      obtain ⟨j1, j2, j3, j4, j5⟩ := ih ws a1 a' h2
      refine ⟨j1.trans k1, fun e => ?_, fun e => ?_, fun e => ?_, fun h => j5 (k6 h)⟩
      · simp only [List.any_cons, Bool.or_eq_false_iff] at e; exact (j2 e.2).trans (k2 e.1)
      · simp only [List.any_cons, Bool.or_eq_false_iff] at e; exact (j3 e.2).trans (k3 e.1)
      · simp only [List.any_cons, Bool.or_eq_false_iff] at e; exact (j4 e.2).trans (k4 e.1)
theorem genI_congr {a a' : Ac} {it : It} (h1 : isT it = true → a'.tgt = a.tgt) (h2 : isX it = true → a'.x = a.x) (h3 : isY it = true → a'.y = a.y) : genI a' it = genI a it := by
  cases it with
  | lit w => rfl
  | tt sg => simp only [genI]; rw [h1 rfl]
  | xx sg => simp only [genI]; rw [h2 rfl]
  | yy sg => simp only [genI]; rw [h3 rfl]
theorem prsL_sound : ∀ (is : List It) (ws : List Str) (a a' : Ac), oneEach is = true → prsL is ws a = some a' → is.map (genI a') = ws := by
  intro is
  induction is with
  | nil =>
    intro ws a a' _ h
    cases ws with
    | nil => rfl
    | cons w ws => cases h
  | cons it is ih =>
    intro ws a a' ho h
    cases ws with
    | nil => cases h
    | cons w ws =>
      simp only [prsL] at h
      obtain ⟨a1, h1, h2⟩ := Option.bind_eq_some_iff.1 h
      simp only [oneEach, Bool.and_eq_true, Bool.not_eq_true', Bool.and_eq_false_iff] at ho
      obtain ⟨⟨⟨o1, o2⟩, o3⟩, o4⟩ := ho
      obtain ⟨_, _, _, _, k5, _⟩ := prsI_keep h1
      obtain ⟨_, j2, j3, j4, _⟩ := prsL_keep is ws a1 a' h2
      rw [List.map_cons, ih ws a1 a' o4 h2, ← k5]
      congr 1
      exact genI_congr (fun e => j2 (o1.resolve_left (by rw [e]; decide))) (fun e => j3 (o2.resolve_left (by rw [e]; decide))) (fun e => j4 (o3.resolve_left (by rw [e]; decide)))
theorem prsI_gen {a b : Ac} (hg : AcT b) (it : It) : prsI a it (genI b it) = some ⟨a.kind, cond (isT it) b.tgt a.tgt, cond (isX it) b.x a.x, cond (isY it) b.y a.y⟩ := by
  cases it with
  | lit w => simp [prsI, genI, isT, isX, isY]
  | tt sg =>
    simp only [prsI, genI, cutS_app, ends_app, regN_regS hg.1]
    rw [if_pos ⟨trivial, hg.1.1⟩]; rfl
  | xx sg =>
    simp only [prsI, genI, cutS_app, ends_app, trmO_termS hg.2.1]; rfl
  | yy sg =>
    simp only [prsI, genI, cutS_app, ends_app, trmO_termS hg.2.2]; rfl
theorem prsL_gen {b : Ac} (hg : AcT b) : ∀ (is : List It) (a : Ac), prsL is (is.map (genI b)) a = some ⟨a.kind, cond (is.any isT) b.tgt a.tgt, cond (is.any isX) b.x a.x, cond (is.any isY) b.y a.y⟩ := by
  intro is
  induction is with
  | nil => intro a; rfl
  | cons it is ih =>
    intro a
    simp only [List.map_cons, prsL, prsI_gen hg, Option.bind_some]
    rw [ih]
    simp only [List.any_cons, Option.some.injEq, Ac.mk.injEq, true_and]
    refine ⟨?_, ?_, ?_⟩
    · cases isT it <;> cases is.any isT <;> rfl
    · cases isX it <;> cases is.any isX <;> rfl
    · cases isY it <;> cases is.any isY <;> rfl
def okI (it : It) (w : Str) : Bool := match it with
  | .lit v => decide (w = v)
  | .tt sg => ends w sg && decide (0 ≤ regN (cutS w sg))
  | .xx sg => ends w sg && (trmO (cutS w sg)).isSome
  | .yy sg => ends w sg && (trmO (cutS w sg)).isSome
theorem okI_prs (a : Ac) (it : It) (w : Str) : (prsI a it w).isSome = okI it w := by
  cases it with
  | lit v => simp only [prsI, okI]; split <;> simp_all
  | tt sg => simp only [prsI, okI]; split <;> simp_all
  | xx sg => simp only [prsI, okI]; split <;> simp_all
  | yy sg => simp only [prsI, okI]; split <;> simp_all
def clashI : It → It → Bool
  | .lit v, .lit w => decide (w ≠ v)
  | .lit v, it => !okI it v
  | it, .lit w => !okI it w
  | _, _ => false
def clash : List It → List It → Bool
  | [], [] => false
  | i :: is, j :: js => clashI i j || clash is js
  | _, _ => true
theorem okI_gen {b : Ac} (hg : AcT b) (it : It) : okI it (genI b it) = true := by rw [← okI_prs b, prsI_gen hg]; rfl
theorem clashI_no {b : Ac} (hg : AcT b) {i j : It} (h : clashI i j = true) (a : Ac) : prsI a i (genI b j) = none := by
  cases i with
  | lit v =>
    by_cases e : genI b j = v
    · exfalso
      cases j with
      | lit w => simp only [clashI, ne_eq, decide_not, Bool.not_eq_true', decide_eq_false_iff_not] at h; exact h e
      | tt sg => have := okI_gen hg (.tt sg); rw [e] at this; simp only [clashI, this] at h; cases h
      | xx sg => have := okI_gen hg (.xx sg); rw [e] at this; simp only [clashI, this] at h; cases h
      | yy sg => have := okI_gen hg (.yy sg); rw [e] at this; simp only [clashI, this] at h; cases h
    · simp only [prsI]; rw [if_neg e]
  | tt sg =>
    cases j with
    | lit w => have := okI_prs a (.tt sg) w; simp only [clashI, Bool.not_eq_true'] at h; rw [h] at this; exact Option.isSome_eq_false_iff.1 this |> Option.isNone_iff_eq_none.1
    | _ => cases h
  | xx sg =>
    cases j with
    | lit w => have := okI_prs a (.xx sg) w; simp only [clashI, Bool.not_eq_true'] at h; rw [h] at this; exact Option.isSome_eq_false_iff.1 this |> Option.isNone_iff_eq_none.1
    | _ => cases h
  | yy sg =>
    cases j with
    | lit w => have := okI_prs a (.yy sg) w; simp only [clashI, Bool.not_eq_true'] at h; rw [h] at this; exact Option.isSome_eq_false_iff.1 this |> Option.isNone_iff_eq_none.1
    | _ => cases h
theorem clash_no {b : Ac} (hg : AcT b) : ∀ (is js : List It), clash is js = true → ∀ a, prsL is (js.map (genI b)) a = none := by
  intro is
  induction is with
  | nil =>
    intro js h a
    cases js with
    | nil => cases h
    | cons j js => rfl
  | cons i is ih =>
    intro js h a
    cases js with
    | nil => rfl
    | cons j js =>
      simp only [clash, Bool.or_eq_true] at h
      simp only [List.map_cons, prsL]
      rcases h with h | h
      · rw [clashI_no hg h]; rfl
      · cases hp : prsI a i (genI b j) with
        | none => rfl
        | some a1 => exact ih js h a1
def sentK (k : Nat) : List It := sentI.getD k []
theorem sent_one : ∀ k, k < 20 → oneEach (sentK k) = true := by decide +kernel
theorem sent_uses : ∀ k, k < 20 → (sentK k).any isT = usesT k ∧ (sentK k).any isX = usesX k ∧ (sentK k).any isY = usesY k := by decide +kernel
theorem sent_clash : ∀ k, k < 20 → ∀ j, j < 20 → k ≠ j → clash (sentK k) (sentK j) = true := by decide +kernel
def ac0 (k : Nat) : Ac := ⟨k, 0, ⟨0, 0⟩, ⟨0, 0⟩⟩
def wordsA (a : Ac) : List Str := (sentK a.kind.toNat).map (genI a)
def rdA (k : Nat) (ws : List Str) : Option Ac := prsL (sentK k) ws (ac0 k)
def AcC (a : Ac) : Prop := (0 ≤ a.kind ∧ a.kind < 20) ∧ AcT a ∧ (usesT a.kind = false → a.tgt = 0) ∧ (usesX a.kind = false → a.x = ⟨0, 0⟩) ∧ (usesY a.kind = false → a.y = ⟨0, 0⟩)
theorem ac0_t (k : Nat) : AcT (ac0 k) := ⟨⟨by simp [ac0], by simp [ac0]⟩, .inl ⟨rfl, by simp [ac0], by simp [ac0]⟩, .inl ⟨rfl, by simp [ac0], by simp [ac0]⟩⟩
theorem rdA_words {a : Ac} (h : AcC a) : rdA a.kind.toNat (wordsA a) = some a := by
  obtain ⟨⟨h1, h2⟩, ht, h3, h4, h5⟩ := h
  have hk : a.kind.toNat < 20 := by omega
  have hu := sent_uses _ hk
  have hkk : ((a.kind.toNat : Nat) : Int) = a.kind := by omega
  rw [hkk] at hu
  rw [rdA, wordsA, prsL_gen ht, hu.1, hu.2.1, hu.2.2]
  obtain ⟨k, t, x, y⟩ := a
  simp only [ac0, Option.some.injEq, Ac.mk.injEq] at *
  refine ⟨hkk, ?_, ?_, ?_⟩
  · cases e : usesT k with
    | true => rfl
    | false => exact (h3 e).symm
  · cases e : usesX k with
    | true => rfl
    | false => exact (h4 e).symm
  · cases e : usesY k with
    | true => rfl
    | false => exact (h5 e).symm
theorem rdA_sound {k : Nat} {ws : List Str} {a : Ac} (hk : k < 20) (h : rdA k ws = some a) : a.kind = k ∧ AcC a ∧ wordsA a = ws := by
  obtain ⟨j1, j2, j3, j4, j5⟩ := prsL_keep _ _ _ _ h
  have hu := sent_uses _ hk
  have e1 : a.kind = k := j1
  refine ⟨e1, ⟨⟨by omega, by omega⟩, j5 (ac0_t k), fun e => ?_, fun e => ?_, fun e => ?_⟩, ?_⟩
  · rw [e1, ← hu.1] at e; exact j2 e
  · rw [e1, ← hu.2.1] at e; exact j3 e
  · rw [e1, ← hu.2.2] at e; exact j4 e
  · rw [wordsA, show a.kind.toNat = k by omega]
    exact prsL_sound _ _ _ _ (sent_one k hk) h
theorem rdA_other {k : Nat} {a : Ac} (h : AcC a) (hk : k < 20) (hne : (k : Int) ≠ a.kind) : rdA k (wordsA a) = none :=
  clash_no h.2.1 _ _ (sent_clash k hk a.kind.toNat (by have := h.1; omega) (by have := h.1; omega)) _
def rdF : Nat → List Str → Option Ac
  | 0, _ => none
  | n + 1, ws => match rdA (20 - (n + 1)) ws with
    | some a => some a
    | none => rdF n ws
def rdAny (ws : List Str) : Option Ac := rdF 20 ws
theorem rdF_words {a : Ac} (h : AcC a) : ∀ n, n ≤ 20 → (20 - n : Nat) ≤ a.kind.toNat → rdF n (wordsA a) = some a := by
  have hk := h.1
  intro n
  induction n with
  | zero => intro _ h2; omega
  | succ n ih =>
    intro h1 h2
    rw [rdF]
    by_cases e : 20 - (n + 1) = a.kind.toNat
    · rw [e, rdA_words h]
    · rw [rdA_other h (by omega) (by omega)]
      exact ih (by omega) (by omega)
theorem rdAny_words {a : Ac} (h : AcC a) : rdAny (wordsA a) = some a := rdF_words h 20 (Nat.le_refl _) (by omega)
theorem rdF_some {ws : List Str} {a : Ac} : ∀ n, n ≤ 20 → rdF n ws = some a → AcC a ∧ wordsA a = ws := by
  intro n
  induction n with
  | zero => intro _ h; cases h
  | succ n ih =>
    intro h1 h
    rw [rdF] at h
    cases e : rdA (20 - (n + 1)) ws with
    | some b => rw [e] at h; injection h with h; subst h; exact (rdA_sound (by omega) e).2
    | none => rw [e] at h; exact ih (by omega) h
theorem rdAny_some {ws : List Str} {a : Ac} (h : rdAny ws = some a) : AcC a ∧ wordsA a = ws := rdF_some 20 (Nat.le_refl _) h
theorem rdAny_iff {ws : List Str} {a : Ac} (ha : AcC a) : rdAny ws = some a ↔ wordsA a = ws :=
  ⟨fun h => (rdAny_some h).2, fun h => by rw [← h]; exact rdAny_words ha⟩
end Go.Proofs.YtoeeblegplghmaaGreatDoor
namespace Go.Proofs.YtoeeblegplghmaaGreatDoor
open Go Go.FL
def machS : Str := [84, 104, 101, 32, 109, 97, 99, 104, 105, 110, 101, 32, 104, 97, 115, 32, 110, 32, 99, 101, 108, 108, 115, 32, 119, 105, 116, 104, 32, 116, 104, 101, 32, 110, 117, 109, 98, 101, 114, 115, 32, 48, 44, 32, 49, 44, 32, 50, 32, 97, 110, 100, 32, 115, 111, 32, 111, 110, 44, 32, 97, 110, 100, 32, 116, 104, 101, 32, 114, 101, 103, 105, 115, 116, 101, 114, 115, 32, 65, 44, 32, 66, 44, 32, 67, 44, 32, 68, 32, 97, 110, 100, 32, 80, 46, 32, 69, 97, 99, 104, 32, 99, 101, 108, 108, 32, 97, 110, 100, 32, 101, 97, 99, 104, 32, 114, 101, 103, 105, 115, 116, 101, 114, 32, 104, 111, 108, 100, 115, 32, 97, 32, 110, 117, 109, 98, 101, 114, 32, 116, 104, 97, 116, 32, 105, 115, 32, 108, 101, 115, 115, 32, 116, 104, 97, 110, 32, 52, 50, 57, 52, 57, 54, 55, 50, 57, 54, 59, 32, 111, 102, 32, 97, 32, 115, 117, 109, 44, 32, 97, 32, 100, 105, 102, 102, 101, 114, 101, 110, 99, 101, 32, 111, 114, 32, 97, 32, 112, 114, 111, 100, 117, 99, 116, 32, 111, 110, 108, 121, 32, 116, 104, 101, 32, 114, 101, 109, 97, 105, 110, 100, 101, 114, 32, 111, 102, 32, 97, 32, 100, 105, 118, 105, 115, 105, 111, 110, 32, 98, 121, 32, 52, 50, 57, 52, 57, 54, 55, 50, 57, 54, 32, 105, 115, 32, 107, 101, 112, 116, 46, 32, 65, 116, 32, 102, 105, 114, 115, 116, 32, 116, 104, 101, 32, 110, 117, 109, 98, 101, 114, 115, 32, 111, 102, 32, 116, 104, 101, 32, 112, 114, 111, 103, 114, 97, 109, 32, 97, 114, 101, 32, 105, 110, 32, 116, 104, 101, 32, 99, 101, 108, 108, 115, 32, 102, 114, 111, 109, 32, 48, 32, 111, 110, 44, 32, 97, 110, 100, 32, 48, 32, 105, 115, 32, 105, 110, 32, 97, 108, 108, 32, 111, 116, 104, 101, 114, 32, 99, 101, 108, 108, 115, 32, 97, 110, 100, 32, 105, 110, 32, 116, 104, 101, 32, 114, 101, 103, 105, 115, 116, 101, 114, 115, 46, 32, 84, 111, 32, 109, 97, 107, 101, 32, 97, 32, 115, 116, 101, 112, 44, 32, 102, 105, 110, 100, 32, 116, 104, 101, 32, 105, 110, 115, 116, 114, 117, 99, 116, 105, 111, 110, 32, 119, 104, 111, 115, 101, 32, 99, 111, 100, 101, 32, 105, 115, 32, 105, 110, 32, 116, 104, 101, 32, 99, 101, 108, 108, 32, 119, 105, 116, 104, 32, 116, 104, 101, 32, 110, 117, 109, 98, 101, 114, 32, 80, 44, 32, 97, 110, 100, 32, 97, 100, 100, 32, 49, 32, 116, 111, 32, 80, 59, 32, 105, 102, 32, 116, 104, 101, 32, 105, 110, 115, 116, 114, 117, 99, 116, 105, 111, 110, 32, 104, 97, 115, 32, 97, 110, 32, 111, 112, 101, 114, 97, 110, 100, 44, 32, 116, 104, 105, 115, 32, 105, 115, 32, 116, 104, 101, 32, 110, 117, 109, 98, 101, 114, 32, 78, 32, 105, 110, 32, 116, 104, 101, 32, 99, 101, 108, 108, 32, 119, 105, 116, 104, 32, 116, 104, 101, 32, 110, 101, 119, 32, 110, 117, 109, 98, 101, 114, 32, 80, 44, 32, 97, 110, 100, 32, 49, 32, 105, 115, 32, 97, 100, 100, 101, 100, 32, 116, 111, 32, 80, 32, 97, 103, 97, 105, 110, 46, 32, 84, 104, 101, 110, 32, 100, 111, 32, 119, 104, 97, 116, 32, 105, 116, 115, 32, 115, 101, 110, 116, 101, 110, 99, 101, 115, 32, 115, 97, 121, 44, 32, 111, 110, 101, 32, 97, 102, 116, 101, 114, 32, 97, 110, 111, 116, 104, 101, 114, 46, 32, 83, 116, 111, 112, 32, 105, 102, 32, 116, 104, 101, 114, 101, 32, 105, 115, 32, 110, 111, 32, 115, 117, 99, 104, 32, 105, 110, 115, 116, 114, 117, 99, 116, 105, 111, 110, 32, 111, 114, 32, 110, 111, 32, 115, 117, 99, 104, 32, 99, 101, 108, 108, 44, 32, 111, 114, 32, 105, 102, 32, 97, 32, 100, 105, 118, 105, 115, 111, 114, 32, 105, 115, 32, 48, 46, 32, 84, 111, 32, 109, 111, 118, 101, 32, 97, 32, 110, 117, 109, 98, 101, 114, 32, 116, 111, 32, 116, 104, 101, 32, 108, 101, 102, 116, 32, 98, 121, 32, 49, 32, 105, 115, 32, 116, 111, 32, 100, 111, 117, 98, 108, 101, 32, 105, 116, 44, 32, 116, 111, 32, 109, 111, 118, 101, 32, 105, 116, 32, 116, 111, 32, 116, 104, 101, 32, 114, 105, 103, 104, 116, 32, 98, 121, 32, 49, 32, 105, 115, 32, 116, 111, 32, 104, 97, 108, 118, 101, 32, 105, 116, 32, 119, 105, 116, 104, 111, 117, 116, 32, 97, 32, 114, 101, 109, 97, 105, 110, 100, 101, 114, 46, 32, 66, 105, 116, 115, 32, 97, 114, 101, 32, 116, 104, 101, 32, 100, 105, 103, 105, 116, 115, 32, 111, 102, 32, 97, 32, 110, 117, 109, 98, 101, 114, 32, 105, 110, 32, 116, 104, 101, 32, 98, 97, 115, 101, 32, 50, 46, 32, 84, 104, 101, 32, 105, 110, 112, 117, 116, 32, 105, 115, 32, 97, 32, 108, 105, 115, 116, 32, 111, 102, 32, 110, 117, 109, 98, 101, 114, 115, 32, 108, 101, 115, 115, 32, 116, 104, 97, 110, 32, 50, 53, 54, 59, 32, 98, 101, 104, 105, 110, 100, 32, 105, 116, 115, 32, 101, 110, 100, 32, 116, 104, 101, 32, 110, 101, 120, 116, 32, 105, 110, 112, 117, 116, 32, 105, 115, 32, 97, 108, 119, 97, 121, 115, 32, 52, 50, 57, 52, 57, 54, 55, 50, 57, 53, 46, 32, 84, 111, 32, 119, 114, 105, 116, 101, 32, 97, 32, 110, 117, 109, 98, 101, 114, 32, 105, 115, 32, 116, 111, 32, 119, 114, 105, 116, 101, 32, 116, 104, 101, 32, 114, 101, 109, 97, 105, 110, 100, 101, 114, 32, 111, 102, 32, 105, 116, 115, 32, 100, 105, 118, 105, 115, 105, 111, 110, 32, 98, 121, 32, 50, 53, 54, 46, 32, 69, 97, 99, 104, 32, 112, 97, 114, 97, 103, 114, 97, 112, 104, 32, 101, 110, 100, 115, 32, 119, 105, 116, 104, 32, 97, 32, 99, 104, 101, 99, 107, 58, 32, 105, 116, 115, 32, 99, 104, 97, 114, 97, 99, 116, 101, 114, 115, 32, 97, 104, 101, 97, 100, 32, 111, 102, 32, 116, 104, 101, 32, 99, 104, 101, 99, 107, 44, 32, 119, 105, 116, 104, 32, 111, 110, 101, 32, 98, 108, 97, 110, 107, 32, 98, 101, 116, 119, 101, 101, 110, 32, 116, 119, 111, 32, 119, 111, 114, 100, 115, 44, 32, 97, 114, 101, 32, 99, 111, 117, 110, 116, 101, 100, 32, 102, 114, 111, 109, 32, 49, 32, 111, 110, 44, 32, 97, 110, 100, 32, 101, 97, 99, 104, 32, 99, 111, 117, 110, 116, 32, 105, 115, 32, 109, 117, 108, 116, 105, 112, 108, 105, 101, 100, 32, 98, 121, 32, 116, 104, 101, 32, 118, 97, 108, 117, 101, 32, 111, 102, 32, 105, 116, 115, 32, 99, 104, 97, 114, 97, 99, 116, 101, 114, 59, 32, 116, 104, 101, 32, 99, 104, 101, 99, 107, 32, 105, 115, 32, 116, 104, 101, 32, 114, 101, 109, 97, 105, 110, 100, 101, 114, 32, 111, 102, 32, 116, 104, 101, 32, 115, 117, 109, 32, 105, 110, 32, 97, 32, 100, 105, 118, 105, 115, 105, 111, 110, 32, 98, 121, 32, 57, 57, 55, 51, 46, 32, 84, 104, 101, 32, 118, 97, 108, 117, 101, 115, 32, 97, 114, 101, 32, 49, 32, 116, 111, 32, 50, 54, 32, 102, 111, 114, 32, 97, 32, 116, 111, 32, 122, 44, 32, 50, 55, 32, 116, 111, 32, 53, 50, 32, 102, 111, 114, 32, 65, 32, 116, 111, 32, 90, 44, 32, 53, 51, 32, 116, 111, 32, 54, 50, 32, 102, 111, 114, 32, 116, 104, 101, 32, 100, 105, 103, 105, 116, 115, 32, 48, 32, 116, 111, 32, 57, 44, 32, 54, 51, 32, 102, 111, 114, 32, 97, 32, 102, 117, 108, 108, 32, 115, 116, 111, 112, 44, 32, 54, 52, 32, 102, 111, 114, 32, 97, 32, 99, 111, 109, 109, 97, 44, 32, 54, 53, 32, 102, 111, 114, 32, 97, 32, 115, 101, 109, 105, 99, 111, 108, 111, 110, 44, 32, 54, 54, 32, 102, 111, 114, 32, 97, 32, 99, 111, 108, 111, 110, 44, 32, 97, 110, 100, 32, 48, 32, 102, 111, 114, 32, 97, 32, 98, 108, 97, 110, 107, 46]
def valC (c : UInt8) : Int :=
  if 97 ≤ c.toNat ∧ c.toNat ≤ 122 then (c.toNat : Int) - 96 else if 65 ≤ c.toNat ∧ c.toNat ≤ 90 then (c.toNat : Int) - 38 else if 48 ≤ c.toNat ∧ c.toNat ≤ 57 then (c.toNat : Int) + 5
  else if c = 32 then 0 else if c = 46 then 63 else if c = 44 then 64 else if c = 59 then 65 else if c = 58 then 66 else -1
def okC (c : UInt8) : Bool := decide (0 ≤ valC c)
def okT (l : Str) : Bool := l.all okC
def sumF (i : Nat) : Str → Int
  | [] => 0
  | c :: r => valC c * ((i : Int) + 1) + sumF (i + 1) r
def chkS (s : Str) : Int := sumF 0 s % 9973
def checkB : Str := [67, 104, 101, 99, 107]
def decS (n : Int) : Str := Lib.decDigits n.toNat
def withC (ws : List Str) : List Str := ws ++ [checkB, decS (chkS (joinW ws)) ++ [46]]
def anB : Str := [97, 110]
def headW (code : Int) (name : Str) (opd : Bool) : List Str := [[73, 110, 115, 116, 114, 117, 99, 116, 105, 111, 110], decS code, [105, 115], [110, 97, 109, 101, 100], name, [97, 110, 100], [104, 97, 115], if opd = true then anB else [110, 111], [111, 112, 101, 114, 97, 110, 100, 46]]
def insW (x : Ins) : List Str := headW x.code x.name x.operand ++ (x.acts.map wordsA).flatten
def machL : List Str := flds machS
def cellW (c : Int) : List Str := machL.set 3 (decS c)
def parasT (t : Tab) : List (List Str) := cellW t.cells :: t.ins.map insW
def joinN : List Str → Str
  | [] => []
  | [x] => x
  | x :: y :: r => x ++ 10 :: joinN (y :: r)
def pageT (t : Tab) : Str := joinN ((parasT t).map fun p => linesW (withC p))
def dvF : List Str → List Str → List (List Str × Option Str)
  | now, [] => if now = [] then [] else [(now, none)]
  | now, [w] => [(now ++ [w], none)]
  | now, w :: l :: r => if w = checkB then (now, some l) :: dvF [] r else dvF (now ++ [w]) (l :: r)
def dotB (w : Str) : Bool := decide (w.getLast? = some 46)
def codeP (p : List Str × Option Str) : Int := match p.2 with
  | none => 1
  | some l => if dotB l = false ∨ numL l.dropLast = none ∨ okT (joinW p.1) = false then 1 else if numL l.dropLast ≠ some (chkS (joinW p.1)).toNat then 16 else 0
def rdCells (ws : List Str) : Option Int := if ws.length = machL.length ∧ ws = machL.set 3 (ws.getD 3 []) then (numL (ws.getD 3 [])).map fun (n : Nat) => (n : Int) else none
def sn : List Str → List Str → Option (List Ac)
  | cur, [] => if cur = [] then some [] else none
  | cur, w :: r => if dotB w = true then (rdAny (cur ++ [w])).bind fun a => (sn [] r).map (a :: ·) else sn (cur ++ [w]) r
def rdIns (ws : List Str) : Option Ins := if ws.length < 9 then none else match numL (ws.getD 1 []) with
  | none => none
  | some n => if ws.take 9 = headW n (ws.getD 4 []) (decide (ws.getD 7 [] = anB)) then (sn [] (ws.drop 9)).map fun l => ⟨ws.getD 4 [], n, decide (ws.getD 7 [] = anB), l⟩ else none
def rdT : Nat → Int → List Ins → List (List Str × Option Str) → (Int × Int) ⊕ Tab
  | k, c, acc, [] => if k = 0 then .inl (1, 0) else .inr ⟨c, acc⟩
  | k, c, acc, p :: r => if codeP p ≠ 0 then .inl (codeP p, (k : Int)) else if k = 0 then (match rdCells p.1 with
      | none => .inl (1, 0)
      | some c' => rdT 1 c' acc r) else (match rdIns p.1 with
      | none => .inl (1, (k : Int))
      | some x => rdT (k + 1) c (acc ++ [x]) r)
def tab0 : Tab := ⟨0, []⟩
def readR (tx : Str) : Tab × Int × Int := if 50000 < tx.length then (tab0, 3, -1) else match rdT 0 0 [] (dvF [] (flds tx)) with
  | .inl f => (tab0, f)
  | .inr t => if (tabFault t).1 ≠ 0 then (tab0, tabFault t) else (t, 0, 0)
def damF : Nat → List (List Str × Option Str) → List Int
  | _, [] => []
  | k, p :: r => if codeP p ≠ 0 then (k : Int) :: damF (k + 1) r else damF (k + 1) r
def damR (tx : Str) : List Int := damF 0 (dvF [] (flds tx))
def okW (w : Str) : Prop := bare1 w ∧ okT w = true ∧ w ≠ checkB
instance (w : Str) : Decidable (bare1 w) := by unfold bare1; infer_instance
instance (w : Str) : Decidable (okW w) := by unfold okW; infer_instance
theorem join_ok : ∀ {ws : List Str}, (∀ w ∈ ws, okT w = true) → okT (joinW ws) = true
  | [], _ => rfl
  | [x], h => h x (List.mem_cons_self ..)
  | x :: y :: r, h => by
    have h1 := h x (List.mem_cons_self ..)
    have h2 := join_ok (ws := y :: r) (fun w hw => h w (List.mem_cons_of_mem _ hw))
    unfold okT at h1 h2 ⊢
    simp only [joinW, List.all_append, List.all_cons, h1, h2, Bool.and_true, Bool.true_and]
    decide
theorem dv_para : ∀ (ws now : List Str) (l : Str) (r : List Str), (∀ w ∈ ws, w ≠ checkB) → dvF now (ws ++ checkB :: l :: r) = (now ++ ws, some l) :: dvF [] r := by
  intro ws
  induction ws with
  | nil => intro now l r _; simp [dvF]
  | cons w ws ih =>
    intro now l r h
    have hw := h w (List.mem_cons_self ..)
    have hs := ih (now ++ [w]) l r (fun x hx => h x (List.mem_cons_of_mem _ hx))
    cases ws with
    | nil =>
      simp only [List.cons_append, List.nil_append] at hs ⊢
      rw [dvF, if_neg hw, hs]; simp
    | cons y ws =>
      simp only [List.cons_append] at hs ⊢
      rw [dvF, if_neg hw, hs]; simp
def paraOf (ws : List Str) : List Str × Option Str := (ws, some (decS (chkS (joinW ws)) ++ [46]))
theorem dv_paras : ∀ (ps : List (List Str)), (∀ p ∈ ps, ∀ w ∈ p, w ≠ checkB) → dvF [] (ps.map withC).flatten = ps.map paraOf := by
  intro ps
  induction ps with
  | nil => intro _; rfl
  | cons p ps ih =>
    intro h
    have this := dv_para p [] (decS (chkS (joinW p)) ++ [46]) (ps.map withC).flatten (h p (List.mem_cons_self ..))
    have ih' := ih (fun q hq => h q (List.mem_cons_of_mem _ hq))
    rw [List.nil_append, ih'] at this
    rw [List.map_cons, List.map_cons, List.flatten_cons]
    conv => lhs; rw [withC, List.append_assoc]
    exact this
theorem flds_joinN : ∀ (l : List Str), flds (joinN l) = (l.map flds).flatten
  | [] => rfl
  | [x] => by simp [joinN]
  | x :: y :: r => by
    rw [joinN, flds_sep _ _ _ (by decide), flds_joinN (y :: r)]; simp
theorem dig_ok {c : UInt8} (h : digB c = true) : isBlk c = false ∧ okC c = true ∧ c ≠ 67 := by
  simp only [digB, Bool.and_eq_true, decide_eq_true_eq] at h
  refine ⟨?_, ?_, fun e => by subst e; exact absurd h.2 (by decide)⟩
  · simp only [isBlk, Bool.or_eq_false_iff, decide_eq_false_iff_not]
    exact ⟨fun e => by subst e; exact absurd h.1 (by decide), fun e => by subst e; exact absurd h.1 (by decide)⟩
  · have e : valC c = (c.toNat : Int) + 5 := by unfold valC; rw [if_neg (by omega), if_neg (by omega), if_pos h]
    rw [okC, e]; exact decide_eq_true (by omega)
theorem dec_okW (n : Int) : bare1 (decS n) ∧ okT (decS n) = true ∧ (∀ c ∈ decS n, digB c = true) := by
  have hd : ∀ c ∈ decS n, digB c = true := List.all_eq_true.1 (dec_dig n.toNat)
  exact ⟨⟨dec_ne _, fun c hc => (dig_ok (hd c hc)).1⟩, List.all_eq_true.2 fun c hc => (dig_ok (hd c hc)).2.1, hd⟩
theorem withC_bare {ws : List Str} (h : ∀ w ∈ ws, bare1 w) : ∀ w ∈ withC ws, bare1 w := by
  intro w hw
  rcases List.mem_append.1 hw with h1 | h1
  · exact h w h1
  · simp only [List.mem_cons, List.not_mem_nil, or_false] at h1
    rcases h1 with rfl | rfl
    · decide
    · have := (dec_okW (chkS (joinW ws))).1
      refine ⟨by simp, fun c hc => ?_⟩
      rcases List.mem_append.1 hc with h2 | h2
      · exact this.2 c h2
      · simp only [List.mem_singleton] at h2; subst h2; decide
theorem page_flds {t : Tab} (h : ∀ p ∈ parasT t, ∀ w ∈ p, bare1 w) : flds (pageT t) = ((parasT t).map withC).flatten := by
  rw [pageT, flds_joinN, List.map_map]
  congr 1
  apply List.map_congr_left
  intro p hp
  exact lines_flds (withC_bare (h p hp))
theorem chk_lt (s : Str) : 0 ≤ chkS s ∧ chkS s < 9973 := by unfold chkS; omega
theorem dot_snoc (l : Str) (c : UInt8) : dotB (l ++ [c]) = decide (c = 46) := by
  unfold dotB
  simp
theorem codeP_ok {ws : List Str} (h : okT (joinW ws) = true) : codeP (paraOf ws) = 0 := by
  have hc := chk_lt (joinW ws)
  have hd : numL (decS (chkS (joinW ws))) = some (chkS (joinW ws)).toNat := numL_dec (by omega)
  unfold codeP paraOf
  simp only [List.dropLast_concat, dot_snoc, hd, h]
  simp
end Go.Proofs.YtoeeblegplghmaaGreatDoor
namespace Go.Proofs.YtoeeblegplghmaaGreatDoor
open Go Go.FL
theorem fb_all {f : Nat → Int} {m j : Nat} (h : (firstBad f m j).1 = 0) : ∀ i, j ≤ i → i < j + m → f i = 0 := by
  induction m generalizing j with
  | zero => intro i h1 h2; omega
  | succ m ih =>
    simp only [firstBad] at h
    split at h
    · contradiction
    · rename_i h0
      simp at h0
      intro i h1 h2
      rcases Nat.eq_or_lt_of_le h1 with rfl | h3
      · exact h0
      · exact ih h i h3 (by omega)
theorem fn_all {α : Type} {f : α → Int} {l : List α} (h : firstNZ (l.map f) = 0) : ∀ a ∈ l, f a = 0 := by
  induction l with
  | nil => intro a ha; cases ha
  | cons x l ih =>
    simp only [List.map_cons, firstNZ] at h
    split at h
    · contradiction
    · rename_i h0
      simp at h0
      intro a ha
      rcases List.mem_cons.1 ha with rfl | ha
      · exact h0
      · exact ih h a ha
def TabU (t : Tab) : Prop := ∀ x ∈ t.ins, U32 x.code ∧ ∀ a ∈ x.acts, U32 a.x.val ∧ U32 a.y.val
theorem Inss.tabU {s : World} {A : Option Addr} {n c : Nat} {t : Tab} (h : Inss s A n c t.ins) : TabU t := by
  intro x hx
  obtain ⟨i, hi⟩ := List.getElem?_of_mem hx
  obtain ⟨b, off, cs, h1, h2, h3, A', n', c', rfl, h5, h6⟩ := h.2.2.2 i x hi
  refine ⟨h6.2, fun a ha => ?_⟩
  obtain ⟨j, hj⟩ := List.getElem?_of_mem ha
  obtain ⟨_, _, _, _, _, _, _, h7⟩ := h5.2.2.2 j a hj
  exact h7
structure InsP (x : Ins) : Prop where
  nm : labelB x.name = true
  code : U32 x.code
  few : x.acts.length ≤ 8
  acts : ∀ a ∈ x.acts, AcC a
structure TabP (t : Tab) : Prop where
  cells : 1 ≤ t.cells ∧ t.cells ≤ 65536
  len : t.ins.length ≤ 64
  ins : ∀ x ∈ t.ins, InsP x
theorem term_tmg {x : Tm} {u o : Bool} (h : termB x u o = true) (hu : U32 x.val) : TmG x ∧ (u = false → x = ⟨0, 0⟩) := by
  obtain ⟨k, v⟩ := x
  obtain ⟨h1, h2⟩ := hu
  unfold termB at h
  unfold TmG U32
  cases u <;> cases o <;> simp at h h1 h2 ⊢ <;> omega
theorem act_c {a : Ac} {o : Bool} (h : actCode a o = 0) (hx : U32 a.x.val) (hy : U32 a.y.val) : AcC a := by
  unfold actCode at h
  split at h
  · cases h
  rename_i h1
  split at h
  · cases h
  rename_i h2
  split at h
  · cases h
  rename_i h3
  simp only [Bool.or_eq_true, Bool.and_eq_true, Bool.not_eq_true', decide_eq_true_eq, not_or, not_and, Bool.not_eq_false] at h3
  obtain ⟨⟨h4, h5⟩, h6⟩ := h3
  have k1 := term_tmg h5 hx
  have k2 := term_tmg h6 hy
  exact ⟨⟨by omega, by omega⟩, ⟨⟨by omega, by omega⟩, k1.1, k2.1⟩, fun e => Classical.not_not.1 (h4 e), k1.2, k2.2⟩
theorem tabP {t : Tab} (hU : TabU t) (h : (tabFault t).1 = 0) : TabP t := by
  unfold tabFault at h
  split at h
  · cases h
  rename_i h1
  split at h
  · cases h
  rename_i h2
  have hr := fb_all h
  refine ⟨by omega, by omega, fun x hx => ?_⟩
  obtain ⟨i, hi⟩ := List.getElem?_of_mem hx
  have hl : i < t.ins.length := (List.getElem?_eq_some_iff.1 hi).1
  have := hr i (Nat.zero_le _) (by omega)
  simp only [rowCode, hi] at this
  split at this
  · contradiction
  · rename_i h0
    simp at h0
    unfold insCode at h0
    split at h0
    · cases h0
    rename_i hm
    split at h0
    · cases h0
    rename_i h8
    have ha := fn_all h0
    have hm' : mnemB x.name = true := by simpa using hm
    simp only [mnemB, Bool.and_eq_true] at hm'
    exact ⟨hm'.1.1, (hU x hx).1, by omega, fun a h => act_c (ha a h) ((hU x hx).2 a h).1 ((hU x hx).2 a h).2⟩
theorem low_ok {c : UInt8} (h : 97 ≤ c.toNat ∧ c.toNat ≤ 122) : isBlk c = false ∧ okC c = true ∧ c ≠ 67 ∧ c ≠ 46 := by
  refine ⟨?_, ?_, fun e => by subst e; exact absurd h.1 (by decide), fun e => by subst e; exact absurd h.1 (by decide)⟩
  · simp only [isBlk, Bool.or_eq_false_iff, decide_eq_false_iff_not]
    exact ⟨fun e => by subst e; exact absurd h.1 (by decide), fun e => by subst e; exact absurd h.1 (by decide)⟩
  · have e : valC c = (c.toNat : Int) - 96 := by unfold valC; rw [if_pos h]
    rw [okC, e]; exact decide_eq_true (by omega)
theorem ch_ok {i : Nat} {c : UInt8} (h : chOK i c = true) : isBlk c = false ∧ okC c = true ∧ c ≠ 67 ∧ c ≠ 46 := by
  simp only [chOK, letB, Bool.or_eq_true, Bool.and_eq_true, decide_eq_true_eq] at h
  rcases h with h | h
  · exact low_ok h
  · have := dig_ok h.1
    exact ⟨this.1, this.2.1, this.2.2, fun e => by subst e; exact absurd h.1 (by decide)⟩
def plainT (w : Str) : Prop := w ≠ [] ∧ (∀ c ∈ w, isBlk c = false ∧ okC c = true ∧ c ≠ 67 ∧ c ≠ 46)
theorem plain_okW {w : Str} (h : plainT w) : okW w := by
  refine ⟨⟨h.1, fun c hc => (h.2 c hc).1⟩, List.all_eq_true.2 fun c hc => (h.2 c hc).2.1, fun e => ?_⟩
  have := (h.2 67 (by rw [e]; decide)).2.2.1
  exact this rfl
theorem label_plain {l : Str} (h : labelB l = true) : plainT l := by
  simp only [labelB, Bool.and_eq_true, decide_eq_true_eq] at h
  obtain ⟨⟨h1, _⟩, h3⟩ := h
  refine ⟨h1, fun c hc => ?_⟩
  obtain ⟨i, hi⟩ := List.getElem?_of_mem hc
  exact ch_ok ((charsFrom_iff l 0).1 h3 i c hi)
theorem dec_plain (n : Nat) : plainT (Lib.decDigits n) :=
  ⟨dec_ne _, fun c hc => by
    have hd := List.all_eq_true.1 (dec_dig n) c hc
    have := dig_ok hd
    exact ⟨this.1, this.2.1, this.2.2, fun e => by subst e; exact absurd hd (by decide)⟩⟩
def partT (w : Str) : Prop := w ≠ [] ∧ w.length ≤ 10 ∧ (∀ c ∈ w, isBlk c = false ∧ okC c = true ∧ c ≠ 46 ∧ c ≠ 44 ∧ c ≠ 104)
theorem dec_part {n : Nat} (h : n < 4294967296) : partT (Lib.decDigits n) :=
  ⟨dec_ne _, (dec_len h).2, fun c hc => by
    have hd := List.all_eq_true.1 (dec_dig n) c hc
    have := dig_ok hd
    exact ⟨this.1, this.2.1, fun e => by subst e; exact absurd hd (by decide), fun e => by subst e; exact absurd hd (by decide), fun e => by subst e; exact absurd hd (by decide)⟩⟩
theorem reg_part (v : Int) : partT (regS v) := by
  unfold regS
  repeat' split
  all_goals (refine ⟨by decide, by decide, by decide⟩)
theorem term_part {t : Tm} (h : TmG t) : partT (termS t) := by
  unfold termS
  split
  · exact reg_part _
  split
  · exact ⟨by decide, by decide, by decide⟩
  · refine dec_part ?_
    rcases h with ⟨_, h1, h2⟩ | ⟨h1, _⟩ | ⟨h1, _⟩
    · omega
    · contradiction
    · contradiction
def sgOK (sg : Str) : Bool := decide (sg = []) || decide (sg = [46]) || decide (sg = [44])
def itOK : It → Bool
  | .lit w => decide (okW w)
  | .tt sg => sgOK sg
  | .xx sg => sgOK sg
  | .yy sg => sgOK sg
def dotI : It → Bool
  | .lit w => dotB w
  | .tt sg => decide (sg = [46])
  | .xx sg => decide (sg = [46])
  | .yy sg => decide (sg = [46])
theorem part_word {p sg : Str} (h : partT p) (hs : sgOK sg = true) : okW (p ++ sg) ∧ dotB (p ++ sg) = decide (sg = [46]) := by
  simp only [sgOK, Bool.or_eq_true, decide_eq_true_eq] at hs
  have hc : ∀ c ∈ p ++ sg, isBlk c = false ∧ okC c = true ∧ c ≠ 104 := fun c hc => by
    rcases List.mem_append.1 hc with h1 | h1
    · have := h.2.2 c h1; exact ⟨this.1, this.2.1, this.2.2.2.2⟩
    · rcases hs with (rfl | rfl) | rfl
      · cases h1
      · simp only [List.mem_singleton] at h1; subst h1; decide
      · simp only [List.mem_singleton] at h1; subst h1; decide
  refine ⟨⟨⟨by simp [h.1], fun c h => (hc c h).1⟩, List.all_eq_true.2 fun c h => (hc c h).2.1, fun e => ?_⟩, ?_⟩
  · have h104 := (hc 104 (by rw [e]; decide)).2.2
    exact h104 rfl
  · rcases hs with (rfl | rfl) | rfl
    · rw [List.append_nil]
      have hl : dotB p = false := by
        unfold dotB
        rw [decide_eq_false_iff_not]
        intro e
        have hm : (46 : UInt8) ∈ p := by
          obtain ⟨q, rfl⟩ := List.getLast?_eq_some_iff.1 e
          simp
        exact (h.2.2 46 hm).2.2.1 rfl
      rw [hl]; rfl
    · rw [dot_snoc]; rfl
    · rw [dot_snoc]; rfl
theorem gen_word {a : Ac} (h : AcT a) {it : It} (hi : itOK it = true) : okW (genI a it) ∧ dotB (genI a it) = dotI it := by
  cases it with
  | lit w => exact ⟨of_decide_eq_true hi, rfl⟩
  | tt sg => exact part_word (reg_part _) hi
  | xx sg => exact part_word (term_part h.2.1) hi
  | yy sg => exact part_word (term_part h.2.2) hi
def lastDot : List It → Bool
  | [] => false
  | [it] => dotI it
  | it :: is => !dotI it && lastDot is
theorem sent_ok : ∀ k, k < 20 → (sentK k).all itOK = true ∧ lastDot (sentK k) = true := by decide +kernel
theorem words_ok {a : Ac} (h : AcC a) : ∀ w ∈ wordsA a, okW w := by
  intro w hw
  obtain ⟨it, hi, rfl⟩ := List.mem_map.1 hw
  have := (sent_ok a.kind.toNat (by have := h.1; omega)).1
  exact (gen_word h.2.1 (List.all_eq_true.1 this it hi)).1
theorem head_ok {c : Int} {nm : Str} {o : Bool} (hn : labelB nm = true) : ∀ w ∈ headW c nm o, okW w := by
  intro w hw
  simp only [headW, List.mem_cons, List.not_mem_nil, or_false] at hw
  have hd : okW (decS c) := plain_okW (dec_plain _)
  rcases hw with rfl | rfl | rfl | rfl | rfl | rfl | rfl | rfl | rfl
  · decide
  · exact hd
  · decide
  · decide
  · exact plain_okW (label_plain hn)
  · decide
  · decide
  · cases o <;> decide
  · decide
theorem ins_ok {x : Ins} (h : InsP x) : ∀ w ∈ insW x, okW w := by
  intro w hw
  rcases List.mem_append.1 hw with h1 | h1
  · exact head_ok h.nm w h1
  · obtain ⟨l, hl, hw⟩ := List.mem_flatten.1 h1
    obtain ⟨a, ha, rfl⟩ := List.mem_map.1 hl
    exact words_ok (h.acts a ha) w hw
theorem mach_ok : machL.all (fun w => decide (okW w)) = true := by decide +kernel
theorem mach_len : machL.length = 320 := by decide +kernel
theorem cell_ok (c : Int) : ∀ w ∈ cellW c, okW w := by
  intro w hw
  rcases List.mem_or_eq_of_mem_set hw with h | rfl
  · exact of_decide_eq_true (List.all_eq_true.1 mach_ok w h)
  · exact plain_okW (dec_plain _)
theorem paras_ok {t : Tab} (h : TabP t) : ∀ p ∈ parasT t, ∀ w ∈ p, okW w := by
  intro p hp
  rcases List.mem_cons.1 hp with rfl | hp
  · exact cell_ok _
  · obtain ⟨x, hx, rfl⟩ := List.mem_map.1 hp
    exact ins_ok (h.ins x hx)
theorem sn_sent {a : Ac} (h : AcT a) : ∀ (is : List It) (cur : List Str) (r : List Str), is.all itOK = true → lastDot is = true → sn cur (is.map (genI a) ++ r) = (rdAny (cur ++ is.map (genI a))).bind fun b => (sn [] r).map (b :: ·) := by
  intro is
  induction is with
  | nil => intro _ _ _ h; cases h
  | cons it is ih =>
    intro cur r h1 h2
    simp only [List.all_cons, Bool.and_eq_true] at h1
    have hd := (gen_word h h1.1).2
    simp only [List.map_cons, List.cons_append, sn]
    cases is with
    | nil =>
      simp only [lastDot] at h2
      rw [hd, h2, if_pos rfl]; rfl
    | cons j is =>
      simp only [lastDot, Bool.and_eq_true, Bool.not_eq_true'] at h2
      rw [hd, h2.1, if_neg (by decide), ih (cur ++ [genI a it]) r h1.2 h2.2]
      simp
theorem sn_acts : ∀ (l : List Ac), (∀ a ∈ l, AcC a) → sn [] (l.map wordsA).flatten = some l := by
  intro l
  induction l with
  | nil => intro _; rfl
  | cons a l ih =>
    intro h
    have ha := h a (List.mem_cons_self ..)
    have hs := sent_ok a.kind.toNat (by have := ha.1; omega)
    rw [List.map_cons, List.flatten_cons]
    have := sn_sent ha.2.1 (sentK a.kind.toNat) [] (l.map wordsA).flatten hs.1 hs.2
    rw [show (sentK a.kind.toNat).map (genI a) = wordsA a from rfl] at this
    rw [this, List.nil_append, rdAny_words ha, ih (fun b hb => h b (List.mem_cons_of_mem _ hb))]
    rfl
theorem rdIns_ins {x : Ins} (h : InsP x) : rdIns (insW x) = some x := by
  have hc := h.code
  have hn : numL (decS x.code) = some x.code.toNat := numL_dec (by have := hc.1; have := hc.2; omega)
  have hcc : ((x.code.toNat : Nat) : Int) = x.code := by have := hc.1; omega
  have e1 : (insW x).getD 1 [] = decS x.code := rfl
  have e4 : (insW x).getD 4 [] = x.name := rfl
  have e7 : decide ((insW x).getD 7 [] = anB) = x.operand := by
    have : (insW x).getD 7 [] = if x.operand = true then anB else [110, 111] := rfl
    rw [this]; cases x.operand <;> rfl
  have e9 : (insW x).take 9 = headW x.code x.name x.operand := rfl
  have d9 : (insW x).drop 9 = (x.acts.map wordsA).flatten := rfl
  have hl : ¬ (insW x).length < 9 := by unfold insW headW; simp
  rw [rdIns, if_neg hl, e1, hn]
  simp only [e4, e7, e9, d9, hcc, if_true, sn_acts _ h.acts, Option.map_some]
theorem rdCells_cell {c : Int} (h : 1 ≤ c ∧ c ≤ 65536) : rdCells (cellW c) = some c := by
  have hl : 3 < machL.length := by rw [mach_len]; decide
  have e3 : (cellW c).getD 3 [] = decS c := by unfold cellW; simp [List.getD_eq_getElem?_getD, hl]
  have hn : numL (decS c) = some c.toNat := numL_dec (by omega)
  rw [rdCells, e3, if_pos ⟨by simp [cellW], rfl⟩, hn]
  simp only [Option.map_some, Option.some.injEq]; omega
theorem rdT_ins : ∀ (l : List Ins) (k : Nat) (c : Int) (acc : List Ins), (∀ x ∈ l, InsP x) → 0 < k → rdT k c acc ((l.map insW).map paraOf) = .inr ⟨c, acc ++ l⟩ := by
  intro l
  induction l with
  | nil => intro k c acc _ hk; simp only [List.map_nil, rdT]; rw [if_neg (by omega)]; simp
  | cons x l ih =>
    intro k c acc h hk
    have hx := h x (List.mem_cons_self ..)
    have h0 := codeP_ok (join_ok (ws := insW x) fun w hw => (ins_ok hx w hw).2.1)
    simp only [List.map_cons, rdT]
    rw [if_neg (by rw [h0]; decide), if_neg (by omega)]
    have hr : rdIns (paraOf (insW x)).1 = some x := rdIns_ins hx
    rw [hr]
    simp only
    rw [ih (k + 1) c (acc ++ [x]) (fun y hy => h y (List.mem_cons_of_mem _ hy)) (by omega)]
    simp
theorem page_read {t : Tab} (h : TabP t) : rdT 0 0 [] (dvF [] (flds (pageT t))) = .inr t := by
  have hok := paras_ok h
  rw [page_flds (fun p hp w hw => (hok p hp w hw).1), dv_paras _ (fun p hp w hw => (hok p hp w hw).2.2)]
  have h0 := codeP_ok (join_ok (ws := cellW t.cells) fun w hw => (cell_ok _ w hw).2.1)
  simp only [parasT, List.map_cons, rdT]
  rw [if_neg (by rw [h0]; decide), if_pos trivial]
  have hr : rdCells (paraOf (cellW t.cells)).1 = some t.cells := rdCells_cell h.cells
  rw [hr]
  simp only
  rw [rdT_ins t.ins 1 t.cells [] h.ins (by omega)]
  simp
end Go.Proofs.YtoeeblegplghmaaGreatDoor
namespace Go.Proofs.YtoeeblegplghmaaGreatDoor
open Go Go.FL
def sizeW (ws : List Str) : Nat := (ws.map fun w => w.length + 1).sum
theorem sizeW_cons (w : Str) (ws : List Str) : sizeW (w :: ws) = w.length + 1 + sizeW ws := by simp [sizeW]
theorem sizeW_nil : sizeW [] = 0 := rfl
theorem sizeW_app (a b : List Str) : sizeW (a ++ b) = sizeW a + sizeW b := by simp [sizeW]
theorem lnF_len : ∀ (ws : List Str) (text line : Str), (lnF text line ws).length ≤ text.length + line.length + 1 + sizeW ws := by
  intro ws
  induction ws with
  | nil => intro text line; simp only [lnF, List.length_append, List.length_cons, List.length_nil, sizeW_nil]; omega
  | cons w r ih =>
    intro text line
    rw [lnF, sizeW_cons]
    split
    · have := ih text w; omega
    · split
      · have := ih (text ++ line ++ [10]) w
        simp only [List.length_append, List.length_cons, List.length_nil] at this; omega
      · have := ih text (line ++ 32 :: w)
        simp only [List.length_append, List.length_cons] at this; omega
theorem lines_len (ws : List Str) : (linesW ws).length ≤ 1 + sizeW ws := by have := lnF_len ws [] []; simpa [linesW] using this
theorem join_len : ∀ (ws : List Str), (joinW ws).length ≤ sizeW ws
  | [] => by simp [joinW]
  | [x] => by simp [joinW, sizeW]
  | x :: y :: r => by
    have := join_len (y :: r)
    rw [sizeW_cons]
    simp only [joinW, List.length_append, List.length_cons]; omega
def itSize : It → Nat
  | .lit w => w.length + 1
  | .tt sg => 11 + sg.length
  | .xx sg => 11 + sg.length
  | .yy sg => 11 + sg.length
theorem sent_size : ∀ k, k < 20 → ((sentK k).map itSize).sum ≤ 80 := by decide +kernel
theorem gen_size {a : Ac} (h : AcT a) (it : It) : (genI a it).length + 1 ≤ itSize it := by
  cases it with
  | lit w => exact Nat.le_refl _
  | tt sg => have := (reg_part a.tgt).2.1; simp only [genI, itSize, List.length_append]; omega
  | xx sg => have := (term_part h.2.1).2.1; simp only [genI, itSize, List.length_append]; omega
  | yy sg => have := (term_part h.2.2).2.1; simp only [genI, itSize, List.length_append]; omega
theorem map_size {a : Ac} (h : AcT a) : ∀ (is : List It), sizeW (is.map (genI a)) ≤ (is.map itSize).sum := by
  intro is
  induction is with
  | nil => exact Nat.le_refl _
  | cons it is ih =>
    have := gen_size h it
    rw [List.map_cons, sizeW_cons, List.map_cons, List.sum_cons]; omega
theorem words_size {a : Ac} (h : AcC a) : sizeW (wordsA a) ≤ 80 :=
  Nat.le_trans (map_size h.2.1 _) (sent_size a.kind.toNat (by have := h.1; omega))
theorem acts_size : ∀ (l : List Ac), (∀ a ∈ l, AcC a) → sizeW (l.map wordsA).flatten ≤ 80 * l.length := by
  intro l
  induction l with
  | nil => intro _; exact Nat.le_refl _
  | cons a l ih =>
    intro h
    have h1 := words_size (h a (List.mem_cons_self ..))
    have h2 := ih (fun b hb => h b (List.mem_cons_of_mem _ hb))
    rw [List.map_cons, List.flatten_cons, sizeW_app, List.length_cons]; omega
theorem dec_len10 {n : Int} (h : n < 4294967296) : (decS n).length ≤ 10 := (dec_len (u := n.toNat) (by omega)).2
theorem ins_size {x : Ins} (h : InsP x) : sizeW (insW x) ≤ 700 := by
  have h1 := acts_size _ h.acts
  have h2 := h.few
  have h3 := dec_len10 h.code.2
  have h4 := (show x.name.length ≤ 6 by have := h.nm; simp only [labelB, Bool.and_eq_true, decide_eq_true_eq] at this; exact this.1.2)
  rw [insW, sizeW_app]
  have h5 : sizeW (headW x.code x.name x.operand) ≤ 60 := by
    unfold headW
    simp only [sizeW_cons, sizeW_nil, List.length_cons, List.length_nil]
    have : (if x.operand = true then anB else [110, 111]).length = 2 := by cases x.operand <;> rfl
    omega
  omega
theorem mach_size : sizeW (machL.set 3 []) ≤ 1480 := by decide +kernel
theorem set_size : ∀ (l : List Str) (k : Nat) (w : Str), sizeW (l.set k w) ≤ sizeW (l.set k []) + w.length := by
  intro l
  induction l with
  | nil => intro k w; simp [sizeW]
  | cons x l ih =>
    intro k w
    cases k with
    | zero => simp only [List.set_cons_zero, sizeW_cons, List.length_nil]; omega
    | succ k => have := ih k w; simp only [List.set_cons_succ, sizeW_cons]; omega
theorem cell_size {c : Int} (h : c < 4294967296) : sizeW (cellW c) ≤ 1490 := by
  have h1 := set_size machL 3 (decS c)
  have h2 := mach_size
  have h3 := dec_len10 h
  rw [cellW]; omega
theorem para_size {t : Tab} (h : TabP t) : ∀ p ∈ parasT t, sizeW p ≤ 1490 := by
  intro p hp
  rcases List.mem_cons.1 hp with rfl | hp
  · exact cell_size (by have := h.cells; omega)
  · obtain ⟨x, hx, rfl⟩ := List.mem_map.1 hp
    have := ins_size (h.ins x hx); omega
theorem withC_size (ws : List Str) : sizeW (withC ws) ≤ sizeW ws + 18 := by
  have h := chk_lt (joinW ws)
  have h3 := dec_len10 (n := chkS (joinW ws)) (by omega)
  rw [withC, sizeW_app]
  simp only [sizeW_cons, sizeW_nil, checkB, List.length_append, List.length_cons, List.length_nil]; omega
theorem joinN_len : ∀ (l : List Str), (joinN l).length ≤ sizeW l
  | [] => by simp [joinN]
  | [x] => by simp [joinN, sizeW]
  | x :: y :: r => by
    have := joinN_len (y :: r)
    rw [sizeW_cons]
    simp only [joinN, List.length_append, List.length_cons]; omega
theorem paras_len : ∀ (l : List Ins), (∀ x ∈ l, InsP x) → sizeW ((l.map insW).map fun p => linesW (withC p)) ≤ 720 * l.length := by
  intro l
  induction l with
  | nil => intro _; exact Nat.le_refl _
  | cons x l ih =>
    intro h
    have h1 := ins_size (h x (List.mem_cons_self ..))
    have h2 := ih (fun b hb => h b (List.mem_cons_of_mem _ hb))
    have h3 := lines_len (withC (insW x))
    have h4 := withC_size (insW x)
    simp only [List.map_cons, sizeW_cons, List.length_cons] at h2 ⊢; omega
theorem page_len {t : Tab} (h : TabP t) : (pageT t).length ≤ 50000 := by
  have h1 := joinN_len ((parasT t).map fun p => linesW (withC p))
  have h2 := paras_len t.ins h.ins
  have h3 := lines_len (withC (cellW t.cells))
  have h4 := withC_size (cellW t.cells)
  have h5 := cell_size (c := t.cells) (by have := h.cells; omega)
  have h6 := h.len
  have e : sizeW ((parasT t).map fun p => linesW (withC p)) = (linesW (withC (cellW t.cells))).length + 1 + sizeW ((t.ins.map insW).map fun p => linesW (withC p)) := by
    rw [parasT, List.map_cons, sizeW_cons]
  rw [pageT]; omega
theorem read_page {t : Tab} (h : TabP t) (h0 : tabFault t = (0, 0)) : readR (pageT t) = (t, 0, 0) := by
  rw [readR, if_neg (by have := page_len h; omega), page_read h]
  simp only [h0]; rfl
theorem sumF_app : ∀ (a b : Str) (i : Nat), sumF i (a ++ b) = sumF i a + sumF (i + a.length) b := by
  intro a
  induction a with
  | nil => intro b i; simp [sumF]
  | cons c a ih =>
    intro b i
    rw [List.cons_append, sumF, sumF, ih, List.length_cons, show i + 1 + a.length = i + (a.length + 1) by omega]; omega
def chrV (v : Int) : UInt8 := if v = 0 then 32 else if v ≤ 26 then UInt8.ofNat (v.toNat + 96) else if v ≤ 52 then UInt8.ofNat (v.toNat + 38) else if v ≤ 62 then UInt8.ofNat (v.toNat - 5) else if v = 63 then 46 else if v = 64 then 44 else if v = 65 then 59 else 58
theorem chr_val0 : ∀ n, n < 256 → okC (UInt8.ofNat n) = true → chrV (valC (UInt8.ofNat n)) = UInt8.ofNat n ∧ valC (UInt8.ofNat n) ≤ 66 := by decide +kernel
theorem chr_val {c : UInt8} (h : okC c = true) : chrV (valC c) = c ∧ valC c ≤ 66 := by
  have := chr_val0 c.toNat c.toNat_lt
  rw [UInt8.ofNat_toNat] at this
  exact this h
theorem val_nn {c : UInt8} (h : okC c = true) : 0 ≤ valC c := of_decide_eq_true h
end Go.Proofs.YtoeeblegplghmaaGreatDoor
namespace Go.Proofs.YtoeeblegplghmaaGreatDoor
open Go Go.FL
def NC (w : Str) : Prop := ¬ (w.length = 5 ∧ 67 ∈ w)
instance (w : Str) : Decidable (NC w) := by unfold NC; infer_instance
theorem reg_short (v : Int) : (regS v).length ≤ 1 := by
  unfold regS
  repeat' split
  all_goals decide
end Go.Proofs.YtoeeblegplghmaaGreatDoor
