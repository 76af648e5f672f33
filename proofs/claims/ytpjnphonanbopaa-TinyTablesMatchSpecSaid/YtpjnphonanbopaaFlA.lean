/- The world as 'what the call owns' over 'what is shared and only grows'. -/
import Derived.Tactics
import Derived.Below
import Derived.Orders
import Derived.Laws.Rows
import Derived.WalkKit
namespace Go.FL
open Go Go.RowKit

abbrev Hl := List (Nat × Obj)

/-- what stands in the shared world at the place of an owned block -/
def dum (D : Nat) : Obj := .mapIter none D #[] 0

def setBlk (w : World) (b : Nat) (o : Obj) : World := { w with heap := w.heap.setIfInBounds b o }

def fill : Hl → World → World
  | [], s => s
  | x :: L, s => setBlk (fill L s) x.1 x.2

structure OKL (D : Nat) (L : Hl) (s : World) : Prop where
  nd : (L.map (·.1)).Nodup
  dm : ∀ x ∈ L, s.heap[x.1]? = some (dum D)

/-- the shared world has only grown -/
structure Le (D : Nat) (s s' : World) : Prop where
  os : s'.os = s.os
  tape : s'.tape = s.tape
  output : s'.output = s.output
  size : s.heap.size ≤ s'.heap.size
  block : ∀ k, k < s.heap.size → s.heap[k]? = some (dum D) ∨ s'.heap[k]? = s.heap[k]?

variable {D : Nat}

theorem Le.refl (s : World) : Le D s s := ⟨rfl, rfl, rfl, Nat.le_refl _, fun _ _ => .inr rfl⟩
theorem Le.trans {a b c : World} (h : Le D a b) (k : Le D b c) : Le D a c :=
  ⟨k.os.trans h.os, k.tape.trans h.tape, k.output.trans h.output, Nat.le_trans h.size k.size, fun i hi => by
    rcases h.block i hi with h1 | h1
    · exact .inl h1
    · rcases k.block i (Nat.lt_of_lt_of_le hi h.size) with h2 | h2
      · exact .inl (h1 ▸ h2)
      · exact .inr (h2.trans h1)⟩
theorem Le.of_ext {s s' : World} (h : Below s.heap.size s s') : Le D s s' := ⟨h.os, h.tape, h.output, h.size, fun k hk => .inr (h.block k hk)⟩

theorem cell_lt {w : World} {a : Addr} {u : Value} (h : w.cell? a = some u) : a.block < w.heap.size := World.block_lt_of_cell? w a h
theorem cell_not_dum {w : World} {a : Addr} {u : Value} (h : w.cell? a = some u) : w.heap[a.block]? ≠ some (dum D) := by
  intro e; simp [World.cell?, e, dum] at h
theorem Le.cell {s s' : World} (h : Le D s s') {a : Addr} {u : Value} (hc : s.cell? a = some u) : s'.cell? a = some u := by
  rcases h.block a.block (cell_lt hc) with h1 | h1
  · exact absurd h1 (cell_not_dum hc)
  · rw [← hc]; exact World.cell?_of_block h1

@[simp] theorem setBlk_size (w : World) (b : Nat) (o : Obj) : (setBlk w b o).heap.size = w.heap.size := by simp [setBlk]
theorem setBlk_same {w : World} {b : Nat} (o : Obj) (h : b < w.heap.size) : (setBlk w b o).heap[b]? = some o := by
  simp [setBlk, h]
theorem setBlk_other {w : World} {b k : Nat} (o : Obj) (h : b ≠ k) : (setBlk w b o).heap[k]? = w.heap[k]? := by
  simp [setBlk, Array.getElem?_setIfInBounds_ne h]

theorem fill_size (L : Hl) (s : World) : (fill L s).heap.size = s.heap.size := by
  induction L with
  | nil => rfl
  | cons x L ih => simp [fill, ih]
theorem fill_os (L : Hl) (s : World) : (fill L s).os = s.os := by induction L with
  | nil => rfl
  | cons x L ih => exact ih
theorem fill_tape (L : Hl) (s : World) : (fill L s).tape = s.tape := by induction L with
  | nil => rfl
  | cons x L ih => exact ih
theorem fill_drawn (L : Hl) (s : World) : (fill L s).drawn = s.drawn := by induction L with
  | nil => rfl
  | cons x L ih => exact ih
theorem fill_output (L : Hl) (s : World) : (fill L s).output = s.output := by induction L with
  | nil => rfl
  | cons x L ih => exact ih

theorem fill_other {L : Hl} {s : World} {k : Nat} (h : k ∉ L.map (·.1)) : (fill L s).heap[k]? = s.heap[k]? := by
  induction L with
  | nil => rfl
  | cons x L ih =>
    simp only [List.map_cons, List.mem_cons, not_or] at h
    rw [fill, setBlk_other _ (fun e => h.1 e.symm), ih h.2]
theorem OKL.lt {L : Hl} {s : World} (h : OKL D L s) {x : Nat × Obj} (hx : x ∈ L) : x.1 < s.heap.size := by
  have := h.dm x hx
  rcases Nat.lt_or_ge x.1 s.heap.size with h1 | h1
  · exact h1
  · rw [Array.getElem?_eq_none h1] at this; cases this
theorem OKL.tail {x : Nat × Obj} {L : Hl} {s : World} (h : OKL D (x :: L) s) : OKL D L s :=
  ⟨by have := h.nd; simp only [List.map_cons, List.nodup_cons] at this; exact this.2, fun y hy => h.dm y (List.mem_cons_of_mem _ hy)⟩
theorem fill_mem {L : Hl} {s : World} (h : OKL D L s) {b : Nat} {o : Obj} (hx : (b, o) ∈ L) : (fill L s).heap[b]? = some o := by
  induction L with
  | nil => cases hx
  | cons x L ih =>
    have hnd := h.nd
    simp only [List.map_cons, List.nodup_cons] at hnd
    rcases List.mem_cons.1 hx with rfl | hx
    · rw [fill]; exact setBlk_same _ (by rw [fill_size]; exact h.lt (List.mem_cons_self ..))
    · rw [fill, setBlk_other]
      · exact ih h.tail hx
      · intro e; exact hnd.1 (by rw [e]; exact List.mem_map.2 ⟨_, hx, rfl⟩)
theorem not_key {L : Hl} {s : World} (h : OKL D L s) {k : Nat} (hk : s.heap[k]? ≠ some (dum D)) : k ∉ L.map (·.1) := by
  intro hm
  obtain ⟨x, hx, rfl⟩ := List.mem_map.1 hm
  exact hk (h.dm x hx)
theorem fill_cell {L : Hl} {s : World} (h : OKL D L s) {a : Addr} {u : Value} (hc : s.cell? a = some u) : (fill L s).cell? a = some u := by
  rw [← hc]; exact World.cell?_of_block (fill_other (not_key h (cell_not_dum hc)))
theorem fill_le {L : Hl} {s : World} (h : OKL D L s) : Le D s (fill L s) :=
  ⟨fill_os L s, fill_tape L s, fill_output L s, by rw [fill_size]; exact Nat.le_refl _, fun k hk => by
    by_cases hd : s.heap[k]? = some (dum D)
    · exact .inl hd
    · exact .inr (fill_other (not_key h hd))⟩

theorem world_eq {w w' : World} (h1 : w.heap = w'.heap) (h2 : w.tape = w'.tape) (h3 : w.drawn = w'.drawn) (h4 : w.os = w'.os) (h5 : w.output = w'.output) : w = w' := by
  cases w; cases w'; simp_all
theorem heap_ext {a b : Array Obj} (h : ∀ k : Nat, a[k]? = b[k]?) : a = b := Array.ext_getElem? h

/-- owned blocks handed on to the shared world -/
theorem fill_append (A B : Hl) (s : World) : fill (A ++ B) s = fill A (fill B s) := by
  induction A with
  | nil => rfl
  | cons x A ih => simp [fill, ih]
theorem setBlk_comm {w : World} {b c : Nat} (o p : Obj) (h : b ≠ c) : setBlk (setBlk w b o) c p = setBlk (setBlk w c p) b o := by
  unfold setBlk; simp [Array.setIfInBounds_comm _ _ h]
theorem fill_setBlk {L : Hl} {s : World} {b : Nat} {o : Obj} (h : b ∉ L.map (·.1)) : fill L (setBlk s b o) = setBlk (fill L s) b o := by
  induction L with
  | nil => rfl
  | cons x L ih =>
    simp only [List.map_cons, List.mem_cons, not_or] at h
    rw [fill, ih h.2, fill, setBlk_comm _ _ h.1]
theorem fill_comm {A B : Hl} {s : World} (h : ((A ++ B).map (·.1)).Nodup) : fill A (fill B s) = fill B (fill A s) := by
  induction A with
  | nil => rfl
  | cons x A ih =>
    simp only [List.cons_append, List.map_cons, List.nodup_cons] at h
    rw [fill, ih h.2, fill, fill_setBlk]
    intro hb; exact h.1 (by rw [List.map_append]; exact List.mem_append_right _ hb)
theorem OKL.left {A B : Hl} {s : World} (h : OKL D (A ++ B) s) : OKL D A s :=
  ⟨by have := h.nd; rw [List.map_append] at this; exact (List.nodup_append.1 this).1, fun x hx => h.dm x (List.mem_append_left _ hx)⟩
theorem OKL.right {A B : Hl} {s : World} (h : OKL D (A ++ B) s) : OKL D B s :=
  ⟨by have := h.nd; rw [List.map_append] at this; exact (List.nodup_append.1 this).2.1, fun x hx => h.dm x (List.mem_append_right _ hx)⟩
/-- the blocks A are no longer owned: they belong to the shared world -/
theorem drop_own {A B : Hl} {s : World} (h : OKL D (A ++ B) s) : fill (A ++ B) s = fill B (fill A s) ∧ OKL D B (fill A s) ∧ Le D s (fill A s) := by
  refine ⟨by rw [fill_append, fill_comm h.nd], ⟨h.right.nd, fun x hx => ?_⟩, fill_le h.left⟩
  rw [fill_other]
  · exact h.right.dm x hx
  · intro hm
    have := h.nd
    rw [List.map_append] at this
    exact (List.nodup_append.1 this).2.2 _ hm _ (List.mem_map.2 ⟨x, hx, rfl⟩) rfl

/-- behind a call of which only 'what was there is as it was' is known -/
def blank (D : Nat) : Hl → World → World
  | [], w => w
  | x :: L, w => setBlk (blank D L w) x.1 (dum D)
theorem blank_size (L : Hl) (w : World) : (blank D L w).heap.size = w.heap.size := by
  induction L with
  | nil => rfl
  | cons x L ih => simp [blank, ih]
theorem blank_other {L : Hl} {w : World} {k : Nat} (h : k ∉ L.map (·.1)) : (blank D L w).heap[k]? = w.heap[k]? := by
  induction L with
  | nil => rfl
  | cons x L ih =>
    simp only [List.map_cons, List.mem_cons, not_or] at h
    rw [blank, setBlk_other _ (fun e => h.1 e.symm), ih h.2]
theorem blank_mem {L : Hl} {w : World} (hlt : ∀ x ∈ L, x.1 < w.heap.size) {k : Nat} (h : k ∈ L.map (·.1)) : (blank D L w).heap[k]? = some (dum D) := by
  induction L with
  | nil => cases h
  | cons x L ih =>
    by_cases hk : x.1 = k
    · subst hk; rw [blank]; exact setBlk_same _ (by rw [blank_size]; exact hlt x (List.mem_cons_self ..))
    · rw [blank, setBlk_other _ hk]
      simp only [List.map_cons, List.mem_cons] at h
      exact ih (fun y hy => hlt y (List.mem_cons_of_mem _ hy)) (h.resolve_left (fun e => hk e.symm))
theorem blank_os (L : Hl) (s : World) : (blank D L s).os = s.os := by induction L with
  | nil => rfl
  | cons x L ih => exact ih
theorem blank_tape (L : Hl) (s : World) : (blank D L s).tape = s.tape := by induction L with
  | nil => rfl
  | cons x L ih => exact ih
theorem blank_drawn (L : Hl) (s : World) : (blank D L s).drawn = s.drawn := by induction L with
  | nil => rfl
  | cons x L ih => exact ih
theorem blank_output (L : Hl) (s : World) : (blank D L s).output = s.output := by induction L with
  | nil => rfl
  | cons x L ih => exact ih
theorem of_ext {L : Hl} {s w' : World} (h : OKL D L s) (hb : Below (fill L s).heap.size (fill L s) w') :
    w' = fill L (blank D L w') ∧ OKL D L (blank D L w') ∧ Le D s (blank D L w') := by
  have hsz : s.heap.size ≤ w'.heap.size := by have := hb.size; rwa [fill_size] at this
  have hlt : ∀ x ∈ L, x.1 < w'.heap.size := fun x hx => Nat.lt_of_lt_of_le (h.lt hx) hsz
  have hok : OKL D L (blank D L w') := ⟨h.nd, fun x hx => blank_mem hlt (List.mem_map.2 ⟨x, hx, rfl⟩)⟩
  refine ⟨world_eq (heap_ext fun k => ?_) ?_ ?_ ?_ ?_, hok, ⟨?_, ?_, ?_, by rw [blank_size]; exact hsz, fun k hk => ?_⟩⟩
  · by_cases hk : k ∈ L.map (·.1)
    · obtain ⟨x, hx, rfl⟩ := List.mem_map.1 hk
      rw [fill_mem hok hx, hb.block x.1 (by rw [fill_size]; exact h.lt hx), fill_mem h hx]
    · rw [fill_other hk, blank_other hk]
  · rw [fill_tape, blank_tape]
  · rw [fill_drawn, blank_drawn]
  · rw [fill_os, blank_os]
  · rw [fill_output, blank_output]
  · rw [blank_os, hb.os, fill_os]
  · rw [blank_tape, hb.tape, fill_tape]
  · rw [blank_output, hb.output, fill_output]
  · by_cases hd : s.heap[k]? = some (dum D)
    · exact .inl hd
    · have hk' := not_key h hd
      exact .inr (by rw [blank_other hk', hb.block k (by rw [fill_size]; exact hk), fill_other hk'])

/-- a new owned block -/
theorem alloc_fill {L : Hl} {s : World} (h : OKL D L s) (o : Obj) :
    (fill L s).alloc o = fill ((s.heap.size, o) :: L) (s.alloc (dum D)) ∧ OKL D ((s.heap.size, o) :: L) (s.alloc (dum D)) ∧ Le D s (s.alloc (dum D)) := by
  have hold : ∀ k, k < s.heap.size → (s.alloc (dum D)).heap[k]? = s.heap[k]? := fun k hk => Below.heap_alloc s _ k hk
  have hok : OKL D ((s.heap.size, o) :: L) (s.alloc (dum D)) := by
    refine ⟨?_, ?_⟩
    · simp only [List.map_cons, List.nodup_cons]
      refine ⟨fun hm => ?_, h.nd⟩
      obtain ⟨x, hx, he⟩ := List.mem_map.1 hm
      have := h.lt hx
      omega
    · intro x hx
      rcases List.mem_cons.1 hx with rfl | hx
      · exact heap_alloc_new s _
      · rw [hold _ (h.lt hx)]; exact h.dm x hx
  refine ⟨world_eq (heap_ext fun k => ?_) ?_ ?_ ?_ ?_, hok, ⟨rfl, rfl, rfl, by simp, fun k hk => .inr (hold k hk)⟩⟩
  · rcases Nat.lt_trichotomy k s.heap.size with hk | rfl | hk
    · rw [Below.heap_alloc _ _ _ (by rw [fill_size]; exact hk)]
      by_cases hm : k ∈ L.map (·.1)
      · obtain ⟨x, hx, rfl⟩ := List.mem_map.1 hm
        rw [fill_mem h hx, fill_mem hok (List.mem_cons_of_mem _ hx)]
      · rw [fill_other hm, fill_other (by simp only [List.map_cons, List.mem_cons, not_or]; exact ⟨by omega, hm⟩), hold k hk]
    · rw [fill_mem hok (List.mem_cons_self ..), ← fill_size L s]; exact heap_alloc_new _ _
    · rw [Array.getElem?_eq_none (by simp [fill_size]; omega), Array.getElem?_eq_none (by rw [fill_size]; simp; omega)]
  · show (fill L s).tape = _; rw [fill_tape, fill_tape]; rfl
  · show (fill L s).drawn = _; rw [fill_drawn, fill_drawn]; rfl
  · show (fill L s).os = _; rw [fill_os, fill_os]; rfl
  · show (fill L s).output = _; rw [fill_output, fill_output]; rfl

/-- a change of an owned block -/
def setL (L : Hl) (i : Nat) (o : Obj) : Hl := match L, i with
  | [], _ => []
  | x :: L, 0 => (x.1, o) :: L
  | x :: L, i + 1 => x :: setL L i o
theorem setL_keys (L : Hl) (i : Nat) (o : Obj) : (setL L i o).map (·.1) = L.map (·.1) := by
  induction L generalizing i with
  | nil => cases i <;> rfl
  | cons x L ih => cases i with
    | zero => rfl
    | succ i => simp [setL, ih]
theorem setL_ok {L : Hl} {s : World} (h : OKL D L s) (i : Nat) (o : Obj) : OKL D (setL L i o) s := by
  refine ⟨by rw [setL_keys]; exact h.nd, fun x hx => ?_⟩
  have : x.1 ∈ (setL L i o).map (·.1) := List.mem_map.2 ⟨x, hx, rfl⟩
  rw [setL_keys] at this
  obtain ⟨y, hy, he⟩ := List.mem_map.1 this
  rw [← he]; exact h.dm y hy
theorem setBlk_setBlk (w : World) (b : Nat) (o p : Obj) : setBlk (setBlk w b o) b p = setBlk w b p := by
  unfold setBlk; simp
theorem fill_setL {L : Hl} {s : World} (h : OKL D L s) {i b : Nat} {p : Obj} (hi : L[i]? = some (b, p)) (o : Obj) : fill (setL L i o) s = setBlk (fill L s) b o := by
  induction L generalizing i with
  | nil => cases hi
  | cons x L ih =>
    cases i with
    | zero =>
      simp only [List.getElem?_cons_zero, Option.some.injEq] at hi
      subst hi
      simp only [setL, fill]
      rw [setBlk_setBlk]
    | succ i =>
      simp only [List.getElem?_cons_succ] at hi
      have hnd := h.nd
      simp only [List.map_cons, List.nodup_cons] at hnd
      simp only [setL, fill]
      rw [ih h.tail hi, setBlk_comm]
      intro e
      exact hnd.1 (by rw [← e]; exact List.mem_map.2 ⟨_, List.mem_of_getElem? hi, rfl⟩)

theorem drew_fill (L : Hl) (s : World) : (fill L s).drew = fill L s.drew := by
  induction L with
  | nil => rfl
  | cons x L ih => show setBlk (fill L s).drew x.1 x.2 = setBlk (fill L s.drew) x.1 x.2; rw [ih]
theorem Le.drew (s : World) : Le D s s.drew := ⟨rfl, rfl, rfl, Nat.le_refl _, fun _ _ => .inr rfl⟩
theorem OKL.drew {L : Hl} {s : World} (h : OKL D L s) : OKL D L s.drew := ⟨h.nd, h.dm⟩
end Go.FL
