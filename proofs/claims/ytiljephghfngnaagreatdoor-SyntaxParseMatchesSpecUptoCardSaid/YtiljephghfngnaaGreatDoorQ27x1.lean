/- Part 1 of the proof of syntaxParseMatchesSpec_holds: texts FlA, FlB, FlC, FlD, FlE, FlF, FlG, FlH, Dt, Pl, Nu, Pa, Pc, Sh, Ty, Eqf. -/
import Derived.Tactics
import Derived.Below
import Derived.Orders
import Derived.Laws.Rows
import Derived.WalkKit
import Derived.Deep.LoopGhost
import Derived.OrdersHeld
import Derived.IntWalk
import Derived.Lib.ItoaMem
import Derived.Lib.ParseIntBCases
import Derived.Shelf.Strings.Builder1
import Derived.Shelf.Strings.Builder2
import Derived.Shelf.Strings.OnBuilder
import Derived.Shelf.Small.Strs
import Derived.Shelf.Strings.BuilderF
import Derived.Shelf.Strings.BuilderK
import Derived.Shelf.Strings.Builder2Cap
import Derived.Shelf.Strconv.Itoa0
import Derived.Shelf.Strconv.Itoa1
import Derived.Shelf.LaysM
import Derived.Shelf.Strconv.Itoa2
import Derived.Shelf.Strconv.Itoa3
import Derived.Shelf.Strconv.Clone
import Derived.Shelf.Strconv.SyntaxError
import Derived.Shelf.LaysC
import Derived.Shelf.Strconv.ToError
import Derived.Shelf.Strconv.Lower
import Derived.Shelf.Strconv.ParseUint10
import Derived.Shelf.Strconv.ParseUint10Empty
import Derived.Shelf.Strconv.ParseUint10Any
import Derived.Shelf.Strconv.RangeError
import Derived.Shelf.Strconv.ToErrorRange
import Derived.Shelf.Strconv.ParseUintEmpty
import Derived.Shelf.Strconv.ParseUint10b64
import Derived.Shelf.Strconv.ParseUint10b32
import Derived.Shelf.Strconv.ParseUint10b16
import Derived.Shelf.Strconv.ParseUint10b8
import Derived.Shelf.Strconv.ParseUint10At
import Derived.Ground.MpProg
import Derived.Shelf.Pu.ParseUintPublic10
import Derived.Shelf.Pu.ErrVarParseUint
import Derived.Shelf.Strings.Search1
import Derived.Shelf.GgClosure.StringsIndexFunc
import Derived.Ground.GgwProg
import Derived.Shelf.GgClosure.StringsIndexFuncTop
import Derived.Shelf.GgClosure.StringsRunes
import Derived.Shelf.Strings.Prefix
import Derived.Shelf.Strings.Fields
import Derived.Shelf.Strings.SplitShaped
import Derived.Shelf.Unicode.Latin
import Derived.Shelf.Bits.Mul64
import Derived.Shelf.Strings.Repeat
import Derived.Shelf.Unicode.Is16White
import Derived.Shelf.Unicode.IsSpaceAny
import Derived.Shelf.Unicode.Is16WhiteD
import Derived.Shelf.Unicode.IsSpaceAnyD
import Derived.Shelf.Strings.FieldsAny
import Derived.Shelf.Strings.FieldsFuncAny
import Derived.Shelf.Unicode.Is16Any
import Derived.Shelf.Unicode.Is32Any
import Derived.Shelf.Unicode.ExclAny
import Derived.Shelf.Strings.FuncGrows
import Derived.Shelf.Strings.FieldsFuncGrows
import Derived.Shelf.Strings.BuilderCap
import Derived.Shelf.Slices.Turned
import Derived.Test.YtiljephghfngnaaGreatDoorProg
import Derived.KernelRfl
import Derived.Laws.StructEq
set_option linter.unusedVariables false
set_option linter.unusedSimpArgs false
set_option linter.unnecessarySimpa false
set_option maxRecDepth 100000
set_option maxHeartbeats 8000000
namespace Go.FL
open Go Go.RowKit
theorem cQ9 {α : Type _} {a : α} {x y : List α} : a :: x ++ y = a :: (x ++ y) := rfl
theorem nQ9 {α : Type _} {x : List α} : [] ++ x = x := rfl
theorem _root_.Go.V {p : Prop} (h : p := by kernel_rfl) : p := h
theorem _root_.Go.O {p : Prop} (h : p := by omega) : p := h
theorem _root_.Go.As {p : Prop} (h : p := by assumption) : p := h
theorem _root_.Go.Og {p : Prop} (h : p := by first | omega | grind) : p := h
theorem _root_.Go.Ut {p : Prop} (h : p := by (try simp only [List.length_append, List.length_cons, List.length_nil]); omega) : p := h
theorem _root_.Go.Uo {p : Prop} (h : p := by simp only [List.length_append, List.length_cons, List.length_nil]; omega) : p := h
abbrev Hl := List (Nat × Obj)
def dum (D : Nat) : Obj := .mapIter none D #[] 0
def setBlk (w : World) (b : Nat) (o : Obj) : World := { w with heap := w.heap.setIfInBounds b o }
def fill : Hl → World → World
  | [], s => s
  | x :: L, s => setBlk (fill L s) x.1 x.2
structure OKL (D : Nat) (L : Hl) (s : World) : Prop where
  nd : (L.map (·.1)).Nodup
  dm : ∀ x ∈ L, s.heap[x.1]? = some (dum D)
structure Le (D : Nat) (s s' : World) : Prop where
  os : s'.os = s.os
  tape : s'.tape = s.tape
  output : s'.output = s.output
  size : s.heap.size ≤ s'.heap.size
  block : ∀ k, k < s.heap.size → s.heap[k]? = some (dum D) ∨ s'.heap[k]? = s.heap[k]?
variable {D : Nat}
theorem Le.refl (s : World) : Le D s s := ⟨rfl, rfl, rfl, Nat.le_refl _, fun _ _ => .inr rfl⟩
theorem Lr (D : Nat) {s : World} : Le D s s := Le.refl s
theorem Z {α : Sort _} {a : α} : a = a := rfl
theorem Y4 {α0 : Type _} {a0 : α0} {α1 : Type _} {a1 : α1} {α2 : Type _} {a2 : α2} {α3 : Type _} {a3 : α3} : a0 = a0 ∧ a1 = a1 ∧ a2 = a2 ∧ a3 = a3 := ⟨rfl, rfl, rfl, rfl⟩
theorem Y5 {α0 : Type _} {a0 : α0} {α1 : Type _} {a1 : α1} {α2 : Type _} {a2 : α2} {α3 : Type _} {a3 : α3} {α4 : Type _} {a4 : α4} : a0 = a0 ∧ a1 = a1 ∧ a2 = a2 ∧ a3 = a3 ∧ a4 = a4 := ⟨rfl, rfl, rfl, rfl, rfl⟩
theorem Y6 {α0 : Type _} {a0 : α0} {α1 : Type _} {a1 : α1} {α2 : Type _} {a2 : α2} {α3 : Type _} {a3 : α3} {α4 : Type _} {a4 : α4} {α5 : Type _} {a5 : α5} : a0 = a0 ∧ a1 = a1 ∧ a2 = a2 ∧ a3 = a3 ∧ a4 = a4 ∧ a5 = a5 := ⟨rfl, rfl, rfl, rfl, rfl, rfl⟩
theorem Y9 {α0 : Type _} {a0 : α0} {α1 : Type _} {a1 : α1} {α2 : Type _} {a2 : α2} {α3 : Type _} {a3 : α3} {α4 : Type _} {a4 : α4} {α5 : Type _} {a5 : α5} {α6 : Type _} {a6 : α6} {α7 : Type _} {a7 : α7} {α8 : Type _} {a8 : α8} : a0 = a0 ∧ a1 = a1 ∧ a2 = a2 ∧ a3 = a3 ∧ a4 = a4 ∧ a5 = a5 ∧ a6 = a6 ∧ a7 = a7 ∧ a8 = a8 := ⟨rfl, rfl, rfl, rfl, rfl, rfl, rfl, rfl, rfl⟩
theorem Le.trans {a b c : World} (h : Le D a b) (k : Le D b c) : Le D a c :=
  ⟨k.os.trans h.os, k.tape.trans h.tape, k.output.trans h.output, Nat.le_trans h.size k.size, fun i hi => by
    rcases h.block i hi with h1 | h1
    · exact .inl h1
    · rcases k.block i (Nat.lt_of_lt_of_le hi h.size) with h2 | h2
      · exact .inl (h1 ▸ h2)
      · exact .inr (h2.trans h1)⟩
theorem Le.t {D : Nat} {a b c : World} (h : Le D a b) (k : Le D b c) : Le D a c := Le.trans h k
theorem cell_lt {w : World} {a : Addr} {u : Value} (h : w.cell? a = some u) : a.block < w.heap.size := World.block_lt_of_cell? w a h
theorem cell_not_dum {w : World} {a : Addr} {u : Value} (h : w.cell? a = some u) : w.heap[a.block]? ≠ some (dum D) := by
  intro e; simp [World.cell?, e, dum] at h
theorem Le.cell {s s' : World} (h : Le D s s') {a : Addr} {u : Value} (hc : s.cell? a = some u) : s'.cell? a = some u := by
  rcases h.block a.block (cell_lt hc) with h1 | h1
  · exact absurd h1 (cell_not_dum hc)
  · rw [← hc]; exact World.cell?_of_block h1
@[simp] theorem setBlk_size (w : World) (b : Nat) (o : Obj) : (setBlk w b o).heap.size = w.heap.size := by simp [setBlk]
theorem setBlk_same {w : World} {b : Nat} (o : Obj) (h : b < w.heap.size) : (setBlk w b o).heap[b]? = some o := by
  simp [setBlk, h]
theorem setBlk_other {w : World} {b k : Nat} (o : Obj) (h : b ≠ k) : (setBlk w b o).heap[k]? = w.heap[k]? := by
  simp [setBlk, Array.getElem?_setIfInBounds_ne h]
theorem fill_size (L : Hl) (s : World) : (fill L s).heap.size = s.heap.size := by
  induction L with
  | nil => rfl
  | cons x L ih => simp [fill, ih]
theorem fill_os (L : Hl) (s : World) : (fill L s).os = s.os := by induction L with
  | nil => rfl
  | cons x L ih => exact ih
theorem fill_tape (L : Hl) (s : World) : (fill L s).tape = s.tape := by induction L with
  | nil => rfl
  | cons x L ih => exact ih
theorem fill_drawn (L : Hl) (s : World) : (fill L s).drawn = s.drawn := by induction L with
  | nil => rfl
  | cons x L ih => exact ih
theorem fill_output (L : Hl) (s : World) : (fill L s).output = s.output := by induction L with
  | nil => rfl
  | cons x L ih => exact ih
theorem fill_other {L : Hl} {s : World} {k : Nat} (h : k ∉ L.map (·.1)) : (fill L s).heap[k]? = s.heap[k]? := by
  induction L with
  | nil => rfl
  | cons x L ih =>
    simp only [List.map_cons, List.mem_cons, not_or] at h
    rw [fill, setBlk_other _ (fun e => h.1 e.symm), ih h.2]
theorem OKL.lt {L : Hl} {s : World} (h : OKL D L s) {x : Nat × Obj} (hx : x ∈ L) : x.1 < s.heap.size := by
  have := h.dm x hx
  rcases Nat.lt_or_ge x.1 s.heap.size with h1 | h1
  · exact h1
  · rw [Array.getElem?_eq_none h1] at this; cases this
theorem OKL.tail {x : Nat × Obj} {L : Hl} {s : World} (h : OKL D (x :: L) s) : OKL D L s :=
  ⟨by have := h.nd; simp only [List.map_cons, List.nodup_cons] at this; exact this.2, fun y hy => h.dm y (List.mem_cons_of_mem _ hy)⟩
theorem fill_mem {L : Hl} {s : World} (h : OKL D L s) {b : Nat} {o : Obj} (hx : (b, o) ∈ L) : (fill L s).heap[b]? = some o := by
  induction L with
  | nil => cases hx
  | cons x L ih =>
    have hnd := h.nd
    simp only [List.map_cons, List.nodup_cons] at hnd
    rcases List.mem_cons.1 hx with rfl | hx
    · rw [fill]; exact setBlk_same _ (by rw [fill_size]; exact h.lt (List.mem_cons_self ..))
    · rw [fill, setBlk_other]
      · exact ih h.tail hx
      · intro e; exact hnd.1 (by rw [e]; exact List.mem_map.2 ⟨_, hx, rfl⟩)
theorem not_key {L : Hl} {s : World} (h : OKL D L s) {k : Nat} (hk : s.heap[k]? ≠ some (dum D)) : k ∉ L.map (·.1) := by
  intro hm
  obtain ⟨x, hx, rfl⟩ := List.mem_map.1 hm
  exact hk (h.dm x hx)
theorem fill_cell {L : Hl} {s : World} (h : OKL D L s) {a : Addr} {u : Value} (hc : s.cell? a = some u) : (fill L s).cell? a = some u := by
  rw [← hc]; exact World.cell?_of_block (fill_other (not_key h (cell_not_dum hc)))
theorem fill_le {L : Hl} {s : World} (h : OKL D L s) : Le D s (fill L s) :=
  ⟨fill_os L s, fill_tape L s, fill_output L s, by rw [fill_size]; exact Nat.le_refl _, fun k hk => by
    by_cases hd : s.heap[k]? = some (dum D)
    · exact .inl hd
    · exact .inr (fill_other (not_key h hd))⟩
theorem world_eq {w w' : World} (h1 : w.heap = w'.heap) (h2 : w.tape = w'.tape) (h3 : w.drawn = w'.drawn) (h4 : w.os = w'.os) (h5 : w.output = w'.output) : w = w' := by
  cases w; cases w'; simp_all
theorem heap_ext {a b : Array Obj} (h : ∀ k : Nat, a[k]? = b[k]?) : a = b := Array.ext_getElem? h
theorem fill_append (A B : Hl) (s : World) : fill (A ++ B) s = fill A (fill B s) := by
  induction A with
  | nil => rfl
  | cons x A ih => simp [fill, ih]
theorem setBlk_comm {w : World} {b c : Nat} (o p : Obj) (h : b ≠ c) : setBlk (setBlk w b o) c p = setBlk (setBlk w c p) b o := by
  unfold setBlk; simp [Array.setIfInBounds_comm _ _ h]
theorem fill_setBlk {L : Hl} {s : World} {b : Nat} {o : Obj} (h : b ∉ L.map (·.1)) : fill L (setBlk s b o) = setBlk (fill L s) b o := by
  induction L with
  | nil => rfl
  | cons x L ih =>
    simp only [List.map_cons, List.mem_cons, not_or] at h
    rw [fill, ih h.2, fill, setBlk_comm _ _ h.1]
theorem fill_comm {A B : Hl} {s : World} (h : ((A ++ B).map (·.1)).Nodup) : fill A (fill B s) = fill B (fill A s) := by
  induction A with
  | nil => rfl
  | cons x A ih =>
    simp only [List.cons_append, List.map_cons, List.nodup_cons] at h
    rw [fill, ih h.2, fill, fill_setBlk]
    intro hb; exact h.1 (by rw [List.map_append]; exact List.mem_append_right _ hb)
theorem OKL.left {A B : Hl} {s : World} (h : OKL D (A ++ B) s) : OKL D A s :=
  ⟨by have := h.nd; rw [List.map_append] at this; exact (List.nodup_append.1 this).1, fun x hx => h.dm x (List.mem_append_left _ hx)⟩
theorem OKL.right {A B : Hl} {s : World} (h : OKL D (A ++ B) s) : OKL D B s :=
  ⟨by have := h.nd; rw [List.map_append] at this; exact (List.nodup_append.1 this).2.1, fun x hx => h.dm x (List.mem_append_right _ hx)⟩
theorem drop_own {A B : Hl} {s : World} (h : OKL D (A ++ B) s) : fill (A ++ B) s = fill B (fill A s) ∧ OKL D B (fill A s) ∧ Le D s (fill A s) := by
  refine ⟨by rw [fill_append, fill_comm h.nd], ⟨h.right.nd, fun x hx => ?_⟩, fill_le h.left⟩
  rw [fill_other]
  · exact h.right.dm x hx
  · intro hm
    have := h.nd
    rw [List.map_append] at this
    exact (List.nodup_append.1 this).2.2 _ hm _ (List.mem_map.2 ⟨x, hx, rfl⟩) rfl
def blank (D : Nat) : Hl → World → World
  | [], w => w
  | x :: L, w => setBlk (blank D L w) x.1 (dum D)
theorem blank_size (L : Hl) (w : World) : (blank D L w).heap.size = w.heap.size := by
  induction L with
  | nil => rfl
  | cons x L ih => simp [blank, ih]
theorem blank_other {L : Hl} {w : World} {k : Nat} (h : k ∉ L.map (·.1)) : (blank D L w).heap[k]? = w.heap[k]? := by
  induction L with
  | nil => rfl
  | cons x L ih =>
    simp only [List.map_cons, List.mem_cons, not_or] at h
    rw [blank, setBlk_other _ (fun e => h.1 e.symm), ih h.2]
theorem blank_mem {L : Hl} {w : World} (hlt : ∀ x ∈ L, x.1 < w.heap.size) {k : Nat} (h : k ∈ L.map (·.1)) : (blank D L w).heap[k]? = some (dum D) := by
  induction L with
  | nil => cases h
  | cons x L ih =>
    by_cases hk : x.1 = k
    · subst hk; rw [blank]; exact setBlk_same _ (by rw [blank_size]; exact hlt x (List.mem_cons_self ..))
    · rw [blank, setBlk_other _ hk]
      simp only [List.map_cons, List.mem_cons] at h
      exact ih (fun y hy => hlt y (List.mem_cons_of_mem _ hy)) (h.resolve_left (fun e => hk e.symm))
theorem blank_os (L : Hl) (s : World) : (blank D L s).os = s.os := by induction L with
  | nil => rfl
  | cons x L ih => exact ih
theorem blank_tape (L : Hl) (s : World) : (blank D L s).tape = s.tape := by induction L with
  | nil => rfl
  | cons x L ih => exact ih
theorem blank_drawn (L : Hl) (s : World) : (blank D L s).drawn = s.drawn := by induction L with
  | nil => rfl
  | cons x L ih => exact ih
theorem blank_output (L : Hl) (s : World) : (blank D L s).output = s.output := by induction L with
  | nil => rfl
  | cons x L ih => exact ih
theorem of_ext {L : Hl} {s w' : World} (h : OKL D L s) (hb : Below (fill L s).heap.size (fill L s) w') :
    w' = fill L (blank D L w') ∧ OKL D L (blank D L w') ∧ Le D s (blank D L w') := by
  have hsz : s.heap.size ≤ w'.heap.size := by have := hb.size; rwa [fill_size] at this
  have hlt : ∀ x ∈ L, x.1 < w'.heap.size := fun x hx => Nat.lt_of_lt_of_le (h.lt hx) hsz
  have hok : OKL D L (blank D L w') := ⟨h.nd, fun x hx => blank_mem hlt (List.mem_map.2 ⟨x, hx, rfl⟩)⟩
  refine ⟨world_eq (heap_ext fun k => ?_) ?_ ?_ ?_ ?_, hok, ⟨?_, ?_, ?_, by rw [blank_size]; exact hsz, fun k hk => ?_⟩⟩
  · by_cases hk : k ∈ L.map (·.1)
    · obtain ⟨x, hx, rfl⟩ := List.mem_map.1 hk
      rw [fill_mem hok hx, hb.block x.1 (by rw [fill_size]; exact h.lt hx), fill_mem h hx]
    · rw [fill_other hk, blank_other hk]
  · rw [fill_tape, blank_tape]
  · rw [fill_drawn, blank_drawn]
  · rw [fill_os, blank_os]
  · rw [fill_output, blank_output]
  · rw [blank_os, hb.os, fill_os]
  · rw [blank_tape, hb.tape, fill_tape]
  · rw [blank_output, hb.output, fill_output]
  · by_cases hd : s.heap[k]? = some (dum D)
    · exact .inl hd
    · have hk' := not_key h hd
      exact .inr (by rw [blank_other hk', hb.block k (by rw [fill_size]; exact hk), fill_other hk'])
theorem alloc_fill {L : Hl} {s : World} (h : OKL D L s) (o : Obj) :
    (fill L s).alloc o = fill ((s.heap.size, o) :: L) (s.alloc (dum D)) ∧ OKL D ((s.heap.size, o) :: L) (s.alloc (dum D)) ∧ Le D s (s.alloc (dum D)) := by
  have hold : ∀ k, k < s.heap.size → (s.alloc (dum D)).heap[k]? = s.heap[k]? := fun k hk => Below.heap_alloc s _ k hk
  have hok : OKL D ((s.heap.size, o) :: L) (s.alloc (dum D)) := by
    refine ⟨?_, ?_⟩
    · simp only [List.map_cons, List.nodup_cons]
      refine ⟨fun hm => ?_, h.nd⟩
      obtain ⟨x, hx, he⟩ := List.mem_map.1 hm
      have := h.lt hx
      omega
    · intro x hx
      rcases List.mem_cons.1 hx with rfl | hx
      · exact heap_alloc_new s _
      · rw [hold _ (h.lt hx)]; exact h.dm x hx
  refine ⟨world_eq (heap_ext fun k => ?_) ?_ ?_ ?_ ?_, hok, ⟨Z, Z, Z, by simp, fun k hk => .inr (hold k hk)⟩⟩
  · rcases Nat.lt_trichotomy k s.heap.size with hk | rfl | hk
    · rw [Below.heap_alloc _ _ _ (by rw [fill_size]; exact hk)]
      by_cases hm : k ∈ L.map (·.1)
      · obtain ⟨x, hx, rfl⟩ := List.mem_map.1 hm
        rw [fill_mem h hx, fill_mem hok (List.mem_cons_of_mem _ hx)]
      · rw [fill_other hm, fill_other (by simp only [List.map_cons, List.mem_cons, not_or]; exact ⟨by omega, hm⟩), hold k hk]
    · rw [fill_mem hok (List.mem_cons_self ..), ← fill_size L s]; exact heap_alloc_new _ _
    · rw [Array.getElem?_eq_none (by simp [fill_size]; omega), Array.getElem?_eq_none (by rw [fill_size]; simp; omega)]
  · show (fill L s).tape = _; rw [fill_tape, fill_tape]; rfl
  · show (fill L s).drawn = _; rw [fill_drawn, fill_drawn]; rfl
  · show (fill L s).os = _; rw [fill_os, fill_os]; rfl
  · show (fill L s).output = _; rw [fill_output, fill_output]; rfl
def setL (L : Hl) (i : Nat) (o : Obj) : Hl := match L, i with
  | [], _ => []
  | x :: L, 0 => (x.1, o) :: L
  | x :: L, i + 1 => x :: setL L i o
theorem setL_keys (L : Hl) (i : Nat) (o : Obj) : (setL L i o).map (·.1) = L.map (·.1) := by
  induction L generalizing i with
  | nil => cases i <;> rfl
  | cons x L ih => cases i with
    | zero => rfl
    | succ i => simp [setL, ih]
theorem setL_ok {L : Hl} {s : World} (h : OKL D L s) (i : Nat) (o : Obj) : OKL D (setL L i o) s := by
  refine ⟨by rw [setL_keys]; exact h.nd, fun x hx => ?_⟩
  have : x.1 ∈ (setL L i o).map (·.1) := List.mem_map.2 ⟨x, hx, rfl⟩
  rw [setL_keys] at this
  obtain ⟨y, hy, he⟩ := List.mem_map.1 this
  rw [← he]; exact h.dm y hy
theorem setBlk_setBlk (w : World) (b : Nat) (o p : Obj) : setBlk (setBlk w b o) b p = setBlk w b p := by
  unfold setBlk; simp
theorem fill_setL {L : Hl} {s : World} (h : OKL D L s) {i b : Nat} {p : Obj} (hi : L[i]? = some (b, p)) (o : Obj) : fill (setL L i o) s = setBlk (fill L s) b o := by
  induction L generalizing i with
  | nil => cases hi
  | cons x L ih =>
    cases i with
    | zero =>
      simp only [List.getElem?_cons_zero, Option.some.injEq] at hi
      subst hi
      simp only [setL, fill]
      rw [setBlk_setBlk]
    | succ i =>
      simp only [List.getElem?_cons_succ] at hi
      have hnd := h.nd
      simp only [List.map_cons, List.nodup_cons] at hnd
      simp only [setL, fill]
      rw [ih h.tail hi, setBlk_comm]
      intro e
      exact hnd.1 (by rw [← e]; exact List.mem_map.2 ⟨_, List.mem_of_getElem? hi, rfl⟩)
theorem drew_fill (L : Hl) (s : World) : (fill L s).drew = fill L s.drew := by
  induction L with
  | nil => rfl
  | cons x L ih => show setBlk (fill L s).drew x.1 x.2 = setBlk (fill L s.drew) x.1 x.2; rw [ih]
theorem Le.drew (s : World) : Le D s s.drew := ⟨rfl, rfl, rfl, Nat.le_refl _, fun _ _ => .inr rfl⟩
theorem OKL.drew {L : Hl} {s : World} (h : OKL D L s) : OKL D L s.drew := ⟨h.nd, h.dm⟩
abbrev Fr := List (Nat × Value)
def flook : Fr → Nat → Option Value
  | [], _ => none
  | (d, v) :: r, t => bif Nat.beq d t then some v else flook r t
def lk (fr : Fr) : Operand → Option Value
  | .tmp t => flook fr t
  | .const v => some v
  | .global g => some (.pointer (some ⟨g, 0, none⟩))
  | .func f => some (.func (.func f) #[] #[])
structure FrRel (n : Nat) (a : Act) (fr : Fr) : Prop where
  size : a.tmps.size = n
  defers : a.defers = []
  slot : ∀ t, t < n → ∀ v, flook fr t = some v → a.tmps[t]? = some v
  top : ∀ t v, flook fr t = some v → t < n
theorem FrRel.ev {n : Nat} {a : Act} {fr : Fr} (h : FrRel n a fr) {x : Operand} {v : Value} (hx : lk fr x = some v) : a.eval x = v := by
  cases x with
  | tmp t =>
    have := h.slot t (h.top t v hx) v hx
    simp [Act.eval, this]
  | const u => simpa [lk, Act.eval] using hx
  | global g => simpa [lk, Act.eval] using hx
  | func f => simpa [lk, Act.eval] using hx
theorem flook_cons (d : Nat) (v : Value) (fr : Fr) (t : Nat) : flook ((d, v) :: fr) t = if d = t then some v else flook fr t := by
  simp only [flook, cond_eq_ite]
  by_cases h : d = t
  · subst h; simp
  · have : Nat.beq d t = false := by
      cases hb : Nat.beq d t with
      | false => rfl
      | true => exact absurd (Nat.eq_of_beq_eq_true hb) h
    simp [h, this]
theorem FrRel.put {n : Nat} {a : Act} {fr : Fr} (h : FrRel n a fr) {d : Nat} (hd : Nat.blt d n = true) (v : Value) : FrRel n (a.put (some d) v) ((d, v) :: fr) := by
  have hd' : d < n := Nat.le_of_ble_eq_true hd
  refine ⟨by simp [Act.put, h.size], by simp [Act.put, h.defers], fun t ht u hu => ?_, fun t u hu => ?_⟩
  · rw [flook_cons] at hu
    by_cases he : d = t
    · subst he; simp at hu; subst hu; simp [Act.put, h.size, hd']
    · simp only [he, if_false] at hu
      simp only [Act.put, Array.getElem?_setIfInBounds_ne he]
      exact h.slot t ht u hu
  · rw [flook_cons] at hu
    by_cases he : d = t
    · subst he; exact hd'
    · simp only [he, if_false] at hu; exact h.top t u hu
inductive TK where
  | sc                       -- one cell
  | sl (elem : Nat)          -- a slice
  | st (offs : List Nat)     -- a struct; the offsets of its fields
  | ar (len elem : Nat)      -- an array
def isOne : TK → Bool
  | .sc => true
  | .sl _ => true
  | _ => false
structure TI where
  kind : TK
  desc : TypeDesc
  size : Nat
  bytes : Nat
  zeros : List Value
  fsz : List Nat := []      -- a struct: the sizes of its fields
def TI.zero (x : TI) : Value := match x.kind with
  | .st _ => .agg x.zeros.toArray
  | .ar _ _ => .agg x.zeros.toArray
  | _ => x.zeros.headD undef
abbrev TyTab := List (Nat × TI)
def TK.fits : TK → TypeDesc → Prop
  | .sc, .struct _ => False
  | .sc, .array _ _ => False
  | .sc, _ => True
  | .sl e, d => d = .slice e
  | .st offs, .struct fs => fs.toList.map (·.offset) = offs
  | .st _, _ => False
  | .ar n e, d => d = .array n e
def fieldsPos (P : Program) : TypeDesc → Bool
  | .struct fs => fs.toList.all (fun f => decide (0 < P.cellsOf f.type))
  | _ => true
def fieldSizes (P : Program) : TypeDesc → List Nat
  | .struct fs => fs.toList.map fun f => P.cellsOf f.type
  | _ => []
def TI.ok (P : Program) (t : Nat) (x : TI) : Prop :=
  P.underlying t = some x.desc ∧ x.kind.fits x.desc ∧ (P.info? t).map (fun i => (i.size, i.bytes, i.zero)) = some (x.size, x.bytes, some x.zero) ∧ x.zeros.length = x.size ∧ x.zeros.all (·.oneCell') = true ∧ 0 < x.size ∧ (isOne x.kind = true → x.size = 1) ∧
  fieldsPos P x.desc = true ∧ fieldSizes P x.desc = x.fsz
def TabOK (P : Program) (TT : TyTab) : Prop := ∀ x ∈ TT, x.2.ok P x.1
def tlook : TyTab → Nat → Option TI
  | [], _ => none
  | (d, v) :: r, t => bif Nat.beq d t then some v else tlook r t
theorem tlook_mem {TT : TyTab} {t : Nat} {x : TI} (h : tlook TT t = some x) : (t, x) ∈ TT := by
  induction TT with
  | nil => cases h
  | cons y TT ih =>
    obtain ⟨d, v⟩ := y
    simp only [tlook, cond_eq_ite] at h
    by_cases he : Nat.beq d t = true
    · simp only [he, if_true, Option.some.injEq] at h
      have : d = t := by simpa using he
      subst h; subst this; exact List.mem_cons_self ..
    · simp only [he] at h; exact List.mem_cons_of_mem _ (ih h)
theorem TabOK.at_ {P : Program} {TT : TyTab} (h : TabOK P TT) {t : Nat} {x : TI} (hx : tlook TT t = some x) : x.ok P t := h _ (tlook_mem hx)
abbrev APost := Exit → Fr → Hl → World → Prop
def conc (D n : Nat) (Q : APost) : Exit → Act → World → Prop := fun e a w => ∃ fr L s, FrRel n a fr ∧ OKL D L s ∧ w = fill L s ∧ Q e fr L s
def JC (P : Program) (TT : TyTab) (D n : Nat) (Q : APost) (c : Code) (fr : Fr) (L : Hl) (s : World) : Prop :=
  TabOK P TT → ∀ a, FrRel n a fr → OKL D L s → c.wp P (conc D n Q) a (fill L s)
def JO (P : Program) (TT : TyTab) (D n : Nat) (ops : Array Oper) (Q : APost) (l : List Oper) (fr : Fr) (L : Hl) (s : World) : Prop :=
  TabOK P TT → ∀ a, FrRel n a fr → OKL D L s → wpList P ops (conc D n Q) l a (fill L s)
section control
variable {P : Program} {TT : TyTab} {D n : Nat} {Q : APost} {fr : Fr} {L : Hl} {s : World}
def thenQ (J : Fr → Hl → World → Prop) (Q : APost) : APost
  | .normal, fr, L, s => J fr L s
  | e, fr, L, s => Q e fr L s
def blockQ (id : Nat) (Q : APost) : APost
  | .exit i, fr, L, s => if i = id then Q .normal fr L s else Q (.exit i) fr L s
  | e, fr, L, s => Q e fr L s
theorem JC_skip (h : Q .normal fr L s) : JC P TT D n Q .skip fr L s := fun _ _ hr ho => wp_skip ⟨fr, L, s, hr, ho, rfl, h⟩
theorem JC_exit {id : Nat} (h : Q (.exit id) fr L s) : JC P TT D n Q (.exit id) fr L s := fun _ _ hr ho => wp_exit ⟨fr, L, s, hr, ho, rfl, h⟩
theorem JC_ret (h : Q .ret fr L s) : JC P TT D n Q .ret fr L s := fun _ _ hr ho => wp_ret ⟨fr, L, s, hr, ho, rfl, h⟩
theorem JC_seq {x y : Code} (h : JC P TT D n (thenQ (JC P TT D n Q y) Q) x fr L s) : JC P TT D n Q (.seq x y) fr L s := fun ht a hr ho =>
  wp_seq (wp_mono (h ht a hr ho) fun e a w ⟨fr', L', s', h1, h2, h3, h4⟩ => by
    cases e with
    | normal => subst h3; exact h4 ht a h1 h2
    | _ => exact ⟨fr', L', s', h1, h2, h3, h4⟩)
theorem JC_block {id : Nat} {c : Code} (h : JC P TT D n (blockQ id Q) c fr L s) : JC P TT D n Q (.block id c) fr L s := fun ht a hr ho =>
  wp_block (wp_mono (h ht a hr ho) fun e a w ⟨fr', L', s', h1, h2, h3, h4⟩ => by
    cases e with
    | exit i =>
      simp only [blockQ] at h4
      simp only [Exit.inBlock]
      by_cases hi : i = id
      · simp only [hi, if_true] at h4 ⊢; exact ⟨fr', L', s', h1, h2, h3, h4⟩
      · simp only [hi, if_false] at h4 ⊢; exact ⟨fr', L', s', h1, h2, h3, h4⟩
    | _ => exact ⟨fr', L', s', h1, h2, h3, h4⟩)
theorem JC_if {c : Operand} {x y : Code} {b : Bool} (hc : lk fr c = some (.bool b)) (h1 : b = true → JC P TT D n Q x fr L s) (h2 : b = false → JC P TT D n Q y fr L s) : JC P TT D n Q (.cond c x y) fr L s :=
  fun ht a hr ho => wp_cond_split (hr.ev hc) (fun hb => h1 hb ht a hr ho) (fun hb => h2 hb ht a hr ho)
theorem JC_ifD {c : Operand} {x y : Code} {p : Prop} [Decidable p] (hc : lk fr c = some (.bool (decide p))) (h1 : p → JC P TT D n Q x fr L s) (h2 : ¬ p → JC P TT D n Q y fr L s) : JC P TT D n Q (.cond c x y) fr L s :=
  JC_if hc (fun hb => h1 (of_decide_eq_true hb)) (fun hb => h2 (of_decide_eq_false hb))
theorem JC_ifN {c : Operand} {x y : Code} {p : Prop} [Decidable p] (hc : lk fr c = some (.bool (!decide p))) (h1 : ¬ p → JC P TT D n Q x fr L s) (h2 : p → JC P TT D n Q y fr L s) : JC P TT D n Q (.cond c x y) fr L s :=
  JC_if hc (fun hb => h1 (by simpa using hb)) (fun hb => h2 (by simpa using hb))
theorem JC_ifM {c : Operand} {x y : Code} {b : Bool} (hc : lk fr c = some (.bool (!b))) (h1 : b = false → JC P TT D n Q x fr L s) (h2 : b = true → JC P TT D n Q y fr L s) : JC P TT D n Q (.cond c x y) fr L s :=
  JC_if hc (fun hb => h1 (by simpa using hb)) (fun hb => h2 (by simpa using hb))
theorem JC_ifT {c : Operand} {x y : Code} (hc : lk fr c = some (.bool true)) (h1 : JC P TT D n Q x fr L s) : JC P TT D n Q (.cond c x y) fr L s :=
  JC_if hc (fun _ => h1) (fun hb => by cases hb)
theorem JC_ifF {c : Operand} {x y : Code} (hc : lk fr c = some (.bool false)) (h2 : JC P TT D n Q y fr L s) : JC P TT D n Q (.cond c x y) fr L s :=
  JC_if hc (fun hb => by cases hb) (fun _ => h2)
theorem JC_region {id : Nat} {l : List Oper} (h : JO P TT D n l.toArray Q l fr L s) : JC P TT D n Q (.region id l.toArray false) fr L s :=
  fun ht a hr ho => wp_region_lit (h ht a hr ho)
theorem JO_nil {ops : Array Oper} (h : Q .normal fr L s) : JO P TT D n ops Q [] fr L s := fun _ _ hr ho => ⟨fr, L, s, hr, ho, rfl, h⟩
theorem flook_append {l fr : Fr} (t : Nat) : flook (l ++ fr) t = (flook l t).or (flook fr t) := by
  induction l with
  | nil => simp [flook]
  | cons x l ih =>
    obtain ⟨d, v⟩ := x
    rw [List.cons_append, flook_cons, flook_cons]
    by_cases h : d = t <;> simp [h, ih]
theorem FrRel.sub {n : Nat} {a : Act} {fr l : Fr} (h : FrRel n a fr) (hs : ∀ t v, flook l t = some v → flook fr t = some v) : FrRel n a l :=
  ⟨h.size, h.defers, fun t ht v hv => h.slot t ht v (hs t v hv), fun t v hv => h.top t v (hs t v hv)⟩
def Keeps (fr l : Fr) : Prop := ∀ t v, flook l t = some v → flook fr t = some v
theorem Keeps.nil (fr : Fr) : Keeps fr [] := fun _ _ h => by cases h
theorem Keeps.cons {fr l : Fr} {d : Nat} {v : Value} (h1 : flook fr d = some v) (h : Keeps fr l) : Keeps fr ((d, v) :: l) := fun t u hu => by
  rw [flook_cons] at hu
  by_cases he : d = t
  · subst he; simp at hu; subst hu; exact h1
  · simp only [he, if_false] at hu; exact h t u hu
theorem JC_loop {γ : Type} {c : Code} (S : γ → Fr) (H : γ → Hl) (I : γ → World → Prop) (μ : γ → Nat) (mono : ∀ g s s', I g s → Le D s s' → I g s') (g0 : γ)
    (hS : Keeps fr (S g0)) (hL : L = H g0) (hI : I g0 s)
    (round : ∀ g s, I g s → JC P TT D n (thenQ (fun fr' L' s' => ∃ g' A, Keeps fr' (S g') ∧ L' = A ++ H g' ∧ I g' s' ∧ μ g' < μ g) Q) c (S g) (H g) s) :
    JC P TT D n Q (.loop c) fr L s := fun ht a hr ho => by
  refine wp_loop_ghost (fun m a w => ∃ g s, μ g = m ∧ FrRel n a (S g) ∧ OKL D (H g) s ∧ w = fill (H g) s ∧ I g s) (μ g0) ⟨g0, s, Z, hr.sub hS, hL ▸ ho, hL ▸ Z, hI⟩ ?_
  rintro m a w ⟨g, s, rfl, h1, h2, rfl, h4⟩
  refine wp_mono (round g s h4 ht a h1 h2) ?_
  rintro e a' w' ⟨fr', L', s', k1, k2, rfl, k4⟩
  cases e with
  | normal =>
    obtain ⟨g', A, j1, rfl, j3, j4⟩ := k4
    obtain ⟨e, d1, d2⟩ := drop_own k2
    exact ⟨μ g', j4, g', _, rfl, k1.sub j1, d1, e, mono _ _ _ j3 d2⟩
  | _ => exact ⟨fr', L', s', k1, k2, rfl, k4⟩
end control
def cb (zs : List Value) (t : Nat) : Obj := .cells zs.toArray t (0, 0)
abbrev St (l : List UInt8) : Value := .string ⟨l.toArray⟩
def Ev (P : Program) (TT : TyTab) (D : Nat) (fr : Fr) (op : Op) (ty : Nat) (L : Hl) (s : World) (r : Next) (L' : Hl) (s' : World) : Prop :=
  TabOK P TT → OKL D L s → ∀ (dst : Option Nat) (pos : String) (af : Array Edge) (g : Option (Nat × Bool)) (ρ : Operand → Value), (∀ x v, lk fr x = some v → ρ x = v) → (execOp ρ ⟨dst, op, ty, pos, af, g⟩).run P (fill L s) = .ok r (fill L' s') ∧ OKL D L' s'
def QE (P : Program) (TT : TyTab) (D : Nat) (fr : Fr) (op : Op) (ty : Nat) (K : Hl) (s0 : World) (v : Value) : Prop :=
  TabOK P TT → ∀ (dst : Option Nat) (pos : String) (af : Array Edge) (g : Option (Nat × Bool)) (ρ : Operand → Value), (∀ x v, lk fr x = some v → ρ x = v) →
    ∀ L s, OKL D L s → Le D s0 s → (∀ x ∈ K, x ∈ L) → (execOp ρ ⟨dst, op, ty, pos, af, g⟩).run P (fill L s) = .ok (.value v) (fill L s)
theorem QE.pure {P : Program} {TT : TyTab} {D : Nat} {fr : Fr} {op : Op} {ty : Nat} {K : Hl} {s0 : World} {v : Value}
    (h : TabOK P TT → ∀ (dst : Option Nat) (pos : String) (af : Array Edge) (g : Option (Nat × Bool)) (ρ : Operand → Value), (∀ x v, lk fr x = some v → ρ x = v) → ∀ w, (execOp ρ ⟨dst, op, ty, pos, af, g⟩).run P w = .ok (.value v) w) : QE P TT D fr op ty K s0 v :=
  fun ht dst pos af g ρ hρ L s _ _ _ => h ht dst pos af g ρ hρ _
section
variable {P : Program} {TT : TyTab} {D n : Nat} {Q : APost} {fr : Fr} {L L' : Hl} {s s' : World} {ops : Array Oper} {rest : List Oper} {d ty : Nat} {op : Op} {pos : String} {af : Array Edge} {v : Value}
theorem JO_ev (hd : Nat.blt d n = true) (h : Ev P TT D fr op ty L s (.value v) L' s') (k : JO P TT D n ops Q rest ((d, v) :: fr) L' s') :
    JO P TT D n ops Q (⟨some d, op, ty, pos, af, none⟩ :: rest) fr L s := fun ht a hr ho => by
  obtain ⟨h1, h2⟩ := h ht ho (some d) pos af none a.eval (fun x v hx => hr.ev hx)
  simp only [wpList, Region.wanted, if_true]
  refine .inl ?_
  simp only [Oper.wp, h1, Oper.upon]
  exact k ht _ (hr.put hd v) h2
theorem JO_sk (h : Ev P TT D fr op ty L s .skip L' s') (k : JO P TT D n ops Q rest fr L' s') :
    JO P TT D n ops Q (⟨none, op, ty, pos, af, none⟩ :: rest) fr L s := fun ht a hr ho => by
  obtain ⟨h1, h2⟩ := h ht ho none pos af none a.eval (fun x v hx => hr.ev hx)
  simp only [wpList, Region.wanted, if_true]
  refine .inl ?_
  simp only [Oper.wp, h1, Oper.upon]
  exact k ht _ hr h2
theorem JO_q (h : QE P TT D fr op ty L s v) (hd : Nat.blt d n = true) (k : JO P TT D n ops Q rest ((d, v) :: fr) L s) : JO P TT D n ops Q (⟨some d, op, ty, pos, af, none⟩ :: rest) fr L s :=
  JO_ev hd (fun ht ho dst pos af g ρ hρ => ⟨h ht dst pos af g ρ hρ L s ho (Le.refl _) (fun _ hx => hx), ho⟩) k
def gslot (ops : Array Oper) (j : Nat) : Option Nat := (ops[j]?).bind (·.dst)
theorem JO_gT {dst : Option Nat} {j t : Nat} {w : Bool} (hj : gslot ops j = some t) (hv : flook fr t = some (.bool w))
    (k : JO P TT D n ops Q (⟨dst, op, ty, pos, af, none⟩ :: rest) fr L s) : JO P TT D n ops Q (⟨dst, op, ty, pos, af, some (j, w)⟩ :: rest) fr L s := fun ht a hr ho => by
  have k1 := k ht a hr ho
  have hy : yielded ops a.tmps j = some w := by
    have h1 := hr.slot t (hr.top _ _ hv) _ hv
    unfold gslot at hj
    simp [yielded, hj, h1]
  simp only [wpList, Region.wanted, if_true] at k1
  simp only [wpList, Region.wanted, hy, beq_self_eq_true, if_true]
  exact k1
theorem JO_gF {d : Nat} {j t : Nat} {w b : Bool} (hd : Nat.blt d n = true) (hj : gslot ops j = some t) (hv : flook fr t = some (.bool b)) (hb : (b != w) = true)
    (k : JO P TT D n ops Q rest ((d, undef) :: fr) L s) : JO P TT D n ops Q (⟨some d, op, ty, pos, af, some (j, w)⟩ :: rest) fr L s := fun ht a hr ho => by
  have hy : yielded ops a.tmps j = some b := by
    have h1 := hr.slot t (hr.top _ _ hv) _ hv
    unfold gslot at hj
    simp [yielded, hj, h1]
  have hne : (some b == some w) = false := by cases b <;> cases w <;> simp_all
  simp only [wpList, Region.wanted, hy, hne, Bool.false_eq_true, if_false]
  exact k ht _ (hr.put hd undef) ho
theorem Wf {d : Nat} {j t : Nat} {w b : Bool} (hY : (Nat.blt d n = true) ∧ (gslot ops j = some t) ∧ (flook fr t = some (.bool b)) ∧ ((b != w) = true))
    (k : JO P TT D n ops Q rest ((d, undef) :: fr) L s) : JO P TT D n ops Q (⟨some d, op, ty, pos, af, some (j, w)⟩ :: rest) fr L s := JO_gF hY.1 hY.2.1 hY.2.2.1 hY.2.2.2 k
theorem JO_gU {d : Nat} {j t : Nat} {w : Bool} (hd : Nat.blt d n = true) (hj : gslot ops j = some t) (hv : flook fr t = some undef)
    (k : JO P TT D n ops Q rest ((d, undef) :: fr) L s) : JO P TT D n ops Q (⟨some d, op, ty, pos, af, some (j, w)⟩ :: rest) fr L s := fun ht a hr ho => by
  have hy : yielded ops a.tmps j = none := by
    have h1 := hr.slot t (hr.top _ _ hv) _ hv
    unfold gslot at hj
    simp [yielded, hj, h1, undef]
  simp only [wpList, Region.wanted, hy]
  exact k ht _ (hr.put hd undef) ho
theorem JO_case {l : List Oper} {t : Nat} {b : Bool} (hv : flook fr t = some (.bool b)) (h1 : b = true → JO P TT D n ops Q l ((t, .bool true) :: fr) L s) (h2 : b = false → JO P TT D n ops Q l ((t, .bool false) :: fr) L s) :
    JO P TT D n ops Q l fr L s := fun ht a hr ho => by
  cases b with
  | true => exact h1 rfl ht a (hr.sub fun t' v' h => by rw [flook_cons] at h; split at h <;> simp_all) ho
  | false => exact h2 rfl ht a (hr.sub fun t' v' h => by rw [flook_cons] at h; split at h <;> simp_all) ho
theorem JO_caseD {l : List Oper} {t : Nat} {p : Prop} [Decidable p] (hv : flook fr t = some (.bool (decide p))) (h1 : p → JO P TT D n ops Q l ((t, .bool true) :: fr) L s) (h2 : ¬ p → JO P TT D n ops Q l ((t, .bool false) :: fr) L s) :
    JO P TT D n ops Q l fr L s := JO_case hv (fun h => h1 (of_decide_eq_true h)) (fun h => h2 (of_decide_eq_false h))
theorem JO_caseM {l : List Oper} {t : Nat} {b : Bool} (hv : flook fr t = some (.bool (!b))) (h1 : b = false → JO P TT D n ops Q l ((t, .bool true) :: fr) L s) (h2 : b = true → JO P TT D n ops Q l ((t, .bool false) :: fr) L s) :
    JO P TT D n ops Q l fr L s := JO_case hv (fun h => h1 (by simpa using h)) (fun h => h2 (by simpa using h))
theorem JO_caseN {l : List Oper} {t : Nat} {p : Prop} [Decidable p] (hv : flook fr t = some (.bool (!decide p))) (h1 : ¬ p → JO P TT D n ops Q l ((t, .bool true) :: fr) L s) (h2 : p → JO P TT D n ops Q l ((t, .bool false) :: fr) L s) :
    JO P TT D n ops Q l fr L s := JO_case hv (fun h => h1 (by simpa using h)) (fun h => h2 (by simpa using h))
end
section
variable {P : Program} {TT : TyTab} {D : Nat} {fr : Fr} {ty : Nat} {v : Value} {K : Hl} {s0 : World}
theorem QE_mv {x : Operand} (hx : lk fr x = some v) : QE P TT D fr (.move x) ty K s0 v := QE.pure fun _ dst pos af g ρ hρ w => by simp [execOp, hρ x v hx]
theorem QE_as {x : Operand} (hx : lk fr x = some v) : QE P TT D fr (.assign x) ty K s0 v := QE.pure fun _ dst pos af g ρ hρ w => by simp [execOp, hρ x v hx]
theorem QE_pickT {c x y : Operand} (hc : lk fr c = some (.bool true)) (hx : lk fr x = some v) : QE P TT D fr (.pick c x y) ty K s0 v := QE.pure fun _ dst pos af g ρ hρ w => by simp [execOp, hρ x v hx, hρ c _ hc, asBool]
theorem QE_pickF {c x y : Operand} (hc : lk fr c = some (.bool false)) (hx : lk fr y = some v) : QE P TT D fr (.pick c x y) ty K s0 v := QE.pure fun _ dst pos af g ρ hρ w => by simp [execOp, hρ y v hx, hρ c _ hc, asBool]
theorem QE_not {x : Operand} {b : Bool} {t : Nat} (hx : lk fr x = some (.bool b)) : QE P TT D fr (.unOp .not t x) ty K s0 (.bool (!b)) := QE.pure fun _ dst pos af g ρ hρ w => by simp [execOp, hρ x _ hx, Op.unary]
theorem QE_notT {x : Operand} {t : Nat} (hx : lk fr x = some (.bool true)) : QE P TT D fr (.unOp .not t x) ty K s0 (.bool false) := QE_not hx
theorem QE_notF {x : Operand} {t : Nat} (hx : lk fr x = some (.bool false)) : QE P TT D fr (.unOp .not t x) ty K s0 (.bool true) := QE_not hx
def nth : List Value → Nat → Option Value
  | [], _ => none
  | x :: _, 0 => some x
  | _ :: r, k + 1 => nth r k
theorem nth_eq (l : List Value) (i : Nat) : nth l i = l[i]? := by
  induction l generalizing i with
  | nil => rfl
  | cons x l ih => cases i <;> simp [nth, ih]
theorem QE_ext {x : Operand} {i : Nat} {vs : List Value} (hx : lk fr x = some (.tuple vs.toArray)) (hi : nth vs i = some v) : QE P TT D fr (.extract x i) ty K s0 v :=
  QE.pure fun _ dst pos af g ρ hρ w => by rw [nth_eq] at hi; simp [execOp, hρ x _ hx, Instr.extract, hi]
theorem QE_nil {x : Operand} {a : Addr} (hx : lk fr x = some (.pointer (some a))) : QE P TT D fr (.nilCheck x) ty K s0 (.pointer (some a)) := QE.pure fun _ dst pos af g ρ hρ w => by simp [execOp, hρ x _ hx]
theorem QE_eq {x y : Operand} {ik : IntKind} {a b : Int} {t t' : Nat} (hx : lk fr x = some (.int ik a)) (hy : lk fr y = some (.int ik b)) : QE P TT D fr (.binOp .eql t x y t') ty K s0 (.bool (decide (a = b))) :=
  QE.pure fun _ dst pos af g ρ hρ w => by simp [execOp, hρ x _ hx, hρ y _ hy, eqGuard, binOp, Op.intCmp]; rfl
theorem QE_ne {x y : Operand} {ik : IntKind} {a b : Int} {t t' : Nat} (hx : lk fr x = some (.int ik a)) (hy : lk fr y = some (.int ik b)) : QE P TT D fr (.binOp .neq t x y t') ty K s0 (.bool (!decide (a = b))) :=
  QE.pure fun _ dst pos af g ρ hρ w => by simp [execOp, hρ x _ hx, hρ y _ hy, eqGuard, binOp, Op.intCmp]; rfl
theorem QE_lt {x y : Operand} {ik : IntKind} {a b : Int} {t t' : Nat} (hx : lk fr x = some (.int ik a)) (hy : lk fr y = some (.int ik b)) : QE P TT D fr (.binOp .lss t x y t') ty K s0 (.bool (decide (a < b))) :=
  QE.pure fun _ dst pos af g ρ hρ w => by simp [execOp, hρ x _ hx, hρ y _ hy, eqGuard, binOp, Op.intCmp]
theorem QE_le {x y : Operand} {ik : IntKind} {a b : Int} {t t' : Nat} (hx : lk fr x = some (.int ik a)) (hy : lk fr y = some (.int ik b)) : QE P TT D fr (.binOp .leq t x y t') ty K s0 (.bool (decide (a ≤ b))) :=
  QE.pure fun _ dst pos af g ρ hρ w => by simp [execOp, hρ x _ hx, hρ y _ hy, eqGuard, binOp, Op.intCmp]
theorem QE_gt {x y : Operand} {ik : IntKind} {a b : Int} {t t' : Nat} (hx : lk fr x = some (.int ik a)) (hy : lk fr y = some (.int ik b)) : QE P TT D fr (.binOp .gtr t x y t') ty K s0 (.bool (decide (b < a))) :=
  QE.pure fun _ dst pos af g ρ hρ w => by simp [execOp, hρ x _ hx, hρ y _ hy, eqGuard, binOp, Op.intCmp]
theorem QE_ge {x y : Operand} {ik : IntKind} {a b : Int} {t t' : Nat} (hx : lk fr x = some (.int ik a)) (hy : lk fr y = some (.int ik b)) : QE P TT D fr (.binOp .geq t x y t') ty K s0 (.bool (decide (b ≤ a))) :=
  QE.pure fun _ dst pos af g ρ hρ w => by simp [execOp, hρ x _ hx, hρ y _ hy, eqGuard, binOp, Op.intCmp]
theorem QE_add {x y : Operand} {ik : IntKind} {a b : Int} {t t' : Nat} (hx : lk fr x = some (.int ik a)) (hy : lk fr y = some (.int ik b)) : QE P TT D fr (.binOp .add t x y t') ty K s0 (.int ik (ik.wrap (a + b))) :=
  QE.pure fun _ dst pos af g ρ hρ w => by simp [execOp, hρ x _ hx, hρ y _ hy, eqGuard, binOp, Op.intArith]
theorem QE_add' {x y : Operand} {ik : IntKind} {a b c : Int} {t t' : Nat} (hx : lk fr x = some (.int ik a)) (hy : lk fr y = some (.int ik b)) (hc : ik.wrap (a + b) = c) : QE P TT D fr (.binOp .add t x y t') ty K s0 (.int ik c) := hc ▸ QE_add hx hy
theorem QE_sub {x y : Operand} {ik : IntKind} {a b : Int} {t t' : Nat} (hx : lk fr x = some (.int ik a)) (hy : lk fr y = some (.int ik b)) : QE P TT D fr (.binOp .sub t x y t') ty K s0 (.int ik (ik.wrap (a - b))) :=
  QE.pure fun _ dst pos af g ρ hρ w => by simp [execOp, hρ x _ hx, hρ y _ hy, eqGuard, binOp, Op.intArith]
theorem QE_sub' {x y : Operand} {ik : IntKind} {a b c : Int} {t t' : Nat} (hx : lk fr x = some (.int ik a)) (hy : lk fr y = some (.int ik b)) (hc : ik.wrap (a - b) = c) : QE P TT D fr (.binOp .sub t x y t') ty K s0 (.int ik c) := hc ▸ QE_sub hx hy
theorem QE_mul {x y : Operand} {ik : IntKind} {a b : Int} {t t' : Nat} (hx : lk fr x = some (.int ik a)) (hy : lk fr y = some (.int ik b)) : QE P TT D fr (.binOp .mul t x y t') ty K s0 (.int ik (ik.wrap (a * b))) :=
  QE.pure fun _ dst pos af g ρ hρ w => by simp [execOp, hρ x _ hx, hρ y _ hy, eqGuard, binOp, Op.intArith]
theorem QE_mul' {x y : Operand} {ik : IntKind} {a b c : Int} {t t' : Nat} (hx : lk fr x = some (.int ik a)) (hy : lk fr y = some (.int ik b)) (hc : ik.wrap (a * b) = c) : QE P TT D fr (.binOp .mul t x y t') ty K s0 (.int ik c) := hc ▸ QE_mul hx hy
theorem QE_quo {x y : Operand} {ik : IntKind} {a b : Int} {t t' : Nat} (hx : lk fr x = some (.int ik a)) (hy : lk fr y = some (.int ik b)) (hb : b ≠ 0) : QE P TT D fr (.binOp .quo t x y t') ty K s0 (.int ik (ik.wrap (a.tdiv b))) :=
  QE.pure fun _ dst pos af g ρ hρ w => by simp [execOp, hρ x _ hx, hρ y _ hy, eqGuard, binOp, Op.intDiv, hb]
theorem QE_rem {x y : Operand} {ik : IntKind} {a b : Int} {t t' : Nat} (hx : lk fr x = some (.int ik a)) (hy : lk fr y = some (.int ik b)) (hb : b ≠ 0) : QE P TT D fr (.binOp .rem t x y t') ty K s0 (.int ik (a.tmod b)) :=
  QE.pure fun _ dst pos af g ρ hρ w => by simp [execOp, hρ x _ hx, hρ y _ hy, eqGuard, binOp, Op.intDiv, hb]
theorem QE_seq {x y : Operand} {a b : List UInt8} {t t' : Nat} (hx : lk fr x = some (St a)) (hy : lk fr y = some (St b)) : QE P TT D fr (.binOp .eql t x y t') ty K s0 (.bool (decide (a = b))) :=
  QE.pure fun _ dst pos af g ρ hρ w => by simp [execOp, hρ x _ hx, hρ y _ hy, eqGuard, binOp, Op.stringOp]; by_cases h : a = b <;> simp [h]
theorem QE_sne {x y : Operand} {a b : List UInt8} {t t' : Nat} (hx : lk fr x = some (St a)) (hy : lk fr y = some (St b)) : QE P TT D fr (.binOp .neq t x y t') ty K s0 (.bool (!decide (a = b))) :=
  QE.pure fun _ dst pos af g ρ hρ w => by simp [execOp, hρ x _ hx, hρ y _ hy, eqGuard, binOp, Op.stringOp]; by_cases h : a = b <;> simp [h]
theorem run_bool_eql {P : Program} {t : Nat} (h : P.underlying t = some .bool) (a b : Bool) (w : World) : (Op.equal t (.bool a) (.bool b)).run P w = .ok (decide (a = b)) w := by
  rw [run_equal_bool w t a b h]
  cases a <;> cases b <;> rfl
def EqA (P : Program) (t : Nat) (xs ys : List Value) (b : Bool) : Prop := P.eqGuardType P.depth t = false ∧ ∀ w, (Op.equal t (.agg xs.toArray) (.agg ys.toArray)).run P w = .ok b w
theorem QE_aeq {x y : Operand} {xs ys : List Value} {b : Bool} {t t' : Nat} (hx : lk fr x = some (.agg xs.toArray)) (hy : lk fr y = some (.agg ys.toArray)) (hE : EqA P t xs ys b) : QE P TT D fr (.binOp .eql t x y t') ty K s0 (.bool b) :=
  QE.pure fun ht dst pos af g ρ hρ w => by simp [execOp, hρ x _ hx, hρ y _ hy, eqGuard, binOp, hE.1, hE.2 w]
theorem QE_ane {x y : Operand} {xs ys : List Value} {b : Bool} {t t' : Nat} (hx : lk fr x = some (.agg xs.toArray)) (hy : lk fr y = some (.agg ys.toArray)) (hE : EqA P t xs ys b) : QE P TT D fr (.binOp .neq t x y t') ty K s0 (.bool (!b)) :=
  QE.pure fun ht dst pos af g ρ hρ w => by simp [execOp, hρ x _ hx, hρ y _ hy, eqGuard, binOp, hE.1, hE.2 w]
theorem QE_bne {x y : Operand} {a b : Bool} {t t' : Nat} {ti : TI} (hx : lk fr x = some (.bool a)) (hy : lk fr y = some (.bool b)) (hu : tlook TT t = some ti) (hu' : ti.desc = .bool) : QE P TT D fr (.binOp .neq t x y t') ty K s0 (.bool (!decide (a = b))) :=
  QE.pure fun ht dst pos af g ρ hρ w => by
    have h1 := (ht.at_ hu).1; rw [hu'] at h1
    simp [execOp, hρ x _ hx, hρ y _ hy, eqGuard, binOp, run_bool_eql h1]
end
def CellsAt (s : World) (b off : Nat) (vs : List Value) : Prop := ∀ j v, vs[j]? = some v → s.cell? ⟨b, off + j, none⟩ = some v
theorem CellsAt.le {D : Nat} {s s' : World} {b off : Nat} {vs : List Value} (h : CellsAt s b off vs) (hl : Le D s s') : CellsAt s' b off vs := fun j v hj => hl.cell (h j v hj)
theorem CellsAt.one {s : World} {b off : Nat} {v : Value} (h : s.cell? ⟨b, off, none⟩ = some v) : CellsAt s b off [v] := fun j u hj => by
  cases j with
  | zero => simp at hj; subst hj; exact h
  | succ j => simp at hj
theorem add_lit (b off j : Nat) : (⟨b, off, none⟩ : Addr).add j = ⟨b, off + j, none⟩ := by unfold Addr.add; split <;> simp_all
section
variable {P : Program} {TT : TyTab} {D : Nat}
theorem run_isAgg_sc {t : Nat} {ti : TI} (h : ti.ok P t) (hk : ti.kind = .sc) (w : World) : (isAgg t).run P w = .ok false w := by
  obtain ⟨h1, h2, _⟩ := h
  rw [hk] at h2
  unfold isAgg
  simp only [Sem.run_bind, run_underlying h1, Result.andThen_ok]
  generalize ti.desc = dd at h2
  cases dd <;> simp_all [TK.fits]
theorem run_isAgg_sl {t e : Nat} {ti : TI} (h : ti.ok P t) (hk : ti.kind = .sl e) (w : World) : (isAgg t).run P w = .ok false w := by
  obtain ⟨h1, h2, _⟩ := h
  rw [hk] at h2
  unfold isAgg
  simp only [TK.fits] at h2
  simp [run_underlying h1, h2]
theorem run_isAgg_st {t : Nat} {os : List Nat} {ti : TI} (h : ti.ok P t) (hk : ti.kind = .st os) (w : World) : (isAgg t).run P w = .ok true w := by
  obtain ⟨h1, h2, _⟩ := h
  rw [hk] at h2
  unfold isAgg
  simp only [Sem.run_bind, run_underlying h1, Result.andThen_ok]
  generalize ti.desc = dd at h2
  cases dd <;> simp_all [TK.fits]
theorem run_isAgg_ar {t m e : Nat} {ti : TI} (h : ti.ok P t) (hk : ti.kind = .ar m e) (w : World) : (isAgg t).run P w = .ok true w := by
  obtain ⟨h1, h2, _⟩ := h
  rw [hk] at h2
  unfold isAgg
  simp only [TK.fits] at h2
  simp [run_underlying h1, h2]
theorem info_of {t : Nat} {ti : TI} (h : ti.ok P t) : ∃ i, P.info? t = some i ∧ i.size = ti.size ∧ i.bytes = ti.bytes ∧ i.zero = some ti.zero := by
  obtain ⟨_, _, h3, _⟩ := h
  cases hi : P.info? t with
  | none => simp [hi] at h3
  | some i => simp [hi] at h3; exact ⟨i, rfl, h3.1, h3.2.1, h3.2.2⟩
theorem run_sizeOf' {t : Nat} {ti : TI} (h : ti.ok P t) (w : World) : (sizeOf t).run P w = .ok ti.size w := by
  obtain ⟨i, h1, h2, _, _⟩ := info_of h
  simp [sizeOf, typeInfo, h1, h2]
theorem run_zero' {t : Nat} {ti : TI} (h : ti.ok P t) (w : World) : (zeroValue t).run P w = .ok ti.zero w := by
  obtain ⟨i, h1, _, _, h2⟩ := info_of h
  simp [zeroValue, typeInfo, h1, h2]
theorem run_isAgg' {t : Nat} {ti : TI} (h : ti.ok P t) (w : World) : (isAgg t).run P w = .ok (!isOne ti.kind) w := by
  cases hk : ti.kind with
  | sc => exact run_isAgg_sc h hk w
  | sl e => exact run_isAgg_sl h hk w
  | st os => exact run_isAgg_st h hk w
  | ar m e => exact run_isAgg_ar h hk w
theorem zero_cells {t : Nat} {ti : TI} (h : ti.ok P t) : ti.zero.cells = ti.zeros.toArray := by
  obtain ⟨h1, h2, h3, h4, h5, h6, h7, _⟩ := h
  unfold TI.zero
  cases hk : ti.kind with
  | st os => rfl
  | ar m e => rfl
  | sc =>
    have hl : ti.zeros.length = 1 := by rw [h4]; exact h7 (by rw [hk]; rfl)
    match hz : ti.zeros, hl with
    | [z], _ => rw [hz] at h5; simp at h5; simp only [List.headD]; cases z <;> simp_all [Value.oneCell', Value.cells]
  | sl e =>
    have hl : ti.zeros.length = 1 := by rw [h4]; exact h7 (by rw [hk]; rfl)
    match hz : ti.zeros, hl with
    | [z], _ => rw [hz] at h5; simp at h5; simp only [List.headD]; cases z <;> simp_all [Value.oneCell', Value.cells]
theorem run_new (t : TypeId) (cs : Array Value) (w : World) : (newRow t cs).run P w = .ok ⟨w.heap.size, 0, none⟩ (w.alloc (.cells cs t)) := by
  simp [newRow]
def cellsL : Value → List Value
  | .agg cs => cs.toList
  | v => [v]
theorem cells_cellsL (v : Value) : v.cells = (cellsL v).toArray := by cases v <;> simp [Value.cells, cellsL]
theorem run_loadVar_one {t : Nat} {ti : TI} (h : ti.ok P t) (hk : isOne ti.kind = true) {w : World} {a : Addr} {v : Value} (hc : w.cell? a = some v) : (loadVar t a).run P w = .ok v w := by
  simp [loadVar, run_isAgg' h, hk, hc]
theorem run_loadVar_agg {t : Nat} {ti : TI} (h : ti.ok P t) (hk : isOne ti.kind = false) {w : World} {b off : Nat} {vs : List Value} (hl : vs.length = ti.size)
    (hc : ∀ j v, vs[j]? = some v → w.cell? ⟨b, off + j, none⟩ = some v) : (loadVar t ⟨b, off, none⟩).run P w = .ok (.agg vs.toArray) w := by
  have h1 := run_loadCells_list (P := P) w ⟨b, off, none⟩ vs (fun j v hj => by rw [add_lit]; exact hc j v hj)
  simp [loadVar, run_isAgg' h, hk, run_sizeOf' h, ← hl, h1]
theorem cb_cell {L : Hl} {s : World} (ho : OKL D L s) {i b t : Nat} {zs : List Value} (hi : L[i]? = some (b, cb zs t)) (j : Nat) : (fill L s).cell? ⟨b, j, none⟩ = zs[j]? := by
  have := fill_mem ho (List.mem_of_getElem? hi)
  simp [World.cell?, this, cb]
def cut (zs : List Value) (off : Nat) : Nat → Option (List Value)
  | 0 => some []
  | n + 1 => match nth zs off with
    | some v => match cut zs (off + 1) n with
      | some r => some (v :: r)
      | none => none
    | none => none
theorem cut_spec {zs : List Value} {off n : Nat} {vs : List Value} (h : cut zs off n = some vs) : vs.length = n ∧ ∀ j v, vs[j]? = some v → zs[off + j]? = some v := by
  induction n generalizing off vs with
  | zero => simp [cut] at h; subst h; simp
  | succ n ih =>
    simp only [cut] at h
    cases h1 : nth zs off with
    | none => simp [h1] at h
    | some x =>
      cases h2 : cut zs (off + 1) n with
      | none => simp [h1, h2] at h
      | some r =>
        simp [h1, h2] at h
        subst h
        obtain ⟨k1, k2⟩ := ih h2
        refine ⟨by simp [k1], fun j v hj => ?_⟩
        cases j with
        | zero => simp at hj; subst hj; rw [nth_eq] at h1; exact h1
        | succ j => simp at hj; have := k2 j v hj; rwa [Nat.add_right_comm, Nat.add_assoc] at this
end
section
variable {P : Program} {TT : TyTab} {D n : Nat} {Q : APost} {fr : Fr} {L L' K : Hl} {s s' s0 : World} {ops : Array Oper} {rest : List Oper} {d ty : Nat} {op : Op} {pos : String} {af : Array Edge} {v : Value}
theorem Ev_alloc {t : Nat} {ti : TI} (ht : tlook TT t = some ti) (ho : OKL D L s) : Ev P TT D fr (.alloc t) ty L s (.value (.pointer (some ⟨s.heap.size, 0, none⟩))) ((s.heap.size, cb ti.zeros t) :: L) (s.alloc (dum D)) := fun hT _ dst pos af g ρ _ => by
  obtain ⟨h1, h2, h3⟩ := alloc_fill ho (cb ti.zeros t)
  refine ⟨?_, h2⟩
  have hz := zero_cells (hT.at_ ht)
  simp only [execOp, Instr.alloc, Sem.run_bind, run_zero' (hT.at_ ht), Result.andThen_ok, newVar, run_new, hz, Sem.run_pure, fill_size]
  rw [← h1]; rfl
theorem Ev_box {t : Nat} {x : Operand} {zs : List Value} (hx : lk fr x = some v) (hz : cellsL v = zs) (ho : OKL D L s) : Ev P TT D fr (.box t x) ty L s (.value (.pointer (some ⟨s.heap.size, 0, none⟩))) ((s.heap.size, cb zs t) :: L) (s.alloc (dum D)) := fun hT _ dst pos af g ρ hρ => by
  obtain ⟨h1, h2, h3⟩ := alloc_fill ho (cb zs t)
  refine ⟨?_, h2⟩
  simp only [execOp, Instr.box, Sem.run_bind, Result.andThen_ok, newVar, run_new, Sem.run_pure, fill_size, hρ x v hx, cells_cellsL, hz]
  rw [← h1]; rfl
theorem JO_alloc {t : Nat} {ti : TI} (ht : tlook TT t = some ti) (hd : Nat.blt d n = true)
    (k : ∀ β s', Le D s s' → JO P TT D n ops Q rest ((d, .pointer (some ⟨β, 0, none⟩)) :: fr) ((β, cb ti.zeros t) :: L) s') : JO P TT D n ops Q (⟨some d, .alloc t, ty, pos, af, none⟩ :: rest) fr L s := fun hT a hr ho =>
  JO_ev hd (Ev_alloc ht ho) (k _ _ (alloc_fill ho (cb ti.zeros t)).2.2) hT a hr ho
theorem JO_allocZ {t : Nat} {ti : TI} (ht : tlook TT t = some ti) (zs : List Value) (hz : ti.zeros = zs) (hd : Nat.blt d n = true)
    (k : ∀ β s', Le D s s' → JO P TT D n ops Q rest ((d, .pointer (some ⟨β, 0, none⟩)) :: fr) ((β, cb zs t) :: L) s') : JO P TT D n ops Q (⟨some d, .alloc t, ty, pos, af, none⟩ :: rest) fr L s := by subst hz; exact JO_alloc ht hd k
theorem JO_box {t : Nat} {x : Operand} {zs : List Value} (hx : lk fr x = some v) (hz : cellsL v = zs) (hd : Nat.blt d n = true)
    (k : ∀ β s', Le D s s' → JO P TT D n ops Q rest ((d, .pointer (some ⟨β, 0, none⟩)) :: fr) ((β, cb zs t) :: L) s') : JO P TT D n ops Q (⟨some d, .box t x, ty, pos, af, none⟩ :: rest) fr L s := fun hT a hr ho =>
  JO_ev hd (Ev_box hx hz ho) (k _ _ (alloc_fill ho (cb zs t)).2.2) hT a hr ho
theorem JO_boxA {t : Nat} {x : Operand} {zs : List Value} (hx : lk fr x = some (.agg zs.toArray)) (hd : Nat.blt d n = true)
    (k : ∀ β s', Le D s s' → JO P TT D n ops Q rest ((d, .pointer (some ⟨β, 0, none⟩)) :: fr) ((β, cb zs t) :: L) s') : JO P TT D n ops Q (⟨some d, .box t x, ty, pos, af, none⟩ :: rest) fr L s :=
  JO_box hx (by simp [cellsL]) hd k
theorem mem_cell {zs : List Value} {b t j : Nat} (ho : OKL D L s) (hi : (b, cb zs t) ∈ L) : (fill L s).cell? ⟨b, j, none⟩ = zs[j]? := by
  have := fill_mem ho hi
  simp [World.cell?, this, cb]
theorem QE_ld1 {t b off : Nat} {x : Operand} {ti : TI} {t' : Nat} {zs : List Value} (i : Nat) (hx : lk fr x = some (.pointer (some ⟨b, off, none⟩))) (hi : K[i]? = some (b, cb zs t')) (ht : tlook TT t = some ti) (hk : isOne ti.kind = true)
    (hv : nth zs off = some v) : QE P TT D fr (.load t x) ty K s0 v := fun hT dst pos af g ρ hρ L s ho _ hK => by
  have hc : (fill L s).cell? ⟨b, off, none⟩ = some v := by rw [mem_cell ho (hK _ (List.mem_of_getElem? hi)), ← nth_eq]; exact hv
  simp [execOp, hρ x _ hx, Instr.loadAt, Instr.sureAddr, run_loadVar_one (hT.at_ ht) hk hc]
theorem Wd {t b off : Nat} {x : Operand} {ti : TI} {t' : Nat} {zs : List Value} (i : Nat) (hY : (lk fr x = some (.pointer (some ⟨b, off, none⟩))) ∧ (K[i]? = some (b, cb zs t')) ∧ (tlook TT t = some ti) ∧ (isOne ti.kind = true) ∧ (nth zs off = some v)) : QE P TT D fr (.load t x) ty K s0 v := QE_ld1 i hY.1 hY.2.1 hY.2.2.1 hY.2.2.2.1 hY.2.2.2.2
theorem QE_ldA {t b off : Nat} {x : Operand} {ti : TI} {t' : Nat} {zs : List Value} (i : Nat) (vs : List Value) (hx : lk fr x = some (.pointer (some ⟨b, off, none⟩))) (hi : K[i]? = some (b, cb zs t')) (ht : tlook TT t = some ti) (hk : isOne ti.kind = false)
    (hv : cut zs off ti.size = some vs) : QE P TT D fr (.load t x) ty K s0 (.agg vs.toArray) := fun hT dst pos af g ρ hρ L s ho _ hK => by
  obtain ⟨h1, h2⟩ := cut_spec hv
  have hc : ∀ j v, vs[j]? = some v → (fill L s).cell? ⟨b, off + j, none⟩ = some v := fun j v hj => by rw [mem_cell ho (hK _ (List.mem_of_getElem? hi))]; exact h2 j v hj
  simp [execOp, hρ x _ hx, Instr.loadAt, Instr.sureAddr, run_loadVar_agg (hT.at_ ht) hk h1 hc]
theorem QE_lds {t b off : Nat} {x : Operand} {ti : TI} (hx : lk fr x = some (.pointer (some ⟨b, off, none⟩))) (ht : tlook TT t = some ti) (hk : isOne ti.kind = true)
    (hv : s0.cell? ⟨b, off, none⟩ = some v) : QE P TT D fr (.load t x) ty K s0 v := fun hT dst pos af g ρ hρ L s ho hl _ => by
  simp [execOp, hρ x _ hx, Instr.loadAt, Instr.sureAddr, run_loadVar_one (hT.at_ ht) hk (fill_cell ho (hl.cell hv))]
theorem QE_ldsA {t b off : Nat} {x : Operand} {ti : TI} {vs : List Value} (hx : lk fr x = some (.pointer (some ⟨b, off, none⟩))) (ht : tlook TT t = some ti) (hk : isOne ti.kind = false)
    (hv : CellsAt s0 b off vs) (hl : vs.length = ti.size) : QE P TT D fr (.load t x) ty K s0 (.agg vs.toArray) := fun hT dst pos af g ρ hρ L s ho hle _ => by
  simp [execOp, hρ x _ hx, Instr.loadAt, Instr.sureAddr, run_loadVar_agg (hT.at_ ht) hk hl (fun j v hj => fill_cell ho (hle.cell (hv j v hj)))]
theorem QE_ldsR {t b off : Nat} {x : Operand} {ti : TI} {vs : List Value} (j : Nat) (hx : lk fr x = some (.pointer (some ⟨b, off + j, none⟩))) (ht : tlook TT t = some ti) (hk : isOne ti.kind = true)
    (hv : CellsAt s0 b off vs) (hj : nth vs j = some v) : QE P TT D fr (.load t x) ty K s0 v := QE_lds hx ht hk (hv j v (by rw [← nth_eq]; exact hj))
theorem QE_ldsR0 {t b off : Nat} {x : Operand} {ti : TI} {vs : List Value} (hx : lk fr x = some (.pointer (some ⟨b, off, none⟩))) (ht : tlook TT t = some ti) (hk : isOne ti.kind = true)
    (hv : CellsAt s0 b off vs) (hj : nth vs 0 = some v) : QE P TT D fr (.load t x) ty K s0 v := QE_lds hx ht hk (hv 0 v (by rw [← nth_eq]; exact hj))
def splice (zs : List Value) (off : Nat) (vs : List Value) : List Value := match vs with
  | [] => zs
  | v :: vs => match zs, off with
    | [], _ => []
    | _ :: zs, 0 => v :: splice zs 0 vs
    | z :: zs, o + 1 => z :: splice zs o (v :: vs)
theorem splice_eq (zs : List Value) (off : Nat) (vs : List Value) (h : off + vs.length ≤ zs.length) : splice zs off vs = zs.take off ++ vs ++ zs.drop (off + vs.length) := by
  induction zs generalizing off vs with
  | nil => cases vs <;> simp_all [splice]
  | cons z zs ih =>
    cases vs with
    | nil => simp [splice]
    | cons v vs =>
      cases off with
      | zero => simp only [splice]; rw [ih 0 vs (by simp at h ⊢; omega)]; simp
      | succ o => simp only [splice]; rw [ih o (v :: vs) (by simp at h ⊢; omega)]; simp; rw [show o + 1 + (vs.length + 1) = (o + (vs.length + 1)) + 1 by omega]; rfl
theorem setRow_setBlk {w : World} {b t : Nat} {cs : Array Value} {fz : Nat × Nat} (h : w.heap[b]? = some (.cells cs t fz)) (ds : Array Value) : w.setRow b ds = setBlk w b (.cells ds t fz) := by
  refine world_eq (heap_ext fun k => ?_) Z Z Z Z
  by_cases hk : k = b
  · subst hk
    rw [setRow_heap w k cs ds t fz h, setBlk_same]
    rcases Nat.lt_or_ge k w.heap.size with h1 | h1
    · exact h1
    · rw [Array.getElem?_eq_none h1] at h; cases h
  · rw [setRow_other w b k ds hk, setBlk_other _ (fun e => hk e.symm)]
theorem Ev_st {t b off : Nat} {x y : Operand} {ti : TI} {t' : Nat} {zs : List Value} (i : Nat) (zs' : List Value) (hx : lk fr x = some (.pointer (some ⟨b, off, none⟩))) (hy : lk fr y = some v) (hi : L[i]? = some (b, cb zs t')) (ht : tlook TT t = some ti)
    (hl : (cellsL v).length = ti.size) (hle : Nat.ble (off + ti.size) zs.length = true) (h1 : (cellsL v).all (·.oneCell') = true) (hs : splice zs off (cellsL v) = zs') : Ev P TT D fr (.store t x y) ty L s .skip (setL L i (cb zs' t')) s := fun hT ho dst pos af g ρ hρ => ⟨by
    have hg := fill_mem ho (List.mem_of_getElem? hi)
    have hle' : off + ti.size ≤ zs.length := Nat.le_of_ble_eq_true hle
    have hst := run_storeCells_at (P := P) b off t' (cellsL v) 0 zs.toArray (fill L s) hg (by simp [hl]; omega) (by simpa using h1)
    rw [fill_setL ho hi, ← hs, splice_eq zs off (cellsL v) (by rw [hl]; exact hle'), cb, ← setRow_setBlk hg]
    simp only [Nat.add_zero, List.toList_toArray] at hst
    have hsz : (cellsL v).toArray.size = ti.size := by simpa using hl
    simp only [execOp, hρ x _ hx, hρ y _ hy, Instr.storeAt, Instr.sureAddr, storeVar, cells_cellsL, Sem.run_bind, Sem.run_pure, Result.andThen_ok, run_sizeOf' (hT.at_ ht), hsz, ne_eq, not_true, if_false, hst, List.toList_toArray], setL_ok ho _ _⟩
theorem JO_st {t b off : Nat} {x y : Operand} {ti : TI} {t' : Nat} {zs : List Value} (i : Nat) (zs' : List Value) {L' : Hl} (hx : lk fr x = some (.pointer (some ⟨b, off, none⟩))) (hy : lk fr y = some v) (hi : L[i]? = some (b, cb zs t')) (ht : tlook TT t = some ti)
    (hl : (cellsL v).length = ti.size) (hle : Nat.ble (off + ti.size) zs.length = true) (h1 : (cellsL v).all (·.oneCell') = true) (hs : splice zs off (cellsL v) = zs') (hL : setL L i (cb zs' t') = L')
    (k : JO P TT D n ops Q rest fr L' s) : JO P TT D n ops Q (⟨none, .store t x y, ty, pos, af, none⟩ :: rest) fr L s := by
  subst hL; exact JO_sk (Ev_st i zs' hx hy hi ht hl hle h1 hs) k
theorem Wt {t b off : Nat} {x y : Operand} {ti : TI} {t' : Nat} {zs : List Value} (i : Nat) (zs' : List Value) {L' : Hl} (hY : (lk fr x = some (.pointer (some ⟨b, off, none⟩))) ∧ (lk fr y = some v) ∧ (L[i]? = some (b, cb zs t')) ∧ (tlook TT t = some ti) ∧ ((cellsL v).length = ti.size) ∧ (Nat.ble (off + ti.size) zs.length = true) ∧ ((cellsL v).all (·.oneCell') = true) ∧ (splice zs off (cellsL v) = zs') ∧ (setL L i (cb zs' t') = L'))
    (k : JO P TT D n ops Q rest fr L' s) : JO P TT D n ops Q (⟨none, .store t x y, ty, pos, af, none⟩ :: rest) fr L s := JO_st i zs' hY.1 hY.2.1 hY.2.2.1 hY.2.2.2.1 hY.2.2.2.2.1 hY.2.2.2.2.2.1 hY.2.2.2.2.2.2.1 hY.2.2.2.2.2.2.2.1 hY.2.2.2.2.2.2.2.2 k
end
section
variable {P : Program} {TT : TyTab} {D n : Nat} {Q : APost} {fr : Fr} {L L' K : Hl} {s s' s0 : World} {ops : Array Oper} {rest : List Oper} {d ty : Nat} {op : Op} {pos : String} {af : Array Edge} {v : Value}
def nthN : List Nat → Nat → Option Nat
  | [], _ => none
  | x :: _, 0 => some x
  | _ :: r, k + 1 => nthN r k
theorem nthN_eq (l : List Nat) (i : Nat) : nthN l i = l[i]? := by
  induction l generalizing i with
  | nil => rfl
  | cons x l ih => cases i <;> simp [nthN, ih]
theorem run_fieldAt {t f fo b off : Nat} {ti : TI} {os : List Nat} (h : ti.ok P t) (hk : ti.kind = .st os) (hf : nthN os f = some fo) (w : World) :
    (Instr.fieldAt t (.pointer (some ⟨b, off, none⟩)) f).run P w = .ok (.pointer (some ⟨b, off + fo, none⟩)) w := by
  obtain ⟨h1, h2, _, _, _, _, _, h8, _⟩ := h
  rw [hk] at h2
  cases hd : ti.desc with
  | struct fs =>
    rw [hd] at h1 h2 h8
    simp only [TK.fits] at h2
    rw [nthN_eq, ← h2, List.getElem?_map] at hf
    cases hff : fs.toList[f]? with
    | none => simp [hff] at hf
    | some fld =>
      simp [hff] at hf
      have hpos : 0 < P.cellsOf fld.type := by
        have := List.all_eq_true.1 (show fs.toList.all (fun f => decide (0 < P.cellsOf f.type)) = true from h8) fld (List.mem_of_getElem? hff)
        simpa using this
      have hff' : fs[f]? = some fld := by simpa using hff
      have hsz : ∀ w, (sizeOf fld.type).run P w = .ok (P.cellsOf fld.type) w := by
        intro w
        unfold Program.cellsOf at hpos ⊢
        cases hi : P.info? fld.type with
        | none => simp [hi] at hpos
        | some i => simp [sizeOf, typeInfo, hi]
      simp [Instr.fieldAt, run_underlying h1, hff', Instr.sureAddr, fieldPlace, hsz, Nat.pos_iff_ne_zero.1 hpos, add_lit, hf]
  | _ => rw [hd] at h2; simp [TK.fits] at h2
theorem QE_fa {t f fo b off : Nat} {x : Operand} {ti : TI} {os : List Nat} (hx : lk fr x = some (.pointer (some ⟨b, off, none⟩))) (ht : tlook TT t = some ti) (hk : ti.kind = .st os) (hf : nthN os f = some fo) : QE P TT D fr (.fieldAddr t x f) ty K s0 (.pointer (some ⟨b, off + fo, none⟩)) :=
  QE.pure fun hT dst pos af g ρ hρ w => by simp [execOp, hρ x _ hx, run_fieldAt (hT.at_ ht) hk hf]
theorem QE_fa0 {t f b off : Nat} {x : Operand} {ti : TI} {os : List Nat} (hx : lk fr x = some (.pointer (some ⟨b, off, none⟩))) (ht : tlook TT t = some ti) (hk : ti.kind = .st os) (hf : nthN os f = some 0) : QE P TT D fr (.fieldAddr t x f) ty K s0 (.pointer (some ⟨b, off, none⟩)) := QE_fa hx ht hk hf
theorem QE_faB {t f fo b : Nat} {x : Operand} {ti : TI} {os : List Nat} (hx : lk fr x = some (.pointer (some ⟨b, 0, none⟩))) (ht : tlook TT t = some ti) (hk : ti.kind = .st os) (hf : nthN os f = some fo) : QE P TT D fr (.fieldAddr t x f) ty K s0 (.pointer (some ⟨b, fo, none⟩)) := by
  have := QE_fa (P := P) (D := D) (ty := ty) (K := K) (s0 := s0) hx ht hk hf
  simpa using this
theorem We {t f fo b : Nat} {x : Operand} {ti : TI} {os : List Nat} (hY : (lk fr x = some (.pointer (some ⟨b, 0, none⟩))) ∧ (tlook TT t = some ti) ∧ (ti.kind = .st os) ∧ (nthN os f = some fo)) : QE P TT D fr (.fieldAddr t x f) ty K s0 (.pointer (some ⟨b, fo, none⟩)) := QE_faB hY.1 hY.2.1 hY.2.2.1 hY.2.2.2
theorem QE_field {t f fo : Nat} {x : Operand} {ti : TI} {os : List Nat} {vs : List Value} (hx : lk fr x = some (.agg vs.toArray)) (ht : tlook TT t = some ti) (hk : ti.kind = .st os) (hf : nthN os f = some fo)
    {fs : Array Field} {fld : Field} (hdesc : ti.desc = .struct fs) (hfld : fs[f]? = some fld) {ti' : TI} (ht' : tlook TT fld.type = some ti') (hk' : isOne ti'.kind = true) (hv : nth vs fo = some v) : QE P TT D fr (.field t x f) ty K s0 v :=
  QE.pure fun hT dst pos af g ρ hρ w => by
    obtain ⟨h1, h2, _⟩ := hT.at_ ht
    rw [hk, hdesc] at h2
    rw [hdesc] at h1
    simp only [TK.fits] at h2
    rw [nthN_eq, ← h2] at hf
    simp [hfld] at hf
    rw [nth_eq] at hv
    simp [execOp, hρ x _ hx, Instr.field, run_underlying h1, hfld, asAgg, part, run_isAgg' (hT.at_ ht'), hk', hf, hv]
theorem run_indexAt_slice {t e b off len cap : Nat} {ti te : TI} {ik : IntKind} {i : Int} (h : ti.ok P t) (hk : ti.kind = .sl e) (he : te.ok P e) (h0 : 0 ≤ i) (h1 : i < len) (w : World) :
    (Instr.indexAt t (.slice (some ⟨b, off, none⟩) len cap) (.int ik i)).run P w = .ok (.pointer (some ⟨b, off + i.toNat * te.size, none⟩)) w := by
  obtain ⟨k1, k2, _⟩ := h
  rw [hk] at k2
  simp only [TK.fits] at k2
  rw [k2] at k1
  simp [Instr.indexAt, asIntOf, run_underlying k1, h0, h1, run_sizeOf' he, add_lit]
theorem QE_ia {t e b off len cap : Nat} {x y : Operand} {ti te : TI} {ik : IntKind} {i : Int} (hx : lk fr x = some (.slice (some ⟨b, off, none⟩) len cap)) (hy : lk fr y = some (.int ik i)) (ht : tlook TT t = some ti) (hk : ti.kind = .sl e) (he : tlook TT e = some te)
    (h0 : 0 ≤ i) (h1 : i < len) : QE P TT D fr (.indexAddr t x y) ty K s0 (.pointer (some ⟨b, off + i.toNat * te.size, none⟩)) :=
  QE.pure fun hT dst pos af g ρ hρ w => by simp [execOp, hρ x _ hx, hρ y _ hy, run_indexAt_slice (hT.at_ ht) hk (hT.at_ he) h0 h1]
theorem QE_iaN {t e b off len cap : Nat} {x y : Operand} {ti te : TI} {ik : IntKind} {j sz : Nat} (hx : lk fr x = some (.slice (some ⟨b, off, none⟩) len cap)) (hy : lk fr y = some (.int ik (j : Int))) (ht : tlook TT t = some ti) (hk : ti.kind = .sl e) (he : tlook TT e = some te)
    (hs : te.size = sz) (h1 : j < len) : QE P TT D fr (.indexAddr t x y) ty K s0 (.pointer (some ⟨b, off + j * sz, none⟩)) := by
  have := QE_ia (P := P) (D := D) (ty := ty) (K := K) (s0 := s0) hx hy ht hk he (Int.natCast_nonneg _) O
  rwa [Int.toNat_natCast, hs] at this
theorem QE_ia1 {t e b off len cap : Nat} {x y : Operand} {ti te : TI} {ik : IntKind} {j : Nat} (hx : lk fr x = some (.slice (some ⟨b, off, none⟩) len cap)) (hy : lk fr y = some (.int ik (j : Int))) (ht : tlook TT t = some ti) (hk : ti.kind = .sl e) (he : tlook TT e = some te)
    (hs : te.size = 1) (h1 : j < len) : QE P TT D fr (.indexAddr t x y) ty K s0 (.pointer (some ⟨b, off + j, none⟩)) := by
  have := QE_iaN (P := P) (D := D) (ty := ty) (K := K) (s0 := s0) hx hy ht hk he hs h1
  rwa [Nat.mul_one] at this
theorem QE_ix {t : Nat} {x y : Operand} {ti : TI} {ik : IntKind} {j : Nat} {l : List UInt8} {c : UInt8} (hx : lk fr x = some (St l)) (hy : lk fr y = some (.int ik (j : Int))) (ht : tlook TT t = some ti) (hk : ti.desc = .string) (hc : l[j]? = some c) : QE P TT D fr (.index t x y) ty K s0 (.int .u8 (c.toNat : Int)) :=
  QE.pure fun hT dst pos af g ρ hρ w => by
    have k1 := (hT.at_ ht).1
    rw [hk] at k1
    have hb : (⟨l.toArray⟩ : ByteArray)[j]? = some c := by
      obtain ⟨hlt, hv⟩ := List.getElem?_eq_some_iff.1 hc
      have hlt' : j < (⟨l.toArray⟩ : ByteArray).size := by simpa [ByteArray.size] using hlt
      rw [getElem?_pos (⟨l.toArray⟩ : ByteArray) j hlt']
      simp only [ByteArray.getElem_eq_getElem_data, List.getElem_toArray, hv]
    simp [execOp, hρ x _ hx, hρ y _ hy, Instr.index, asIntOf, run_underlying k1, hb]
theorem QE_lenS {x : Operand} {t : Nat} {A : Option Addr} {m c : Nat} {ti : TI} {e : Nat} (hx : lk fr x = some (.slice A m c)) (ht : tlook TT t = some ti) (hk : ti.kind = .sl e) : QE P TT D fr (.call { callee := .builtin .len, args := #[x], argTypes := #[t] }) ty K s0 (.int .i64 (m : Int)) :=
  QE.pure fun hT dst pos af g ρ hρ w => by
    obtain ⟨k1, k2, _⟩ := hT.at_ ht
    rw [hk] at k2
    simp only [TK.fits] at k2
    rw [k2] at k1
    simp [execOp, resolve, invoke, builtin, hρ x _ hx, Builtin.len_, run_underlying k1, goInt]
theorem QE_lenT {x : Operand} {t : Nat} {l : List UInt8} {ti : TI} (hx : lk fr x = some (St l)) (ht : tlook TT t = some ti) (hk : ti.desc = .string) : QE P TT D fr (.call { callee := .builtin .len, args := #[x], argTypes := #[t] }) ty K s0 (.int .i64 (l.length : Int)) :=
  QE.pure fun hT dst pos af g ρ hρ w => by
    have k1 := (hT.at_ ht).1
    rw [hk] at k1
    have hsz : (⟨l.toArray⟩ : ByteArray).size = l.length := by simp [ByteArray.size]
    simp [execOp, resolve, invoke, builtin, hρ x _ hx, Builtin.len_, run_underlying k1, goInt, hsz]
theorem QE_conv {x : Operand} {t t' : Nat} {ik ik' : IntKind} {a : Int} {ti ti' : TI} (hx : lk fr x = some (.int ik a)) (ht : tlook TT t = some ti) (ht' : tlook TT t' = some ti') (hk : ti.desc = .int ik) (hk' : ti'.desc = .int ik') : QE P TT D fr (.convert t t' x) ty K s0 (.int ik' (ik'.wrap a)) :=
  QE.pure fun hT dst pos af g ρ hρ w => by
    have k1 := (hT.at_ ht).1
    have k2 := (hT.at_ ht').1
    rw [hk] at k1; rw [hk'] at k2
    simp [execOp, hρ x _ hx, convert, run_underlying k1, run_underlying k2, Conv.intToInt]
theorem QE_conv' {x : Operand} {t t' : Nat} {ik ik' : IntKind} {a c : Int} {ti ti' : TI} (hx : lk fr x = some (.int ik a)) (ht : tlook TT t = some ti) (ht' : tlook TT t' = some ti') (hk : ti.desc = .int ik) (hk' : ti'.desc = .int ik') (hc : ik'.wrap a = c) : QE P TT D fr (.convert t t' x) ty K s0 (.int ik' c) := hc ▸ QE_conv hx ht ht' hk hk'
def lks (fr : Fr) : List Operand → Option (List Value)
  | [] => some []
  | x :: r => match lk fr x with
    | some v => match lks fr r with
      | some vs => some (v :: vs)
      | none => none
    | none => none
theorem lks_map {fr : Fr} {ρ : Operand → Value} (hρ : ∀ x v, lk fr x = some v → ρ x = v) {xs : List Operand} {vs : List Value} (h : lks fr xs = some vs) : xs.map ρ = vs := by
  induction xs generalizing vs with
  | nil => simp [lks] at h; subst h; rfl
  | cons x xs ih =>
    simp only [lks] at h
    cases h1 : lk fr x with
    | none => simp [h1] at h
    | some v =>
      cases h2 : lks fr xs with
      | none => simp [h1, h2] at h
      | some r => simp [h1, h2] at h; subst h; simp [hρ x v h1, ih h2]
theorem QE_func {f : FuncId} {xs : List Operand} {vs : List Value} (hv : lks fr xs = some vs) : QE P TT D fr (.makeFunc (.func f) #[] xs.toArray) ty K s0 (.func (.func f) #[] vs.toArray) :=
  QE.pure fun hT dst pos af g ρ hρ w => by simp [execOp, Instr.makeFunc, lks_map hρ hv]
def FnOK (P : Program) (f : FuncId) : Prop := ∃ fn, P.funcs[f]? = some fn ∧ (fn.name == "runtime.NumGoroutine") = false ∧ fn.body.isNone = false
def AC (P : Program) (D : Nat) (f : FuncId) (args : List Value) (L : Hl) (s : World) (R : Value → Hl → World → Prop) : Prop :=
  FnOK P f ∧ (OKL D L s → Calls P f args.toArray (fill L s) fun e w' => ∃ v L' s', e = .returned v ∧ w' = fill L' s' ∧ OKL D L' s' ∧ Le D s s' ∧ R v L' s')
theorem AC.mono {f : FuncId} {args : List Value} {R R' : Value → Hl → World → Prop} (h : AC P D f args L s R) (hr : ∀ v L' s', Le D s s' → R v L' s' → R' v L' s') : AC P D f args L s R' :=
  ⟨h.1, fun ho => (h.2 ho).mono fun _ _ ⟨v, L', s', h1, h2, h3, h4, h5⟩ => ⟨v, L', s', h1, h2, h3, h4, hr _ _ _ h4 h5⟩⟩
theorem JO_call {f : FuncId} {x : Operand} {xs : List Operand} {first captured vs : List Value} {ts : Array TypeId} {R : Value → Hl → World → Prop} (hx : lk fr x = some (.func (.func f) first.toArray captured.toArray)) (hv : lks fr xs = some vs)
    (hd : Nat.blt d n = true) (h : AC P D f (first ++ vs ++ captured) L s R) (k : ∀ v L' s', Le D s s' → R v L' s' → JO P TT D n ops Q rest ((d, v) :: fr) L' s') :
    JO P TT D n ops Q (⟨some d, .call { callee := .value x, args := xs.toArray, argTypes := ts }, ty, pos, af, none⟩ :: rest) fr L s := fun hT a hr ho => by
  obtain ⟨⟨fn, h1, h2, h3⟩, hc⟩ := h
  have hρ : ∀ x v, lk fr x = some v → a.eval x = v := fun x v hx => hr.ev hx
  simp only [wpList, Region.wanted, if_true]
  refine .inl ?_
  have hrun : (execOp a.eval ⟨some d, .call { callee := .value x, args := xs.toArray, argTypes := ts }, ty, pos, af, none⟩).run P (fill L s) = .ok (.enter f (first ++ vs ++ captured).toArray) (fill L s) := by
    have h2' : ¬ fn.name = "runtime.NumGoroutine" := by simpa using h2
    have h3' : ¬ fn.body = none := by intro e; simp [e] at h3
    simp [execOp, resolve, Deferred.ofValue, invoke, callFunc, hρ x _ hx, lks_map hρ hv, h1, h2', h3']
  simp only [Oper.wp, hrun, Oper.upon]
  refine (hc ho).mono ?_
  rintro e w' ⟨v, L', s', rfl, rfl, h4, h5, h6⟩
  exact k v L' s' h5 h6 hT _ (hr.put hd v) h4
theorem Jc {f : FuncId} {x : Operand} {xs : List Operand} {vs : List Value} {ts : Array TypeId} {R : Value → Hl → World → Prop} (hx : lk fr x = some (.func (.func f) ([] : List Value).toArray ([] : List Value).toArray)) (hv : lks fr xs = some vs)
    (hd : Nat.blt d n = true) (h : AC P D f (([] : List Value) ++ vs ++ []) L s R) (k : ∀ v L' s', Le D s s' → R v L' s' → JO P TT D n ops Q rest ((d, v) :: fr) L' s') :
    JO P TT D n ops Q (⟨some d, .call { callee := .value x, args := xs.toArray, argTypes := ts }, ty, pos, af, none⟩ :: rest) fr L s := JO_call (first := []) (captured := []) hx hv hd h k
inductive Res (TT : TyTab) (fr : Fr) (L : Hl) : List ResultVar → List Value → Prop
  | nil : Res TT fr L [] []
  | tmp {t : Nat} {v : Value} {rs vs} (h : flook fr t = some v) (k : Res TT fr L rs vs) : Res TT fr L (.tmp t :: rs) (v :: vs)
  | one {a t t' b : Nat} {ti : TI} {zs : List Value} {v : Value} {rs vs} (i : Nat) (h : flook fr a = some (.pointer (some ⟨b, 0, none⟩))) (hi : L[i]? = some (b, cb zs t')) (ht : tlook TT t = some ti) (hk : isOne ti.kind = true) (hv : nth zs 0 = some v) (k : Res TT fr L rs vs) : Res TT fr L (.cell a t :: rs) (v :: vs)
  | agg {a t t' b : Nat} {ti : TI} {zs us : List Value} {rs vs} (i : Nat) (h : flook fr a = some (.pointer (some ⟨b, 0, none⟩))) (hi : L[i]? = some (b, cb zs t')) (ht : tlook TT t = some ti) (hk : isOne ti.kind = false) (hv : cut zs 0 ti.size = some us) (k : Res TT fr L rs vs) : Res TT fr L (.cell a t :: rs) (.agg us.toArray :: vs)
def resV : List Value → Value
  | [v] => v
  | vs => .tuple vs.toArray
def resF (tmps : Array Value) : ResultVar → Sem Value
  | .tmp t => pure (tmps.getD t undef)
  | .cell a t => do loadVar t (← asAddr (tmps.getD a undef))
theorem results_eq (fn : Func) (tmps : Array Value) : results fn tmps = (do let vs ← fn.results.mapM (resF tmps); pure (if h : vs.size = 1 then vs[0] else .tuple vs)) := by
  unfold results
  congr 1
theorem Res.run (hT : TabOK P TT) {a : Act} (hr : FrRel n a fr) (ho : OKL D L s) {rs : List ResultVar} {vs : List Value} (h : Res TT fr L rs vs) :
    (rs.mapM (resF a.tmps)).run P (fill L s) = .ok vs (fill L s) := by
  have hs : ∀ t v, flook fr t = some v → a.tmps.getD t undef = v := fun t v hv => by
    have := hr.slot t (hr.top t v hv) v hv
    simp [this]
  induction h with
  | nil => simp
  | tmp h k ih => simp only [List.mapM_cons, resF, hs _ _ h, Sem.run_bind, Sem.run_pure, Result.andThen_ok, ih]
  | one i h hi ht hk hv k ih =>
    rename_i b _ zs v _ _
    have hc : (fill L s).cell? ⟨b, 0, none⟩ = some v := by rw [cb_cell ho hi, ← nth_eq]; exact hv
    simp only [List.mapM_cons, resF, hs _ _ h, asAddr, Sem.run_bind, Sem.run_pure, Result.andThen_ok, run_loadVar_one (hT.at_ ht) hk hc, ih]
  | agg i h hi ht hk hv k ih =>
    rename_i b _ zs us _ _
    obtain ⟨h1, h2⟩ := cut_spec hv
    have hc : ∀ j v, us[j]? = some v → (fill L s).cell? ⟨b, 0 + j, none⟩ = some v := fun j v hj => by rw [cb_cell ho hi]; exact h2 j v hj
    simp only [List.mapM_cons, resF, hs _ _ h, asAddr, Sem.run_bind, Sem.run_pure, Result.andThen_ok, run_loadVar_agg (hT.at_ ht) hk h1 hc, ih]
def retQ (TT : TyTab) (D : Nat) (rs : List ResultVar) (s0 : World) (R : Value → Hl → World → Prop) : APost := fun e fr L s =>
  (e = .normal ∨ e = .ret) ∧ ∃ vs A L', Res TT fr L rs vs ∧ L = A ++ L' ∧ Le D s0 s ∧ ∀ s', Le D s s' → R (resV vs) L' s'
def slots (k : Nat) : List Value → Fr
  | [] => []
  | v :: vs => (k, v) :: slots (k + 1) vs
theorem flook_slots (vs : List Value) (k t : Nat) : flook (slots k vs) t = if k ≤ t then vs[t - k]? else none := by
  induction vs generalizing k with
  | nil => simp [slots, flook]
  | cons v vs ih =>
    rw [slots, flook_cons, ih]
    by_cases h : k = t
    · subst h; simp
    · by_cases h2 : k + 1 ≤ t
      · have : t - k = (t - (k + 1)) + 1 := by omega
        simp [h, h2, show k ≤ t by omega, this]
      · simp [h, h2, show ¬ k ≤ t by omega]
theorem AC_enter {f : FuncId} {fn : Func} {c : Code} {args : List Value} {R : Value → Hl → World → Prop} (hT : TabOK P TT) (hf : P.funcs[f]? = some fn) (hn : (fn.name == "runtime.NumGoroutine") = false) (hb : fn.body = some c) (hnt : fn.ntmps = n) (hle : Nat.ble args.length n = true) {rs : List ResultVar} (hrs : fn.results.toList = rs) (fr0 : Fr) (hfr : slots 0 args = fr0)
    (h : JC P TT D n (retQ TT D rs s R) c fr0 L s) : AC P D f args L s R := by
  subst hfr; subst hrs
  refine ⟨⟨fn, hf, hn, by simp [hb]⟩, fun ho => calls_of_wp hf hb ?_⟩
  have hle' : args.length ≤ n := Nat.le_of_ble_eq_true hle
  have hr : FrRel n { tmps := args.toArray ++ Array.replicate (fn.ntmps - args.toArray.size) undef, defers := [] } (slots 0 args) := by
    refine ⟨by simp [hnt]; omega, Z, fun t ht v hv => ?_, fun t v hv => ?_⟩
    · rw [flook_slots] at hv
      simp at hv
      obtain ⟨hlt, _⟩ := List.getElem?_eq_some_iff.1 hv
      simp [Array.getElem?_append, hlt]
      exact (List.getElem?_eq_some_iff.1 hv).2
    · rw [flook_slots] at hv
      simp at hv
      obtain ⟨hlt, _⟩ := List.getElem?_eq_some_iff.1 hv
      omega
  refine wp_mono (h hT _ hr ho) ?_
  rintro e a w ⟨fr', L1, s1, k1, k2, rfl, he, vs, A, L', hres, rfl, hle1, hR⟩
  obtain ⟨d1, d2, d3⟩ := drop_own k2
  have hrun : (results fn a.tmps).run P (fill (A ++ L') s1) = .ok (resV vs) (fill (A ++ L') s1) := by
    have h1 := Res.run hT k1 k2 hres
    have h2 : (fn.results.mapM (resF a.tmps)).run P (fill (A ++ L') s1) = .ok vs.toArray (fill (A ++ L') s1) := by
      rw [Array.mapM_eq_mapM_toList]
      simp only [map_eq_pure_bind, Sem.run_bind, h1, Result.andThen_ok, Sem.run_pure]
    rw [results_eq]
    simp only [Sem.run_bind, h2, Result.andThen_ok, Sem.run_pure]
    congr 1
    match vs with
    | [] => rfl
    | [v] => rfl
    | v :: u :: r => simp [resV]
  have hpost : ∃ v, (results fn a.tmps).run P (fill (A ++ L') s1) = .ok v (fill (A ++ L') s1) ∧ ∃ v_1 L'_1 s', Ending.returned v = .returned v_1 ∧ fill (A ++ L') s1 = fill L'_1 s' ∧ OKL D L'_1 s' ∧ Le D s s' ∧ R v_1 L'_1 s' :=
    ⟨_, hrun, _, L', fill A s1, rfl, d1, d2, hle1.trans d3, hR _ d3⟩
  rcases he with rfl | rfl
  · exact ⟨k1.defers, hpost⟩
  · exact ⟨k1.defers, hpost⟩
theorem thenQ_n {J : Fr → Hl → World → Prop} (h : J fr L s) : thenQ J Q .normal fr L s := h
theorem thenQ_r {J : Fr → Hl → World → Prop} (h : Q .ret fr L s) : thenQ J Q .ret fr L s := h
theorem thenQ_x {J : Fr → Hl → World → Prop} {i : Nat} (h : Q (.exit i) fr L s) : thenQ J Q (.exit i) fr L s := h
theorem blockQ_n {id : Nat} (h : Q .normal fr L s) : blockQ id Q .normal fr L s := h
theorem blockQ_r {id : Nat} (h : Q .ret fr L s) : blockQ id Q .ret fr L s := h
theorem blockQ_x {id : Nat} (h : Q .normal fr L s) : blockQ id Q (.exit id) fr L s := by simpa [blockQ] using h
theorem retQ_mk {rs : List ResultVar} {s0 : World} {R : Value → Hl → World → Prop} {e : Exit} {vs : List Value} (A L' : Hl) (he : e = .normal ∨ e = .ret) (h : Res TT fr L rs vs) (hL : L = A ++ L') (hl : Le D s0 s) (hR : ∀ s', Le D s s' → R (resV vs) L' s') : retQ TT D rs s0 R e fr L s :=
  ⟨he, vs, A, L', h, hL, hl, hR⟩
end
def SH (D : Nat) (K : Hl) (s0 : World) : World → Prop := fun w => ∃ L s, w = fill L s ∧ OKL D L s ∧ Le D s0 s ∧ ∀ x ∈ K, x ∈ L
def noPan (Q : Exit → Act → World → Prop) : Exit → Act → World → Prop
  | .panic _, _, _ => False
  | e, a, w => Q e a w
def panK (D n : Nat) (Q : APost) : Exit → Act → World → Prop
  | .panic ch, a, w => FrRel n a [] ∧ ∃ L s, OKL D L s ∧ w = fill L s ∧ ∀ fr, Q (.panic ch) fr L s
  | e, a, w => conc D n Q e a w
theorem FrRel.bare {n : Nat} {a : Act} {fr : Fr} (h : FrRel n a fr) : FrRel n a [] := ⟨h.size, h.defers, fun t ht v hv => by simp [flook] at hv, fun t v hv => by simp [flook] at hv⟩
theorem FrRel.unput {n : Nat} {a : Act} {d : Option Nat} {v : Value} (h : FrRel n (a.put d v) []) : FrRel n a [] := by
  refine ⟨?_, ?_, fun t ht v hv => by simp [flook] at hv, fun t v hv => by simp [flook] at hv⟩
  · have := h.size
    cases d <;> simpa [Act.put] using this
  · have := h.defers
    cases d <;> simpa [Act.put] using this
def JA (P : Program) (TT : TyTab) (D n : Nat) (ops : Array Oper) (Q : APost) (K : Hl) (s0 : World) (fuel : Nat) (listed : Array Bool) (fr : Fr) (L : Hl) (s : World) : Prop :=
  TabOK P TT → ∀ a, FrRel n a fr → OKL D L s → Le D s0 s → (∀ x ∈ K, x ∈ L) → wpAnyH P .any ops (panK D n Q) (SH D K s0) fuel listed a (fill L s)
def JB (P : Program) (TT : TyTab) (D n : Nat) (ops : Array Oper) (Q : APost) (K : Hl) (s0 : World) (fuel : Nat) (listed : Array Bool) (i : Nat) (fr : Fr) (L : Hl) (s : World) : Prop :=
  TabOK P TT → ∀ a, FrRel n a fr → OKL D L s → Le D s0 s → (∀ x ∈ K, x ∈ L) →
    wpOp P ops (panK D n Q) i (fun a' w' => SH D K s0 w' ∧ wpAnyH P .any ops (panK D n Q) (SH D K s0) fuel (listed.setIfInBounds i true) a' w') a (fill L s)
def GOK (ops : Array Oper) (fr : Fr) : Option (Nat × Bool) → Prop
  | none => True
  | some (j, w) => ∃ t, gslot ops j = some t ∧ flook fr t = some (.bool w)
section
variable {P : Program} {TT : TyTab} {D n : Nat} {Q : APost} {fr : Fr} {L L' K : Hl} {s s' s0 : World} {ops : Array Oper} {d ty : Nat} {op : Op} {pos : String} {af : Array Edge} {g : Option (Nat × Bool)} {v : Value} {fuel : Nat} {listed : Array Bool}
theorem GOK.wanted {dst : Option Nat} {a : Act} (hr : FrRel n a fr) (h : GOK ops fr g) : Region.wanted ⟨dst, op, ty, pos, af, g⟩ (yielded ops a.tmps) = true := by
  cases g with
  | none => rfl
  | some jw =>
    obtain ⟨j, w⟩ := jw
    obtain ⟨t, h1, h2⟩ := h
    have h3 := hr.slot t (hr.top _ _ h2) _ h2
    unfold gslot at h1
    simp [Region.wanted, yielded, h1, h3]
theorem erase_setL {L : Hl} {i : Nat} {x : Nat × Obj} (h : x ∈ L.eraseIdx i) (o : Obj) : x ∈ setL L i o := by
  induction L generalizing i with
  | nil => simp at h
  | cons y L ih =>
    cases i with
    | zero => exact List.mem_cons_of_mem _ (by simpa using h)
    | succ i =>
      simp only [List.eraseIdx_cons_succ, List.mem_cons] at h
      rcases h with rfl | h
      · exact List.mem_cons_self ..
      · exact List.mem_cons_of_mem _ (ih h)
theorem sbY {α : Type} {a b : List α} {x : α} (h : a.Sublist b) : (x :: a).Sublist (x :: b) := List.cons_sublist_cons.2 h
theorem sbN {α : Type} {a b : List α} {x : α} (h : a.Sublist b) : a.Sublist (x :: b) := List.Sublist.cons _ h
theorem sbE {α : Type} (a : List α) : a.Sublist a := List.Sublist.refl a
theorem sub_mem {α : Type} {a b : List α} {x : α} (h : a.Sublist b) (hx : x ∈ a) : x ∈ b := h.subset hx
theorem JC_draw {id : Nat} {l : List Oper} (hm : P.follows .mixedOrders = true) (N : Nat) (hN : l.length = N) (K : Hl) (hK : ∀ x ∈ K, x ∈ L)
    (h : ∀ s', Le D s s' → JA P TT D n l.toArray Q K s' N (Array.replicate N false) fr L s') : JC P TT D n Q (.region id l.toArray true) fr L s := fun ht a hr ho => by
  subst hN
  have h1 := h s.drew (Le.drew s) ht a hr ho.drew (Le.refl _) hK
  refine wp_mono (wp_region_held (Q := panK D n Q) (S := SH D K s.drew) hm ?_) (fun e a w hq => by
    cases e with
    | panic ch => obtain ⟨h1, L1, s1, h2, h3, h4⟩ := hq; exact ⟨[], L1, s1, h1, h2, h3, h4 []⟩
    | _ => exact hq)
  rw [← drew_fill] at h1
  simpa using h1
theorem JA_done (hr : Region.ready .any ops listed = []) (h : Q .normal fr L s) : JA P TT D n ops Q K s0 fuel listed fr L s := fun _ a hf ho _ _ =>
  wpAnyH_done hr ⟨fr, L, s, hf, ho, rfl, h⟩ fuel
theorem JA_q (i : Nat) (hi : ops[i]? = some ⟨some d, op, ty, pos, af, g⟩) (hs : Region.noSelect ops = true) (hf : Region.free .any ops listed i = true) (hr : (Region.ready .any ops listed).contains i = true) (hg : GOK ops fr g)
    (hq : QE P TT D fr op ty K s0 v) (hd : Nat.blt d n = true) (k : JA P TT D n ops Q K s0 fuel (listed.setIfInBounds i true) ((d, v) :: fr) L s) : JA P TT D n ops Q K s0 (fuel + 1) listed fr L s := fun ht a hfr ho hl hK => by
  refine wpAnyH_take hi hs hf hr (fun _ _ _ h => ⟨h.1.unput, h.2⟩) (v := v) (.inl ⟨hg.wanted hfr, ?_⟩) ⟨L, s, Z, ho, hl, hK⟩ (k ht _ (hfr.put hd v) ho hl hK)
  rintro w ⟨L2, s2, rfl, h1, h2, h3⟩
  exact hq ht _ _ _ _ _ (fun x v hx => hfr.ev hx) L2 s2 h1 h2 h3
theorem JA_no (i : Nat) {j t : Nat} {w b : Bool} (hi : ops[i]? = some ⟨some d, op, ty, pos, af, some (j, w)⟩) (hs : Region.noSelect ops = true) (hf : Region.free .any ops listed i = true) (hr : (Region.ready .any ops listed).contains i = true)
    (hj : gslot ops j = some t) (hv : flook fr t = some (.bool b)) (hb : (b != w) = true) (hd : Nat.blt d n = true) (k : JA P TT D n ops Q K s0 fuel (listed.setIfInBounds i true) ((d, undef) :: fr) L s) : JA P TT D n ops Q K s0 (fuel + 1) listed fr L s := fun ht a hfr ho hl hK => by
  refine wpAnyH_take hi hs hf hr (fun _ _ _ h => ⟨h.1.unput, h.2⟩) (v := undef) (.inr ⟨?_, Z⟩) ⟨L, s, Z, ho, hl, hK⟩ (k ht _ (hfr.put hd undef) ho hl hK)
  have h3 := hfr.slot t (hfr.top _ _ hv) _ hv
  unfold gslot at hj
  have hne : (some b == some w) = false := by cases b <;> cases w <;> simp_all
  simp [Region.wanted, yielded, hj, h3, hne]
theorem JA_case {t : Nat} {b : Bool} (hv : flook fr t = some (.bool b)) (h1 : b = true → JA P TT D n ops Q K s0 fuel listed ((t, .bool true) :: fr) L s) (h2 : b = false → JA P TT D n ops Q K s0 fuel listed ((t, .bool false) :: fr) L s) :
    JA P TT D n ops Q K s0 fuel listed fr L s := fun ht a hr ho hl hK => by
  cases b with
  | true => exact h1 rfl ht a (hr.sub fun t' v' h => by rw [flook_cons] at h; split at h <;> simp_all) ho hl hK
  | false => exact h2 rfl ht a (hr.sub fun t' v' h => by rw [flook_cons] at h; split at h <;> simp_all) ho hl hK
theorem JA_caseD {t : Nat} {p : Prop} [Decidable p] (hv : flook fr t = some (.bool (decide p))) (h1 : p → JA P TT D n ops Q K s0 fuel listed ((t, .bool true) :: fr) L s) (h2 : ¬ p → JA P TT D n ops Q K s0 fuel listed ((t, .bool false) :: fr) L s) :
    JA P TT D n ops Q K s0 fuel listed fr L s := JA_case hv (fun h => h1 (of_decide_eq_true h)) (fun h => h2 (of_decide_eq_false h))
theorem JA_all {rs : List Nat} (hr : Region.ready .any ops listed = rs) (hne : rs ≠ []) (h : ∀ i ∈ rs, JB P TT D n ops Q K s0 fuel listed i fr L s) : JA P TT D n ops Q K s0 (fuel + 1) listed fr L s := fun ht a hf ho hl hK =>
  wpAnyH_all hr hne fun i hi => h i hi ht a hf ho hl hK
theorem JA_1 (i : Nat) (hr : Region.ready .any ops listed = [i]) (h : JB P TT D n ops Q K s0 fuel listed i fr L s) : JA P TT D n ops Q K s0 (fuel + 1) listed fr L s :=
  JA_all hr (by simp) (by simpa using h)
theorem JA_2 (i j : Nat) (hr : Region.ready .any ops listed = [i, j]) (h : JB P TT D n ops Q K s0 fuel listed i fr L s) (h' : JB P TT D n ops Q K s0 fuel listed j fr L s) : JA P TT D n ops Q K s0 (fuel + 1) listed fr L s :=
  JA_all hr (by simp) (by simpa using ⟨h, h'⟩)
theorem JA_3 (i j m : Nat) (hr : Region.ready .any ops listed = [i, j, m]) (h : JB P TT D n ops Q K s0 fuel listed i fr L s) (h' : JB P TT D n ops Q K s0 fuel listed j fr L s) (h'' : JB P TT D n ops Q K s0 fuel listed m fr L s) : JA P TT D n ops Q K s0 (fuel + 1) listed fr L s :=
  JA_all hr (by simp) (by simpa using ⟨h, h', h''⟩)
theorem JB_ev {i : Nat} (hi : ops[i]? = some ⟨some d, op, ty, pos, af, g⟩) (hg : GOK ops fr g) (h : Ev P TT D fr op ty L s (.value v) L' s') (hle : Le D s s') (hK' : ∀ x ∈ K, x ∈ L → x ∈ L') (hd : Nat.blt d n = true) (k : JA P TT D n ops Q K s0 fuel (listed.setIfInBounds i true) ((d, v) :: fr) L' s') :
    JB P TT D n ops Q K s0 fuel listed i fr L s := fun ht a hf ho hl hK => by
  obtain ⟨h1, h2⟩ := h ht ho (some d) pos af g a.eval (fun x v hx => hf.ev hx)
  simp only [wpOp, hi, hg.wanted hf, if_true]
  refine .inl ?_
  simp only [Oper.wp, h1, Oper.upon]
  have hK2 : ∀ x ∈ K, x ∈ L' := fun x hx => hK' x hx (hK x hx)
  exact ⟨⟨L', s', rfl, h2, hl.trans hle, hK2⟩, k ht _ (hf.put hd v) h2 (hl.trans hle) hK2⟩
theorem JB_sk {i : Nat} (hi : ops[i]? = some ⟨none, op, ty, pos, af, g⟩) (hg : GOK ops fr g) (h : Ev P TT D fr op ty L s .skip L' s') (hle : Le D s s') (hK' : ∀ x ∈ K, x ∈ L → x ∈ L') (k : JA P TT D n ops Q K s0 fuel (listed.setIfInBounds i true) fr L' s') :
    JB P TT D n ops Q K s0 fuel listed i fr L s := fun ht a hf ho hl hK => by
  obtain ⟨h1, h2⟩ := h ht ho none pos af g a.eval (fun x v hx => hf.ev hx)
  simp only [wpOp, hi, hg.wanted hf, if_true]
  refine .inl ?_
  simp only [Oper.wp, h1, Oper.upon]
  have hK2 : ∀ x ∈ K, x ∈ L' := fun x hx => hK' x hx (hK x hx)
  exact ⟨⟨L', s', rfl, h2, hl.trans hle, hK2⟩, k ht _ hf h2 (hl.trans hle) hK2⟩
theorem JB_q {i : Nat} (hi : ops[i]? = some ⟨some d, op, ty, pos, af, g⟩) (hg : GOK ops fr g) (h : QE P TT D fr op ty L s v) (hd : Nat.blt d n = true) (k : JA P TT D n ops Q K s0 fuel (listed.setIfInBounds i true) ((d, v) :: fr) L s) :
    JB P TT D n ops Q K s0 fuel listed i fr L s :=
  JB_ev hi hg (fun ht ho dst pos af g ρ hρ => ⟨h ht dst pos af g ρ hρ L s ho (Le.refl _) (fun _ hx => hx), ho⟩) (Le.refl _) (fun _ _ h => h) hd k
theorem JB_call {i : Nat} {f : FuncId} {x : Operand} {xs : List Operand} {first captured vs : List Value} {ts : Array TypeId} {R : Value → Hl → World → Prop} (hi : ops[i]? = some ⟨some d, .call { callee := .value x, args := xs.toArray, argTypes := ts }, ty, pos, af, g⟩) (hg : GOK ops fr g)
    (hx : lk fr x = some (.func (.func f) first.toArray captured.toArray)) (hv : lks fr xs = some vs) (hd : Nat.blt d n = true) (h : AC P D f (first ++ vs ++ captured) L s R)
    (k : ∀ v L' s', Le D s s' → R v L' s' → (∀ x ∈ K, x ∈ L → x ∈ L') ∧ JA P TT D n ops Q K s0 fuel (listed.setIfInBounds i true) ((d, v) :: fr) L' s') :
    JB P TT D n ops Q K s0 fuel listed i fr L s := fun hT a hf ho hl hK => by
  obtain ⟨⟨fn, h1, h2, h3⟩, hc⟩ := h
  have hρ : ∀ x v, lk fr x = some v → a.eval x = v := fun x v hx => hf.ev hx
  simp only [wpOp, hi, hg.wanted hf, if_true]
  refine .inl ?_
  have hrun : (execOp a.eval ⟨some d, .call { callee := .value x, args := xs.toArray, argTypes := ts }, ty, pos, af, g⟩).run P (fill L s) = .ok (.enter f (first ++ vs ++ captured).toArray) (fill L s) := by
    have h2' : ¬ fn.name = "runtime.NumGoroutine" := by simpa using h2
    have h3' : ¬ fn.body = none := by intro e; simp [e] at h3
    simp [execOp, resolve, Deferred.ofValue, invoke, callFunc, hρ x _ hx, lks_map hρ hv, h1, h2', h3']
  simp only [Oper.wp, hrun, Oper.upon]
  refine (hc ho).mono ?_
  rintro e w' ⟨v, L', s', rfl, rfl, h4, h5, h6⟩
  obtain ⟨k1, k2⟩ := k v L' s' h5 h6
  have hK2 : ∀ x ∈ K, x ∈ L' := fun x hx => k1 x hx (hK x hx)
  exact ⟨⟨L', s', rfl, h4, hl.trans h5, hK2⟩, k2 hT _ (hf.put hd v) h4 (hl.trans h5) hK2⟩
theorem Jb {i : Nat} {f : FuncId} {x : Operand} {xs : List Operand} {vs : List Value} {ts : Array TypeId} {R : Value → Hl → World → Prop} (hi : ops[i]? = some ⟨some d, .call { callee := .value x, args := xs.toArray, argTypes := ts }, ty, pos, af, g⟩) (hg : GOK ops fr g)
    (hx : lk fr x = some (.func (.func f) ([] : List Value).toArray ([] : List Value).toArray)) (hv : lks fr xs = some vs) (hd : Nat.blt d n = true) (h : AC P D f (([] : List Value) ++ vs ++ []) L s R)
    (k : ∀ v L' s', Le D s s' → R v L' s' → (∀ x ∈ K, x ∈ L → x ∈ L') ∧ JA P TT D n ops Q K s0 fuel (listed.setIfInBounds i true) ((d, v) :: fr) L' s') :
    JB P TT D n ops Q K s0 fuel listed i fr L s := JB_call (first := []) (captured := []) hi hg hx hv hd h k
theorem JB_alloc {i t : Nat} {ti : TI} (hi : ops[i]? = some ⟨some d, .alloc t, ty, pos, af, g⟩) (hg : GOK ops fr g) (ht : tlook TT t = some ti) (zs : List Value) (hz : ti.zeros = zs) (hd : Nat.blt d n = true)
    (k : ∀ β s', Le D s s' → JA P TT D n ops Q K s0 fuel (listed.setIfInBounds i true) ((d, .pointer (some ⟨β, 0, none⟩)) :: fr) ((β, cb zs t) :: L) s') : JB P TT D n ops Q K s0 fuel listed i fr L s := fun hT a hf ho hl hK => by
  subst hz
  exact JB_ev hi hg (Ev_alloc ht ho) (alloc_fill ho (cb ti.zeros t)).2.2 (fun x _ h => List.mem_cons_of_mem _ h) hd (k _ _ (alloc_fill ho (cb ti.zeros t)).2.2) hT a hf ho hl hK
theorem JB_st {i0 t b off : Nat} {x y : Operand} {ti : TI} {t' : Nat} {zs : List Value} (hi0 : ops[i0]? = some ⟨none, .store t x y, ty, pos, af, g⟩) (hg : GOK ops fr g) (i : Nat) (zs' : List Value) {L' : Hl} (hx : lk fr x = some (.pointer (some ⟨b, off, none⟩))) (hy : lk fr y = some v) (hi : L[i]? = some (b, cb zs t')) (ht : tlook TT t = some ti)
    (hl : (cellsL v).length = ti.size) (hle : Nat.ble (off + ti.size) zs.length = true) (h1 : (cellsL v).all (·.oneCell') = true) (hs : splice zs off (cellsL v) = zs') (hL : setL L i (cb zs' t') = L') (hK' : ∀ x ∈ K, x ∈ L.eraseIdx i)
    (k : JA P TT D n ops Q K s0 fuel (listed.setIfInBounds i0 true) fr L' s) : JB P TT D n ops Q K s0 fuel listed i0 fr L s := by
  subst hL; exact JB_sk hi0 hg (Ev_st i zs' hx hy hi ht hl hle h1 hs) (Le.refl _) (fun x hx _ => erase_setL (hK' x hx) _) k
theorem Wu {i0 t b off : Nat} {x y : Operand} {ti : TI} {t' : Nat} {zs : List Value} (hi0 : ops[i0]? = some ⟨none, .store t x y, ty, pos, af, g⟩) (hg : GOK ops fr g) (i : Nat) (zs' : List Value) {L' : Hl} (hY : (lk fr x = some (.pointer (some ⟨b, off, none⟩))) ∧ (lk fr y = some v) ∧ (L[i]? = some (b, cb zs t')) ∧ (tlook TT t = some ti) ∧ ((cellsL v).length = ti.size) ∧ (Nat.ble (off + ti.size) zs.length = true) ∧ ((cellsL v).all (·.oneCell') = true) ∧ (splice zs off (cellsL v) = zs') ∧ (setL L i (cb zs' t') = L')) (hK' : ∀ x ∈ K, x ∈ L.eraseIdx i)
    (k : JA P TT D n ops Q K s0 fuel (listed.setIfInBounds i0 true) fr L' s) : JB P TT D n ops Q K s0 fuel listed i0 fr L s := JB_st hi0 hg i zs' hY.1 hY.2.1 hY.2.2.1 hY.2.2.2.1 hY.2.2.2.2.1 hY.2.2.2.2.2.1 hY.2.2.2.2.2.2.1 hY.2.2.2.2.2.2.2.1 hY.2.2.2.2.2.2.2.2 hK' k
theorem fill_perm {A B : Hl} (h : A.Perm B) : ∀ s, OKL D A s → fill A s = fill B s := by
  induction h with
  | nil => intro s _; rfl
  | cons x _ ih => intro s ho; simp only [fill]; rw [ih s ho.tail]
  | swap x y l =>
    intro s ho
    simp only [fill]
    have := ho.nd
    simp only [List.map_cons, List.nodup_cons, List.mem_cons, not_or] at this
    exact setBlk_comm _ _ (fun e => this.1.1 e.symm)
  | trans h1 h2 ih1 ih2 =>
    intro s ho
    rw [ih1 s ho, ih2 s ⟨(h1.map _).nodup_iff.1 ho.nd, fun x hx => ho.dm x (h1.mem_iff.2 hx)⟩]
theorem OKL.perm {A B : Hl} (h : A.Perm B) (ho : OKL D A s) : OKL D B s := ⟨(h.map _).nodup_iff.1 ho.nd, fun x hx => ho.dm x (h.mem_iff.2 hx)⟩
def Mid {γ : Type} (S : γ → Fr) (H : γ → Hl) (I : γ → World → Prop) : Fr → Hl → World → Prop := fun fr' L' s' => ∃ g A, Keeps fr' (S g) ∧ L'.Perm (A ++ H g) ∧ I g s'
end
theorem w64 {a : Int} (h1 : -9223372036854775808 ≤ a) (h2 : a ≤ 9223372036854775807) : IntKind.i64.wrap a = a := by
  rw [IntKind.wrap_i64]; omega
def bld (places : List (Nat × Nat)) : List Value → List (Nat × Value) → Option (List Value)
  | zs, [] => some zs
  | zs, (i, v) :: rest => match places[i]? with
    | none => none
    | some (off, size) => bif (Nat.beq (cellsL v).length size && Nat.ble (off + size) zs.length) then bld places (splice zs off (cellsL v)) rest else none
theorem foldl_splice (vs : List Value) (off k : Nat) (zs : List Value) (h : off + k + vs.length ≤ zs.length) :
    (vs.zipIdx k).foldl (fun (cs : Array Value) (x : Value × Nat) => cs.setIfInBounds (off + x.2) x.1) zs.toArray = (splice zs (off + k) vs).toArray := by
  induction vs generalizing k zs with
  | nil => cases zs <;> simp [splice]
  | cons v vs ih =>
    simp only [List.zipIdx_cons, List.foldl_cons]
    have h0 : off + k < zs.length := by simp at h; omega
    rw [List.setIfInBounds_toArray, ih (k + 1) _ (by simp at h ⊢; omega)]
    congr 1
    rw [splice_eq _ _ _ (by simp at h ⊢; omega), splice_eq _ _ _ (by simpa using h)]
    simp only [List.length_cons]
    rw [show off + (k + 1) = off + k + 1 by omega]
    rw [List.take_succ_eq_append_getElem (by simpa using h0), List.take_set_of_le O, List.drop_set]
    simp [show ¬ (off + k + 1 + vs.length ≤ off + k) by omega, show off + k < off + k + 1 + vs.length by omega]
    congr 1
    omega
theorem fill_bld (places : List (Nat × Nat)) (f : Nat → Option (Nat × Nat)) (hf : ∀ i, f i = places[i]?) (zs : List Value) (parts : List (Nat × Value)) {vs : List Value} (h : bld places zs parts = some vs) :
    Instr.fill f zs.toArray parts = some vs.toArray := by
  induction parts generalizing zs with
  | nil => simp [bld] at h; subst h; rfl
  | cons p rest ih =>
    obtain ⟨i, v⟩ := p
    simp only [bld] at h
    simp only [Instr.fill, hf]
    cases hp : places[i]? with
    | none => simp [hp] at h
    | some os =>
      obtain ⟨off, size⟩ := os
      simp only [hp, cond_eq_ite] at h
      by_cases hc : (Nat.beq (cellsL v).length size && Nat.ble (off + size) zs.length) = true
      · simp only [hc, if_true] at h
        simp only [Bool.and_eq_true] at hc
        have h1 : (cellsL v).length = size := Nat.eq_of_beq_eq_true hc.1
        have h2 : off + size ≤ zs.length := Nat.le_of_ble_eq_true hc.2
        have h3 := foldl_splice (cellsL v) off 0 zs O
        simp only [cells_cellsL, List.size_toArray, h1, ne_eq, not_true, decide_false, Bool.false_or, gt_iff_lt, decide_eq_true_eq, show ¬ zs.length < off + size by omega, if_false]
        have e : (cellsL v).toArray.zipIdx = ((cellsL v).zipIdx 0).toArray := by simp
        rw [e]
        simp only [List.foldl_toArray, Nat.add_zero] at h3 ⊢
        rw [h3]
        exact ih _ h
      · simp only [hc] at h; cases h
section
variable {P : Program} {TT : TyTab} {D n : Nat} {Q : APost} {fr : Fr} {L L' K : Hl} {s s' s0 : World} {ops : Array Oper} {rest : List Oper} {d ty : Nat} {op : Op} {pos : String} {af : Array Edge} {v : Value}
def lkp (fr : Fr) : List (Nat × Operand) → Option (List (Nat × Value))
  | [] => some []
  | (i, x) :: r => match lk fr x with
    | some v => match lkp fr r with
      | some vs => some ((i, v) :: vs)
      | none => none
    | none => none
theorem lkp_map {fr : Fr} {ρ : Operand → Value} (hρ : ∀ x v, lk fr x = some v → ρ x = v) {xs : List (Nat × Operand)} {vs : List (Nat × Value)} (h : lkp fr xs = some vs) : xs.map (fun p => (p.1, ρ p.2)) = vs := by
  induction xs generalizing vs with
  | nil => simp [lkp] at h; subst h; rfl
  | cons p xs ih =>
    obtain ⟨i, x⟩ := p
    simp only [lkp] at h
    cases h1 : lk fr x with
    | none => simp [h1] at h
    | some v =>
      cases h2 : lkp fr xs with
      | none => simp [h1, h2] at h
      | some r => simp [h1, h2] at h; subst h; simp [hρ x v h1, ih h2]
theorem run_places {fs : List Field} {l : List Nat} (h : fs.map (fun f => P.cellsOf f.type) = l) (hp : fs.all (fun f => decide (0 < P.cellsOf f.type)) = true) (w : World) :
    (fs.mapM (m := Sem) fun f => do pure (f.offset, ← sizeOf f.type)).run P w = .ok ((fs.map (·.offset)).zip l) w := by
  induction fs generalizing l with
  | nil => subst h; simp
  | cons f fs ih =>
    subst h
    simp only [List.all_cons, Bool.and_eq_true, decide_eq_true_eq] at hp
    have hsz : (sizeOf f.type).run P w = .ok (P.cellsOf f.type) w := by
      have hpos := hp.1
      unfold Program.cellsOf at hpos ⊢
      cases hi : P.info? f.type with
      | none => simp [hi] at hpos
      | some i => simp [sizeOf, typeInfo, hi]
    simp only [List.mapM_cons, Sem.run_bind, hsz, Result.andThen_ok, Sem.run_pure, ih rfl hp.2, List.map_cons, List.zip_cons_cons]
theorem QE_build {t : Nat} {ps : List (Nat × Operand)} {ti : TI} {os : List Nat} (vals : List (Nat × Value)) (vs : List Value) (ht : tlook TT t = some ti) (hk : ti.kind = .st os) (hv : lkp fr ps = some vals) {zs fz : List _} (hz : ti.zeros = zs) (hfz : ti.fsz = fz)
    (hb : bld (os.zip fz) zs vals = some vs) : QE P TT D fr (.build t ps.toArray) ty K s0 (.agg vs.toArray) :=
  QE.pure fun hT dst pos af g ρ hρ w => by
    subst hz; subst hfz
    have hok := hT.at_ ht
    have hok2 := hok
    obtain ⟨h1, h2, _, _, _, _, _, h8, h9⟩ := hok2
    rw [hk] at h2
    cases hd : ti.desc with
    | struct fs =>
      rw [hd] at h1 h2 h8 h9
      simp only [TK.fits] at h2
      have hpl := run_places (P := P) (w := w) (fs := fs.toList) (show fs.toList.map (fun f => P.cellsOf f.type) = ti.fsz from h9) h8
      have hz : ti.zero.cells = ti.zeros.toArray := zero_cells hok
      have hpl' : (fs.mapM (m := Sem) fun f => do pure (f.offset, ← sizeOf f.type)).run P w = .ok (os.zip ti.fsz).toArray w := by
        rw [Array.mapM_eq_mapM_toList]
        simp only [map_eq_pure_bind, Sem.run_bind, hpl, Result.andThen_ok, Sem.run_pure, h2]
      have hfill := fill_bld (os.zip ti.fsz) ((os.zip ti.fsz).toArray[·]?) (fun i => by simp) ti.zeros vals hb
      have hm : (ps.toArray.map fun p => (p.1, ρ p.2)).toList = vals := by simpa using lkp_map hρ hv
      simp only [execOp, Instr.build, Sem.run_bind, run_zero' hok, Result.andThen_ok, run_underlying h1, hpl', hz]
      have hm' : (ps.toArray.map fun (x : Nat × Operand) => match x with | (i, x) => (i, ρ x)).toList = vals := hm
      rw [hm', hfill]
      rfl
    | _ => rw [hd] at h2; simp [TK.fits] at h2
def eraseAll (L : Hl) : List Nat → Hl
  | [] => L
  | i :: r => eraseAll (L.eraseIdx i) r
theorem eraseAll_mem {L : Hl} {r : List Nat} {x : Nat × Obj} (h : x ∈ eraseAll L r) : x ∈ L := by
  induction r generalizing L with
  | nil => exact h
  | cons i r ih => exact List.mem_of_mem_eraseIdx (ih h)
theorem JC_drawE {id : Nat} {l : List Oper} (hm : P.follows .mixedOrders = true) (N : Nat) (hN : l.length = N) (r : List Nat) (hK : ∀ x ∈ eraseAll L r, x ∈ L)
    (h : ∀ s', Le D s s' → JA P TT D n l.toArray Q (eraseAll L r) s' N (Array.replicate N false) fr L s') : JC P TT D n Q (.region id l.toArray true) fr L s := JC_draw hm N hN _ hK h
theorem flat_get (zs : List Value) (len i : Nat) (h : i < len * zs.length) : ((List.replicate len zs).flatten)[i]? = zs[i % zs.length]? := by
  induction len generalizing i with
  | zero => simp at h
  | succ len ih =>
    rw [List.replicate_succ, List.flatten_cons]
    by_cases hi : i < zs.length
    · rw [List.getElem?_append_left hi, Nat.mod_eq_of_lt hi]
    · rw [List.getElem?_append_right O, ih (i - zs.length) (by rw [Nat.succ_mul] at h; omega), Nat.mod_eq_sub_mod (by omega : i ≥ zs.length)]
theorem zeroRow (zs : List Value) (len : Nat) (h : 0 < zs.length) : (Array.range (len * zs.length)).map (fun i => zs.toArray[i % zs.toArray.size]!) = ((List.replicate len zs).flatten).toArray := by
  apply Array.ext_getElem?
  intro i
  by_cases hi : i < len * zs.length
  · have hm : i % zs.length < zs.length := Nat.mod_lt _ h
    have := flat_get zs len i hi
    simp only [List.getElem?_toArray, this]
    simp [hi, hm]
  · have hl : ((List.replicate len zs).flatten).length = len * zs.length := by simp
    rw [Array.getElem?_eq_none (by simp; omega), Array.getElem?_eq_none (by simp only [List.size_toArray, hl]; omega)]
def rowPl (size : Nat) : Nat → Nat → List (Nat × Nat)
  | _, 0 => []
  | o, n + 1 => (o, size) :: rowPl size (o + size) n
theorem rowPl_get (size o n i : Nat) (h : i < n) : (rowPl size o n)[i]? = some (o + i * size, size) := by
  induction n generalizing o i with
  | zero => omega
  | succ n ih =>
    cases i with
    | zero => simp [rowPl]
    | succ i => simp only [rowPl, List.getElem?_cons_succ]; rw [ih (o + size) i O, Nat.succ_mul]; congr 2; omega
theorem fill_row (size len : Nat) (zs : List Value) (parts : List (Nat × Value)) {vs : List Value} (hp : parts.all (fun x => Nat.blt x.1 len) = true) (h : bld (rowPl size 0 len) zs parts = some vs) :
    Instr.fill (fun i => some (i * size, size)) zs.toArray parts = some vs.toArray := by
  induction parts generalizing zs with
  | nil => simp [bld] at h; subst h; rfl
  | cons x rest ih =>
    obtain ⟨i, v⟩ := x
    simp only [List.all_cons, Bool.and_eq_true] at hp
    have hi : i < len := Nat.le_of_ble_eq_true hp.1
    have hg := rowPl_get size 0 len i hi
    rw [Nat.zero_add] at hg
    have h1 := fill_bld (rowPl size 0 len) ((rowPl size 0 len)[·]?) (fun _ => rfl) zs ((i, v) :: rest) h
    simp only [bld, hg, cond_eq_ite] at h
    simp only [Instr.fill, hg] at h1 ⊢
    by_cases hc : (Nat.beq (cellsL v).length size && Nat.ble (i * size + size) zs.length) = true
    · simp only [hc, if_true] at h
      simp only [Bool.and_eq_true] at hc
      have e1 : (cellsL v).length = size := Nat.eq_of_beq_eq_true hc.1
      have e2 : i * size + size ≤ zs.length := Nat.le_of_ble_eq_true hc.2
      have h3 := foldl_splice (cellsL v) (i * size) 0 zs O
      simp only [cells_cellsL, List.size_toArray, e1, ne_eq, not_true, decide_false, Bool.false_or, gt_iff_lt, decide_eq_true_eq, show ¬ zs.length < i * size + size by omega, if_false]
      have e : (cellsL v).toArray.zipIdx = ((cellsL v).zipIdx 0).toArray := by simp
      rw [e]
      simp only [List.foldl_toArray, Nat.add_zero] at h3 ⊢
      rw [h3]
      exact ih _ hp.2 h
    · simp only [hc] at h; cases h
theorem run_buildSlice {t e len : Nat} {ti te : TI} (hti : ti.ok P t) (hk : ti.kind = .sl e) (hte : te.ok P e) (hsz : Nat.ble (len * te.size) 16777216 = true) (hpos : 0 < len) (vals : List (Nat × Value)) (vs : List Value) (hp : vals.all (fun x => Nat.blt x.1 len) = true)
    (hb : bld (rowPl te.size 0 len) (List.replicate len te.zeros).flatten vals = some vs) (w : World) : (Instr.buildSlice t len vals.toArray).run P w = .ok (.slice (some ⟨w.heap.size, 0, none⟩) len len) (w.alloc (cb vs e)) := by
  obtain ⟨k1, k2, _⟩ := hti
  rw [hk] at k2
  simp only [TK.fits] at k2
  rw [k2] at k1
  have hte2 := hte
  obtain ⟨_, _, _, z1, _, z3, _⟩ := hte2
  have hz := zero_cells hte
  have hle : ¬ (2 ^ 24 < len * te.size) := by have := Nat.le_of_ble_eq_true hsz; omega
  have hne : ¬ (len * te.size = 0) := by
    intro h0
    have := Nat.mul_pos hpos z3
    omega
  have hrow := zeroRow te.zeros len O
  rw [z1] at hrow
  have hfr := fill_row te.size len _ vals hp hb
  simp only [Instr.buildSlice, Sem.run_bind, run_underlying k1, Result.andThen_ok, run_sizeOf' hte, gt_iff_lt, hle, if_false, Sem.run_pure, hne, run_zero' hte, hz]
  rw [hrow, hfr]
  simp only [Sem.run_bind, run_new, Result.andThen_ok, Sem.run_pure]
  rfl
theorem Ev_bs {t e len : Nat} {ti te : TI} {ps : List (Nat × Operand)} (vals : List (Nat × Value)) (vs : List Value) (ht : tlook TT t = some ti) (hk : ti.kind = .sl e) (he : tlook TT e = some te) (hv : lkp fr ps = some vals) (hsz : Nat.ble (len * te.size) 16777216 = true) (hpos : Nat.blt 0 len = true) (hp : vals.all (fun x => Nat.blt x.1 len) = true)
    (hb : bld (rowPl te.size 0 len) (List.replicate len te.zeros).flatten vals = some vs) (ho : OKL D L s) : Ev P TT D fr (.buildSlice t len ps.toArray) ty L s (.value (.slice (some ⟨s.heap.size, 0, none⟩) len len)) ((s.heap.size, cb vs e) :: L) (s.alloc (dum D)) := fun hT _ dst pos af g ρ hρ => by
  obtain ⟨h1, h2, h3⟩ := alloc_fill ho (cb vs e)
  refine ⟨?_, h2⟩
  have hm : (ps.toArray.map fun (x : Nat × Operand) => match x with | (i, x) => (i, ρ x)) = vals.toArray := by
    have := lkp_map hρ hv
    rw [← this]; simp
  have hpos' : 0 < len := Nat.le_of_ble_eq_true hpos
  simp only [execOp, hm, Sem.run_bind, run_buildSlice (hT.at_ ht) hk (hT.at_ he) hsz hpos' vals vs hp hb, Result.andThen_ok, Sem.run_pure, fill_size]
  rw [← h1]
theorem cells_drop {b t : Nat} {vs : List Value} (ho : OKL D ((b, cb vs t) :: L) s) : CellsAt (fill [(b, cb vs t)] s) b 0 vs := fun j v hj => by
  have h1 : OKL D [(b, cb vs t)] s := ⟨by simp, fun x hx => ho.dm x (by simp at hx; subst hx; exact List.mem_cons_self ..)⟩
  rw [mem_cell h1 (List.mem_cons_self ..), Nat.zero_add]; exact hj
theorem JO_bs {t e len : Nat} {ti te : TI} {ps : List (Nat × Operand)} (vals : List (Nat × Value)) (vs : List Value) (ht : tlook TT t = some ti) (hk : ti.kind = .sl e) (he : tlook TT e = some te) (hv : lkp fr ps = some vals) (hsz : Nat.ble (len * te.size) 16777216 = true) (hpos : Nat.blt 0 len = true) (hp : vals.all (fun x => Nat.blt x.1 len) = true)
    (hb : bld (rowPl te.size 0 len) (List.replicate len te.zeros).flatten vals = some vs) (hd : Nat.blt d n = true) (k : ∀ β s', Le D s s' → CellsAt s' β 0 vs → JO P TT D n ops Q rest ((d, .slice (some ⟨β, 0, none⟩) len len) :: fr) L s') :
    JO P TT D n ops Q (⟨some d, .buildSlice t len ps.toArray, ty, pos, af, none⟩ :: rest) fr L s := fun hT a hr ho => by
  obtain ⟨h1, h2, h3⟩ := alloc_fill ho (cb vs e)
  obtain ⟨d1, d2, d3⟩ := drop_own (A := [(s.heap.size, cb vs e)]) (B := L) h2
  refine JO_ev (L' := L) (s' := fill [(s.heap.size, cb vs e)] (s.alloc (dum D))) hd (fun hT _ dst pos af g ρ hρ => ⟨?_, d2⟩) (k _ _ (h3.trans d3) (cells_drop h2)) hT a hr ho
  rw [← d1]
  exact (Ev_bs vals vs ht hk he hv hsz hpos hp hb ho hT ho dst pos af g ρ hρ).1
theorem JB_bs {i t e len : Nat} {g : Option (Nat × Bool)} {fuel : Nat} {listed : Array Bool} {ti te : TI} {ps : List (Nat × Operand)} (hi : ops[i]? = some ⟨some d, .buildSlice t len ps.toArray, ty, pos, af, g⟩) (hg : GOK ops fr g) (vals : List (Nat × Value)) (vs : List Value) (ht : tlook TT t = some ti) (hk : ti.kind = .sl e) (he : tlook TT e = some te) (hv : lkp fr ps = some vals) (hsz : Nat.ble (len * te.size) 16777216 = true) (hpos : Nat.blt 0 len = true) (hp : vals.all (fun x => Nat.blt x.1 len) = true)
    (hb : bld (rowPl te.size 0 len) (List.replicate len te.zeros).flatten vals = some vs) (hd : Nat.blt d n = true) (k : ∀ β s', Le D s s' → CellsAt s' β 0 vs → JA P TT D n ops Q K s0 fuel (listed.setIfInBounds i true) ((d, .slice (some ⟨β, 0, none⟩) len len) :: fr) L s') :
    JB P TT D n ops Q K s0 fuel listed i fr L s := fun hT a hr ho hl hK => by
  obtain ⟨h1, h2, h3⟩ := alloc_fill ho (cb vs e)
  obtain ⟨d1, d2, d3⟩ := drop_own (A := [(s.heap.size, cb vs e)]) (B := L) h2
  refine JB_ev (L' := L) (s' := fill [(s.heap.size, cb vs e)] (s.alloc (dum D))) hi hg (fun hT _ dst pos af g ρ hρ => ⟨?_, d2⟩) (h3.trans d3) (fun _ _ h => h) hd (k _ _ (h3.trans d3) (cells_drop h2)) hT a hr ho hl hK
  rw [← d1]
  exact (Ev_bs vals vs ht hk he hv hsz hpos hp hb ho hT ho dst pos af g ρ hρ).1
end
section
variable {P : Program} {TT : TyTab} {D n : Nat} {Q : APost} {fr : Fr} {L L' K : Hl} {s s' s0 : World} {ops : Array Oper} {rest : List Oper} {d ty : Nat} {op : Op} {pos : String} {af : Array Edge} {v : Value}
theorem bound_ok {ik : IntKind} {j y : Nat} {c : BoundsCode} (h : j ≤ y) (w : World) : (Instr.sliceBound (.int ik (j : Int)) y c).run P w = .ok j w := by
  have h0 : (j : Int) ≤ (y : Int) := by omega
  simp [Instr.sliceBound, asIntOf, h0]
theorem sliceAt_slice {t e : Nat} {x : Value} {lo hi mx : Option Value} {ti : TI} (h : ti.ok P t) (hk : ti.kind = .sl e) : ∀ w, (Instr.sliceAt t x lo hi mx).run P w = (Instr.slice t x lo hi mx).run P w := by
  obtain ⟨k1, k2, _⟩ := h
  rw [hk] at k2
  simp only [TK.fits] at k2
  rw [k2] at k1
  intro w
  simp [Instr.sliceAt, run_underlying k1]
theorem run_slice_sl {t e : Nat} {A : Option Addr} {m c : Nat} {lo hi : Option Value} {ti te : TI} (h : ti.ok P t) (hk : ti.kind = .sl e) (he : te.ok P e) {l u : Nat} (w : World)
    (hb : (Instr.sliceBounds true m c lo hi none).run P w = .ok (l, u, c) w) : (Instr.sliceAt t (.slice A m c) lo hi none).run P w = .ok (.slice (if c = l then A else A.map (·.add (l * te.size))) (u - l) (c - l)) w := by
  rw [sliceAt_slice h hk]
  obtain ⟨k1, k2, _⟩ := h
  rw [hk] at k2
  simp only [TK.fits] at k2
  rw [k2] at k1
  simp [Instr.slice, run_underlying k1, hb, run_sizeOf' he]
theorem add0 (A : Option Addr) (k : Nat) : A.map (·.add (0 * k)) = A := by cases A <;> simp [Addr.add]
theorem QE_slH {t e : Nat} {x y : Operand} {ti te : TI} {ik : IntKind} {A : Option Addr} {m c j : Nat} (hx : lk fr x = some (.slice A m c)) (hy : lk fr y = some (.int ik (j : Int))) (ht : tlook TT t = some ti) (hk : ti.kind = .sl e) (he : tlook TT e = some te) (hj : j ≤ c) :
    QE P TT D fr (.slice t x none (some y) none) ty K s0 (.slice A j c) :=
  QE.pure fun hT dst pos af g ρ hρ w => by
    have hb : (Instr.sliceBounds true m c none (some (.int ik (j : Int))) none).run P w = .ok (0, j, c) w := by simp [Instr.sliceBounds, bound_ok hj]
    have hr := run_slice_sl (A := A) (hT.at_ ht) hk (hT.at_ he) w hb
    simp only [execOp, hρ x _ hx, Option.map_none, Option.map_some, hρ y _ hy, Sem.run_bind, hr, Result.andThen_ok, Sem.run_pure, add0]
    simp
theorem QE_slL {t e : Nat} {x y : Operand} {ti te : TI} {ik : IntKind} {A : Option Addr} {m c j : Nat} (hx : lk fr x = some (.slice A m c)) (hy : lk fr y = some (.int ik (j : Int))) (ht : tlook TT t = some ti) (hk : ti.kind = .sl e) (he : tlook TT e = some te) (hj : j ≤ m) :
    QE P TT D fr (.slice t x (some y) none none) ty K s0 (.slice (if c = j then A else A.map (·.add (j * te.size))) (m - j) (c - j)) :=
  QE.pure fun hT dst pos af g ρ hρ w => by
    have hb : (Instr.sliceBounds true m c (some (.int ik (j : Int))) none none).run P w = .ok (j, m, c) w := by simp [Instr.sliceBounds, bound_ok hj]
    have hr := run_slice_sl (A := A) (hT.at_ ht) hk (hT.at_ he) w hb
    simp only [execOp, hρ x _ hx, Option.map_none, Option.map_some, hρ y _ hy, Sem.run_bind, hr, Result.andThen_ok, Sem.run_pure]
theorem extract_list (l : List UInt8) (lo hi : Nat) (h : lo ≤ hi) : (⟨l.toArray⟩ : ByteArray).extract lo hi = ⟨((l.drop lo).take (hi - lo)).toArray⟩ := by
  apply ByteArray.ext
  simp [List.take_drop, Nat.add_sub_cancel' h]
theorem run_slice_str {t : Nat} {l : List UInt8} {lo hi : Option Value} {ti : TI} (h : ti.ok P t) (hk : ti.desc = .string) {a u : Nat} (hau : a ≤ u) (w : World) (hb : (Instr.sliceBounds false l.length l.length lo hi none).run P w = .ok (a, u, l.length) w) :
    (Instr.sliceAt t (St l) lo hi none).run P w = .ok (St ((l.drop a).take (u - a))) w := by
  have k1 := h.1
  rw [hk] at k1
  have hsz : (⟨l.toArray⟩ : ByteArray).size = l.length := by simp [ByteArray.size]
  have hx := extract_list l a u hau
  simp only [Instr.sliceAt, Sem.run_bind, run_underlying k1, Result.andThen_ok, Instr.slice, Option.isSome_none, Bool.false_eq_true, if_false, hsz, hb, Sem.run_pure, hx]
theorem QE_stH {t : Nat} {x y : Operand} {ti : TI} {ik : IntKind} {l : List UInt8} {u : Nat} (hx : lk fr x = some (St l)) (hy : lk fr y = some (.int ik (u : Int))) (ht : tlook TT t = some ti) (hk : ti.desc = .string) (hu : u ≤ l.length) :
    QE P TT D fr (.slice t x none (some y) none) ty K s0 (St (l.take u)) :=
  QE.pure fun hT dst pos af g ρ hρ w => by
    have hb : (Instr.sliceBounds false l.length l.length none (some (.int ik (u : Int))) none).run P w = .ok (0, u, l.length) w := by simp [Instr.sliceBounds, bound_ok hu]
    have hr := run_slice_str (hT.at_ ht) hk (Nat.zero_le u) w hb
    simp only [execOp, hρ x _ hx, Option.map_none, Option.map_some, hρ y _ hy, Sem.run_bind, hr, Result.andThen_ok, Sem.run_pure]
    simp
theorem QE_stL {t : Nat} {x y : Operand} {ti : TI} {ik : IntKind} {l : List UInt8} {a : Nat} (hx : lk fr x = some (St l)) (hy : lk fr y = some (.int ik (a : Int))) (ht : tlook TT t = some ti) (hk : ti.desc = .string) (ha : a ≤ l.length) :
    QE P TT D fr (.slice t x (some y) none none) ty K s0 (St (l.drop a)) :=
  QE.pure fun hT dst pos af g ρ hρ w => by
    have hb : (Instr.sliceBounds false l.length l.length (some (.int ik (a : Int))) none none).run P w = .ok (a, l.length, l.length) w := by simp [Instr.sliceBounds, bound_ok ha]
    have hr := run_slice_str (hT.at_ ht) hk ha w hb
    simp only [execOp, hρ x _ hx, Option.map_none, Option.map_some, hρ y _ hy, Sem.run_bind, hr, Result.andThen_ok, Sem.run_pure]
    have : (l.drop a).take (l.length - a) = l.drop a := List.take_of_length_le (by simp)
    rw [this]
theorem QE_stLH {t : Nat} {x y z : Operand} {ti : TI} {ik ik' : IntKind} {l : List UInt8} {a u : Nat} (hx : lk fr x = some (St l)) (hy : lk fr y = some (.int ik (a : Int))) (hz : lk fr z = some (.int ik' (u : Int))) (ht : tlook TT t = some ti) (hk : ti.desc = .string) (ha : a ≤ u) (hu : u ≤ l.length) :
    QE P TT D fr (.slice t x (some y) (some z) none) ty K s0 (St ((l.drop a).take (u - a))) :=
  QE.pure fun hT dst pos af g ρ hρ w => by
    have hb : (Instr.sliceBounds false l.length l.length (some (.int ik (a : Int))) (some (.int ik' (u : Int))) none).run P w = .ok (a, u, l.length) w := by simp [Instr.sliceBounds, bound_ok ha, bound_ok hu]
    have hr := run_slice_str (hT.at_ ht) hk ha w hb
    simp only [execOp, hρ x _ hx, Option.map_none, Option.map_some, hρ y _ hy, hρ z _ hz, Sem.run_bind, hr, Result.andThen_ok, Sem.run_pure]
end
end Go.FL
namespace Go.Proofs.YtiljephghfngnaaGreatDoor
open Go Go.FL
def Sl {α : Type} (sz : Nat) (R : World → α → List Value → Prop) (s : World) (A : Option Addr) (n c : Nat) (l : List α) : Prop :=
  n = l.length ∧ n ≤ c ∧ c ≤ 9223372036854775807 ∧ ∀ i x, l[i]? = some x → ∃ b off cs, A = some ⟨b, off, none⟩ ∧ CellsAt s b (off + i * sz) cs ∧ cs.length = sz ∧ R s x cs
theorem Sl.le {α : Type} {sz : Nat} {R : World → α → List Value → Prop} {D : Nat} {s s' : World} {A : Option Addr} {n c : Nat} {l : List α} (hR : ∀ x cs, R s x cs → R s' x cs) (h : Sl sz R s A n c l) (hl : Le D s s') : Sl sz R s' A n c l :=
  ⟨h.1, h.2.1, h.2.2.1, fun i x hi => by
    obtain ⟨b, off, cs, h1, h2, h3, h4⟩ := h.2.2.2 i x hi
    exact ⟨b, off, cs, h1, h2.le hl, h3, hR x cs h4⟩⟩
def U32 (x : Int) : Prop := 0 ≤ x ∧ x < 4294967296
def Wds (s : World) (A : Option Addr) (n c : Nat) (l : List Int) : Prop := Sl 1 (fun _ x cs => cs = [.int .u32 x] ∧ U32 x) s A n c l
def Bts (s : World) (A : Option Addr) (n c : Nat) (l : List UInt8) : Prop := Sl 1 (fun _ x cs => cs = [.int .u8 (x.toNat : Int)]) s A n c l
theorem Wds.le {D : Nat} {s s' : World} {A : Option Addr} {n c : Nat} {l : List Int} (h : Wds s A n c l) (hl : Le D s s') : Wds s' A n c l := Sl.le (fun _ _ h => h) h hl
theorem Bts.le {D : Nat} {s s' : World} {A : Option Addr} {n c : Nat} {l : List UInt8} (h : Bts s A n c l) (hl : Le D s s') : Bts s' A n c l := Sl.le (fun _ _ h => h) h hl
theorem Wds.at_ {s : World} {A : Option Addr} {n c k : Nat} {l : List Int} (h : Wds s A n c l) (hk : k < n) : ∃ b off x, A = some ⟨b, off, none⟩ ∧ l[k]? = some x ∧ CellsAt s b (off + k) [.int .u32 x] ∧ U32 x := by
  have hl : k < l.length := by rw [← h.1]; exact hk
  obtain ⟨b, off, cs, h1, h2, _, rfl, h4⟩ := h.2.2.2 k l[k] (List.getElem?_eq_getElem hl)
  exact ⟨b, off, l[k], h1, List.getElem?_eq_getElem hl, by simpa using h2, h4⟩
theorem below_succ {α : Type} {p : Nat → α → Prop} {l : List α} {k : Nat} {a : α} (h : ∀ i b, i < k → l[i]? = some b → p i b) (hk : l[k]? = some a) (ha : p k a) : ∀ i b, i < k + 1 → l[i]? = some b → p i b := by
  intro i b hi hb
  rcases Nat.lt_succ_iff_lt_or_eq.1 hi with h1 | rfl
  · exact h i b h1 hb
  · rw [hk] at hb; injection hb with hb; subst hb; exact ha
def letB (c : UInt8) : Bool := decide (97 ≤ c.toNat) && decide (c.toNat ≤ 122)
def digB (c : UInt8) : Bool := decide (48 ≤ c.toNat) && decide (c.toNat ≤ 57)
def chOK (i : Nat) (c : UInt8) : Bool := letB c || (digB c && decide (i ≠ 0))
def charsFrom (i : Nat) : List UInt8 → Bool
  | [] => true
  | c :: r => chOK i c && charsFrom (i + 1) r
theorem charsFrom_iff (l : List UInt8) (i : Nat) : charsFrom i l = true ↔ ∀ j c, l[j]? = some c → chOK (i + j) c = true := by
  induction l generalizing i with
  | nil => simp [charsFrom]
  | cons c r ih =>
    simp only [charsFrom, Bool.and_eq_true, ih]
    constructor
    · rintro ⟨h1, h2⟩ j d hj
      cases j with
      | zero => simp at hj; subst hj; exact h1
      | succ j => simp at hj; have := h2 j d hj; rwa [Nat.add_assoc, Nat.add_comm 1 j] at this
    · intro h
      exact ⟨by simpa using h 0 c (by simp), fun j d hj => by have := h (j + 1) d (by simpa using hj); rwa [Nat.add_assoc, Nat.add_comm 1 j]⟩
theorem chars_all {l : List UInt8} (h : ∀ i c, i < l.length → l[i]? = some c → chOK i c = true) : charsFrom 0 l = true :=
  (charsFrom_iff l 0).2 fun j c hj => by
    have hl : j < l.length := (List.getElem?_eq_some_iff.1 hj).1
    simpa using h j c hl hj
theorem chars_not {l : List UInt8} {k : Nat} {c : UInt8} (hk : l[k]? = some c) (h : chOK k c = false) : charsFrom 0 l = false := by
  cases hb : charsFrom 0 l with
  | false => rfl
  | true => have := (charsFrom_iff l 0).1 hb k c hk; simp at this; rw [this] at h; cases h
def firstNZ : List Int → Int
  | [] => 0
  | c :: r => if c ≠ 0 then c else firstNZ r
theorem firstNZ_hit {α : Type} {f : α → Int} {l : List α} {k : Nat} {a : α} (h : ∀ i b, i < k → l[i]? = some b → f b = 0) (hk : l[k]? = some a) (ha : f a ≠ 0) : firstNZ (l.map f) = f a := by
  induction l generalizing k with
  | nil => simp at hk
  | cons b r ih =>
    cases k with
    | zero => simp at hk; subst hk; simp [firstNZ, ha]
    | succ k =>
      have h0 := h 0 b O (by simp)
      simp only [List.map_cons, firstNZ, h0, ne_eq, not_true, if_false]
      exact ih (k := k) (fun i c hi hc => h (i + 1) c O (by simpa using hc)) (by simpa using hk)
def idxOf {α : Type} (p : α → Bool) : List α → Nat → Int
  | [], _ => -1
  | x :: r, k => if p x then (k : Int) else idxOf p r (k + 1)
theorem idxOf_hit {α : Type} {p : α → Bool} {l : List α} {k j : Nat} {a : α} (h : ∀ i b, i < k → l[i]? = some b → p b = false) (hk : l[k]? = some a) (ha : p a = true) : idxOf p l j = (j + k : Nat) := by
  induction l generalizing k j with
  | nil => simp at hk
  | cons b r ih =>
    cases k with
    | zero => simp at hk; subst hk; simp [idxOf, ha]
    | succ k =>
      have h0 := h 0 b O (by simp)
      simp only [idxOf, h0, Bool.false_eq_true, if_false]
      rw [ih (k := k) (fun i c hi hc => h (i + 1) c O (by simpa using hc)) (by simpa using hk)]
      congr 1; omega
theorem idxOf_none {α : Type} {p : α → Bool} {l : List α} {j : Nat} (h : ∀ i b, i < l.length → l[i]? = some b → p b = false) : idxOf p l j = -1 := by
  induction l generalizing j with
  | nil => rfl
  | cons b r ih =>
    have h0 := h 0 b (by simp) (by simp)
    simp only [idxOf, h0, Bool.false_eq_true, if_false]
    exact ih fun i c hi hc => h (i + 1) c (by simp; omega) (by simpa using hc)
theorem idxOf_any {α : Type} (p : α → Bool) (l : List α) (j : Nat) : decide (0 ≤ idxOf p l j) = l.any p := by
  induction l generalizing j with
  | nil => simp [idxOf]
  | cons b r ih =>
    by_cases hb : p b = true
    · simp [idxOf, hb]
    · simp only [idxOf, hb]; simpa [hb] using ih (j + 1)
def valD (acc : Nat) (l : List UInt8) : Nat := l.foldl (fun a c => a * 10 + (c.toNat - 48)) acc
def canonB (l : List UInt8) : Bool := decide (l ≠ []) && l.all digB && (decide (l.length ≤ 1) || decide (l.head? ≠ some 48))
def numL (l : List UInt8) : Option Nat := if canonB l = true ∧ valD 0 l < 4294967296 then some (valD 0 l) else none
theorem valD_nil (acc : Nat) : valD acc [] = acc := rfl
theorem valD_cons (acc : Nat) (c : UInt8) (r : List UInt8) : valD acc (c :: r) = valD (acc * 10 + (c.toNat - 48)) r := by unfold valD; rw [List.foldl_cons]
theorem valD_one (c : UInt8) : valD 0 [c] = c.toNat - 48 := by rw [valD_cons, valD_nil, Nat.zero_mul, Nat.zero_add]
attribute [local irreducible] valD
theorem valD_snoc (l : List UInt8) (c : UInt8) (acc : Nat) : valD acc (l ++ [c]) = valD acc l * 10 + (c.toNat - 48) := by
  induction l generalizing acc with
  | nil => rw [List.nil_append, valD_cons, valD_nil, valD_nil]
  | cons x l ih => rw [List.cons_append, valD_cons, valD_cons]; exact ih _
theorem valD_ge (l : List UInt8) (acc : Nat) : acc ≤ valD acc l := by
  induction l generalizing acc with
  | nil => rw [valD_nil]; exact Nat.le_refl _
  | cons x l ih => have := ih (acc * 10 + (x.toNat - 48)); rw [valD_cons]; omega
theorem parseM_of {M acc : Nat} {l : List UInt8} (hM : M < 1844674407370955162) (h : l.all digB = true) (hv : valD acc l ≤ M) : Lib.parseUintM M acc l = .ok (valD acc l) := by
  induction l generalizing acc with
  | nil => rw [valD_nil]; rfl
  | cons c l ih =>
    simp only [List.all_cons, Bool.and_eq_true, digB, decide_eq_true_eq] at h
    rw [valD_cons] at hv ⊢
    have h1 := valD_ge l (acc * 10 + (c.toNat - 48))
    simp only [Lib.parseUintM]
    rw [if_pos h.1, if_neg O, if_neg O]
    exact ih (by simpa [digB] using h.2) hv
theorem dig_of {u : Nat} (h : u < 10) : (UInt8.ofNat (48 + u)).toNat = 48 + u := by simp; omega
theorem dec_val (u : Nat) : valD 0 (Lib.decDigits u) = u := by
  induction u using Nat.strongRecOn with
  | _ u ih =>
    by_cases h : u < 10
    · rw [Lib.decDigits, dif_pos h]; rw [valD_one, dig_of h]; omega
    · rw [Lib.decDigits, dif_neg h, valD_snoc, ih (u / 10) O, dig_of O]; omega
theorem dec_ne (u : Nat) : Lib.decDigits u ≠ [] := by
  by_cases h : u < 10
  · rw [Lib.decDigits, dif_pos h]; simp
  · rw [Lib.decDigits, dif_neg h]; simp
theorem dec_dig (u : Nat) : (Lib.decDigits u).all digB = true := by
  induction u using Nat.strongRecOn with
  | _ u ih =>
    by_cases h : u < 10
    · rw [Lib.decDigits, dif_pos h]; simp only [List.all_cons, List.all_nil, Bool.and_true, digB, dig_of h, Bool.and_eq_true, decide_eq_true_eq]; omega
    · rw [Lib.decDigits, dif_neg h, List.all_append, ih (u / 10) O]
      simp only [List.all_cons, List.all_nil, Bool.and_true, digB, dig_of (show u % 10 < 10 by omega), Bool.and_eq_true, decide_eq_true_eq, Bool.true_and]; omega
theorem dec_head (u : Nat) (h : 1 ≤ u) : (Lib.decDigits u).head? ≠ some 48 := by
  induction u using Nat.strongRecOn with
  | _ u ih =>
    by_cases h1 : u < 10
    · rw [Lib.decDigits, dif_pos h1]; intro e
      simp only [List.head?_cons, Option.some.injEq] at e
      have := congrArg UInt8.toNat e; rw [dig_of h1] at this; simp at this; omega
    · rw [Lib.decDigits, dif_neg h1]
      have hne := dec_ne (u / 10)
      have := ih (u / 10) O O
      cases hd : Lib.decDigits (u / 10) with
      | nil => exact absurd hd hne
      | cons x r => rw [hd] at this; simpa using this
theorem dec_canon (u : Nat) : canonB (Lib.decDigits u) = true := by
  simp only [canonB, dec_dig, dec_ne, ne_eq, not_false_eq_true, decide_true, Bool.true_and, Bool.or_eq_true, decide_eq_true_eq]
  by_cases h : u < 10
  · left; rw [Lib.decDigits, dif_pos h]; simp
  · right; exact dec_head u O
theorem valD_pos {l : List UInt8} {c : UInt8} {r : List UInt8} (he : l = c :: r) (hd : digB c = true) (h : c ≠ 48) : 1 ≤ valD 0 l := by
  subst he
  have h1 := valD_ge r (0 * 10 + (c.toNat - 48))
  simp only [digB, Bool.and_eq_true, decide_eq_true_eq] at hd
  have : c.toNat ≠ 48 := fun e => h (UInt8.toNat_inj.1 e)
  rw [valD_cons]; omega
theorem canon_dec {l : List UInt8} (h : canonB l = true) : Lib.decDigits (valD 0 l) = l := by
  induction hn : l.length using Nat.strongRecOn generalizing l with
  | _ n ih =>
    simp only [canonB, Bool.and_eq_true, decide_eq_true_eq, Bool.or_eq_true] at h
    obtain ⟨⟨h0, h1⟩, h2⟩ := h
    obtain ⟨m, c, rfl⟩ : ∃ m c, l = m ++ [c] := ⟨l.dropLast, l.getLast h0, (List.dropLast_concat_getLast h0).symm⟩
    rw [List.all_append, Bool.and_eq_true] at h1
    have hc : 48 ≤ c.toNat ∧ c.toNat ≤ 57 := by simpa [digB] using h1.2
    have hcc : UInt8.ofNat (48 + (c.toNat - 48)) = c := by apply UInt8.toNat_inj.1; simp; omega
    rw [valD_snoc]
    cases hm : m with
    | nil => rw [valD_nil, Lib.decDigits, dif_pos O]; simp [hcc]
    | cons x r =>
      have hx : (m ++ [c]).head? = some x := by rw [hm]; rfl
      have hx48 : x ≠ 48 := by
        rcases h2 with h2 | h2
        · rw [hm] at h2; simp at h2
        · intro e; exact h2 (by rw [hx, e])
      have hdx : digB x = true := by have := h1.1; rw [hm, List.all_cons, Bool.and_eq_true] at this; exact this.1
      have hp := valD_pos hm hdx hx48
      have hcm : canonB m = true := by
        simp only [canonB, Bool.and_eq_true, decide_eq_true_eq, Bool.or_eq_true]
        refine ⟨⟨by rw [hm]; simp, h1.1⟩, .inr ?_⟩
        rw [hm]; simpa using hx48
      have hd := ih m.length (by rw [← hn]; simp) hcm rfl
      rw [← hm]
      rw [Lib.decDigits, dif_neg O]
      rw [show (valD 0 m * 10 + (c.toNat - 48)) / 10 = valD 0 m by omega, hd, show (valD 0 m * 10 + (c.toNat - 48)) % 10 = c.toNat - 48 by omega, hcc]
theorem numL_dec {u : Nat} (h : u < 4294967296) : numL (Lib.decDigits u) = some u := by rw [numL, if_pos ⟨dec_canon u, by rw [dec_val]; exact h⟩, dec_val]
theorem numL_some {l : List UInt8} {u : Nat} (h : numL l = some u) : l = Lib.decDigits u ∧ u < 4294967296 := by
  unfold numL at h
  split at h
  · rename_i hh; injection h with h; subst h; exact ⟨(canon_dec hh.1).symm, hh.2⟩
  · cases h
theorem parse_num (l : List UInt8) (u : Nat) : (Lib.parseUintB 32 l = .ok u ∧ Lib.decDigits u = l) ↔ numL l = some u := by
  constructor
  · rintro ⟨h, rfl⟩
    exact numL_dec (by have := Lib.parseUintB_le h; omega)
  · intro h
    obtain ⟨rfl, hu⟩ := numL_some h
    refine ⟨?_, Z⟩
    rw [Lib.parseUintB, if_neg (dec_ne u)]
    have := parseM_of (M := 2 ^ 32 - 1) (acc := 0) (by decide) (dec_dig u) (by rw [dec_val]; omega)
    rw [dec_val] at this; exact this
theorem nDig_le (k u : Nat) (h : u < 10 ^ (k + 1)) : Lib.nDigits u ≤ k + 1 := by
  induction k generalizing u with
  | zero => rw [Lib.nDigits_small (by simpa using h)]; exact Nat.le_refl _
  | succ k ih =>
    by_cases h1 : u < 10
    · rw [Lib.nDigits_small h1]; omega
    · rw [Lib.nDigits_big h1]; have := ih (u / 10) (by rw [Nat.pow_succ] at h; omega); omega
theorem numL_len {l : List UInt8} {u : Nat} (h : numL l = some u) : l ≠ [] ∧ l.length ≤ 10 := by
  obtain ⟨rfl, hu⟩ := numL_some h
  refine ⟨dec_ne u, ?_⟩
  rw [Lib.decDigits_length]
  exact nDig_le 9 u O
theorem dec_len {u : Nat} (h : u < 4294967296) : 1 ≤ (Lib.decDigits u).length ∧ (Lib.decDigits u).length ≤ 10 := by
  rw [Lib.decDigits_length]
  exact ⟨Lib.nDigits_pos u, nDig_le 9 u O⟩
end Go.Proofs.YtiljephghfngnaaGreatDoor
namespace Go.Proofs.YtiljephghfngnaaGreatDoor
open Go Go.FL
abbrev Str := List UInt8
def isBlk (c : UInt8) : Bool := decide (c = 32) || decide (c = 10)
def bare1 (w : Str) : Prop := w ≠ [] ∧ ∀ c ∈ w, isBlk c = false
def valC (c : UInt8) : Int :=
  if 97 ≤ c.toNat ∧ c.toNat ≤ 122 then (c.toNat : Int) - 96 else if 65 ≤ c.toNat ∧ c.toNat ≤ 90 then (c.toNat : Int) - 38 else if 48 ≤ c.toNat ∧ c.toNat ≤ 57 then (c.toNat : Int) + 5
  else if c = 32 then 0 else if c = 46 then 63 else if c = 44 then 64 else if c = 59 then 65 else if c = 58 then 66 else -1
def okC (c : UInt8) : Bool := decide (0 ≤ valC c)
def okT (l : Str) : Bool := l.all okC
def checkB : Str := [67, 104, 101, 99, 107]
def decS (n : Int) : Str := Lib.decDigits n.toNat
def okW (w : Str) : Prop := bare1 w ∧ okT w = true ∧ w ≠ checkB
instance (w : Str) : Decidable (bare1 w) := by unfold bare1; infer_instance
instance (w : Str) : Decidable (okW w) := by unfold okW; infer_instance
end Go.Proofs.YtiljephghfngnaaGreatDoor
namespace Go.Proofs
open Go.Shelf
def Tryz.lays156_ren : Go.Shelf.Ren := ⟨fun | 156 => 46 | 165 => 75 | 166 => 73 | 169 => 48 | 240 => 102 | 241 => 104 | 276 => 130 | 277 => 135 | n => n, fun | 31 => 44 | 9 => 9 | 3 => 3 | 4 => 4 | 0 => 0 | 20 => 20 | 72 => 85 | 76 => 125 | 70 => 82 | 37 => 83 | 75 => 124 | 127 => 130 | 164 => 188 | 5 => 5 | 80 => 92 | n => n, fun | n => n⟩
theorem Tryz.lays156 : Go.Proofs.Lays.n156 Tryz.prog Tryz.lays156_ren := {
  mixed := by kernel_rfl
  f156 := Tryz.func46.trans (congrArg some V)
  f165 := Tryz.func75.trans (congrArg some V)
  f166 := Tryz.func73.trans (congrArg some V)
  f169 := Tryz.func48.trans (congrArg some V)
  f240 := Tryz.func102.trans (congrArg some V)
  f241 := Tryz.func104.trans (congrArg some V)
  f276 := Tryz.func130.trans (congrArg some V)
  f277 := Tryz.func135.trans (congrArg some V)
  t0 := Tryz.underlying0
  a0 := Tryz.isAgg0
  z0 := Tryz.sizeOf0
  v0 := Tryz.zeroValue0
  t3 := Tryz.underlying3
  a3 := Tryz.isAgg3
  z3 := Tryz.sizeOf3
  v3 := Tryz.zeroValue3
  t4 := Tryz.underlying4
  a4 := Tryz.isAgg4
  z4 := Tryz.sizeOf4
  v4 := Tryz.zeroValue4
  t9 := Tryz.underlying9
  a9 := Tryz.isAgg9
  z9 := Tryz.sizeOf9
  v9 := Tryz.zeroValue9
  t20 := Tryz.underlying20
  a20 := Tryz.isAgg20
  z20 := Tryz.sizeOf20
  v20 := Tryz.zeroValue20
  t31 := Tryz.underlying44
  a31 := Tryz.isAgg44
  z31 := Tryz.sizeOf44
  v31 := Tryz.zeroValue44
  t37 := Tryz.underlying83
  a37 := Tryz.isAgg83
  z37 := Tryz.sizeOf83
  v37 := Tryz.zeroValue83
  t70 := Tryz.underlying82
  a70 := Tryz.isAgg82
  z70 := Tryz.sizeOf82
  v70 := Tryz.zeroValue82
  t72 := Tryz.underlying85
  a72 := Tryz.isAgg85
  z72 := Tryz.sizeOf85
  v72 := Tryz.zeroValue85
  t75 := Tryz.underlying124
  a75 := Tryz.isAgg124
  z75 := Tryz.sizeOf124
  v75 := Tryz.zeroValue124
  t76 := Tryz.underlying125
  a76 := Tryz.isAgg125
  z76 := Tryz.sizeOf125
  v76 := Tryz.zeroValue125
  t127 := Tryz.underlying130
  a127 := Tryz.isAgg130
  z127 := Tryz.sizeOf130
  v127 := Tryz.zeroValue130
  t164 := Tryz.underlying188
  a164 := Tryz.isAgg188
  z164 := Tryz.sizeOf188
  v164 := Tryz.zeroValue188 }
theorem Tryz.Builder_Extra_156 : Builder.Extra Tryz.prog Tryz.lays156_ren := {
  sizeBuilder := by kernel_rfl
  liesBuilder := by kernel_rfl
  t5 := Tryz.underlying5
  a5 := Tryz.isAgg5
  z5 := Tryz.sizeOf5
  v5 := Tryz.zeroValue5
  infoByte := by kernel_rfl
  cellsByte := by kernel_rfl
  sizeByte := by kernel_rfl
  neB5 := by decide }
def Tryz.lays137_ren : Go.Shelf.Ren := ⟨fun | 137 => 89 | 217 => 118 | 266 => 146 | n => n, fun | 9 => 9 | 5 => 5 | 3 => 3 | n => n, fun | n => n⟩
theorem Tryz.lays137 : Go.Proofs.Lays.n137 Tryz.prog Tryz.lays137_ren := {
  mixed := by kernel_rfl
  f137 := Tryz.func89.trans (congrArg some V)
  f217 := Tryz.func118.trans (congrArg some V)
  f266 := Tryz.func146.trans (congrArg some V)
  t3 := Tryz.underlying3
  a3 := Tryz.isAgg3
  z3 := Tryz.sizeOf3
  v3 := Tryz.zeroValue3
  t5 := Tryz.underlying5
  a5 := Tryz.isAgg5
  z5 := Tryz.sizeOf5
  v5 := Tryz.zeroValue5
  t9 := Tryz.underlying9
  a9 := Tryz.isAgg9
  z9 := Tryz.sizeOf9
  v9 := Tryz.zeroValue9 }
def Tryz.lays283_ren : Go.Shelf.Ren := ⟨fun | 283 => 131 | n => n, fun | 3 => 3 | 9 => 9 | 4 => 4 | n => n, fun | n => n⟩
theorem Tryz.lays283 : Go.Proofs.Lays.n283 Tryz.prog Tryz.lays283_ren := {
  mixed := by kernel_rfl
  f283 := Tryz.func131.trans (congrArg some V)
  t3 := Tryz.underlying3
  a3 := Tryz.isAgg3
  z3 := Tryz.sizeOf3
  v3 := Tryz.zeroValue3
  t4 := Tryz.underlying4
  a4 := Tryz.isAgg4
  z4 := Tryz.sizeOf4
  v4 := Tryz.zeroValue4
  t9 := Tryz.underlying9
  a9 := Tryz.isAgg9
  z9 := Tryz.sizeOf9
  v9 := Tryz.zeroValue9 }
def Tryz.laysM284_ren : Go.Shelf.Ren := ⟨fun | 284 => 132 | 129 => 157 | 317 => 156 | 318 => 158 | n => n, fun | 53 => 128 | 3 => 3 | 212 => 216 | 0 => 0 | 4 => 4 | 46 => 184 | 5 => 5 | 9 => 9 | n => n, fun | 17 => 2 | n => n⟩
theorem Tryz.laysM284 : Go.Proofs.LaysM.n284 Tryz.prog Tryz.laysM284_ren := {
  mixed := by kernel_rfl
  f129 := Tryz.func157.trans (congrArg some V)
  f284 := Tryz.func132.trans (congrArg some V)
  f317 := Tryz.func156.trans (congrArg some V)
  f318 := Tryz.func158.trans (congrArg some V)
  t0 := Tryz.underlying0
  a0 := Tryz.isAgg0
  z0 := Tryz.sizeOf0
  v0 := Tryz.zeroValue0
  t3 := Tryz.underlying3
  a3 := Tryz.isAgg3
  z3 := Tryz.sizeOf3
  v3 := Tryz.zeroValue3
  t4 := Tryz.underlying4
  a4 := Tryz.isAgg4
  z4 := Tryz.sizeOf4
  v4 := Tryz.zeroValue4
  t5 := Tryz.underlying5
  a5 := Tryz.isAgg5
  z5 := Tryz.sizeOf5
  v5 := Tryz.zeroValue5
  t9 := Tryz.underlying9
  a9 := Tryz.isAgg9
  z9 := Tryz.sizeOf9
  v9 := Tryz.zeroValue9
  t46 := Tryz.underlying184
  a46 := Tryz.isAgg184
  z46 := Tryz.sizeOf184
  v46 := Tryz.zeroValue184
  t53 := Tryz.underlying128
  a53 := Tryz.isAgg128
  z53 := Tryz.sizeOf128
  v53 := Tryz.zeroValue128
  t212 := Tryz.underlying216
  a212 := Tryz.isAgg216
  z212 := Tryz.sizeOf216
  v212 := Tryz.zeroValue216
  g17 := by kernel_rfl
  i0 := by kernel_rfl
  i3 := by kernel_rfl
  i4 := by kernel_rfl
  i5 := by kernel_rfl
  i9 := by kernel_rfl
  i46 := by kernel_rfl
  i53 := by kernel_rfl
  i212 := by kernel_rfl
  m17 := by kernel_rfl }
def Tryz.lays285_ren : Go.Shelf.Ren := ⟨fun | 285 => 133 | n => n, fun | 37 => 83 | 53 => 128 | 3 => 3 | 4 => 4 | 51 => 40 | 9 => 9 | 5 => 5 | 0 => 0 | n => n, fun | n => n⟩
theorem Tryz.lays285 : Go.Proofs.Lays.n285 Tryz.prog Tryz.lays285_ren := {
  mixed := by kernel_rfl
  f285 := Tryz.func133.trans (congrArg some V)
  t0 := Tryz.underlying0
  a0 := Tryz.isAgg0
  z0 := Tryz.sizeOf0
  v0 := Tryz.zeroValue0
  t3 := Tryz.underlying3
  a3 := Tryz.isAgg3
  z3 := Tryz.sizeOf3
  v3 := Tryz.zeroValue3
  t4 := Tryz.underlying4
  a4 := Tryz.isAgg4
  z4 := Tryz.sizeOf4
  v4 := Tryz.zeroValue4
  t5 := Tryz.underlying5
  a5 := Tryz.isAgg5
  z5 := Tryz.sizeOf5
  v5 := Tryz.zeroValue5
  t9 := Tryz.underlying9
  a9 := Tryz.isAgg9
  z9 := Tryz.sizeOf9
  v9 := Tryz.zeroValue9
  t37 := Tryz.underlying83
  a37 := Tryz.isAgg83
  z37 := Tryz.sizeOf83
  v37 := Tryz.zeroValue83
  t51 := Tryz.underlying40
  a51 := Tryz.isAgg40
  z51 := Tryz.sizeOf40
  v51 := Tryz.zeroValue40
  t53 := Tryz.underlying128
  a53 := Tryz.isAgg128
  z53 := Tryz.sizeOf128
  v53 := Tryz.zeroValue128 }
def Tryz.laysPu14_ren : Go.Shelf.Ren := ⟨fun | 14 => 87 | 16 => 115 | 17 => 116 | 19 => 140 | 20 => 141 | 21 => 142 | 22 => 143 | 23 => 144 | 24 => 145 | 25 => 162 | 27 => 164 | 26 => 163 | 28 => 172 | 29 => 174 | 30 => 131 | 31 => 132 | 32 => 133 | 33 => 134 | 35 => 157 | 34 => 156 | 36 => 158 | 37 => 159 | 38 => 160 | 39 => 170 | 40 => 171 | n => n, fun | 9 => 9 | 3 => 3 | 22 => 128 | 24 => 124 | 25 => 143 | 4 => 4 | 34 => 198 | 5 => 5 | 36 => 184 | 37 => 83 | 0 => 0 | 39 => 200 | 21 => 21 | 44 => 222 | 47 => 130 | 50 => 229 | 48 => 227 | 2 => 2 | 52 => 190 | 55 => 193 | 59 => 216 | 60 => 40 | 20 => 20 | 61 => 217 | 65 => 230 | 66 => 231 | 67 => 92 | n => n, fun | 0 => 4 | 1 => 5 | 2 => 2 | 3 => 6 | 4 => 7 | n => n⟩
theorem Tryz.laysPu14 : Go.Proofs.LaysPu.n14 Tryz.prog Tryz.laysPu14_ren := {
  mixed := by kernel_rfl
  f14 := Tryz.func87.trans (congrArg some V)
  f16 := Tryz.func115.trans (congrArg some V)
  f17 := Tryz.func116.trans (congrArg some V)
  f19 := Tryz.func140.trans (congrArg some V)
  f20 := Tryz.func141.trans (congrArg some V)
  f21 := Tryz.func142.trans (congrArg some V)
  f22 := Tryz.func143.trans (congrArg some V)
  f23 := Tryz.func144.trans (congrArg some V)
  f24 := Tryz.func145.trans (congrArg some V)
  f25 := Tryz.func162.trans (congrArg some V)
  f26 := Tryz.func163.trans (congrArg some V)
  f27 := Tryz.func164.trans (congrArg some V)
  f28 := Tryz.func172.trans (congrArg some V)
  f29 := Tryz.func174.trans (congrArg some V)
  f30 := Tryz.func131.trans (congrArg some V)
  f31 := Tryz.func132.trans (congrArg some V)
  f32 := Tryz.func133.trans (congrArg some V)
  f33 := Tryz.func134.trans (congrArg some V)
  f34 := Tryz.func156.trans (congrArg some V)
  f35 := Tryz.func157.trans (congrArg some V)
  f36 := Tryz.func158.trans (congrArg some V)
  f37 := Tryz.func159.trans (congrArg some V)
  f38 := Tryz.func160.trans (congrArg some V)
  f39 := Tryz.func170.trans (congrArg some V)
  f40 := Tryz.func171.trans (congrArg some V)
  t0 := Tryz.underlying0
  a0 := Tryz.isAgg0
  z0 := Tryz.sizeOf0
  v0 := Tryz.zeroValue0
  i0 := by kernel_rfl
  t2 := Tryz.underlying2
  a2 := Tryz.isAgg2
  z2 := Tryz.sizeOf2
  v2 := Tryz.zeroValue2
  i2 := by kernel_rfl
  t3 := Tryz.underlying3
  a3 := Tryz.isAgg3
  z3 := Tryz.sizeOf3
  v3 := Tryz.zeroValue3
  i3 := by kernel_rfl
  t4 := Tryz.underlying4
  a4 := Tryz.isAgg4
  z4 := Tryz.sizeOf4
  v4 := Tryz.zeroValue4
  i4 := by kernel_rfl
  t5 := Tryz.underlying5
  a5 := Tryz.isAgg5
  z5 := Tryz.sizeOf5
  v5 := Tryz.zeroValue5
  i5 := by kernel_rfl
  t9 := Tryz.underlying9
  a9 := Tryz.isAgg9
  z9 := Tryz.sizeOf9
  v9 := Tryz.zeroValue9
  i9 := by kernel_rfl
  t20 := Tryz.underlying20
  a20 := Tryz.isAgg20
  z20 := Tryz.sizeOf20
  v20 := Tryz.zeroValue20
  i20 := by kernel_rfl
  t21 := Tryz.underlying21
  a21 := Tryz.isAgg21
  z21 := Tryz.sizeOf21
  v21 := Tryz.zeroValue21
  i21 := by kernel_rfl
  t22 := Tryz.underlying128
  a22 := Tryz.isAgg128
  z22 := Tryz.sizeOf128
  v22 := Tryz.zeroValue128
  i22 := by kernel_rfl
  t24 := Tryz.underlying124
  a24 := Tryz.isAgg124
  z24 := Tryz.sizeOf124
  v24 := Tryz.zeroValue124
  i24 := by kernel_rfl
  t25 := Tryz.underlying143
  a25 := Tryz.isAgg143
  z25 := Tryz.sizeOf143
  v25 := Tryz.zeroValue143
  i25 := by kernel_rfl
  t34 := Tryz.underlying198
  a34 := Tryz.isAgg198
  z34 := Tryz.sizeOf198
  v34 := Tryz.zeroValue198
  i34 := by kernel_rfl
  c34 := by kernel_rfl
  t36 := Tryz.underlying184
  a36 := Tryz.isAgg184
  z36 := Tryz.sizeOf184
  v36 := Tryz.zeroValue184
  i36 := by kernel_rfl
  t37 := Tryz.underlying83
  a37 := Tryz.isAgg83
  z37 := Tryz.sizeOf83
  v37 := Tryz.zeroValue83
  i37 := by kernel_rfl
  t39 := Tryz.underlying200
  a39 := Tryz.isAgg200
  z39 := Tryz.sizeOf200
  v39 := Tryz.zeroValue200
  i39 := by kernel_rfl
  t44 := Tryz.underlying222
  a44 := Tryz.isAgg222
  z44 := Tryz.sizeOf222
  v44 := Tryz.zeroValue222
  i44 := by kernel_rfl
  t47 := Tryz.underlying130
  a47 := Tryz.isAgg130
  z47 := Tryz.sizeOf130
  v47 := Tryz.zeroValue130
  i47 := by kernel_rfl
  t48 := Tryz.underlying227
  a48 := Tryz.isAgg227
  z48 := Tryz.sizeOf227
  v48 := Tryz.zeroValue227
  i48 := by kernel_rfl
  t50 := Tryz.underlying229
  a50 := Tryz.isAgg229
  z50 := Tryz.sizeOf229
  v50 := Tryz.zeroValue229
  i50 := by kernel_rfl
  t52 := Tryz.underlying190
  a52 := Tryz.isAgg190
  z52 := Tryz.sizeOf190
  v52 := Tryz.zeroValue190
  i52 := by kernel_rfl
  t55 := Tryz.underlying193
  a55 := Tryz.isAgg193
  z55 := Tryz.sizeOf193
  v55 := Tryz.zeroValue193
  i55 := by kernel_rfl
  t59 := Tryz.underlying216
  a59 := Tryz.isAgg216
  z59 := Tryz.sizeOf216
  v59 := Tryz.zeroValue216
  i59 := by kernel_rfl
  t60 := Tryz.underlying40
  a60 := Tryz.isAgg40
  z60 := Tryz.sizeOf40
  v60 := Tryz.zeroValue40
  i60 := by kernel_rfl
  t61 := Tryz.underlying217
  a61 := Tryz.isAgg217
  z61 := Tryz.sizeOf217
  t65 := Tryz.underlying230
  a65 := Tryz.isAgg230
  z65 := Tryz.sizeOf230
  v65 := Tryz.zeroValue230
  i65 := by kernel_rfl
  t66 := Tryz.underlying231
  a66 := Tryz.isAgg231
  z66 := Tryz.sizeOf231
  v66 := Tryz.zeroValue231
  i66 := by kernel_rfl
  t67 := Tryz.underlying92
  a67 := Tryz.isAgg92
  z67 := Tryz.sizeOf92
  v67 := Tryz.zeroValue92
  i67 := by kernel_rfl
  g0 := by kernel_rfl
  m0 := by kernel_rfl
  g1 := by kernel_rfl
  m1 := by kernel_rfl
  g2 := by kernel_rfl
  m2 := by kernel_rfl
  g3 := by kernel_rfl
  m3 := by kernel_rfl
  g4 := by kernel_rfl
  m4 := by kernel_rfl }
def Tryz.laysGw17_ren : Go.Shelf.Ren := ⟨fun | 17 => 109 | 15 => 139 | 20 => 161 | n => n, fun | 9 => 9 | 23 => 121 | 4 => 4 | 3 => 3 | 0 => 0 | 21 => 21 | n => n, fun | n => n⟩
theorem Tryz.laysGw17 : Go.Proofs.LaysGw.n17 Tryz.prog Tryz.laysGw17_ren := {
  mixed := by kernel_rfl
  f15 := Tryz.func139.trans (congrArg some V)
  f17 := Tryz.func109.trans (congrArg some V)
  f20 := Tryz.func161.trans (congrArg some V)
  t0 := Tryz.underlying0
  a0 := Tryz.isAgg0
  z0 := Tryz.sizeOf0
  v0 := Tryz.zeroValue0
  i0 := by kernel_rfl
  t3 := Tryz.underlying3
  a3 := Tryz.isAgg3
  z3 := Tryz.sizeOf3
  v3 := Tryz.zeroValue3
  i3 := by kernel_rfl
  t4 := Tryz.underlying4
  a4 := Tryz.isAgg4
  z4 := Tryz.sizeOf4
  v4 := Tryz.zeroValue4
  i4 := by kernel_rfl
  t9 := Tryz.underlying9
  a9 := Tryz.isAgg9
  z9 := Tryz.sizeOf9
  v9 := Tryz.zeroValue9
  i9 := by kernel_rfl
  t21 := Tryz.underlying21
  a21 := Tryz.isAgg21
  z21 := Tryz.sizeOf21
  v21 := Tryz.zeroValue21
  i21 := by kernel_rfl
  t23 := Tryz.underlying121
  a23 := Tryz.isAgg121
  z23 := Tryz.sizeOf121
  v23 := Tryz.zeroValue121
  i23 := by kernel_rfl }
def Tryz.lays206_ren : Go.Shelf.Ren := ⟨fun | 206 => 117 | n => n, fun | 9 => 9 | 4 => 4 | 3 => 3 | n => n, fun | n => n⟩
def Tryz.lays99_ren : Go.Shelf.Ren := ⟨fun | 99 => 88 | 206 => 117 | n => n, fun | 9 => 9 | 4 => 4 | 3 => 3 | n => n, fun | n => n⟩
theorem Tryz.lays99 : Go.Proofs.Lays.n99 Tryz.prog Tryz.lays99_ren := {
  mixed := by kernel_rfl
  f99 := Tryz.func88.trans (congrArg some V)
  f206 := Tryz.func117.trans (congrArg some V)
  t3 := Tryz.underlying3
  a3 := Tryz.isAgg3
  z3 := Tryz.sizeOf3
  v3 := Tryz.zeroValue3
  t4 := Tryz.underlying4
  a4 := Tryz.isAgg4
  z4 := Tryz.sizeOf4
  v4 := Tryz.zeroValue4
  t9 := Tryz.underlying9
  a9 := Tryz.isAgg9
  z9 := Tryz.sizeOf9
  v9 := Tryz.zeroValue9 }
def Tryz.lays157_ren : Go.Shelf.Ren := ⟨fun | 157 => 41 | 229 => 70 | 199 => 71 | 261 => 100 | 311 => 126 | 312 => 127 | n => n, fun | 9 => 9 | 31 => 44 | 3 => 3 | 5 => 5 | 4 => 4 | 119 => 119 | 0 => 0 | 40 => 121 | 152 => 152 | 21 => 21 | 154 => 154 | 51 => 40 | 141 => 156 | 196 => 176 | 193 => 173 | 198 => 179 | 49 => 177 | 194 => 174 | 201 => 182 | 226 => 209 | 46 => 184 | 227 => 210 | n => n, fun | 0 => 0 | 6 => 1 | n => n⟩
theorem Tryz.lays157 : Go.Proofs.Lays.n157 Tryz.prog Tryz.lays157_ren := {
  mixed := by kernel_rfl
  f157 := Tryz.func41.trans (congrArg some V)
  f199 := Tryz.func71.trans (congrArg some V)
  f229 := Tryz.func70.trans (congrArg some V)
  f261 := Tryz.func100.trans (congrArg some V)
  f311 := Tryz.func126.trans (congrArg some V)
  f312 := Tryz.func127.trans (congrArg some V)
  t0 := Tryz.underlying0
  a0 := Tryz.isAgg0
  z0 := Tryz.sizeOf0
  v0 := Tryz.zeroValue0
  t3 := Tryz.underlying3
  a3 := Tryz.isAgg3
  z3 := Tryz.sizeOf3
  v3 := Tryz.zeroValue3
  t4 := Tryz.underlying4
  a4 := Tryz.isAgg4
  z4 := Tryz.sizeOf4
  v4 := Tryz.zeroValue4
  t5 := Tryz.underlying5
  a5 := Tryz.isAgg5
  z5 := Tryz.sizeOf5
  v5 := Tryz.zeroValue5
  t9 := Tryz.underlying9
  a9 := Tryz.isAgg9
  z9 := Tryz.sizeOf9
  v9 := Tryz.zeroValue9
  t21 := Tryz.underlying21
  a21 := Tryz.isAgg21
  z21 := Tryz.sizeOf21
  v21 := Tryz.zeroValue21
  t31 := Tryz.underlying44
  a31 := Tryz.isAgg44
  z31 := Tryz.sizeOf44
  v31 := Tryz.zeroValue44
  t40 := Tryz.underlying121
  a40 := Tryz.isAgg121
  z40 := Tryz.sizeOf121
  v40 := Tryz.zeroValue121
  t46 := Tryz.underlying184
  a46 := Tryz.isAgg184
  z46 := Tryz.sizeOf184
  v46 := Tryz.zeroValue184
  t49 := Tryz.underlying177
  a49 := Tryz.isAgg177
  z49 := Tryz.sizeOf177
  v49 := Tryz.zeroValue177
  t51 := Tryz.underlying40
  a51 := Tryz.isAgg40
  z51 := Tryz.sizeOf40
  v51 := Tryz.zeroValue40
  t119 := Tryz.underlying119
  a119 := Tryz.isAgg119
  z119 := Tryz.sizeOf119
  t141 := Tryz.underlying156
  a141 := Tryz.isAgg156
  z141 := Tryz.sizeOf156
  v141 := Tryz.zeroValue156
  t152 := Tryz.underlying152
  a152 := Tryz.isAgg152
  z152 := Tryz.sizeOf152
  v152 := Tryz.zeroValue152
  t154 := Tryz.underlying154
  a154 := Tryz.isAgg154
  z154 := Tryz.sizeOf154
  v154 := Tryz.zeroValue154
  t193 := Tryz.underlying173
  a193 := Tryz.isAgg173
  z193 := Tryz.sizeOf173
  v193 := Tryz.zeroValue173
  t194 := Tryz.underlying174
  a194 := Tryz.isAgg174
  z194 := Tryz.sizeOf174
  v194 := Tryz.zeroValue174
  t196 := Tryz.underlying176
  a196 := Tryz.isAgg176
  z196 := Tryz.sizeOf176
  v196 := Tryz.zeroValue176
  t198 := Tryz.underlying179
  a198 := Tryz.isAgg179
  z198 := Tryz.sizeOf179
  v198 := Tryz.zeroValue179
  t201 := Tryz.underlying182
  a201 := Tryz.isAgg182
  z201 := Tryz.sizeOf182
  v201 := Tryz.zeroValue182
  t226 := Tryz.underlying209
  a226 := Tryz.isAgg209
  z226 := Tryz.sizeOf209
  v226 := Tryz.zeroValue209
  t227 := Tryz.underlying210
  a227 := Tryz.isAgg210
  z227 := Tryz.sizeOf210
  v227 := Tryz.zeroValue210
  g0 := by kernel_rfl
  g6 := by kernel_rfl }
def Tryz.lays105_ren : Go.Shelf.Ren := ⟨fun | 105 => 101 | 212 => 128 | 99 => 88 | 165 => 75 | 166 => 73 | 170 => 129 | 169 => 48 | 263 => 154 | 264 => 155 | 206 => 117 | 240 => 102 | 241 => 104 | 276 => 130 | 277 => 135 | n => n, fun | 9 => 9 | 3 => 3 | 4 => 4 | 20 => 20 | 0 => 0 | 46 => 184 | 109 => 185 | 5 => 5 | 72 => 85 | 76 => 125 | 51 => 40 | 146 => 211 | 53 => 128 | 148 => 213 | 70 => 82 | 37 => 83 | 75 => 124 | 127 => 130 | 164 => 188 | 80 => 92 | n => n, fun | n => n⟩
theorem Tryz.lays105 : Go.Proofs.Lays.n105 Tryz.prog Tryz.lays105_ren := {
  mixed := by kernel_rfl
  f99 := Tryz.func88.trans (congrArg some V)
  f105 := Tryz.func101.trans (congrArg some V)
  f165 := Tryz.func75.trans (congrArg some V)
  f166 := Tryz.func73.trans (congrArg some V)
  f169 := Tryz.func48.trans (congrArg some V)
  f170 := Tryz.func129.trans (congrArg some V)
  f206 := Tryz.func117.trans (congrArg some V)
  f212 := Tryz.func128.trans (congrArg some V)
  f240 := Tryz.func102.trans (congrArg some V)
  f241 := Tryz.func104.trans (congrArg some V)
  f263 := Tryz.func154.trans (congrArg some V)
  f264 := Tryz.func155.trans (congrArg some V)
  f276 := Tryz.func130.trans (congrArg some V)
  f277 := Tryz.func135.trans (congrArg some V)
  t0 := Tryz.underlying0
  a0 := Tryz.isAgg0
  z0 := Tryz.sizeOf0
  v0 := Tryz.zeroValue0
  t3 := Tryz.underlying3
  a3 := Tryz.isAgg3
  z3 := Tryz.sizeOf3
  v3 := Tryz.zeroValue3
  t4 := Tryz.underlying4
  a4 := Tryz.isAgg4
  z4 := Tryz.sizeOf4
  v4 := Tryz.zeroValue4
  t5 := Tryz.underlying5
  a5 := Tryz.isAgg5
  z5 := Tryz.sizeOf5
  v5 := Tryz.zeroValue5
  t9 := Tryz.underlying9
  a9 := Tryz.isAgg9
  z9 := Tryz.sizeOf9
  v9 := Tryz.zeroValue9
  t20 := Tryz.underlying20
  a20 := Tryz.isAgg20
  z20 := Tryz.sizeOf20
  v20 := Tryz.zeroValue20
  t37 := Tryz.underlying83
  a37 := Tryz.isAgg83
  z37 := Tryz.sizeOf83
  v37 := Tryz.zeroValue83
  t46 := Tryz.underlying184
  a46 := Tryz.isAgg184
  z46 := Tryz.sizeOf184
  v46 := Tryz.zeroValue184
  t51 := Tryz.underlying40
  a51 := Tryz.isAgg40
  z51 := Tryz.sizeOf40
  v51 := Tryz.zeroValue40
  t53 := Tryz.underlying128
  a53 := Tryz.isAgg128
  z53 := Tryz.sizeOf128
  v53 := Tryz.zeroValue128
  t70 := Tryz.underlying82
  a70 := Tryz.isAgg82
  z70 := Tryz.sizeOf82
  v70 := Tryz.zeroValue82
  t72 := Tryz.underlying85
  a72 := Tryz.isAgg85
  z72 := Tryz.sizeOf85
  v72 := Tryz.zeroValue85
  t75 := Tryz.underlying124
  a75 := Tryz.isAgg124
  z75 := Tryz.sizeOf124
  v75 := Tryz.zeroValue124
  t76 := Tryz.underlying125
  a76 := Tryz.isAgg125
  z76 := Tryz.sizeOf125
  v76 := Tryz.zeroValue125
  t109 := Tryz.underlying185
  a109 := Tryz.isAgg185
  z109 := Tryz.sizeOf185
  v109 := Tryz.zeroValue185
  t127 := Tryz.underlying130
  a127 := Tryz.isAgg130
  z127 := Tryz.sizeOf130
  v127 := Tryz.zeroValue130
  t146 := Tryz.underlying211
  a146 := Tryz.isAgg211
  z146 := Tryz.sizeOf211
  v146 := Tryz.zeroValue211
  t148 := Tryz.underlying213
  a148 := Tryz.isAgg213
  z148 := Tryz.sizeOf213
  v148 := Tryz.zeroValue213
  t164 := Tryz.underlying188
  a164 := Tryz.isAgg188
  z164 := Tryz.sizeOf188
  v164 := Tryz.zeroValue188 }
theorem Tryz.Builder_Extra_105 : Builder.Extra Tryz.prog Tryz.lays105_ren := {
  sizeBuilder := by kernel_rfl
  liesBuilder := by kernel_rfl
  t5 := Tryz.underlying5
  a5 := Tryz.isAgg5
  z5 := Tryz.sizeOf5
  v5 := Tryz.zeroValue5
  infoByte := by kernel_rfl
  cellsByte := by kernel_rfl
  sizeByte := by kernel_rfl
  neB5 := by decide }
end Go.Proofs
namespace Go.FL
open Go Go.Proofs
theorem TabOK.nil {P : Program} : TabOK P [] := fun _ h => by cases h
theorem TabOK.cons {P : Program} {x : Nat × TI} {r : TyTab} (h : x.2.ok P x.1) (k : TabOK P r) : TabOK P (x :: r) := fun y hy => by
  rcases List.mem_cons.1 hy with rfl | hy
  · exact h
  · exact k y hy
def ti2 : TI := { kind := .sc, desc := .int .i64, size := 1, bytes := 8, zeros := [.int .i64 0] }
theorem ti2_ok : ti2.ok Tryz.prog 2 := ⟨Tryz.underlying2, trivial, by kernel_rfl, rfl, rfl, by decide, fun _ => rfl, by kernel_rfl, by kernel_rfl⟩
def ti3 : TI := { kind := .sc, desc := .int .i64, size := 1, bytes := 8, zeros := [.int .i64 0] }
theorem ti3_ok : ti3.ok Tryz.prog 3 := ⟨Tryz.underlying3, trivial, by kernel_rfl, rfl, rfl, by decide, fun _ => rfl, by kernel_rfl, by kernel_rfl⟩
def ti4 : TI := { kind := .sc, desc := .bool, size := 1, bytes := 1, zeros := [.bool false] }
theorem ti4_ok : ti4.ok Tryz.prog 4 := ⟨Tryz.underlying4, trivial, by kernel_rfl, rfl, rfl, by decide, fun _ => rfl, by kernel_rfl, by kernel_rfl⟩
def ti5 : TI := { kind := .sc, desc := .int .u8, size := 1, bytes := 1, zeros := [.int .u8 0] }
theorem ti5_ok : ti5.ok Tryz.prog 5 := ⟨Tryz.underlying5, trivial, by kernel_rfl, rfl, rfl, by decide, fun _ => rfl, by kernel_rfl, by kernel_rfl⟩
def ti6 : TI := { kind := .sc, desc := .int .u8, size := 1, bytes := 1, zeros := [.int .u8 0] }
theorem ti6_ok : ti6.ok Tryz.prog 6 := ⟨Tryz.underlying6, trivial, by kernel_rfl, rfl, rfl, by decide, fun _ => rfl, by kernel_rfl, by kernel_rfl⟩
def ti7 : TI := { kind := .st [0, 1, 2, 3], desc := .struct #[{ name := "x", type := 2, offset := 0, embedded := false, tag := "", pkgPath := "runtime", byteOffset := 0 }, { name := "y", type := 3, offset := 1, embedded := false, tag := "", pkgPath := "runtime", byteOffset := 8 }, { name := "signed", type := 4, offset := 2, embedded := false, tag := "", pkgPath := "runtime", byteOffset := 16 }, { name := "code", type := 6, offset := 3, embedded := false, tag := "", pkgPath := "runtime", byteOffset := 17 }], size := 4, bytes := 24, zeros := [.int .i64 0, .int .i64 0, .bool false, .int .u8 0], fsz := [1, 1, 1, 1] }
theorem ti7_ok : ti7.ok Tryz.prog 7 := ⟨Tryz.underlying7, rfl, by kernel_rfl, rfl, rfl, by decide, (fun h => by cases h), by kernel_rfl, by kernel_rfl⟩
def ti8 : TI := { kind := .st [0, 1, 2, 3], desc := .struct #[{ name := "x", type := 2, offset := 0, embedded := false, tag := "", pkgPath := "runtime", byteOffset := 0 }, { name := "y", type := 3, offset := 1, embedded := false, tag := "", pkgPath := "runtime", byteOffset := 8 }, { name := "signed", type := 4, offset := 2, embedded := false, tag := "", pkgPath := "runtime", byteOffset := 16 }, { name := "code", type := 6, offset := 3, embedded := false, tag := "", pkgPath := "runtime", byteOffset := 17 }], size := 4, bytes := 24, zeros := [.int .i64 0, .int .i64 0, .bool false, .int .u8 0], fsz := [1, 1, 1, 1] }
theorem ti8_ok : ti8.ok Tryz.prog 8 := ⟨Tryz.underlying8, rfl, by kernel_rfl, rfl, rfl, by decide, (fun h => by cases h), by kernel_rfl, by kernel_rfl⟩
def ti9 : TI := { kind := .sc, desc := .string, size := 1, bytes := 16, zeros := [St []] }
theorem ti9_ok : ti9.ok Tryz.prog 9 := ⟨Tryz.underlying9, trivial, by kernel_rfl, rfl, rfl, by decide, fun _ => rfl, by kernel_rfl, by kernel_rfl⟩
def ti10 : TI := { kind := .sc, desc := .string, size := 1, bytes := 16, zeros := [St []] }
theorem ti10_ok : ti10.ok Tryz.prog 10 := ⟨Tryz.underlying10, trivial, by kernel_rfl, rfl, rfl, by decide, fun _ => rfl, by kernel_rfl, by kernel_rfl⟩
def ti11 : TI := { kind := .sc, desc := .string, size := 1, bytes := 16, zeros := [St []] }
theorem ti11_ok : ti11.ok Tryz.prog 11 := ⟨Tryz.underlying11, trivial, by kernel_rfl, rfl, rfl, by decide, fun _ => rfl, by kernel_rfl, by kernel_rfl⟩
def ti12 : TI := { kind := .sc, desc := .int .u64, size := 1, bytes := 8, zeros := [.int .u64 0] }
theorem ti12_ok : ti12.ok Tryz.prog 12 := ⟨Tryz.underlying12, trivial, by kernel_rfl, rfl, rfl, by decide, fun _ => rfl, by kernel_rfl, by kernel_rfl⟩
def ti13 : TI := { kind := .st [0, 1], desc := .struct #[{ name := "msg", type := 9, offset := 0, embedded := false, tag := "", pkgPath := "runtime", byteOffset := 0 }, { name := "addr", type := 12, offset := 1, embedded := false, tag := "", pkgPath := "runtime", byteOffset := 16 }], size := 2, bytes := 24, zeros := [St [], .int .u64 0], fsz := [1, 1] }
theorem ti13_ok : ti13.ok Tryz.prog 13 := ⟨Tryz.underlying13, rfl, by kernel_rfl, rfl, rfl, by decide, (fun h => by cases h), by kernel_rfl, by kernel_rfl⟩
def ti14 : TI := { kind := .st [0, 1], desc := .struct #[{ name := "msg", type := 9, offset := 0, embedded := false, tag := "", pkgPath := "runtime", byteOffset := 0 }, { name := "addr", type := 12, offset := 1, embedded := false, tag := "", pkgPath := "runtime", byteOffset := 16 }], size := 2, bytes := 24, zeros := [St [], .int .u64 0], fsz := [1, 1] }
theorem ti14_ok : ti14.ok Tryz.prog 14 := ⟨Tryz.underlying14, rfl, by kernel_rfl, rfl, rfl, by decide, (fun h => by cases h), by kernel_rfl, by kernel_rfl⟩
def ti15 : TI := { kind := .sc, desc := .pointer 234, size := 1, bytes := 8, zeros := [.pointer none] }
theorem ti15_ok : ti15.ok Tryz.prog 15 := ⟨Tryz.underlying15, trivial, by kernel_rfl, rfl, rfl, by decide, fun _ => rfl, by kernel_rfl, by kernel_rfl⟩
def ti16 : TI := { kind := .sc, desc := .pointer 237, size := 1, bytes := 8, zeros := [.pointer none] }
theorem ti16_ok : ti16.ok Tryz.prog 16 := ⟨Tryz.underlying16, trivial, by kernel_rfl, rfl, rfl, by decide, fun _ => rfl, by kernel_rfl, by kernel_rfl⟩
def ti17 : TI := { kind := .sc, desc := .pointer 244, size := 1, bytes := 8, zeros := [.pointer none] }
theorem ti17_ok : ti17.ok Tryz.prog 17 := ⟨Tryz.underlying17, trivial, by kernel_rfl, rfl, rfl, by decide, fun _ => rfl, by kernel_rfl, by kernel_rfl⟩
def ti18 : TI := { kind := .st [0], desc := .struct #[{ name := "typ", type := 17, offset := 0, embedded := false, tag := "", pkgPath := "internal/runtime/maps", byteOffset := 0 }], size := 1, bytes := 8, zeros := [.pointer none], fsz := [1] }
theorem ti18_ok : ti18.ok Tryz.prog 18 := ⟨Tryz.underlying18, rfl, by kernel_rfl, rfl, rfl, by decide, (fun h => by cases h), by kernel_rfl, by kernel_rfl⟩
def ti19 : TI := { kind := .st [0], desc := .struct #[{ name := "typ", type := 17, offset := 0, embedded := false, tag := "", pkgPath := "internal/runtime/maps", byteOffset := 0 }], size := 1, bytes := 8, zeros := [.pointer none], fsz := [1] }
theorem ti19_ok : ti19.ok Tryz.prog 19 := ⟨Tryz.underlying19, rfl, by kernel_rfl, rfl, rfl, by decide, (fun h => by cases h), by kernel_rfl, by kernel_rfl⟩
def ti21 : TI := { kind := .sc, desc := .int .i32, size := 1, bytes := 4, zeros := [.int .i32 0] }
theorem ti21_ok : ti21.ok Tryz.prog 21 := ⟨Tryz.underlying21, trivial, by kernel_rfl, rfl, rfl, by decide, fun _ => rfl, by kernel_rfl, by kernel_rfl⟩
def ti22 : TI := { kind := .sl 52, desc := .slice 52, size := 1, bytes := 24, zeros := [.slice none 0 0] }
theorem ti22_ok : ti22.ok Tryz.prog 22 := ⟨Tryz.underlying22, rfl, by kernel_rfl, rfl, rfl, by decide, fun _ => rfl, by kernel_rfl, by kernel_rfl⟩
def ti23 : TI := { kind := .sl 56, desc := .slice 56, size := 1, bytes := 24, zeros := [.slice none 0 0] }
theorem ti23_ok : ti23.ok Tryz.prog 23 := ⟨Tryz.underlying23, rfl, by kernel_rfl, rfl, rfl, by decide, fun _ => rfl, by kernel_rfl, by kernel_rfl⟩
def ti24 : TI := { kind := .st [0, 1], desc := .struct #[{ name := "Globals", type := 22, offset := 0, embedded := false, tag := "", pkgPath := "", byteOffset := 0 }, { name := "Functions", type := 23, offset := 1, embedded := false, tag := "", pkgPath := "", byteOffset := 24 }], size := 2, bytes := 48, zeros := [.slice none 0 0, .slice none 0 0], fsz := [1, 1] }
theorem ti24_ok : ti24.ok Tryz.prog 24 := ⟨Tryz.underlying24, rfl, by kernel_rfl, rfl, rfl, by decide, (fun h => by cases h), by kernel_rfl, by kernel_rfl⟩
def ti25 : TI := { kind := .st [0, 1], desc := .struct #[{ name := "Globals", type := 22, offset := 0, embedded := false, tag := "", pkgPath := "", byteOffset := 0 }, { name := "Functions", type := 23, offset := 1, embedded := false, tag := "", pkgPath := "", byteOffset := 24 }], size := 2, bytes := 48, zeros := [.slice none 0 0, .slice none 0 0], fsz := [1, 1] }
theorem ti25_ok : ti25.ok Tryz.prog 25 := ⟨Tryz.underlying25, rfl, by kernel_rfl, rfl, rfl, by decide, (fun h => by cases h), by kernel_rfl, by kernel_rfl⟩
def ti26 : TI := { kind := .st [0, 1], desc := .struct #[{ name := "Code", type := 3, offset := 0, embedded := false, tag := "", pkgPath := "", byteOffset := 0 }, { name := "Index", type := 3, offset := 1, embedded := false, tag := "", pkgPath := "", byteOffset := 8 }], size := 2, bytes := 16, zeros := [.int .i64 0, .int .i64 0], fsz := [1, 1] }
theorem ti26_ok : ti26.ok Tryz.prog 26 := ⟨Tryz.underlying26, rfl, by kernel_rfl, rfl, rfl, by decide, (fun h => by cases h), by kernel_rfl, by kernel_rfl⟩
def ti27 : TI := { kind := .st [0, 1], desc := .struct #[{ name := "Code", type := 3, offset := 0, embedded := false, tag := "", pkgPath := "", byteOffset := 0 }, { name := "Index", type := 3, offset := 1, embedded := false, tag := "", pkgPath := "", byteOffset := 8 }], size := 2, bytes := 16, zeros := [.int .i64 0, .int .i64 0], fsz := [1, 1] }
theorem ti27_ok : ti27.ok Tryz.prog 27 := ⟨Tryz.underlying27, rfl, by kernel_rfl, rfl, rfl, by decide, (fun h => by cases h), by kernel_rfl, by kernel_rfl⟩
def ti37 : TI := { kind := .sl 42, desc := .slice 42, size := 1, bytes := 24, zeros := [.slice none 0 0] }
theorem ti37_ok : ti37.ok Tryz.prog 37 := ⟨Tryz.underlying37, rfl, by kernel_rfl, rfl, rfl, by decide, fun _ => rfl, by kernel_rfl, by kernel_rfl⟩
def ti40 : TI := { kind := .sc, desc := .int .u32, size := 1, bytes := 4, zeros := [.int .u32 0] }
theorem ti40_ok : ti40.ok Tryz.prog 40 := ⟨Tryz.underlying40, trivial, by kernel_rfl, rfl, rfl, by decide, fun _ => rfl, by kernel_rfl, by kernel_rfl⟩
def ti41 : TI := { kind := .st [0, 1, 2, 3], desc := .struct #[{ name := "Kind", type := 3, offset := 0, embedded := false, tag := "", pkgPath := "", byteOffset := 0 }, { name := "At", type := 3, offset := 1, embedded := false, tag := "", pkgPath := "", byteOffset := 8 }, { name := "Text", type := 9, offset := 2, embedded := false, tag := "", pkgPath := "", byteOffset := 16 }, { name := "Number", type := 40, offset := 3, embedded := false, tag := "", pkgPath := "", byteOffset := 32 }], size := 4, bytes := 40, zeros := [.int .i64 0, .int .i64 0, St [], .int .u32 0], fsz := [1, 1, 1, 1] }
theorem ti41_ok : ti41.ok Tryz.prog 41 := ⟨Tryz.underlying41, rfl, by kernel_rfl, rfl, rfl, by decide, (fun h => by cases h), by kernel_rfl, by kernel_rfl⟩
def ti42 : TI := { kind := .st [0, 1, 2, 3], desc := .struct #[{ name := "Kind", type := 3, offset := 0, embedded := false, tag := "", pkgPath := "", byteOffset := 0 }, { name := "At", type := 3, offset := 1, embedded := false, tag := "", pkgPath := "", byteOffset := 8 }, { name := "Text", type := 9, offset := 2, embedded := false, tag := "", pkgPath := "", byteOffset := 16 }, { name := "Number", type := 40, offset := 3, embedded := false, tag := "", pkgPath := "", byteOffset := 32 }], size := 4, bytes := 40, zeros := [.int .i64 0, .int .i64 0, St [], .int .u32 0], fsz := [1, 1, 1, 1] }
theorem ti42_ok : ti42.ok Tryz.prog 42 := ⟨Tryz.underlying42, rfl, by kernel_rfl, rfl, rfl, by decide, (fun h => by cases h), by kernel_rfl, by kernel_rfl⟩
def ti43 : TI := { kind := .sl 3, desc := .slice 3, size := 1, bytes := 24, zeros := [.slice none 0 0] }
theorem ti43_ok : ti43.ok Tryz.prog 43 := ⟨Tryz.underlying43, rfl, by kernel_rfl, rfl, rfl, by decide, fun _ => rfl, by kernel_rfl, by kernel_rfl⟩
def ti44 : TI := { kind := .sl 9, desc := .slice 9, size := 1, bytes := 24, zeros := [.slice none 0 0] }
theorem ti44_ok : ti44.ok Tryz.prog 44 := ⟨Tryz.underlying44, rfl, by kernel_rfl, rfl, rfl, by decide, fun _ => rfl, by kernel_rfl, by kernel_rfl⟩
def ti50 : TI := { kind := .sl 40, desc := .slice 40, size := 1, bytes := 24, zeros := [.slice none 0 0] }
theorem ti50_ok : ti50.ok Tryz.prog 50 := ⟨Tryz.underlying50, rfl, by kernel_rfl, rfl, rfl, by decide, fun _ => rfl, by kernel_rfl, by kernel_rfl⟩
def ti51 : TI := { kind := .st [0, 1, 2, 3], desc := .struct #[{ name := "Kind", type := 3, offset := 0, embedded := false, tag := "", pkgPath := "", byteOffset := 0 }, { name := "Name", type := 9, offset := 1, embedded := false, tag := "", pkgPath := "", byteOffset := 8 }, { name := "Number", type := 40, offset := 2, embedded := false, tag := "", pkgPath := "", byteOffset := 24 }, { name := "Initial", type := 50, offset := 3, embedded := false, tag := "", pkgPath := "", byteOffset := 32 }], size := 4, bytes := 56, zeros := [.int .i64 0, St [], .int .u32 0, .slice none 0 0], fsz := [1, 1, 1, 1] }
theorem ti51_ok : ti51.ok Tryz.prog 51 := ⟨Tryz.underlying51, rfl, by kernel_rfl, rfl, rfl, by decide, (fun h => by cases h), by kernel_rfl, by kernel_rfl⟩
def ti52 : TI := { kind := .st [0, 1, 2, 3], desc := .struct #[{ name := "Kind", type := 3, offset := 0, embedded := false, tag := "", pkgPath := "", byteOffset := 0 }, { name := "Name", type := 9, offset := 1, embedded := false, tag := "", pkgPath := "", byteOffset := 8 }, { name := "Number", type := 40, offset := 2, embedded := false, tag := "", pkgPath := "", byteOffset := 24 }, { name := "Initial", type := 50, offset := 3, embedded := false, tag := "", pkgPath := "", byteOffset := 32 }], size := 4, bytes := 56, zeros := [.int .i64 0, St [], .int .u32 0, .slice none 0 0], fsz := [1, 1, 1, 1] }
theorem ti52_ok : ti52.ok Tryz.prog 52 := ⟨Tryz.underlying52, rfl, by kernel_rfl, rfl, rfl, by decide, (fun h => by cases h), by kernel_rfl, by kernel_rfl⟩
def ti54 : TI := { kind := .sl 100, desc := .slice 100, size := 1, bytes := 24, zeros := [.slice none 0 0] }
theorem ti54_ok : ti54.ok Tryz.prog 54 := ⟨Tryz.underlying54, rfl, by kernel_rfl, rfl, rfl, by decide, fun _ => rfl, by kernel_rfl, by kernel_rfl⟩
def ti55 : TI := { kind := .st [0, 1, 2, 3], desc := .struct #[{ name := "Name", type := 9, offset := 0, embedded := false, tag := "", pkgPath := "", byteOffset := 0 }, { name := "Parameters", type := 44, offset := 1, embedded := false, tag := "", pkgPath := "", byteOffset := 16 }, { name := "Locals", type := 44, offset := 2, embedded := false, tag := "", pkgPath := "", byteOffset := 40 }, { name := "Body", type := 54, offset := 3, embedded := false, tag := "", pkgPath := "", byteOffset := 64 }], size := 4, bytes := 88, zeros := [St [], .slice none 0 0, .slice none 0 0, .slice none 0 0], fsz := [1, 1, 1, 1] }
theorem ti55_ok : ti55.ok Tryz.prog 55 := ⟨Tryz.underlying55, rfl, by kernel_rfl, rfl, rfl, by decide, (fun h => by cases h), by kernel_rfl, by kernel_rfl⟩
def ti56 : TI := { kind := .st [0, 1, 2, 3], desc := .struct #[{ name := "Name", type := 9, offset := 0, embedded := false, tag := "", pkgPath := "", byteOffset := 0 }, { name := "Parameters", type := 44, offset := 1, embedded := false, tag := "", pkgPath := "", byteOffset := 16 }, { name := "Locals", type := 44, offset := 2, embedded := false, tag := "", pkgPath := "", byteOffset := 40 }, { name := "Body", type := 54, offset := 3, embedded := false, tag := "", pkgPath := "", byteOffset := 64 }], size := 4, bytes := 88, zeros := [St [], .slice none 0 0, .slice none 0 0, .slice none 0 0], fsz := [1, 1, 1, 1] }
theorem ti56_ok : ti56.ok Tryz.prog 56 := ⟨Tryz.underlying56, rfl, by kernel_rfl, rfl, rfl, by decide, (fun h => by cases h), by kernel_rfl, by kernel_rfl⟩
def ti58 : TI := { kind := .sc, desc := .pointer 60, size := 1, bytes := 8, zeros := [.pointer none] }
theorem ti58_ok : ti58.ok Tryz.prog 58 := ⟨Tryz.underlying58, trivial, by kernel_rfl, rfl, rfl, by decide, fun _ => rfl, by kernel_rfl, by kernel_rfl⟩
def ti59 : TI := { kind := .st [0], desc := .struct #[{ name := "nodes", type := 3, offset := 0, embedded := false, tag := "", pkgPath := "scriptorium/syntax", byteOffset := 0 }], size := 1, bytes := 8, zeros := [.int .i64 0], fsz := [1] }
theorem ti59_ok : ti59.ok Tryz.prog 59 := ⟨Tryz.underlying59, rfl, by kernel_rfl, rfl, rfl, by decide, (fun h => by cases h), by kernel_rfl, by kernel_rfl⟩
def ti60 : TI := { kind := .st [0], desc := .struct #[{ name := "nodes", type := 3, offset := 0, embedded := false, tag := "", pkgPath := "scriptorium/syntax", byteOffset := 0 }], size := 1, bytes := 8, zeros := [.int .i64 0], fsz := [1] }
theorem ti60_ok : ti60.ok Tryz.prog 60 := ⟨Tryz.underlying60, rfl, by kernel_rfl, rfl, rfl, by decide, (fun h => by cases h), by kernel_rfl, by kernel_rfl⟩
def ti65 : TI := { kind := .sc, desc := .pointer 69, size := 1, bytes := 8, zeros := [.pointer none] }
theorem ti65_ok : ti65.ok Tryz.prog 65 := ⟨Tryz.underlying65, trivial, by kernel_rfl, rfl, rfl, by decide, fun _ => rfl, by kernel_rfl, by kernel_rfl⟩
def ti66 : TI := { kind := .st [0, 1, 2, 3], desc := .struct #[{ name := "kind", type := 3, offset := 0, embedded := false, tag := "", pkgPath := "scriptorium/syntax", byteOffset := 0 }, { name := "text", type := 9, offset := 1, embedded := false, tag := "", pkgPath := "scriptorium/syntax", byteOffset := 8 }, { name := "number", type := 40, offset := 2, embedded := false, tag := "", pkgPath := "scriptorium/syntax", byteOffset := 24 }, { name := "at", type := 3, offset := 3, embedded := false, tag := "", pkgPath := "scriptorium/syntax", byteOffset := 32 }], size := 4, bytes := 40, zeros := [.int .i64 0, St [], .int .u32 0, .int .i64 0], fsz := [1, 1, 1, 1] }
theorem ti66_ok : ti66.ok Tryz.prog 66 := ⟨Tryz.underlying66, rfl, by kernel_rfl, rfl, rfl, by decide, (fun h => by cases h), by kernel_rfl, by kernel_rfl⟩
def ti67 : TI := { kind := .st [0, 1, 2, 3], desc := .struct #[{ name := "kind", type := 3, offset := 0, embedded := false, tag := "", pkgPath := "scriptorium/syntax", byteOffset := 0 }, { name := "text", type := 9, offset := 1, embedded := false, tag := "", pkgPath := "scriptorium/syntax", byteOffset := 8 }, { name := "number", type := 40, offset := 2, embedded := false, tag := "", pkgPath := "scriptorium/syntax", byteOffset := 24 }, { name := "at", type := 3, offset := 3, embedded := false, tag := "", pkgPath := "scriptorium/syntax", byteOffset := 32 }], size := 4, bytes := 40, zeros := [.int .i64 0, St [], .int .u32 0, .int .i64 0], fsz := [1, 1, 1, 1] }
theorem ti67_ok : ti67.ok Tryz.prog 67 := ⟨Tryz.underlying67, rfl, by kernel_rfl, rfl, rfl, by decide, (fun h => by cases h), by kernel_rfl, by kernel_rfl⟩
def ti68 : TI := { kind := .st [0, 1, 5], desc := .struct #[{ name := "source", type := 9, offset := 0, embedded := false, tag := "", pkgPath := "scriptorium/syntax", byteOffset := 0 }, { name := "next", type := 67, offset := 1, embedded := false, tag := "", pkgPath := "scriptorium/syntax", byteOffset := 16 }, { name := "behind", type := 3, offset := 5, embedded := false, tag := "", pkgPath := "scriptorium/syntax", byteOffset := 56 }], size := 6, bytes := 64, zeros := [St [], .int .i64 0, St [], .int .u32 0, .int .i64 0, .int .i64 0], fsz := [1, 4, 1] }
theorem ti68_ok : ti68.ok Tryz.prog 68 := ⟨Tryz.underlying68, rfl, by kernel_rfl, rfl, rfl, by decide, (fun h => by cases h), by kernel_rfl, by kernel_rfl⟩
def ti69 : TI := { kind := .st [0, 1, 5], desc := .struct #[{ name := "source", type := 9, offset := 0, embedded := false, tag := "", pkgPath := "scriptorium/syntax", byteOffset := 0 }, { name := "next", type := 67, offset := 1, embedded := false, tag := "", pkgPath := "scriptorium/syntax", byteOffset := 16 }, { name := "behind", type := 3, offset := 5, embedded := false, tag := "", pkgPath := "scriptorium/syntax", byteOffset := 56 }], size := 6, bytes := 64, zeros := [St [], .int .i64 0, St [], .int .u32 0, .int .i64 0, .int .i64 0], fsz := [1, 4, 1] }
theorem ti69_ok : ti69.ok Tryz.prog 69 := ⟨Tryz.underlying69, rfl, by kernel_rfl, rfl, rfl, by decide, (fun h => by cases h), by kernel_rfl, by kernel_rfl⟩
def ti81 : TI := { kind := .sc, desc := .pointer 87, size := 1, bytes := 8, zeros := [.pointer none] }
theorem ti81_ok : ti81.ok Tryz.prog 81 := ⟨Tryz.underlying81, trivial, by kernel_rfl, rfl, rfl, by decide, fun _ => rfl, by kernel_rfl, by kernel_rfl⟩
def ti82 : TI := { kind := .sc, desc := .pointer 85, size := 1, bytes := 8, zeros := [.pointer none] }
theorem ti82_ok : ti82.ok Tryz.prog 82 := ⟨Tryz.underlying82, trivial, by kernel_rfl, rfl, rfl, by decide, fun _ => rfl, by kernel_rfl, by kernel_rfl⟩
def ti83 : TI := { kind := .sl 5, desc := .slice 5, size := 1, bytes := 24, zeros := [.slice none 0 0] }
theorem ti83_ok : ti83.ok Tryz.prog 83 := ⟨Tryz.underlying83, rfl, by kernel_rfl, rfl, rfl, by decide, fun _ => rfl, by kernel_rfl, by kernel_rfl⟩
def ti84 : TI := { kind := .st [0, 1], desc := .struct #[{ name := "addr", type := 82, offset := 0, embedded := false, tag := "", pkgPath := "strings", byteOffset := 0 }, { name := "buf", type := 83, offset := 1, embedded := false, tag := "", pkgPath := "strings", byteOffset := 8 }], size := 2, bytes := 32, zeros := [.pointer none, .slice none 0 0], fsz := [1, 1] }
theorem ti84_ok : ti84.ok Tryz.prog 84 := ⟨Tryz.underlying84, rfl, by kernel_rfl, rfl, rfl, by decide, (fun h => by cases h), by kernel_rfl, by kernel_rfl⟩
def ti85 : TI := { kind := .st [0, 1], desc := .struct #[{ name := "addr", type := 82, offset := 0, embedded := false, tag := "", pkgPath := "strings", byteOffset := 0 }, { name := "buf", type := 83, offset := 1, embedded := false, tag := "", pkgPath := "strings", byteOffset := 8 }], size := 2, bytes := 32, zeros := [.pointer none, .slice none 0 0], fsz := [1, 1] }
theorem ti85_ok : ti85.ok Tryz.prog 85 := ⟨Tryz.underlying85, rfl, by kernel_rfl, rfl, rfl, by decide, (fun h => by cases h), by kernel_rfl, by kernel_rfl⟩
def ti86 : TI := { kind := .st [0], desc := .struct #[{ name := "Builder", type := 85, offset := 0, embedded := true, tag := "", pkgPath := "", byteOffset := 0 }], size := 2, bytes := 32, zeros := [.pointer none, .slice none 0 0], fsz := [2] }
theorem ti86_ok : ti86.ok Tryz.prog 86 := ⟨Tryz.underlying86, rfl, by kernel_rfl, rfl, rfl, by decide, (fun h => by cases h), by kernel_rfl, by kernel_rfl⟩
def ti87 : TI := { kind := .st [0], desc := .struct #[{ name := "Builder", type := 85, offset := 0, embedded := true, tag := "", pkgPath := "", byteOffset := 0 }], size := 2, bytes := 32, zeros := [.pointer none, .slice none 0 0], fsz := [2] }
theorem ti87_ok : ti87.ok Tryz.prog 87 := ⟨Tryz.underlying87, rfl, by kernel_rfl, rfl, rfl, by decide, (fun h => by cases h), by kernel_rfl, by kernel_rfl⟩
def ti95 : TI := { kind := .sl 97, desc := .slice 97, size := 1, bytes := 24, zeros := [.slice none 0 0] }
theorem ti95_ok : ti95.ok Tryz.prog 95 := ⟨Tryz.underlying95, rfl, by kernel_rfl, rfl, rfl, by decide, fun _ => rfl, by kernel_rfl, by kernel_rfl⟩
def ti96 : TI := { kind := .st [0, 1, 2, 3, 4], desc := .struct #[{ name := "Kind", type := 3, offset := 0, embedded := false, tag := "", pkgPath := "", byteOffset := 0 }, { name := "Op", type := 3, offset := 1, embedded := false, tag := "", pkgPath := "", byteOffset := 8 }, { name := "Number", type := 40, offset := 2, embedded := false, tag := "", pkgPath := "", byteOffset := 16 }, { name := "Name", type := 9, offset := 3, embedded := false, tag := "", pkgPath := "", byteOffset := 24 }, { name := "Args", type := 95, offset := 4, embedded := false, tag := "", pkgPath := "", byteOffset := 40 }], size := 5, bytes := 64, zeros := [.int .i64 0, .int .i64 0, .int .u32 0, St [], .slice none 0 0], fsz := [1, 1, 1, 1, 1] }
theorem ti96_ok : ti96.ok Tryz.prog 96 := ⟨Tryz.underlying96, rfl, by kernel_rfl, rfl, rfl, by decide, (fun h => by cases h), by kernel_rfl, by kernel_rfl⟩
def ti97 : TI := { kind := .st [0, 1, 2, 3, 4], desc := .struct #[{ name := "Kind", type := 3, offset := 0, embedded := false, tag := "", pkgPath := "", byteOffset := 0 }, { name := "Op", type := 3, offset := 1, embedded := false, tag := "", pkgPath := "", byteOffset := 8 }, { name := "Number", type := 40, offset := 2, embedded := false, tag := "", pkgPath := "", byteOffset := 16 }, { name := "Name", type := 9, offset := 3, embedded := false, tag := "", pkgPath := "", byteOffset := 24 }, { name := "Args", type := 95, offset := 4, embedded := false, tag := "", pkgPath := "", byteOffset := 40 }], size := 5, bytes := 64, zeros := [.int .i64 0, .int .i64 0, .int .u32 0, St [], .slice none 0 0], fsz := [1, 1, 1, 1, 1] }
theorem ti97_ok : ti97.ok Tryz.prog 97 := ⟨Tryz.underlying97, rfl, by kernel_rfl, rfl, rfl, by decide, (fun h => by cases h), by kernel_rfl, by kernel_rfl⟩
def ti99 : TI := { kind := .st [0, 1, 2, 3, 4], desc := .struct #[{ name := "Kind", type := 3, offset := 0, embedded := false, tag := "", pkgPath := "", byteOffset := 0 }, { name := "Name", type := 9, offset := 1, embedded := false, tag := "", pkgPath := "", byteOffset := 8 }, { name := "Exprs", type := 95, offset := 2, embedded := false, tag := "", pkgPath := "", byteOffset := 24 }, { name := "Body", type := 54, offset := 3, embedded := false, tag := "", pkgPath := "", byteOffset := 48 }, { name := "Else", type := 54, offset := 4, embedded := false, tag := "", pkgPath := "", byteOffset := 72 }], size := 5, bytes := 96, zeros := [.int .i64 0, St [], .slice none 0 0, .slice none 0 0, .slice none 0 0], fsz := [1, 1, 1, 1, 1] }
theorem ti99_ok : ti99.ok Tryz.prog 99 := ⟨Tryz.underlying99, rfl, by kernel_rfl, rfl, rfl, by decide, (fun h => by cases h), by kernel_rfl, by kernel_rfl⟩
def ti100 : TI := { kind := .st [0, 1, 2, 3, 4], desc := .struct #[{ name := "Kind", type := 3, offset := 0, embedded := false, tag := "", pkgPath := "", byteOffset := 0 }, { name := "Name", type := 9, offset := 1, embedded := false, tag := "", pkgPath := "", byteOffset := 8 }, { name := "Exprs", type := 95, offset := 2, embedded := false, tag := "", pkgPath := "", byteOffset := 24 }, { name := "Body", type := 54, offset := 3, embedded := false, tag := "", pkgPath := "", byteOffset := 48 }, { name := "Else", type := 54, offset := 4, embedded := false, tag := "", pkgPath := "", byteOffset := 72 }], size := 5, bytes := 96, zeros := [.int .i64 0, St [], .slice none 0 0, .slice none 0 0, .slice none 0 0], fsz := [1, 1, 1, 1, 1] }
theorem ti100_ok : ti100.ok Tryz.prog 100 := ⟨Tryz.underlying100, rfl, by kernel_rfl, rfl, rfl, by decide, (fun h => by cases h), by kernel_rfl, by kernel_rfl⟩
def ti119 : TI := { kind := .ar 256 5, desc := .array 256 5, size := 256, bytes := 256, zeros := (List.replicate 256 (.int .u8 0)) }
theorem ti119_ok : ti119.ok Tryz.prog 119 := ⟨Tryz.underlying119, rfl, by kernel_rfl, by kernel_rfl, by kernel_rfl, by decide, (fun h => by cases h), by kernel_rfl, by kernel_rfl⟩
def ti128 : TI := { kind := .sc, desc := .int .u64, size := 1, bytes := 8, zeros := [.int .u64 0] }
theorem ti128_ok : ti128.ok Tryz.prog 128 := ⟨Tryz.underlying128, trivial, by kernel_rfl, rfl, rfl, by decide, fun _ => rfl, by kernel_rfl, by kernel_rfl⟩
def ti130 : TI := { kind := .sc, desc := .pointer 5, size := 1, bytes := 8, zeros := [.pointer none] }
theorem ti130_ok : ti130.ok Tryz.prog 130 := ⟨Tryz.underlying130, trivial, by kernel_rfl, rfl, rfl, by decide, fun _ => rfl, by kernel_rfl, by kernel_rfl⟩
def ti134 : TI := { kind := .sl 44, desc := .slice 44, size := 1, bytes := 24, zeros := [.slice none 0 0] }
theorem ti134_ok : ti134.ok Tryz.prog 134 := ⟨Tryz.underlying134, rfl, by kernel_rfl, rfl, rfl, by decide, fun _ => rfl, by kernel_rfl, by kernel_rfl⟩
def ti140 : TI := { kind := .sl 54, desc := .slice 54, size := 1, bytes := 24, zeros := [.slice none 0 0] }
theorem ti140_ok : ti140.ok Tryz.prog 140 := ⟨Tryz.underlying140, rfl, by kernel_rfl, rfl, rfl, by decide, fun _ => rfl, by kernel_rfl, by kernel_rfl⟩
def ti152 : TI := { kind := .sl 154, desc := .slice 154, size := 1, bytes := 24, zeros := [.slice none 0 0] }
theorem ti152_ok : ti152.ok Tryz.prog 152 := ⟨Tryz.underlying152, rfl, by kernel_rfl, rfl, rfl, by decide, fun _ => rfl, by kernel_rfl, by kernel_rfl⟩
def ti153 : TI := { kind := .st [0, 1], desc := .struct #[{ name := "start", type := 3, offset := 0, embedded := false, tag := "", pkgPath := "strings", byteOffset := 0 }, { name := "end", type := 3, offset := 1, embedded := false, tag := "", pkgPath := "strings", byteOffset := 8 }], size := 2, bytes := 16, zeros := [.int .i64 0, .int .i64 0], fsz := [1, 1] }
theorem ti153_ok : ti153.ok Tryz.prog 153 := ⟨Tryz.underlying153, rfl, by kernel_rfl, rfl, rfl, by decide, (fun h => by cases h), by kernel_rfl, by kernel_rfl⟩
def ti154 : TI := { kind := .st [0, 1], desc := .struct #[{ name := "start", type := 3, offset := 0, embedded := false, tag := "", pkgPath := "strings", byteOffset := 0 }, { name := "end", type := 3, offset := 1, embedded := false, tag := "", pkgPath := "strings", byteOffset := 8 }], size := 2, bytes := 16, zeros := [.int .i64 0, .int .i64 0], fsz := [1, 1] }
theorem ti154_ok : ti154.ok Tryz.prog 154 := ⟨Tryz.underlying154, rfl, by kernel_rfl, rfl, rfl, by decide, (fun h => by cases h), by kernel_rfl, by kernel_rfl⟩
def ti156 : TI := { kind := .sc, desc := .pointer 176, size := 1, bytes := 8, zeros := [.pointer none] }
theorem ti156_ok : ti156.ok Tryz.prog 156 := ⟨Tryz.underlying156, trivial, by kernel_rfl, rfl, rfl, by decide, fun _ => rfl, by kernel_rfl, by kernel_rfl⟩
def ti173 : TI := { kind := .sl 179, desc := .slice 179, size := 1, bytes := 24, zeros := [.slice none 0 0] }
theorem ti173_ok : ti173.ok Tryz.prog 173 := ⟨Tryz.underlying173, rfl, by kernel_rfl, rfl, rfl, by decide, fun _ => rfl, by kernel_rfl, by kernel_rfl⟩
def ti174 : TI := { kind := .sl 182, desc := .slice 182, size := 1, bytes := 24, zeros := [.slice none 0 0] }
theorem ti174_ok : ti174.ok Tryz.prog 174 := ⟨Tryz.underlying174, rfl, by kernel_rfl, rfl, rfl, by decide, fun _ => rfl, by kernel_rfl, by kernel_rfl⟩
def ti175 : TI := { kind := .st [0, 1, 2], desc := .struct #[{ name := "R16", type := 173, offset := 0, embedded := false, tag := "", pkgPath := "", byteOffset := 0 }, { name := "R32", type := 174, offset := 1, embedded := false, tag := "", pkgPath := "", byteOffset := 24 }, { name := "LatinOffset", type := 3, offset := 2, embedded := false, tag := "", pkgPath := "", byteOffset := 48 }], size := 3, bytes := 56, zeros := [.slice none 0 0, .slice none 0 0, .int .i64 0], fsz := [1, 1, 1] }
theorem ti175_ok : ti175.ok Tryz.prog 175 := ⟨Tryz.underlying175, rfl, by kernel_rfl, rfl, rfl, by decide, (fun h => by cases h), by kernel_rfl, by kernel_rfl⟩
def ti176 : TI := { kind := .st [0, 1, 2], desc := .struct #[{ name := "R16", type := 173, offset := 0, embedded := false, tag := "", pkgPath := "", byteOffset := 0 }, { name := "R32", type := 174, offset := 1, embedded := false, tag := "", pkgPath := "", byteOffset := 24 }, { name := "LatinOffset", type := 3, offset := 2, embedded := false, tag := "", pkgPath := "", byteOffset := 48 }], size := 3, bytes := 56, zeros := [.slice none 0 0, .slice none 0 0, .int .i64 0], fsz := [1, 1, 1] }
theorem ti176_ok : ti176.ok Tryz.prog 176 := ⟨Tryz.underlying176, rfl, by kernel_rfl, rfl, rfl, by decide, (fun h => by cases h), by kernel_rfl, by kernel_rfl⟩
def ti177 : TI := { kind := .sc, desc := .int .u16, size := 1, bytes := 2, zeros := [.int .u16 0] }
theorem ti177_ok : ti177.ok Tryz.prog 177 := ⟨Tryz.underlying177, trivial, by kernel_rfl, rfl, rfl, by decide, fun _ => rfl, by kernel_rfl, by kernel_rfl⟩
def ti178 : TI := { kind := .st [0, 1, 2], desc := .struct #[{ name := "Lo", type := 177, offset := 0, embedded := false, tag := "", pkgPath := "", byteOffset := 0 }, { name := "Hi", type := 177, offset := 1, embedded := false, tag := "", pkgPath := "", byteOffset := 2 }, { name := "Stride", type := 177, offset := 2, embedded := false, tag := "", pkgPath := "", byteOffset := 4 }], size := 3, bytes := 6, zeros := [.int .u16 0, .int .u16 0, .int .u16 0], fsz := [1, 1, 1] }
theorem ti178_ok : ti178.ok Tryz.prog 178 := ⟨Tryz.underlying178, rfl, by kernel_rfl, rfl, rfl, by decide, (fun h => by cases h), by kernel_rfl, by kernel_rfl⟩
def ti179 : TI := { kind := .st [0, 1, 2], desc := .struct #[{ name := "Lo", type := 177, offset := 0, embedded := false, tag := "", pkgPath := "", byteOffset := 0 }, { name := "Hi", type := 177, offset := 1, embedded := false, tag := "", pkgPath := "", byteOffset := 2 }, { name := "Stride", type := 177, offset := 2, embedded := false, tag := "", pkgPath := "", byteOffset := 4 }], size := 3, bytes := 6, zeros := [.int .u16 0, .int .u16 0, .int .u16 0], fsz := [1, 1, 1] }
theorem ti179_ok : ti179.ok Tryz.prog 179 := ⟨Tryz.underlying179, rfl, by kernel_rfl, rfl, rfl, by decide, (fun h => by cases h), by kernel_rfl, by kernel_rfl⟩
def ti181 : TI := { kind := .st [0, 1, 2], desc := .struct #[{ name := "Lo", type := 40, offset := 0, embedded := false, tag := "", pkgPath := "", byteOffset := 0 }, { name := "Hi", type := 40, offset := 1, embedded := false, tag := "", pkgPath := "", byteOffset := 4 }, { name := "Stride", type := 40, offset := 2, embedded := false, tag := "", pkgPath := "", byteOffset := 8 }], size := 3, bytes := 12, zeros := [.int .u32 0, .int .u32 0, .int .u32 0], fsz := [1, 1, 1] }
theorem ti181_ok : ti181.ok Tryz.prog 181 := ⟨Tryz.underlying181, rfl, by kernel_rfl, rfl, rfl, by decide, (fun h => by cases h), by kernel_rfl, by kernel_rfl⟩
def ti182 : TI := { kind := .st [0, 1, 2], desc := .struct #[{ name := "Lo", type := 40, offset := 0, embedded := false, tag := "", pkgPath := "", byteOffset := 0 }, { name := "Hi", type := 40, offset := 1, embedded := false, tag := "", pkgPath := "", byteOffset := 4 }, { name := "Stride", type := 40, offset := 2, embedded := false, tag := "", pkgPath := "", byteOffset := 8 }], size := 3, bytes := 12, zeros := [.int .u32 0, .int .u32 0, .int .u32 0], fsz := [1, 1, 1] }
theorem ti182_ok : ti182.ok Tryz.prog 182 := ⟨Tryz.underlying182, rfl, by kernel_rfl, rfl, rfl, by decide, (fun h => by cases h), by kernel_rfl, by kernel_rfl⟩
def ti184 : TI := { kind := .sc, desc := .int .u64, size := 1, bytes := 8, zeros := [.int .u64 0] }
theorem ti184_ok : ti184.ok Tryz.prog 184 := ⟨Tryz.underlying184, trivial, by kernel_rfl, rfl, rfl, by decide, fun _ => rfl, by kernel_rfl, by kernel_rfl⟩
def ti190 : TI := { kind := .ar 24 5, desc := .array 24 5, size := 24, bytes := 24, zeros := (List.replicate 24 (.int .u8 0)) }
theorem ti190_ok : ti190.ok Tryz.prog 190 := ⟨Tryz.underlying190, rfl, by kernel_rfl, rfl, rfl, by decide, (fun h => by cases h), by kernel_rfl, by kernel_rfl⟩
def ti198 : TI := { kind := .sc, desc := .int .i64, size := 1, bytes := 8, zeros := [.int .i64 0] }
theorem ti198_ok : ti198.ok Tryz.prog 198 := ⟨Tryz.underlying198, trivial, by kernel_rfl, rfl, rfl, by decide, fun _ => rfl, by kernel_rfl, by kernel_rfl⟩
def ti200 : TI := { kind := .sc, desc := .pointer 222, size := 1, bytes := 8, zeros := [.pointer none] }
theorem ti200_ok : ti200.ok Tryz.prog 200 := ⟨Tryz.underlying200, trivial, by kernel_rfl, rfl, rfl, by decide, fun _ => rfl, by kernel_rfl, by kernel_rfl⟩
def ti204 : TI := { kind := .sc, desc := .pointer 100, size := 1, bytes := 8, zeros := [.pointer none] }
theorem ti204_ok : ti204.ok Tryz.prog 204 := ⟨Tryz.underlying204, trivial, by kernel_rfl, rfl, rfl, by decide, fun _ => rfl, by kernel_rfl, by kernel_rfl⟩
def ti209 : TI := { kind := .sc, desc := .pointer 179, size := 1, bytes := 8, zeros := [.pointer none] }
theorem ti209_ok : ti209.ok Tryz.prog 209 := ⟨Tryz.underlying209, trivial, by kernel_rfl, rfl, rfl, by decide, fun _ => rfl, by kernel_rfl, by kernel_rfl⟩
def ti210 : TI := { kind := .sc, desc := .pointer 182, size := 1, bytes := 8, zeros := [.pointer none] }
theorem ti210_ok : ti210.ok Tryz.prog 210 := ⟨Tryz.underlying210, trivial, by kernel_rfl, rfl, rfl, by decide, fun _ => rfl, by kernel_rfl, by kernel_rfl⟩
def ti216 : TI := { kind := .ar 20 128, desc := .array 20 128, size := 20, bytes := 160, zeros := (List.replicate 20 (.int .u64 0)) }
theorem ti216_ok : ti216.ok Tryz.prog 216 := ⟨Tryz.underlying216, rfl, by kernel_rfl, rfl, rfl, by decide, (fun h => by cases h), by kernel_rfl, by kernel_rfl⟩
def ti217 : TI := { kind := .ar 65 5, desc := .array 65 5, size := 65, bytes := 65, zeros := (List.replicate 65 (.int .u8 0)) }
theorem ti217_ok : ti217.ok Tryz.prog 217 := ⟨Tryz.underlying217, rfl, by kernel_rfl, by kernel_rfl, by kernel_rfl, by decide, (fun h => by cases h), by kernel_rfl, by kernel_rfl⟩
def ti221 : TI := { kind := .st [0, 1, 2], desc := .struct #[{ name := "Func", type := 9, offset := 0, embedded := false, tag := "", pkgPath := "", byteOffset := 0 }, { name := "Num", type := 9, offset := 1, embedded := false, tag := "", pkgPath := "", byteOffset := 16 }, { name := "Err", type := 124, offset := 2, embedded := false, tag := "", pkgPath := "", byteOffset := 32 }], size := 3, bytes := 48, zeros := [St [], St [], .nilIface], fsz := [1, 1, 1] }
theorem ti221_ok : ti221.ok Tryz.prog 221 := ⟨Tryz.underlying221, rfl, by kernel_rfl, rfl, rfl, by decide, (fun h => by cases h), by kernel_rfl, by kernel_rfl⟩
def ti222 : TI := { kind := .st [0, 1, 2], desc := .struct #[{ name := "Func", type := 9, offset := 0, embedded := false, tag := "", pkgPath := "", byteOffset := 0 }, { name := "Num", type := 9, offset := 1, embedded := false, tag := "", pkgPath := "", byteOffset := 16 }, { name := "Err", type := 124, offset := 2, embedded := false, tag := "", pkgPath := "", byteOffset := 32 }], size := 3, bytes := 48, zeros := [St [], St [], .nilIface], fsz := [1, 1, 1] }
theorem ti222_ok : ti222.ok Tryz.prog 222 := ⟨Tryz.underlying222, rfl, by kernel_rfl, rfl, rfl, by decide, (fun h => by cases h), by kernel_rfl, by kernel_rfl⟩
def ti227 : TI := { kind := .sc, desc := .pointer 229, size := 1, bytes := 8, zeros := [.pointer none] }
theorem ti227_ok : ti227.ok Tryz.prog 227 := ⟨Tryz.underlying227, trivial, by kernel_rfl, rfl, rfl, by decide, fun _ => rfl, by kernel_rfl, by kernel_rfl⟩
def ti228 : TI := { kind := .st [0], desc := .struct #[{ name := "s", type := 9, offset := 0, embedded := false, tag := "", pkgPath := "errors", byteOffset := 0 }], size := 1, bytes := 16, zeros := [St []], fsz := [1] }
theorem ti228_ok : ti228.ok Tryz.prog 228 := ⟨Tryz.underlying228, rfl, by kernel_rfl, rfl, rfl, by decide, (fun h => by cases h), by kernel_rfl, by kernel_rfl⟩
def ti229 : TI := { kind := .st [0], desc := .struct #[{ name := "s", type := 9, offset := 0, embedded := false, tag := "", pkgPath := "errors", byteOffset := 0 }], size := 1, bytes := 16, zeros := [St []], fsz := [1] }
theorem ti229_ok : ti229.ok Tryz.prog 229 := ⟨Tryz.underlying229, rfl, by kernel_rfl, rfl, rfl, by decide, (fun h => by cases h), by kernel_rfl, by kernel_rfl⟩
def ti230 : TI := { kind := .ar 32 5, desc := .array 32 5, size := 32, bytes := 32, zeros := (List.replicate 32 (.int .u8 0)) }
theorem ti230_ok : ti230.ok Tryz.prog 230 := ⟨Tryz.underlying230, rfl, by kernel_rfl, rfl, rfl, by decide, (fun h => by cases h), by kernel_rfl, by kernel_rfl⟩
def ti231 : TI := { kind := .ar 64 5, desc := .array 64 5, size := 64, bytes := 64, zeros := (List.replicate 64 (.int .u8 0)) }
theorem ti231_ok : ti231.ok Tryz.prog 231 := ⟨Tryz.underlying231, rfl, by kernel_rfl, by kernel_rfl, by kernel_rfl, by decide, (fun h => by cases h), by kernel_rfl, by kernel_rfl⟩
def ti233 : TI := { kind := .st [0, 1, 2, 3], desc := .struct #[{ name := "_interface", type := 17, offset := 0, embedded := false, tag := "", pkgPath := "runtime", byteOffset := 0 }, { name := "concrete", type := 17, offset := 1, embedded := false, tag := "", pkgPath := "runtime", byteOffset := 8 }, { name := "asserted", type := 17, offset := 2, embedded := false, tag := "", pkgPath := "runtime", byteOffset := 16 }, { name := "missingMethod", type := 9, offset := 3, embedded := false, tag := "", pkgPath := "runtime", byteOffset := 24 }], size := 4, bytes := 40, zeros := [.pointer none, .pointer none, .pointer none, St []], fsz := [1, 1, 1, 1] }
theorem ti233_ok : ti233.ok Tryz.prog 233 := ⟨Tryz.underlying233, rfl, by kernel_rfl, rfl, rfl, by decide, (fun h => by cases h), by kernel_rfl, by kernel_rfl⟩
def ti234 : TI := { kind := .st [0, 1, 2, 3], desc := .struct #[{ name := "_interface", type := 17, offset := 0, embedded := false, tag := "", pkgPath := "runtime", byteOffset := 0 }, { name := "concrete", type := 17, offset := 1, embedded := false, tag := "", pkgPath := "runtime", byteOffset := 8 }, { name := "asserted", type := 17, offset := 2, embedded := false, tag := "", pkgPath := "runtime", byteOffset := 16 }, { name := "missingMethod", type := 9, offset := 3, embedded := false, tag := "", pkgPath := "runtime", byteOffset := 24 }], size := 4, bytes := 40, zeros := [.pointer none, .pointer none, .pointer none, St []], fsz := [1, 1, 1, 1] }
theorem ti234_ok : ti234.ok Tryz.prog 234 := ⟨Tryz.underlying234, rfl, by kernel_rfl, rfl, rfl, by decide, (fun h => by cases h), by kernel_rfl, by kernel_rfl⟩
def ti238 : TI := { kind := .sc, desc := .int .u8, size := 1, bytes := 1, zeros := [.int .u8 0] }
theorem ti238_ok : ti238.ok Tryz.prog 238 := ⟨Tryz.underlying238, trivial, by kernel_rfl, rfl, rfl, by decide, fun _ => rfl, by kernel_rfl, by kernel_rfl⟩
def ti239 : TI := { kind := .sc, desc := .int .u8, size := 1, bytes := 1, zeros := [.int .u8 0] }
theorem ti239_ok : ti239.ok Tryz.prog 239 := ⟨Tryz.underlying239, trivial, by kernel_rfl, rfl, rfl, by decide, fun _ => rfl, by kernel_rfl, by kernel_rfl⟩
def ti241 : TI := { kind := .sc, desc := .int .i32, size := 1, bytes := 4, zeros := [.int .i32 0] }
theorem ti241_ok : ti241.ok Tryz.prog 241 := ⟨Tryz.underlying241, trivial, by kernel_rfl, rfl, rfl, by decide, fun _ => rfl, by kernel_rfl, by kernel_rfl⟩
def ti242 : TI := { kind := .sc, desc := .int .i32, size := 1, bytes := 4, zeros := [.int .i32 0] }
theorem ti242_ok : ti242.ok Tryz.prog 242 := ⟨Tryz.underlying242, trivial, by kernel_rfl, rfl, rfl, by decide, fun _ => rfl, by kernel_rfl, by kernel_rfl⟩
def ti243 : TI := { kind := .st [0, 1, 2, 3, 4, 5, 6, 7, 8, 9, 10], desc := .struct #[{ name := "Size_", type := 12, offset := 0, embedded := false, tag := "", pkgPath := "", byteOffset := 0 }, { name := "PtrBytes", type := 12, offset := 1, embedded := false, tag := "", pkgPath := "", byteOffset := 8 }, { name := "Hash", type := 40, offset := 2, embedded := false, tag := "", pkgPath := "", byteOffset := 16 }, { name := "TFlag", type := 238, offset := 3, embedded := false, tag := "", pkgPath := "", byteOffset := 20 }, { name := "Align_", type := 5, offset := 4, embedded := false, tag := "", pkgPath := "", byteOffset := 21 }, { name := "FieldAlign_", type := 5, offset := 5, embedded := false, tag := "", pkgPath := "", byteOffset := 22 }, { name := "Kind_", type := 239, offset := 6, embedded := false, tag := "", pkgPath := "", byteOffset := 23 }, { name := "Equal", type := 240, offset := 7, embedded := false, tag := "", pkgPath := "", byteOffset := 24 }, { name := "GCData", type := 130, offset := 8, embedded := false, tag := "", pkgPath := "", byteOffset := 32 }, { name := "Str", type := 241, offset := 9, embedded := false, tag := "", pkgPath := "", byteOffset := 40 }, { name := "PtrToThis", type := 242, offset := 10, embedded := false, tag := "", pkgPath := "", byteOffset := 44 }], size := 11, bytes := 48, zeros := [.int .u64 0, .int .u64 0, .int .u32 0, .int .u8 0, .int .u8 0, .int .u8 0, .int .u8 0, .nilFunc, .pointer none, .int .i32 0, .int .i32 0], fsz := [1, 1, 1, 1, 1, 1, 1, 1, 1, 1, 1] }
theorem ti243_ok : ti243.ok Tryz.prog 243 := ⟨Tryz.underlying243, rfl, by kernel_rfl, rfl, rfl, by decide, (fun h => by cases h), by kernel_rfl, by kernel_rfl⟩
def ti244 : TI := { kind := .st [0, 1, 2, 3, 4, 5, 6, 7, 8, 9, 10], desc := .struct #[{ name := "Size_", type := 12, offset := 0, embedded := false, tag := "", pkgPath := "", byteOffset := 0 }, { name := "PtrBytes", type := 12, offset := 1, embedded := false, tag := "", pkgPath := "", byteOffset := 8 }, { name := "Hash", type := 40, offset := 2, embedded := false, tag := "", pkgPath := "", byteOffset := 16 }, { name := "TFlag", type := 238, offset := 3, embedded := false, tag := "", pkgPath := "", byteOffset := 20 }, { name := "Align_", type := 5, offset := 4, embedded := false, tag := "", pkgPath := "", byteOffset := 21 }, { name := "FieldAlign_", type := 5, offset := 5, embedded := false, tag := "", pkgPath := "", byteOffset := 22 }, { name := "Kind_", type := 239, offset := 6, embedded := false, tag := "", pkgPath := "", byteOffset := 23 }, { name := "Equal", type := 240, offset := 7, embedded := false, tag := "", pkgPath := "", byteOffset := 24 }, { name := "GCData", type := 130, offset := 8, embedded := false, tag := "", pkgPath := "", byteOffset := 32 }, { name := "Str", type := 241, offset := 9, embedded := false, tag := "", pkgPath := "", byteOffset := 40 }, { name := "PtrToThis", type := 242, offset := 10, embedded := false, tag := "", pkgPath := "", byteOffset := 44 }], size := 11, bytes := 48, zeros := [.int .u64 0, .int .u64 0, .int .u32 0, .int .u8 0, .int .u8 0, .int .u8 0, .int .u8 0, .nilFunc, .pointer none, .int .i32 0, .int .i32 0], fsz := [1, 1, 1, 1, 1, 1, 1, 1, 1, 1, 1] }
theorem ti244_ok : ti244.ok Tryz.prog 244 := ⟨Tryz.underlying244, rfl, by kernel_rfl, rfl, rfl, by decide, (fun h => by cases h), by kernel_rfl, by kernel_rfl⟩
def TT : TyTab := [(2, ti2), (3, ti3), (4, ti4), (5, ti5), (6, ti6), (7, ti7), (8, ti8), (9, ti9), (10, ti10), (11, ti11), (12, ti12), (13, ti13), (14, ti14), (15, ti15), (16, ti16), (17, ti17), (18, ti18), (19, ti19), (21, ti21), (22, ti22), (23, ti23), (24, ti24), (25, ti25), (26, ti26), (27, ti27), (37, ti37), (40, ti40), (41, ti41), (42, ti42), (43, ti43), (44, ti44), (50, ti50), (51, ti51), (52, ti52), (54, ti54), (55, ti55), (56, ti56), (58, ti58), (59, ti59), (60, ti60), (65, ti65), (66, ti66), (67, ti67), (68, ti68), (69, ti69), (81, ti81), (82, ti82), (83, ti83), (84, ti84), (85, ti85), (86, ti86), (87, ti87), (95, ti95), (96, ti96), (97, ti97), (99, ti99), (100, ti100), (119, ti119), (128, ti128), (130, ti130), (134, ti134), (140, ti140), (152, ti152), (153, ti153), (154, ti154), (156, ti156), (173, ti173), (174, ti174), (175, ti175), (176, ti176), (177, ti177), (178, ti178), (179, ti179), (181, ti181), (182, ti182), (184, ti184), (190, ti190), (198, ti198), (200, ti200), (204, ti204), (209, ti209), (210, ti210), (216, ti216), (217, ti217), (221, ti221), (222, ti222), (227, ti227), (228, ti228), (229, ti229), (230, ti230), (231, ti231), (233, ti233), (234, ti234), (238, ti238), (239, ti239), (241, ti241), (242, ti242), (243, ti243), (244, ti244)]
theorem TT_ok : TabOK Tryz.prog TT := TabOK.cons ti2_ok (TabOK.cons ti3_ok (TabOK.cons ti4_ok (TabOK.cons ti5_ok (TabOK.cons ti6_ok (TabOK.cons ti7_ok (TabOK.cons ti8_ok (TabOK.cons ti9_ok (TabOK.cons ti10_ok (TabOK.cons ti11_ok (TabOK.cons ti12_ok (TabOK.cons ti13_ok (TabOK.cons ti14_ok (TabOK.cons ti15_ok (TabOK.cons ti16_ok (TabOK.cons ti17_ok (TabOK.cons ti18_ok (TabOK.cons ti19_ok (TabOK.cons ti21_ok (TabOK.cons ti22_ok (TabOK.cons ti23_ok (TabOK.cons ti24_ok (TabOK.cons ti25_ok (TabOK.cons ti26_ok (TabOK.cons ti27_ok (TabOK.cons ti37_ok (TabOK.cons ti40_ok (TabOK.cons ti41_ok (TabOK.cons ti42_ok (TabOK.cons ti43_ok (TabOK.cons ti44_ok (TabOK.cons ti50_ok (TabOK.cons ti51_ok (TabOK.cons ti52_ok (TabOK.cons ti54_ok (TabOK.cons ti55_ok (TabOK.cons ti56_ok (TabOK.cons ti58_ok (TabOK.cons ti59_ok (TabOK.cons ti60_ok (TabOK.cons ti65_ok (TabOK.cons ti66_ok (TabOK.cons ti67_ok (TabOK.cons ti68_ok (TabOK.cons ti69_ok (TabOK.cons ti81_ok (TabOK.cons ti82_ok (TabOK.cons ti83_ok (TabOK.cons ti84_ok (TabOK.cons ti85_ok (TabOK.cons ti86_ok (TabOK.cons ti87_ok (TabOK.cons ti95_ok (TabOK.cons ti96_ok (TabOK.cons ti97_ok (TabOK.cons ti99_ok (TabOK.cons ti100_ok (TabOK.cons ti119_ok (TabOK.cons ti128_ok (TabOK.cons ti130_ok (TabOK.cons ti134_ok (TabOK.cons ti140_ok (TabOK.cons ti152_ok (TabOK.cons ti153_ok (TabOK.cons ti154_ok (TabOK.cons ti156_ok (TabOK.cons ti173_ok (TabOK.cons ti174_ok (TabOK.cons ti175_ok (TabOK.cons ti176_ok (TabOK.cons ti177_ok (TabOK.cons ti178_ok (TabOK.cons ti179_ok (TabOK.cons ti181_ok (TabOK.cons ti182_ok (TabOK.cons ti184_ok (TabOK.cons ti190_ok (TabOK.cons ti198_ok (TabOK.cons ti200_ok (TabOK.cons ti204_ok (TabOK.cons ti209_ok (TabOK.cons ti210_ok (TabOK.cons ti216_ok (TabOK.cons ti217_ok (TabOK.cons ti221_ok (TabOK.cons ti222_ok (TabOK.cons ti227_ok (TabOK.cons ti228_ok (TabOK.cons ti229_ok (TabOK.cons ti230_ok (TabOK.cons ti231_ok (TabOK.cons ti233_ok (TabOK.cons ti234_ok (TabOK.cons ti238_ok (TabOK.cons ti239_ok (TabOK.cons ti241_ok (TabOK.cons ti242_ok (TabOK.cons ti243_ok (TabOK.cons ti244_ok ( TabOK.nil)))))))))))))))))))))))))))))))))))))))))))))))))))))))))))))))))))))))))))))))))))))))))))))))))))
theorem drawsMixed : Tryz.prog.follows .mixedOrders = true := by kernel_rfl
end Go.FL
namespace Go.Proofs.YtiljephghfngnaaGreatDoor
open Go Go.FL
theorem aggOne {P : Program} {t : Nat} {ti : TI} (h : ti.ok P t) (hk : isOne ti.kind = true) (w : World) : (isAgg t).run P w = .ok false w := by rw [run_isAgg' h, hk]; rfl
theorem eqFault (a b c d : Int) : EqA Tryz.prog 27 [.int .i64 a, .int .i64 b] [.int .i64 c, .int .i64 d] (decide (a = c ∧ b = d)) := ⟨by kernel_rfl, fun w => by
  show (Op.equalIn (9998 + 2) 27 _ _).run Tryz.prog w = _
  rw [run_equalIn_agg w 9999 27 _ _ V V]
  simp only [Program.fieldsOf, Tryz.underlying27, Op.eqFields, part]
  simp [aggOne ti3_ok rfl, run_equalIn_int w 9998 3 .i64 .i64 _ _ Tryz.underlying3]
  by_cases h1 : a = c <;> by_cases h2 : b = d <;> simp [h1, h2]⟩
end Go.Proofs.YtiljephghfngnaaGreatDoor
