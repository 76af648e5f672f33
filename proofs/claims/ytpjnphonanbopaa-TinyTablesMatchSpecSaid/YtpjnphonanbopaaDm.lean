/- The machine in plain terms; rows of words and bytes; the machine in memory. -/
import Derived.Test.YtpjnphonanbopaaDs
import Derived.Test.YtpjnphonanbopaaFlJ
namespace Go.FL
open Go Go.RowKit
section
variable {P : Program} {D : Nat} {L : Hl} {s : World}
/-- a call's owned blocks handed to the shared world -/
theorem AC.pub {f : FuncId} {args : List Value} {R : Value → Hl → World → Prop} (h : AC P D f args L s (fun v L' s' => ∃ M', L' = M' ++ L ∧ R v M' s')) :
    AC P D f args L s (fun v L' s' => L = L' ∧ ∃ M' s1, R v M' s1 ∧ Le D s1 s' ∧ ∀ b zs t, (b, cb zs t) ∈ M' → CellsAt s' b 0 zs) := by
  refine ⟨h.1, fun ho => (h.2 ho).mono ?_⟩
  rintro e w' ⟨v, L', s', h1, rfl, h3, h4, M', rfl, h6⟩
  obtain ⟨d1, d2, d3⟩ := drop_own h3
  refine ⟨v, L, fill M' s', h1, d1, d2, h4.trans d3, rfl, M', s', h6, d3, fun b zs t hm j u hj => ?_⟩
  rw [mem_cell h3.left hm, Nat.zero_add]; exact hj
end
end Go.FL
namespace Go.Proofs.Ytpjnphonanbopaa
open Go Go.FL

/-- words, bytes and numbers as cells -/
def wv (l : List Int) : List Value := l.map (Value.int .u32)
def bv (l : List UInt8) : List Value := l.map fun x => Value.int .u8 (x.toNat : Int)
def iv (l : List Int) : List Value := l.map (Value.int .i64)
def av (l : List Ac) : List Value := l.flatMap Ac.cs
theorem wv_len (l : List Int) : (wv l).length = l.length := by simp [wv]
theorem bv_len (l : List UInt8) : (bv l).length = l.length := by simp [bv]
theorem iv_len (l : List Int) : (iv l).length = l.length := by simp [iv]
theorem Wds.row {s : World} {A : Option Addr} {n c : Nat} {l : List Int} (h : Wds s A n c l) : Row s A n 1 (wv l) :=
  ⟨by simp [wv, h.1], fun u hu => by simp [wv] at hu; obtain ⟨x, _, rfl⟩ := hu; rfl, fun j u hj => by
    simp only [wv, List.getElem?_map] at hj
    cases hx : l[j]? with
    | none => simp [hx] at hj
    | some x =>
      simp [hx] at hj; subst hj
      obtain ⟨b, off, cs, h1, h2, _, rfl, _⟩ := h.2.2.2 j x hx
      exact ⟨b, off, h1, by simpa using h2 0 _ rfl⟩⟩
theorem Bts.row {s : World} {A : Option Addr} {n c : Nat} {l : List UInt8} (h : Bts s A n c l) : Row s A n 1 (bv l) :=
  ⟨by simp [bv, h.1], fun u hu => by simp [bv] at hu; obtain ⟨x, _, rfl⟩ := hu; rfl, fun j u hj => by
    simp only [bv, List.getElem?_map] at hj
    cases hx : l[j]? with
    | none => simp [hx] at hj
    | some x =>
      simp [hx] at hj; subst hj
      obtain ⟨b, off, cs, h1, h2, _, rfl⟩ := h.2.2.2 j x hx
      exact ⟨b, off, h1, by simpa using h2 0 _ rfl⟩⟩
theorem Bts.nil (s : World) (A : Option Addr) (c : Nat) (hc : c ≤ 9223372036854775807) : Bts s A 0 c [] := ⟨rfl, Nat.zero_le _, hc, fun i x h => by cases h⟩
theorem Wds.nil (s : World) (A : Option Addr) (c : Nat) (hc : c ≤ 9223372036854775807) : Wds s A 0 c [] := ⟨rfl, Nat.zero_le _, hc, fun i x h => by cases h⟩
/-- a row that was owned, in the shared world -/
theorem Own.slice {e sz : Nat} {A : Hl} {v : Value} {n : Nat} {xs : List Value} (h : Own e sz A v n xs) : ∃ Ad c, v = .slice Ad n c ∧ n ≤ c ∧ c ≤ 9223372036854775807 := by
  cases h with
  | nil => exact ⟨none, 0, rfl, Nat.le_refl _, by omega⟩
  | blk b cap n xs ys hn hc hnc hm => exact ⟨_, cap, rfl, hnc, hm⟩
theorem Own.bts {e : Nat} {A : Hl} {Ad : Option Addr} {n c : Nat} {l : List UInt8} {s : World} (h : Own e 1 A (.slice Ad n c) n (bv l)) (hp : ∀ b zs t, (b, cb zs t) ∈ A → CellsAt s b 0 zs) : Bts s Ad n c l := by
  generalize hv : Value.slice Ad n c = v at h
  generalize hx : bv l = xs at h
  cases h with
  | nil =>
    injection hv with e1 e2 e3
    have : l = [] := by cases l with
      | nil => rfl
      | cons y l => simp [bv] at hx
    subst this; subst e3; exact Bts.nil s Ad 0 (by omega)
  | blk b cap n xs ys hn hc hnc hm =>
    injection hv with e1 e2 e3
    subst e1; subst e3; subst hx
    refine ⟨by simpa [bv] using hn.symm, hnc, hm, fun i x hi => ⟨b, 0, [.int .u8 (x.toNat : Int)], rfl, fun j u hj => ?_, rfl, rfl⟩⟩
    have hc := hp b _ e (List.mem_cons_self ..)
    cases j with
    | zero =>
      simp at hj; subst hj
      have := hc i (.int .u8 (x.toNat : Int)) (by rw [List.getElem?_append_left (by simp [bv]; exact (List.getElem?_eq_some_iff.1 hi).1)]; simp [bv, hi])
      simpa using this
    | succ j => simp at hj
theorem Own.wds {e : Nat} {A : Hl} {Ad : Option Addr} {n c : Nat} {l : List Int} {s : World} (h : Own e 1 A (.slice Ad n c) n (wv l)) (hu : ∀ x ∈ l, U32 x) (hp : ∀ b zs t, (b, cb zs t) ∈ A → CellsAt s b 0 zs) : Wds s Ad n c l := by
  generalize hv : Value.slice Ad n c = v at h
  generalize hx : wv l = xs at h
  cases h with
  | nil =>
    injection hv with e1 e2 e3
    have : l = [] := by cases l with
      | nil => rfl
      | cons y l => simp [wv] at hx
    subst this; subst e3; exact Wds.nil s Ad 0 (by omega)
  | blk b cap n xs ys hn hc hnc hm =>
    injection hv with e1 e2 e3
    subst e1; subst e3; subst hx
    refine ⟨by simpa [wv] using hn.symm, hnc, hm, fun i x hi => ⟨b, 0, [.int .u32 x], rfl, fun j u hj => ?_, rfl, rfl, hu x (List.mem_of_getElem? hi)⟩⟩
    have hc := hp b _ e (List.mem_cons_self ..)
    cases j with
    | zero =>
      simp at hj; subst hj
      have := hc i (.int .u32 x) (by rw [List.getElem?_append_left (by simp [wv]; exact (List.getElem?_eq_some_iff.1 hi).1)]; simp [wv, hi])
      simpa using this
    | succ j => simp at hj
theorem Wds.u32 {s : World} {A : Option Addr} {n c : Nat} {l : List Int} (h : Wds s A n c l) : ∀ x ∈ l, U32 x := fun x hx => by
  obtain ⟨i, hi⟩ := List.getElem?_of_mem hx
  obtain ⟨b, off, cs, h1, h2, _, rfl, h4⟩ := h.2.2.2 i x hi
  exact h4
theorem Bts.tail {s : World} {A : Option Addr} {n c : Nat} {x : UInt8} {l : List UInt8} (h : Bts s A n c (x :: l)) : Bts s (if c = 1 then A else A.map (·.add (1 * 1))) (n - 1) (c - 1) l :=
  ⟨by have := h.1; simp at this; omega, by have := h.2.1; omega, by have := h.2.2.1; omega, fun i y hi => by
    obtain ⟨b, off, cs, h1, h2, h3, h4⟩ := h.2.2.2 (i + 1) y (by simpa using hi)
    have hl : i < l.length := (List.getElem?_eq_some_iff.1 hi).1
    have hn := h.1
    simp at hn
    have hc := h.2.1
    subst h1
    refine ⟨b, off + 1, cs, ?_, ?_, h3, h4⟩
    · rw [if_neg (by omega)]; simp [add_lit]
    · rw [show off + 1 + i * 1 = off + (i + 1) * 1 by omega]; exact h2⟩

/- plain machine -/
def getR (m : Mst) (i : Int) : Int := if i = 0 then m.r0 else if i = 1 then m.r1 else if i = 2 then m.r2 else if i = 3 then m.r3 else m.r4
def setR (m : Mst) (i v : Int) : Mst := { m with r0 := if i = 0 then v else m.r0, r1 := if i = 1 then v else m.r1, r2 := if i = 2 then v else m.r2, r3 := if i = 3 then v else m.r3, r4 := if i = 4 then v else m.r4 }
def valT (m : Mst) (op : Int) (x : Tm) : Int := if x.kind = 1 then getR m x.val else if x.kind = 2 then op else x.val
def w32 (x : Int) : Int := x % 4294967296
def comp (k x y : Int) : Int :=
  if k = 1 then w32 (x + y) else if k = 2 then w32 (x - y) else if k = 3 then w32 (x * y) else if k = 4 then x / y else if k = 5 then x % y
  else if k = 6 then ((x.toNat &&& y.toNat : Nat) : Int) else if k = 7 then ((x.toNat ||| y.toNat : Nat) : Int) else if k = 8 then ((x.toNat ^^^ y.toNat : Nat) : Int)
  else if k = 9 then (((x.toNat <<< y.toNat) % 4294967296 : Nat) : Int) else if k = 10 then ((x.toNat >>> y.toNat : Nat) : Int)
  else if k = 11 then (if x = y then 1 else 0) else if k = 12 then (if x < y then 1 else 0) else x
def actM (m : Mst) (a : Ac) (op : Int) : Mst :=
  let x := valT m op a.x
  let y := valT m op a.y
  if (a.kind = 4 ∨ a.kind = 5) ∧ y = 0 then { m with stop := 4 }
  else if (a.kind = 13 ∨ a.kind = 14) ∧ (m.cells.length : Int) ≤ x then { m with stop := 3 }
  else if a.kind = 16 ∧ m.output.length = 20000 then { m with stop := 5 }
  else if a.kind = 13 then setR m a.to (m.cells.getD x.toNat 0)
  else if a.kind = 14 then { m with cells := m.cells.set x.toNat y }
  else if a.kind = 15 then (match m.input with
    | [] => setR m a.to 4294967295
    | c :: r => { setR m a.to (c.toNat : Int) with input := r })
  else if a.kind = 16 then { m with output := m.output ++ [UInt8.ofNat (x.toNat % 256)] }
  else if a.kind = 17 ∨ (a.kind = 18 ∧ y = 0) then { m with stop := 1, code := x }
  else if a.kind ≤ 12 ∨ (a.kind = 19 ∧ y = 0) then setR m a.to (comp a.kind x y)
  else m
def actsM (m : Mst) (op : Int) : List Ac → Mst
  | [] => m
  | a :: r => if (actM m a op).stop = 0 then actsM (actM m a op) op r else actM m a op
def findI (ins : List Ins) (c : Int) : Option Ins := ins.find? fun x => decide (x.code = c)
def stepM (t : Tab) (m : Mst) : Mst :=
  if (m.cells.length : Int) ≤ m.r4 then { m with stop := 3 }
  else match findI t.ins (m.cells.getD m.r4.toNat 0) with
    | none => { m with stop := 2 }
    | some x =>
      if x.operand then
        if m.r4 + 1 = (m.cells.length : Int) then { m with stop := 3 } else actsM { m with r4 := m.r4 + 2 } (m.cells.getD (m.r4 + 1).toNat 0) x.acts
      else actsM { m with r4 := m.r4 + 1 } 0 x.acts
def runM (t : Tab) (m : Mst) : Nat → Mst × Nat
  | 0 => (m, 0)
  | n + 1 => if m.stop = 0 then ((runM t (stepM t m) n).1, (runM t (stepM t m) n).2 + 1) else (m, 0)
/-- one more than the place of the last instruction, of the first k, with a code -/
def posn (ins : List Ins) (c : Int) : Nat → Nat
  | 0 => 0
  | k + 1 => match ins[k]? with
    | some x => if x.code = c then k + 1 else posn ins c k
    | none => posn ins c k
/-- what holds of a state that a machine works on -/
structure MOK (m : Mst) : Prop where
  cells : m.cells.length ≤ 65536
  wide : ∀ x ∈ m.cells, U32 x
  u0 : U32 m.r0
  u1 : U32 m.r1
  u2 : U32 m.r2
  u3 : U32 m.r3
  u4 : U32 m.r4
  output : m.output.length ≤ 20000
  input : m.input.length ≤ 400000
  code : U32 m.code
end Go.Proofs.Ytpjnphonanbopaa
