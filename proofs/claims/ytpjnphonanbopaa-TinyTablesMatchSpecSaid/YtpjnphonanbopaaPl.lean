/- Plain facts on lists and on what a table's check gives. -/
import Derived.Test.YtpjnphonanbopaaDt
namespace Go.Proofs.Ytpjnphonanbopaa
open Go Go.FL

theorem below_succ {α : Type} {p : Nat → α → Prop} {l : List α} {k : Nat} {a : α} (h : ∀ i b, i < k → l[i]? = some b → p i b) (hk : l[k]? = some a) (ha : p k a) : ∀ i b, i < k + 1 → l[i]? = some b → p i b := by
  intro i b hi hb
  rcases Nat.lt_succ_iff_lt_or_eq.1 hi with h1 | rfl
  · exact h i b h1 hb
  · rw [hk] at hb; injection hb with hb; subst hb; exact ha
def letB (c : UInt8) : Bool := decide (97 ≤ c.toNat) && decide (c.toNat ≤ 122)
def digB (c : UInt8) : Bool := decide (48 ≤ c.toNat) && decide (c.toNat ≤ 57)
def chOK (i : Nat) (c : UInt8) : Bool := letB c || (digB c && decide (i ≠ 0))
def charsFrom (i : Nat) : List UInt8 → Bool
  | [] => true
  | c :: r => chOK i c && charsFrom (i + 1) r
theorem charsFrom_iff (l : List UInt8) (i : Nat) : charsFrom i l = true ↔ ∀ j c, l[j]? = some c → chOK (i + j) c = true := by
  induction l generalizing i with
  | nil => simp [charsFrom]
  | cons c r ih =>
    simp only [charsFrom, Bool.and_eq_true, ih]
    constructor
    · rintro ⟨h1, h2⟩ j d hj
      cases j with
      | zero => simp at hj; subst hj; exact h1
      | succ j => simp at hj; have := h2 j d hj; rwa [Nat.add_assoc, Nat.add_comm 1 j] at this
    · intro h
      exact ⟨by simpa using h 0 c (by simp), fun j d hj => by have := h (j + 1) d (by simpa using hj); rwa [Nat.add_assoc, Nat.add_comm 1 j]⟩
theorem chars_all {l : List UInt8} (h : ∀ i c, i < l.length → l[i]? = some c → chOK i c = true) : charsFrom 0 l = true :=
  (charsFrom_iff l 0).2 fun j c hj => by
    have hl : j < l.length := (List.getElem?_eq_some_iff.1 hj).1
    simpa using h j c hl hj
theorem chars_not {l : List UInt8} {k : Nat} {c : UInt8} (hk : l[k]? = some c) (h : chOK k c = false) : charsFrom 0 l = false := by
  cases hb : charsFrom 0 l with
  | false => rfl
  | true => have := (charsFrom_iff l 0).1 hb k c hk; simp at this; rw [this] at h; cases h
/-- a label: a letter and further letters and digits, at most six -/
def labelB (l : List UInt8) : Bool := decide (l ≠ []) && decide (l.length ≤ 6) && charsFrom 0 l
def mnemB (l : List UInt8) : Bool := labelB l && decide (l ≠ [119, 111, 114, 100]) && decide (l ≠ [115, 112, 97, 99, 101])

/-- the first number that is not 0 -/
def firstNZ : List Int → Int
  | [] => 0
  | c :: r => if c ≠ 0 then c else firstNZ r
theorem firstNZ_hit {α : Type} {f : α → Int} {l : List α} {k : Nat} {a : α} (h : ∀ i b, i < k → l[i]? = some b → f b = 0) (hk : l[k]? = some a) (ha : f a ≠ 0) : firstNZ (l.map f) = f a := by
  induction l generalizing k with
  | nil => simp at hk
  | cons b r ih =>
    cases k with
    | zero => simp at hk; subst hk; simp [firstNZ, ha]
    | succ k =>
      have h0 := h 0 b (by omega) (by simp)
      simp only [List.map_cons, firstNZ, h0, ne_eq, not_true, if_false]
      exact ih (k := k) (fun i c hi hc => h (i + 1) c (by omega) (by simpa using hc)) (by simpa using hk)
theorem firstNZ_none {α : Type} {f : α → Int} {l : List α} (h : ∀ i b, i < l.length → l[i]? = some b → f b = 0) : firstNZ (l.map f) = 0 := by
  induction l with
  | nil => rfl
  | cons b r ih =>
    have h0 := h 0 b (by simp) (by simp)
    simp only [List.map_cons, firstNZ, h0, ne_eq, not_true, if_false]
    exact ih fun i c hi hc => h (i + 1) c (by simp; omega) (by simpa using hc)

/-- the first place at which f is not 0 -/
def firstBad (f : Nat → Int) : Nat → Nat → Int × Int
  | 0, _ => (0, 0)
  | m + 1, k => if f k ≠ 0 then (f k, (k : Int)) else firstBad f m (k + 1)
theorem firstBad_hit {f : Nat → Int} {m k j : Nat} (h : ∀ i, j ≤ i → i < k → f i = 0) (hj : j ≤ k) (hk : f k ≠ 0) (hm : k < j + m) : firstBad f m j = (f k, (k : Int)) := by
  induction m generalizing j with
  | zero => omega
  | succ m ih =>
    by_cases he : j = k
    · subst he; simp [firstBad, hk]
    · have h0 := h j (Nat.le_refl _) (by omega)
      simp only [firstBad, h0, ne_eq, not_true, if_false]
      exact ih (fun i h1 h2 => h i (by omega) h2) (by omega) (by omega)
theorem firstBad_none {f : Nat → Int} {m j : Nat} (h : ∀ i, j ≤ i → i < j + m → f i = 0) : firstBad f m j = (0, 0) := by
  induction m generalizing j with
  | zero => rfl
  | succ m ih =>
    have h0 := h j (Nat.le_refl _) (by omega)
    simp only [firstBad, h0, ne_eq, not_true, if_false]
    exact ih fun i h1 h2 => h i (by omega) (by omega)

def usesT (k : Int) : Bool := !(decide (k = 14) || decide (k = 18) || decide (k = 16) || decide (k = 17))
def usesX (k : Int) : Bool := !(decide (k = 15))
def usesY (k : Int) : Bool := !(decide (k = 16) || decide (k = 17) || decide (k = 15) || decide (k = 0) || decide (k = 13))
def termB (t : Tm) (u o : Bool) : Bool := if u then (decide (t.kind = 0) || decide (t.kind = 1) && decide (t.val ≤ 4) || decide (t.kind = 2) && decide (t.val = 0) && o) else decide (t.kind = 0) && decide (t.val = 0)
def actCode (a : Ac) (o : Bool) : Int :=
  if a.kind < 0 ∨ 20 ≤ a.kind then 5 else if a.to < 0 ∨ 4 < a.to then 4
  else if (!usesT a.kind && decide (a.to ≠ 0)) || !termB a.x (usesX a.kind) o || !termB a.y (usesY a.kind) o then 6 else 0
/-- the error code of an instruction by itself -/
def insCode (x : Ins) : Int := if mnemB x.name = false then 7 else if 8 < x.acts.length then 2 else firstNZ (x.acts.map fun a => actCode a x.operand)
def sameKey (x y : Ins) : Bool := decide (x.name = y.name) || decide (x.code = y.code)
/-- the position of the first element with a property, or -1 -/
def idxOf {α : Type} (p : α → Bool) : List α → Nat → Int
  | [], _ => -1
  | x :: r, k => if p x then (k : Int) else idxOf p r (k + 1)
theorem idxOf_hit {α : Type} {p : α → Bool} {l : List α} {k j : Nat} {a : α} (h : ∀ i b, i < k → l[i]? = some b → p b = false) (hk : l[k]? = some a) (ha : p a = true) : idxOf p l j = (j + k : Nat) := by
  induction l generalizing k j with
  | nil => simp at hk
  | cons b r ih =>
    cases k with
    | zero => simp at hk; subst hk; simp [idxOf, ha]
    | succ k =>
      have h0 := h 0 b (by omega) (by simp)
      simp only [idxOf, h0, Bool.false_eq_true, if_false]
      rw [ih (k := k) (fun i c hi hc => h (i + 1) c (by omega) (by simpa using hc)) (by simpa using hk)]
      congr 1; omega
theorem idxOf_none {α : Type} {p : α → Bool} {l : List α} {j : Nat} (h : ∀ i b, i < l.length → l[i]? = some b → p b = false) : idxOf p l j = -1 := by
  induction l generalizing j with
  | nil => rfl
  | cons b r ih =>
    have h0 := h 0 b (by simp) (by simp)
    simp only [idxOf, h0, Bool.false_eq_true, if_false]
    exact ih fun i c hi hc => h (i + 1) c (by simp; omega) (by simpa using hc)
theorem idxOf_any {α : Type} (p : α → Bool) (l : List α) (j : Nat) : decide (0 ≤ idxOf p l j) = l.any p := by
  induction l generalizing j with
  | nil => simp [idxOf]
  | cons b r ih =>
    by_cases hb : p b = true
    · simp [idxOf, hb]
    · simp only [idxOf, hb]; simpa [hb] using ih (j + 1)
/-- the error code at instruction k -/
def rowCode (l : List Ins) (k : Nat) : Int := match l[k]? with
  | none => 0
  | some x => if insCode x ≠ 0 then insCode x else if (l.take k).any (sameKey x) then 8 else 0
/-- the fault of a table -/
def tabFault (t : Tab) : Int × Int :=
  if t.cells < 1 ∨ 65536 < t.cells then (4, -1) else if 64 < t.ins.length then (2, -1) else firstBad (rowCode t.ins) t.ins.length 0
theorem tab_hit {t : Tab} {k : Nat} {c : Int} (h0 : 1 ≤ t.cells ∧ t.cells ≤ 65536) (h1 : t.ins.length ≤ 64) (hI : ∀ i, i < k → rowCode t.ins i = 0) (hk : k < t.ins.length) (hr : rowCode t.ins k = c) (hc : c ≠ 0) : tabFault t = (c, (k : Int)) := by
  subst hr
  have hb := firstBad_hit (f := rowCode t.ins) (m := t.ins.length) (j := 0) (k := k) (fun i _ hi => hI i hi) (by omega) hc (by omega)
  unfold tabFault
  rw [if_neg (by omega), if_neg (by omega), hb]
theorem tab_none {t : Tab} (h0 : 1 ≤ t.cells ∧ t.cells ≤ 65536) (h1 : t.ins.length ≤ 64) (hI : ∀ i, i < t.ins.length → rowCode t.ins i = 0) : tabFault t = (0, 0) := by
  have hb := firstBad_none (f := rowCode t.ins) (m := t.ins.length) (j := 0) (fun i _ hi => hI i (by omega))
  unfold tabFault
  rw [if_neg (by omega), if_neg (by omega), hb]
theorem any_take {α : Type} {l : List α} {p : α → Bool} {m k : Nat} {y : α} (hy : l[m]? = some y) (hm : m < k) (h : p y = true) : (l.take k).any p = true := by
  rw [List.any_eq_true]
  exact ⟨y, List.mem_of_getElem? (i := m) (by rw [List.getElem?_take, if_pos hm]; exact hy), h⟩
theorem any_take_none {α : Type} {l : List α} {p : α → Bool} {k : Nat} (h : ∀ i y, i < k → l[i]? = some y → p y = false) : (l.take k).any p = false := by
  rw [List.any_eq_false]
  intro y hy
  obtain ⟨i, hi, he⟩ := List.getElem_of_mem hy
  have hlt : i < k := by simp at hi; omega
  have hg : l[i]? = some y := by
    have := List.getElem?_eq_getElem hi
    rw [List.getElem?_take, if_pos hlt] at this
    rw [this, he]
  simp [h i y hlt hg]
theorem row_ok {l : List Ins} {k : Nat} {x : Ins} (hx : l[k]? = some x) (hm : mnemB x.name = true) (h8 : ¬ 8 < x.acts.length) (hJ : ∀ i a, i < x.acts.length → x.acts[i]? = some a → actCode a x.operand = 0) (hM : ∀ i y, i < k → l[i]? = some y → sameKey x y = false) : rowCode l k = 0 := by
  have hf := firstNZ_none (l := x.acts) (f := fun a => actCode a x.operand) hJ
  simp [rowCode, hx, insCode, hm, h8, hf, any_take_none hM]
theorem mnem_T {l : List UInt8} (h : labelB l = true) (h1 : ¬ l = [119, 111, 114, 100]) (h2 : ¬ l = [115, 112, 97, 99, 101]) : mnemB l = true := by simp [mnemB, h, h1, h2]
theorem mnem_F1 {l : List UInt8} (h : labelB l = false) : mnemB l = false := by simp [mnemB, h]
theorem mnem_F2 {l : List UInt8} (h : l = [119, 111, 114, 100]) : mnemB l = false := by simp [mnemB, h]
theorem mnem_F3 {l : List UInt8} (h : l = [115, 112, 97, 99, 101]) : mnemB l = false := by simp [mnemB, h]
theorem same_T1 {x y : Ins} (h : y.name = x.name) : sameKey x y = true := by simp [sameKey, h]
theorem same_T2 {x y : Ins} (h : y.code = x.code) : sameKey x y = true := by simp [sameKey, h]
theorem same_F {x y : Ins} (h1 : ¬ y.name = x.name) (h2 : ¬ y.code = x.code) : sameKey x y = false := by
  simp only [sameKey, Bool.or_eq_false_iff, decide_eq_false_iff_not]
  exact ⟨fun e => h1 e.symm, fun e => h2 e.symm⟩
end Go.Proofs.Ytpjnphonanbopaa
