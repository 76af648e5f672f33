/- Part 2 of the proof of asmAssembleMatchesSpec_holds: texts Dt, Pl, Eq, V1, V2, Ds. -/
import Derived.Test.YteomcjpigoaioaaGreatDoorQ3x1
import Derived.Laws.StructEq
import Derived.Laws.BytesString
set_option linter.unusedVariables false
set_option linter.unusedSimpArgs false
set_option linter.unnecessarySimpa false
namespace Go.Proofs.YteomcjpigoaioaaGreatDoor
open Go Go.FL
structure Tm where
  kind : Int
  val : Int
  deriving DecidableEq
structure Ac where
  kind : Int
  tgt : Int
  x : Tm
  y : Tm
  deriving DecidableEq
structure Ins where
  name : List UInt8
  code : Int
  operand : Bool
  acts : List Ac
  deriving DecidableEq
structure Tab where
  cells : Int
  ins : List Ins
  deriving DecidableEq
def Sl {α : Type} (sz : Nat) (R : World → α → List Value → Prop) (s : World) (A : Option Addr) (n c : Nat) (l : List α) : Prop :=
  n = l.length ∧ n ≤ c ∧ c ≤ 9223372036854775807 ∧ ∀ i x, l[i]? = some x → ∃ b off cs, A = some ⟨b, off, none⟩ ∧ CellsAt s b (off + i * sz) cs ∧ cs.length = sz ∧ R s x cs
theorem Sl.le {α : Type} {sz : Nat} {R : World → α → List Value → Prop} {D : Nat} {s s' : World} {A : Option Addr} {n c : Nat} {l : List α} (hR : ∀ x cs, R s x cs → R s' x cs) (h : Sl sz R s A n c l) (hl : Le D s s') : Sl sz R s' A n c l :=
  ⟨h.1, h.2.1, h.2.2.1, fun i x hi => by
    obtain ⟨b, off, cs, h1, h2, h3, h4⟩ := h.2.2.2 i x hi
    exact ⟨b, off, cs, h1, h2.le hl, h3, hR x cs h4⟩⟩
def U32 (x : Int) : Prop := 0 ≤ x ∧ x < 4294967296
def Ac.cs (a : Ac) : List Value := [.int .i64 a.kind, .int .i64 a.tgt, .int .i64 a.x.kind, .int .u32 a.x.val, .int .i64 a.y.kind, .int .u32 a.y.val]
def Acs (s : World) (A : Option Addr) (n c : Nat) (l : List Ac) : Prop := Sl 6 (fun _ a cs => cs = a.cs ∧ U32 a.x.val ∧ U32 a.y.val) s A n c l
theorem Acs.le {D : Nat} {s s' : World} {A : Option Addr} {n c : Nat} {l : List Ac} (h : Acs s A n c l) (hl : Le D s s') : Acs s' A n c l := Sl.le (fun _ _ h => h) h hl
def InsR (s : World) (x : Ins) (cs : List Value) : Prop := ∃ A n c, cs = [St x.name, .int .u32 x.code, .bool x.operand, .slice A n c] ∧ Acs s A n c x.acts ∧ x.name.length ≤ 9223372036854775807 ∧ U32 x.code
def Inss (s : World) (A : Option Addr) (n c : Nat) (l : List Ins) : Prop := Sl 4 InsR s A n c l
theorem InsR.le {D : Nat} {s s' : World} {x : Ins} {cs : List Value} (h : InsR s x cs) (hl : Le D s s') : InsR s' x cs := by
  obtain ⟨A, n, c, h1, h2, h3⟩ := h
  exact ⟨A, n, c, h1, h2.le hl, h3⟩
theorem Inss.le {D : Nat} {s s' : World} {A : Option Addr} {n c : Nat} {l : List Ins} (h : Inss s A n c l) (hl : Le D s s') : Inss s' A n c l := Sl.le (fun _ _ h => h.le hl) h hl
theorem Acs.at_ {s : World} {A : Option Addr} {n c k : Nat} {l : List Ac} (h : Acs s A n c l) (hk : k < n) : ∃ b off a, A = some ⟨b, off, none⟩ ∧ l[k]? = some a ∧
    CellsAt s b (off + k * 6) [.int .i64 a.kind, .int .i64 a.tgt, .int .i64 a.x.kind, .int .u32 a.x.val, .int .i64 a.y.kind, .int .u32 a.y.val] ∧ U32 a.x.val ∧ U32 a.y.val := by
  have hl : k < l.length := by rw [← h.1]; exact hk
  obtain ⟨b, off, cs, h1, h2, _, rfl, h5⟩ := h.2.2.2 k l[k] (List.getElem?_eq_getElem hl)
  exact ⟨b, off, l[k], h1, List.getElem?_eq_getElem hl, h2, h5⟩
theorem Inss.at_ {s : World} {A : Option Addr} {n c k : Nat} {l : List Ins} (h : Inss s A n c l) (hk : k < n) : ∃ b off x A' n' c', A = some ⟨b, off, none⟩ ∧ l[k]? = some x ∧
    CellsAt s b (off + k * 4) [St x.name, .int .u32 x.code, .bool x.operand, .slice A' n' c'] ∧ Acs s A' n' c' x.acts ∧ x.name.length ≤ 9223372036854775807 ∧ U32 x.code := by
  have hl : k < l.length := by rw [← h.1]; exact hk
  obtain ⟨b, off, cs, h1, h2, _, A', n', c', rfl, h5, h6⟩ := h.2.2.2 k l[k] (List.getElem?_eq_getElem hl)
  exact ⟨b, off, l[k], A', n', c', h1, List.getElem?_eq_getElem hl, h2, h5, h6⟩
theorem Sl.take {α : Type} {sz : Nat} {R : World → α → List Value → Prop} {s : World} {A : Option Addr} {n c k : Nat} {l : List α} (h : Sl sz R s A n c l) (hk : k < n) : Sl sz R s A k c (l.take k) :=
  ⟨by have := h.1; simp; omega, by have := h.2.1; omega, h.2.2.1, fun i x hi => h.2.2.2 i x (by
    rw [List.getElem?_take] at hi
    split at hi
    · exact hi
    · cases hi)⟩
theorem Inss.take {s : World} {A : Option Addr} {n c k : Nat} {l : List Ins} (h : Inss s A n c l) (hk : k < n) : Inss s A k c (l.take k) := Sl.take h hk
def Wds (s : World) (A : Option Addr) (n c : Nat) (l : List Int) : Prop := Sl 1 (fun _ x cs => cs = [.int .u32 x] ∧ U32 x) s A n c l
def Bts (s : World) (A : Option Addr) (n c : Nat) (l : List UInt8) : Prop := Sl 1 (fun _ x cs => cs = [.int .u8 (x.toNat : Int)]) s A n c l
theorem Wds.le {D : Nat} {s s' : World} {A : Option Addr} {n c : Nat} {l : List Int} (h : Wds s A n c l) (hl : Le D s s') : Wds s' A n c l := Sl.le (fun _ _ h => h) h hl
theorem Bts.le {D : Nat} {s s' : World} {A : Option Addr} {n c : Nat} {l : List UInt8} (h : Bts s A n c l) (hl : Le D s s') : Bts s' A n c l := Sl.le (fun _ _ h => h) h hl
theorem Wds.at_ {s : World} {A : Option Addr} {n c k : Nat} {l : List Int} (h : Wds s A n c l) (hk : k < n) : ∃ b off x, A = some ⟨b, off, none⟩ ∧ l[k]? = some x ∧ CellsAt s b (off + k) [.int .u32 x] ∧ U32 x := by
  have hl : k < l.length := by rw [← h.1]; exact hk
  obtain ⟨b, off, cs, h1, h2, _, rfl, h4⟩ := h.2.2.2 k l[k] (List.getElem?_eq_getElem hl)
  exact ⟨b, off, l[k], h1, List.getElem?_eq_getElem hl, by simpa using h2, h4⟩
theorem Bts.at_ {s : World} {A : Option Addr} {n c k : Nat} {l : List UInt8} (h : Bts s A n c l) (hk : k < n) : ∃ b off x, A = some ⟨b, off, none⟩ ∧ l[k]? = some x ∧ CellsAt s b (off + k) [.int .u8 (x.toNat : Int)] := by
  have hl : k < l.length := by rw [← h.1]; exact hk
  obtain ⟨b, off, cs, h1, h2, _, rfl⟩ := h.2.2.2 k l[k] (List.getElem?_eq_getElem hl)
  exact ⟨b, off, l[k], h1, List.getElem?_eq_getElem hl, by simpa using h2⟩
structure Mst where
  cells : List Int
  r0 : Int
  r1 : Int
  r2 : Int
  r3 : Int
  r4 : Int
  input : List UInt8
  output : List UInt8
  stop : Int
  code : Int
  deriving DecidableEq
end Go.Proofs.YteomcjpigoaioaaGreatDoor
namespace Go.Proofs.YteomcjpigoaioaaGreatDoor
open Go Go.FL
theorem below_succ {α : Type} {p : Nat → α → Prop} {l : List α} {k : Nat} {a : α} (h : ∀ i b, i < k → l[i]? = some b → p i b) (hk : l[k]? = some a) (ha : p k a) : ∀ i b, i < k + 1 → l[i]? = some b → p i b := by
  intro i b hi hb
  rcases Nat.lt_succ_iff_lt_or_eq.1 hi with h1 | rfl
  · exact h i b h1 hb
  · rw [hk] at hb; injection hb with hb; subst hb; exact ha
def letB (c : UInt8) : Bool := decide (97 ≤ c.toNat) && decide (c.toNat ≤ 122)
def digB (c : UInt8) : Bool := decide (48 ≤ c.toNat) && decide (c.toNat ≤ 57)
def chOK (i : Nat) (c : UInt8) : Bool := letB c || (digB c && decide (i ≠ 0))
def charsFrom (i : Nat) : List UInt8 → Bool
  | [] => true
  | c :: r => chOK i c && charsFrom (i + 1) r
theorem charsFrom_iff (l : List UInt8) (i : Nat) : charsFrom i l = true ↔ ∀ j c, l[j]? = some c → chOK (i + j) c = true := by
  induction l generalizing i with
  | nil => simp [charsFrom]
  | cons c r ih =>
    simp only [charsFrom, Bool.and_eq_true, ih]
    constructor
    · rintro ⟨h1, h2⟩ j d hj
      cases j with
      | zero => simp at hj; subst hj; exact h1
      | succ j => simp at hj; have := h2 j d hj; rwa [Nat.add_assoc, Nat.add_comm 1 j] at this
    · intro h
      exact ⟨by simpa using h 0 c (by simp), fun j d hj => by have := h (j + 1) d (by simpa using hj); rwa [Nat.add_assoc, Nat.add_comm 1 j]⟩
theorem chars_all {l : List UInt8} (h : ∀ i c, i < l.length → l[i]? = some c → chOK i c = true) : charsFrom 0 l = true :=
  (charsFrom_iff l 0).2 fun j c hj => by
    have hl : j < l.length := (List.getElem?_eq_some_iff.1 hj).1
    simpa using h j c hl hj
theorem chars_not {l : List UInt8} {k : Nat} {c : UInt8} (hk : l[k]? = some c) (h : chOK k c = false) : charsFrom 0 l = false := by
  cases hb : charsFrom 0 l with
  | false => rfl
  | true => have := (charsFrom_iff l 0).1 hb k c hk; simp at this; rw [this] at h; cases h
def labelB (l : List UInt8) : Bool := decide (l ≠ []) && decide (l.length ≤ 6) && charsFrom 0 l
def mnemB (l : List UInt8) : Bool := labelB l && decide (l ≠ [119, 111, 114, 100]) && decide (l ≠ [115, 112, 97, 99, 101])
def firstNZ : List Int → Int
  | [] => 0
  | c :: r => if c ≠ 0 then c else firstNZ r
theorem firstNZ_hit {α : Type} {f : α → Int} {l : List α} {k : Nat} {a : α} (h : ∀ i b, i < k → l[i]? = some b → f b = 0) (hk : l[k]? = some a) (ha : f a ≠ 0) : firstNZ (l.map f) = f a := by
  induction l generalizing k with
  | nil => simp at hk
  | cons b r ih =>
    cases k with
    | zero => simp at hk; subst hk; simp [firstNZ, ha]
    | succ k =>
      have h0 := h 0 b (by omega) (by simp)
      simp only [List.map_cons, firstNZ, h0, ne_eq, not_true, if_false]
      exact ih (k := k) (fun i c hi hc => h (i + 1) c (by omega) (by simpa using hc)) (by simpa using hk)
theorem firstNZ_none {α : Type} {f : α → Int} {l : List α} (h : ∀ i b, i < l.length → l[i]? = some b → f b = 0) : firstNZ (l.map f) = 0 := by
  induction l with
  | nil => rfl
  | cons b r ih =>
    have h0 := h 0 b (by simp) (by simp)
    simp only [List.map_cons, firstNZ, h0, ne_eq, not_true, if_false]
    exact ih fun i c hi hc => h (i + 1) c (by simp; omega) (by simpa using hc)
def firstBad (f : Nat → Int) : Nat → Nat → Int × Int
  | 0, _ => (0, 0)
  | m + 1, k => if f k ≠ 0 then (f k, (k : Int)) else firstBad f m (k + 1)
theorem firstBad_hit {f : Nat → Int} {m k j : Nat} (h : ∀ i, j ≤ i → i < k → f i = 0) (hj : j ≤ k) (hk : f k ≠ 0) (hm : k < j + m) : firstBad f m j = (f k, (k : Int)) := by
  induction m generalizing j with
  | zero => omega
  | succ m ih =>
    by_cases he : j = k
    · subst he; simp [firstBad, hk]
    · have h0 := h j (Nat.le_refl _) (by omega)
      simp only [firstBad, h0, ne_eq, not_true, if_false]
      exact ih (fun i h1 h2 => h i (by omega) h2) (by omega) (by omega)
theorem firstBad_none {f : Nat → Int} {m j : Nat} (h : ∀ i, j ≤ i → i < j + m → f i = 0) : firstBad f m j = (0, 0) := by
  induction m generalizing j with
  | zero => rfl
  | succ m ih =>
    have h0 := h j (Nat.le_refl _) (by omega)
    simp only [firstBad, h0, ne_eq, not_true, if_false]
    exact ih fun i h1 h2 => h i (by omega) (by omega)
def usesT (k : Int) : Bool := !(decide (k = 14) || decide (k = 18) || decide (k = 16) || decide (k = 17))
def usesX (k : Int) : Bool := !(decide (k = 15))
def usesY (k : Int) : Bool := !(decide (k = 16) || decide (k = 17) || decide (k = 15) || decide (k = 0) || decide (k = 13))
def termB (t : Tm) (u o : Bool) : Bool := if u then (decide (t.kind = 0) || decide (t.kind = 1) && decide (t.val ≤ 4) || decide (t.kind = 2) && decide (t.val = 0) && o) else decide (t.kind = 0) && decide (t.val = 0)
def actCode (a : Ac) (o : Bool) : Int :=
  if a.kind < 0 ∨ 20 ≤ a.kind then 5 else if a.tgt < 0 ∨ 4 < a.tgt then 4
  else if (!usesT a.kind && decide (a.tgt ≠ 0)) || !termB a.x (usesX a.kind) o || !termB a.y (usesY a.kind) o then 6 else 0
def insCode (x : Ins) : Int := if mnemB x.name = false then 7 else if 8 < x.acts.length then 2 else firstNZ (x.acts.map fun a => actCode a x.operand)
def sameKey (x y : Ins) : Bool := decide (x.name = y.name) || decide (x.code = y.code)
def idxOf {α : Type} (p : α → Bool) : List α → Nat → Int
  | [], _ => -1
  | x :: r, k => if p x then (k : Int) else idxOf p r (k + 1)
theorem idxOf_hit {α : Type} {p : α → Bool} {l : List α} {k j : Nat} {a : α} (h : ∀ i b, i < k → l[i]? = some b → p b = false) (hk : l[k]? = some a) (ha : p a = true) : idxOf p l j = (j + k : Nat) := by
  induction l generalizing k j with
  | nil => simp at hk
  | cons b r ih =>
    cases k with
    | zero => simp at hk; subst hk; simp [idxOf, ha]
    | succ k =>
      have h0 := h 0 b (by omega) (by simp)
      simp only [idxOf, h0, Bool.false_eq_true, if_false]
      rw [ih (k := k) (fun i c hi hc => h (i + 1) c (by omega) (by simpa using hc)) (by simpa using hk)]
      congr 1; omega
theorem idxOf_none {α : Type} {p : α → Bool} {l : List α} {j : Nat} (h : ∀ i b, i < l.length → l[i]? = some b → p b = false) : idxOf p l j = -1 := by
  induction l generalizing j with
  | nil => rfl
  | cons b r ih =>
    have h0 := h 0 b (by simp) (by simp)
    simp only [idxOf, h0, Bool.false_eq_true, if_false]
    exact ih fun i c hi hc => h (i + 1) c (by simp; omega) (by simpa using hc)
theorem idxOf_any {α : Type} (p : α → Bool) (l : List α) (j : Nat) : decide (0 ≤ idxOf p l j) = l.any p := by
  induction l generalizing j with
  | nil => simp [idxOf]
  | cons b r ih =>
    by_cases hb : p b = true
    · simp [idxOf, hb]
    · simp only [idxOf, hb]; simpa [hb] using ih (j + 1)
def rowCode (l : List Ins) (k : Nat) : Int := match l[k]? with
  | none => 0
  | some x => if insCode x ≠ 0 then insCode x else if (l.take k).any (sameKey x) then 8 else 0
def tabFault (t : Tab) : Int × Int :=
  if t.cells < 1 ∨ 65536 < t.cells then (4, -1) else if 64 < t.ins.length then (2, -1) else firstBad (rowCode t.ins) t.ins.length 0
theorem tab_hit {t : Tab} {k : Nat} {c : Int} (h0 : 1 ≤ t.cells ∧ t.cells ≤ 65536) (h1 : t.ins.length ≤ 64) (hI : ∀ i, i < k → rowCode t.ins i = 0) (hk : k < t.ins.length) (hr : rowCode t.ins k = c) (hc : c ≠ 0) : tabFault t = (c, (k : Int)) := by
  subst hr
  have hb := firstBad_hit (f := rowCode t.ins) (m := t.ins.length) (j := 0) (k := k) (fun i _ hi => hI i hi) (by omega) hc (by omega)
  unfold tabFault
  rw [if_neg (by omega), if_neg (by omega), hb]
theorem tab_none {t : Tab} (h0 : 1 ≤ t.cells ∧ t.cells ≤ 65536) (h1 : t.ins.length ≤ 64) (hI : ∀ i, i < t.ins.length → rowCode t.ins i = 0) : tabFault t = (0, 0) := by
  have hb := firstBad_none (f := rowCode t.ins) (m := t.ins.length) (j := 0) (fun i _ hi => hI i (by omega))
  unfold tabFault
  rw [if_neg (by omega), if_neg (by omega), hb]
theorem any_take {α : Type} {l : List α} {p : α → Bool} {m k : Nat} {y : α} (hy : l[m]? = some y) (hm : m < k) (h : p y = true) : (l.take k).any p = true := by
  rw [List.any_eq_true]
  exact ⟨y, List.mem_of_getElem? (i := m) (by rw [List.getElem?_take, if_pos hm]; exact hy), h⟩
theorem any_take_none {α : Type} {l : List α} {p : α → Bool} {k : Nat} (h : ∀ i y, i < k → l[i]? = some y → p y = false) : (l.take k).any p = false := by
  rw [List.any_eq_false]
  intro y hy
  obtain ⟨i, hi, he⟩ := List.getElem_of_mem hy
  have hlt : i < k := by simp at hi; omega
  have hg : l[i]? = some y := by
    have := List.getElem?_eq_getElem hi
    rw [List.getElem?_take, if_pos hlt] at this
    rw [this, he]
  simp [h i y hlt hg]
theorem row_ok {l : List Ins} {k : Nat} {x : Ins} (hx : l[k]? = some x) (hm : mnemB x.name = true) (h8 : ¬ 8 < x.acts.length) (hJ : ∀ i a, i < x.acts.length → x.acts[i]? = some a → actCode a x.operand = 0) (hM : ∀ i y, i < k → l[i]? = some y → sameKey x y = false) : rowCode l k = 0 := by
  have hf := firstNZ_none (l := x.acts) (f := fun a => actCode a x.operand) hJ
  simp [rowCode, hx, insCode, hm, h8, hf, any_take_none hM]
theorem mnem_T {l : List UInt8} (h : labelB l = true) (h1 : ¬ l = [119, 111, 114, 100]) (h2 : ¬ l = [115, 112, 97, 99, 101]) : mnemB l = true := by simp [mnemB, h, h1, h2]
theorem mnem_F1 {l : List UInt8} (h : labelB l = false) : mnemB l = false := by simp [mnemB, h]
theorem mnem_F2 {l : List UInt8} (h : l = [119, 111, 114, 100]) : mnemB l = false := by simp [mnemB, h]
theorem mnem_F3 {l : List UInt8} (h : l = [115, 112, 97, 99, 101]) : mnemB l = false := by simp [mnemB, h]
theorem same_T1 {x y : Ins} (h : y.name = x.name) : sameKey x y = true := by simp [sameKey, h]
theorem same_T2 {x y : Ins} (h : y.code = x.code) : sameKey x y = true := by simp [sameKey, h]
theorem same_F {x y : Ins} (h1 : ¬ y.name = x.name) (h2 : ¬ y.code = x.code) : sameKey x y = false := by
  simp only [sameKey, Bool.or_eq_false_iff, decide_eq_false_iff_not]
  exact ⟨fun e => h1 e.symm, fun e => h2 e.symm⟩
end Go.Proofs.YteomcjpigoaioaaGreatDoor
namespace Go.Proofs.YteomcjpigoaioaaGreatDoor
open Go Go.FL
theorem aggOne {P : Program} {t : Nat} {ti : TI} (h : ti.ok P t) (hk : isOne ti.kind = true) (w : World) : (isAgg t).run P w = .ok false w := by rw [run_isAgg' h, hk]; rfl
theorem eqTermIn (d : Nat) (a b c e : Int) (w : World) : (Op.equalIn (d + 2) 115 (.agg #[.int .i64 a, .int .u32 b]) (.agg #[.int .i64 c, .int .u32 e])).run Tryz.prog w = .ok (decide (a = c) && decide (b = e)) w := by
  rw [run_equalIn_agg w (d + 1) 115 _ _ (by kernel_rfl) (by kernel_rfl)]
  simp only [Program.fieldsOf, Tryz.underlying115, Op.eqFields, part]
  simp [aggOne ti3_ok rfl, aggOne ti52_ok rfl, run_equalIn_int w d 3 .i64 .i64 _ _ Tryz.underlying3, run_equalIn_int w d 52 .u32 .u32 _ _ Tryz.underlying52]
  by_cases h1 : a = c <;> by_cases h2 : b = e <;> simp [h1, h2]
theorem eqTerm (a b c d : Int) : EqA Tryz.prog 115 [.int .i64 a, .int .u32 b] [.int .i64 c, .int .u32 d] (decide (a = c) && decide (b = d)) := ⟨by kernel_rfl, fun w => eqTermIn 9998 a b c d w⟩
theorem eqFault (a b c d : Int) : EqA Tryz.prog 27 [.int .i64 a, .int .i64 b] [.int .i64 c, .int .i64 d] (decide (a = c ∧ b = d)) := ⟨by kernel_rfl, fun w => by
  show (Op.equalIn (9998 + 2) 27 _ _).run Tryz.prog w = _
  rw [run_equalIn_agg w 9999 27 _ _ (by kernel_rfl) (by kernel_rfl)]
  simp only [Program.fieldsOf, Tryz.underlying27, Op.eqFields, part]
  simp [aggOne ti3_ok rfl, run_equalIn_int w 9998 3 .i64 .i64 _ _ Tryz.underlying3]
  by_cases h1 : a = c <;> by_cases h2 : b = d <;> simp [h1, h2]⟩
end Go.Proofs.YteomcjpigoaioaaGreatDoor
namespace Go.Proofs.YteomcjpigoaioaaGreatDoor
open Go.FL
attribute [local irreducible] JC JO JA JB thenQ blockQ retQ AC fill CellsAt QE Ev Mid
set_option maxHeartbeats 1000000 in
set_option maxRecDepth 100000 in
theorem fault_ac (D : Nat) (L : Hl) (s : World) (c i : Int) : AC Tryz.prog D 64 [.int .i64 c, .int .i64 i] L s fun v L' _ => v = .agg #[.int .i64 c, .int .i64 i] ∧ L = L' := by
 refine AC_enter (TT := TT) (fn := Tryz.f64) TT_ok Tryz.func64 (by kernel_rfl) rfl Tryz.ntmps64 rfl (rs := [.cell 4 27]) rfl [(0, _), (1, _)] rfl ?_
 refine JC_seq ?_
 refine JC_region ?_
 refine JO_allocZ rfl [_, _] rfl rfl ?_
 intro β1 s1 h1
 refine JO_nil ?_
 refine thenQ_n ?_
 refine JC_seq ?_
 refine JC_region ?_
 refine JO_q (QE_mv rfl) rfl ?_
 refine JO_q (QE_mv rfl) rfl ?_
 refine JO_q (QE_build [(_, _), (_, _)] [_, _] rfl rfl rfl rfl rfl rfl) rfl ?_
 refine JO_st 0 [_, _] rfl rfl rfl rfl rfl rfl rfl rfl rfl ?_
 refine JO_nil ?_
 refine thenQ_n ?_
 refine JC_ret ?_
 refine retQ_mk [_] L (.inr rfl) (.agg (us := [_, _]) 0 rfl rfl rfl rfl rfl (.nil)) rfl h1 (fun sR hS2 => ?_)
 exact ⟨rfl, rfl⟩
set_option maxHeartbeats 1000000 in
set_option maxRecDepth 100000 in
theorem uses_ac (D : Nat) (L : Hl) (s : World) (k : Int) : AC Tryz.prog D 123 [.int .i64 k] L s fun v L' _ => v = .tuple #[.bool (usesT k), .bool (usesX k), .bool (usesY k)] ∧ L = L' := by
 refine AC_enter (TT := TT) (fn := Tryz.f123) TT_ok Tryz.func123 (by kernel_rfl) rfl Tryz.ntmps123 rfl (rs := [.tmp 2, .tmp 3, .tmp 4]) rfl [(0, _)] rfl ?_
 refine JC_seq ?_
 refine JC_region ?_
 refine JO_q (QE_as rfl) rfl ?_
 refine JO_q (QE_as rfl) rfl ?_
 refine JO_q (QE_as rfl) rfl ?_
 refine JO_nil ?_
 refine thenQ_n ?_
 refine JC_seq ?_
 refine JC_region ?_
 refine JO_q (QE_as rfl) rfl ?_
 refine JO_q (QE_as rfl) rfl ?_
 refine JO_q (QE_as rfl) rfl ?_
 refine JO_nil ?_
 refine thenQ_n ?_
 refine JC_seq ?_
 refine JC_seq ?_
 refine JC_region ?_
 refine JO_q (QE_mv rfl) rfl ?_
 refine JO_nil ?_
 refine thenQ_n ?_
 refine JC_block ?_
 refine JC_seq ?_
 refine JC_seq ?_
 refine JC_region ?_
 refine JO_q (QE_eq rfl rfl) rfl ?_
 refine JO_q (QE_as rfl) rfl ?_
 refine JO_nil ?_
 refine thenQ_n ?_
 refine JC_ifD rfl (fun c1 => ?_) (fun c1 => ?_)
 ·
  refine JC_skip ?_
  refine thenQ_n ?_
  refine JC_ifD rfl (fun c2 => ?_) (fun c2 => ?_)
  ·
   refine JC_region ?_
   refine JO_q (QE_as rfl) rfl ?_
   refine JO_nil ?_
   refine blockQ_n ?_
   refine thenQ_n ?_
   refine JC_seq ?_
   refine JC_region ?_
   refine JO_q (QE_mv rfl) rfl ?_
   refine JO_q (QE_mv rfl) rfl ?_
   refine JO_q (QE_mv rfl) rfl ?_
   refine JO_q (QE_as rfl) rfl ?_
   refine JO_q (QE_as rfl) rfl ?_
   refine JO_q (QE_as rfl) rfl ?_
   refine JO_nil ?_
   refine thenQ_n ?_
   refine JC_ret ?_
   refine retQ_mk [] L (.inr rfl) (.tmp rfl (.tmp rfl (.tmp rfl (.nil)))) rfl (Le.refl (D := D) _) (fun sR hS2 => ?_)
   exact ⟨by simp_all [resV, usesT, usesX, usesY], rfl⟩
  ·
   refine JC_seq ?_
   refine JC_seq ?_
   refine JC_region ?_
   refine JO_q (QE_eq rfl rfl) rfl ?_
   refine JO_q (QE_as rfl) rfl ?_
   refine JO_nil ?_
   refine thenQ_n ?_
   refine JC_ifD rfl (fun c3 => ?_) (fun c3 => ?_)
   ·
    refine JC_skip ?_
    refine thenQ_n ?_
    refine JC_ifD rfl (fun c4 => ?_) (fun c4 => ?_)
    ·
     refine JC_region ?_
     refine JO_q (QE_as rfl) rfl ?_
     refine JO_q (QE_as rfl) rfl ?_
     refine JO_nil ?_
     refine blockQ_n ?_
     refine thenQ_n ?_
     refine JC_seq ?_
     refine JC_region ?_
     refine JO_q (QE_mv rfl) rfl ?_
     refine JO_q (QE_mv rfl) rfl ?_
     refine JO_q (QE_mv rfl) rfl ?_
     refine JO_q (QE_as rfl) rfl ?_
     refine JO_q (QE_as rfl) rfl ?_
     refine JO_q (QE_as rfl) rfl ?_
     refine JO_nil ?_
     refine thenQ_n ?_
     refine JC_ret ?_
     refine retQ_mk [] L (.inr rfl) (.tmp rfl (.tmp rfl (.tmp rfl (.nil)))) rfl (Le.refl (D := D) _) (fun sR hS2 => ?_)
     exact ⟨by simp_all [resV, usesT, usesX, usesY], rfl⟩
    ·
     refine JC_seq ?_
     refine JC_region ?_
     refine JO_q (QE_eq rfl rfl) rfl ?_
     refine JO_q (QE_as rfl) rfl ?_
     refine JO_nil ?_
     refine thenQ_n ?_
     refine JC_ifD rfl (fun c5 => ?_) (fun c5 => ?_)
     ·
      refine JC_region ?_
      refine JO_q (QE_as rfl) rfl ?_
      refine JO_q (QE_as rfl) rfl ?_
      refine JO_nil ?_
      refine blockQ_n ?_
      refine thenQ_n ?_
      refine JC_seq ?_
      refine JC_region ?_
      refine JO_q (QE_mv rfl) rfl ?_
      refine JO_q (QE_mv rfl) rfl ?_
      refine JO_q (QE_mv rfl) rfl ?_
      refine JO_q (QE_as rfl) rfl ?_
      refine JO_q (QE_as rfl) rfl ?_
      refine JO_q (QE_as rfl) rfl ?_
      refine JO_nil ?_
      refine thenQ_n ?_
      refine JC_ret ?_
      refine retQ_mk [] L (.inr rfl) (.tmp rfl (.tmp rfl (.tmp rfl (.nil)))) rfl (Le.refl (D := D) _) (fun sR hS2 => ?_)
      exact ⟨by simp_all [resV, usesT, usesX, usesY], rfl⟩
     ·
      refine JC_seq ?_
      refine JC_seq ?_
      refine JC_region ?_
      refine JO_q (QE_eq rfl rfl) rfl ?_
      refine JO_q (QE_as rfl) rfl ?_
      refine JO_nil ?_
      refine thenQ_n ?_
      refine JC_ifD rfl (fun c6 => ?_) (fun c6 => ?_)
      ·
       refine JC_skip ?_
       refine thenQ_n ?_
       refine JC_ifD rfl (fun c7 => ?_) (fun c7 => ?_)
       ·
        refine JC_region ?_
        refine JO_q (QE_as rfl) rfl ?_
        refine JO_nil ?_
        refine blockQ_n ?_
        refine thenQ_n ?_
        refine JC_seq ?_
        refine JC_region ?_
        refine JO_q (QE_mv rfl) rfl ?_
        refine JO_q (QE_mv rfl) rfl ?_
        refine JO_q (QE_mv rfl) rfl ?_
        refine JO_q (QE_as rfl) rfl ?_
        refine JO_q (QE_as rfl) rfl ?_
        refine JO_q (QE_as rfl) rfl ?_
        refine JO_nil ?_
        refine thenQ_n ?_
        refine JC_ret ?_
        refine retQ_mk [] L (.inr rfl) (.tmp rfl (.tmp rfl (.tmp rfl (.nil)))) rfl (Le.refl (D := D) _) (fun sR hS2 => ?_)
        exact ⟨by simp_all [resV, usesT, usesX, usesY], rfl⟩
       ·
        refine JC_skip ?_
        refine blockQ_n ?_
        refine thenQ_n ?_
        refine JC_seq ?_
        refine JC_region ?_
        refine JO_q (QE_mv rfl) rfl ?_
        refine JO_q (QE_mv rfl) rfl ?_
        refine JO_q (QE_mv rfl) rfl ?_
        refine JO_q (QE_as rfl) rfl ?_
        refine JO_q (QE_as rfl) rfl ?_
        refine JO_q (QE_as rfl) rfl ?_
        refine JO_nil ?_
        refine thenQ_n ?_
        refine JC_ret ?_
        refine retQ_mk [] L (.inr rfl) (.tmp rfl (.tmp rfl (.tmp rfl (.nil)))) rfl (Le.refl (D := D) _) (fun sR hS2 => ?_)
        exact ⟨by simp_all [resV, usesT, usesX, usesY], rfl⟩
      ·
       refine JC_region ?_
       refine JO_q (QE_eq rfl rfl) rfl ?_
       refine JO_q (QE_as rfl) rfl ?_
       refine JO_nil ?_
       refine thenQ_n ?_
       refine JC_ifD rfl (fun c8 => ?_) (fun c8 => ?_)
       ·
        refine JC_region ?_
        refine JO_q (QE_as rfl) rfl ?_
        refine JO_nil ?_
        refine blockQ_n ?_
        refine thenQ_n ?_
        refine JC_seq ?_
        refine JC_region ?_
        refine JO_q (QE_mv rfl) rfl ?_
        refine JO_q (QE_mv rfl) rfl ?_
        refine JO_q (QE_mv rfl) rfl ?_
        refine JO_q (QE_as rfl) rfl ?_
        refine JO_q (QE_as rfl) rfl ?_
        refine JO_q (QE_as rfl) rfl ?_
        refine JO_nil ?_
        refine thenQ_n ?_
        refine JC_ret ?_
        refine retQ_mk [] L (.inr rfl) (.tmp rfl (.tmp rfl (.tmp rfl (.nil)))) rfl (Le.refl (D := D) _) (fun sR hS2 => ?_)
        exact ⟨by simp_all [resV, usesT, usesX, usesY], rfl⟩
       ·
        refine JC_skip ?_
        refine blockQ_n ?_
        refine thenQ_n ?_
        refine JC_seq ?_
        refine JC_region ?_
        refine JO_q (QE_mv rfl) rfl ?_
        refine JO_q (QE_mv rfl) rfl ?_
        refine JO_q (QE_mv rfl) rfl ?_
        refine JO_q (QE_as rfl) rfl ?_
        refine JO_q (QE_as rfl) rfl ?_
        refine JO_q (QE_as rfl) rfl ?_
        refine JO_nil ?_
        refine thenQ_n ?_
        refine JC_ret ?_
        refine retQ_mk [] L (.inr rfl) (.tmp rfl (.tmp rfl (.tmp rfl (.nil)))) rfl (Le.refl (D := D) _) (fun sR hS2 => ?_)
        exact ⟨by simp_all [resV, usesT, usesX, usesY], rfl⟩
   ·
    refine JC_region ?_
    refine JO_q (QE_eq rfl rfl) rfl ?_
    refine JO_q (QE_as rfl) rfl ?_
    refine JO_nil ?_
    refine thenQ_n ?_
    refine JC_ifD rfl (fun c9 => ?_) (fun c9 => ?_)
    ·
     refine JC_region ?_
     refine JO_q (QE_as rfl) rfl ?_
     refine JO_q (QE_as rfl) rfl ?_
     refine JO_nil ?_
     refine blockQ_n ?_
     refine thenQ_n ?_
     refine JC_seq ?_
     refine JC_region ?_
     refine JO_q (QE_mv rfl) rfl ?_
     refine JO_q (QE_mv rfl) rfl ?_
     refine JO_q (QE_mv rfl) rfl ?_
     refine JO_q (QE_as rfl) rfl ?_
     refine JO_q (QE_as rfl) rfl ?_
     refine JO_q (QE_as rfl) rfl ?_
     refine JO_nil ?_
     refine thenQ_n ?_
     refine JC_ret ?_
     refine retQ_mk [] L (.inr rfl) (.tmp rfl (.tmp rfl (.tmp rfl (.nil)))) rfl (Le.refl (D := D) _) (fun sR hS2 => ?_)
     exact ⟨by simp_all [resV, usesT, usesX, usesY], rfl⟩
    ·
     refine JC_seq ?_
     refine JC_region ?_
     refine JO_q (QE_eq rfl rfl) rfl ?_
     refine JO_q (QE_as rfl) rfl ?_
     refine JO_nil ?_
     refine thenQ_n ?_
     refine JC_ifD rfl (fun c10 => ?_) (fun c10 => ?_)
     ·
      refine JC_region ?_
      refine JO_q (QE_as rfl) rfl ?_
      refine JO_q (QE_as rfl) rfl ?_
      refine JO_nil ?_
      refine blockQ_n ?_
      refine thenQ_n ?_
      refine JC_seq ?_
      refine JC_region ?_
      refine JO_q (QE_mv rfl) rfl ?_
      refine JO_q (QE_mv rfl) rfl ?_
      refine JO_q (QE_mv rfl) rfl ?_
      refine JO_q (QE_as rfl) rfl ?_
      refine JO_q (QE_as rfl) rfl ?_
      refine JO_q (QE_as rfl) rfl ?_
      refine JO_nil ?_
      refine thenQ_n ?_
      refine JC_ret ?_
      refine retQ_mk [] L (.inr rfl) (.tmp rfl (.tmp rfl (.tmp rfl (.nil)))) rfl (Le.refl (D := D) _) (fun sR hS2 => ?_)
      exact ⟨by simp_all [resV, usesT, usesX, usesY], rfl⟩
     ·
      refine JC_seq ?_
      refine JC_seq ?_
      refine JC_region ?_
      refine JO_q (QE_eq rfl rfl) rfl ?_
      refine JO_q (QE_as rfl) rfl ?_
      refine JO_nil ?_
      refine thenQ_n ?_
      refine JC_ifD rfl (fun c11 => ?_) (fun c11 => ?_)
      ·
       refine JC_skip ?_
       refine thenQ_n ?_
       refine JC_ifD rfl (fun c12 => ?_) (fun c12 => ?_)
       ·
        refine JC_region ?_
        refine JO_q (QE_as rfl) rfl ?_
        refine JO_nil ?_
        refine blockQ_n ?_
        refine thenQ_n ?_
        refine JC_seq ?_
        refine JC_region ?_
        refine JO_q (QE_mv rfl) rfl ?_
        refine JO_q (QE_mv rfl) rfl ?_
        refine JO_q (QE_mv rfl) rfl ?_
        refine JO_q (QE_as rfl) rfl ?_
        refine JO_q (QE_as rfl) rfl ?_
        refine JO_q (QE_as rfl) rfl ?_
        refine JO_nil ?_
        refine thenQ_n ?_
        refine JC_ret ?_
        refine retQ_mk [] L (.inr rfl) (.tmp rfl (.tmp rfl (.tmp rfl (.nil)))) rfl (Le.refl (D := D) _) (fun sR hS2 => ?_)
        exact ⟨by simp_all [resV, usesT, usesX, usesY], rfl⟩
       ·
        refine JC_skip ?_
        refine blockQ_n ?_
        refine thenQ_n ?_
        refine JC_seq ?_
        refine JC_region ?_
        refine JO_q (QE_mv rfl) rfl ?_
        refine JO_q (QE_mv rfl) rfl ?_
        refine JO_q (QE_mv rfl) rfl ?_
        refine JO_q (QE_as rfl) rfl ?_
        refine JO_q (QE_as rfl) rfl ?_
        refine JO_q (QE_as rfl) rfl ?_
        refine JO_nil ?_
        refine thenQ_n ?_
        refine JC_ret ?_
        refine retQ_mk [] L (.inr rfl) (.tmp rfl (.tmp rfl (.tmp rfl (.nil)))) rfl (Le.refl (D := D) _) (fun sR hS2 => ?_)
        exact ⟨by simp_all [resV, usesT, usesX, usesY], rfl⟩
      ·
       refine JC_region ?_
       refine JO_q (QE_eq rfl rfl) rfl ?_
       refine JO_q (QE_as rfl) rfl ?_
       refine JO_nil ?_
       refine thenQ_n ?_
       refine JC_ifD rfl (fun c13 => ?_) (fun c13 => ?_)
       ·
        refine JC_region ?_
        refine JO_q (QE_as rfl) rfl ?_
        refine JO_nil ?_
        refine blockQ_n ?_
        refine thenQ_n ?_
        refine JC_seq ?_
        refine JC_region ?_
        refine JO_q (QE_mv rfl) rfl ?_
        refine JO_q (QE_mv rfl) rfl ?_
        refine JO_q (QE_mv rfl) rfl ?_
        refine JO_q (QE_as rfl) rfl ?_
        refine JO_q (QE_as rfl) rfl ?_
        refine JO_q (QE_as rfl) rfl ?_
        refine JO_nil ?_
        refine thenQ_n ?_
        refine JC_ret ?_
        refine retQ_mk [] L (.inr rfl) (.tmp rfl (.tmp rfl (.tmp rfl (.nil)))) rfl (Le.refl (D := D) _) (fun sR hS2 => ?_)
        exact ⟨by simp_all [resV, usesT, usesX, usesY], rfl⟩
       ·
        refine JC_skip ?_
        refine blockQ_n ?_
        refine thenQ_n ?_
        refine JC_seq ?_
        refine JC_region ?_
        refine JO_q (QE_mv rfl) rfl ?_
        refine JO_q (QE_mv rfl) rfl ?_
        refine JO_q (QE_mv rfl) rfl ?_
        refine JO_q (QE_as rfl) rfl ?_
        refine JO_q (QE_as rfl) rfl ?_
        refine JO_q (QE_as rfl) rfl ?_
        refine JO_nil ?_
        refine thenQ_n ?_
        refine JC_ret ?_
        refine retQ_mk [] L (.inr rfl) (.tmp rfl (.tmp rfl (.tmp rfl (.nil)))) rfl (Le.refl (D := D) _) (fun sR hS2 => ?_)
        exact ⟨by simp_all [resV, usesT, usesX, usesY], rfl⟩
 ·
  refine JC_region ?_
  refine JO_q (QE_eq rfl rfl) rfl ?_
  refine JO_q (QE_as rfl) rfl ?_
  refine JO_nil ?_
  refine thenQ_n ?_
  refine JC_ifD rfl (fun c14 => ?_) (fun c14 => ?_)
  ·
   refine JC_region ?_
   refine JO_q (QE_as rfl) rfl ?_
   refine JO_nil ?_
   refine blockQ_n ?_
   refine thenQ_n ?_
   refine JC_seq ?_
   refine JC_region ?_
   refine JO_q (QE_mv rfl) rfl ?_
   refine JO_q (QE_mv rfl) rfl ?_
   refine JO_q (QE_mv rfl) rfl ?_
   refine JO_q (QE_as rfl) rfl ?_
   refine JO_q (QE_as rfl) rfl ?_
   refine JO_q (QE_as rfl) rfl ?_
   refine JO_nil ?_
   refine thenQ_n ?_
   refine JC_ret ?_
   refine retQ_mk [] L (.inr rfl) (.tmp rfl (.tmp rfl (.tmp rfl (.nil)))) rfl (Le.refl (D := D) _) (fun sR hS2 => ?_)
   exact ⟨by simp_all [resV, usesT, usesX, usesY], rfl⟩
  ·
   refine JC_seq ?_
   refine JC_seq ?_
   refine JC_region ?_
   refine JO_q (QE_eq rfl rfl) rfl ?_
   refine JO_q (QE_as rfl) rfl ?_
   refine JO_nil ?_
   refine thenQ_n ?_
   refine JC_ifD rfl (fun c15 => ?_) (fun c15 => ?_)
   ·
    refine JC_skip ?_
    refine thenQ_n ?_
    refine JC_ifD rfl (fun c16 => ?_) (fun c16 => ?_)
    ·
     refine JC_region ?_
     refine JO_q (QE_as rfl) rfl ?_
     refine JO_q (QE_as rfl) rfl ?_
     refine JO_nil ?_
     refine blockQ_n ?_
     refine thenQ_n ?_
     refine JC_seq ?_
     refine JC_region ?_
     refine JO_q (QE_mv rfl) rfl ?_
     refine JO_q (QE_mv rfl) rfl ?_
     refine JO_q (QE_mv rfl) rfl ?_
     refine JO_q (QE_as rfl) rfl ?_
     refine JO_q (QE_as rfl) rfl ?_
     refine JO_q (QE_as rfl) rfl ?_
     refine JO_nil ?_
     refine thenQ_n ?_
     refine JC_ret ?_
     refine retQ_mk [] L (.inr rfl) (.tmp rfl (.tmp rfl (.tmp rfl (.nil)))) rfl (Le.refl (D := D) _) (fun sR hS2 => ?_)
     exact ⟨by simp_all [resV, usesT, usesX, usesY], rfl⟩
    ·
     refine JC_seq ?_
     refine JC_region ?_
     refine JO_q (QE_eq rfl rfl) rfl ?_
     refine JO_q (QE_as rfl) rfl ?_
     refine JO_nil ?_
     refine thenQ_n ?_
     refine JC_ifD rfl (fun c17 => ?_) (fun c17 => ?_)
     ·
      refine JC_region ?_
      refine JO_q (QE_as rfl) rfl ?_
      refine JO_q (QE_as rfl) rfl ?_
      refine JO_nil ?_
      refine blockQ_n ?_
      refine thenQ_n ?_
      refine JC_seq ?_
      refine JC_region ?_
      refine JO_q (QE_mv rfl) rfl ?_
      refine JO_q (QE_mv rfl) rfl ?_
      refine JO_q (QE_mv rfl) rfl ?_
      refine JO_q (QE_as rfl) rfl ?_
      refine JO_q (QE_as rfl) rfl ?_
      refine JO_q (QE_as rfl) rfl ?_
      refine JO_nil ?_
      refine thenQ_n ?_
      refine JC_ret ?_
      refine retQ_mk [] L (.inr rfl) (.tmp rfl (.tmp rfl (.tmp rfl (.nil)))) rfl (Le.refl (D := D) _) (fun sR hS2 => ?_)
      exact ⟨by simp_all [resV, usesT, usesX, usesY], rfl⟩
     ·
      refine JC_seq ?_
      refine JC_seq ?_
      refine JC_region ?_
      refine JO_q (QE_eq rfl rfl) rfl ?_
      refine JO_q (QE_as rfl) rfl ?_
      refine JO_nil ?_
      refine thenQ_n ?_
      refine JC_ifD rfl (fun c18 => ?_) (fun c18 => ?_)
      ·
       refine JC_skip ?_
       refine thenQ_n ?_
       refine JC_ifD rfl (fun c19 => ?_) (fun c19 => ?_)
       ·
        refine JC_region ?_
        refine JO_q (QE_as rfl) rfl ?_
        refine JO_nil ?_
        refine blockQ_n ?_
        refine thenQ_n ?_
        refine JC_seq ?_
        refine JC_region ?_
        refine JO_q (QE_mv rfl) rfl ?_
        refine JO_q (QE_mv rfl) rfl ?_
        refine JO_q (QE_mv rfl) rfl ?_
        refine JO_q (QE_as rfl) rfl ?_
        refine JO_q (QE_as rfl) rfl ?_
        refine JO_q (QE_as rfl) rfl ?_
        refine JO_nil ?_
        refine thenQ_n ?_
        refine JC_ret ?_
        refine retQ_mk [] L (.inr rfl) (.tmp rfl (.tmp rfl (.tmp rfl (.nil)))) rfl (Le.refl (D := D) _) (fun sR hS2 => ?_)
        exact ⟨by simp_all [resV, usesT, usesX, usesY], rfl⟩
       ·
        refine JC_skip ?_
        refine blockQ_n ?_
        refine thenQ_n ?_
        refine JC_seq ?_
        refine JC_region ?_
        refine JO_q (QE_mv rfl) rfl ?_
        refine JO_q (QE_mv rfl) rfl ?_
        refine JO_q (QE_mv rfl) rfl ?_
        refine JO_q (QE_as rfl) rfl ?_
        refine JO_q (QE_as rfl) rfl ?_
        refine JO_q (QE_as rfl) rfl ?_
        refine JO_nil ?_
        refine thenQ_n ?_
        refine JC_ret ?_
        refine retQ_mk [] L (.inr rfl) (.tmp rfl (.tmp rfl (.tmp rfl (.nil)))) rfl (Le.refl (D := D) _) (fun sR hS2 => ?_)
        exact ⟨by simp_all [resV, usesT, usesX, usesY], rfl⟩
      ·
       refine JC_region ?_
       refine JO_q (QE_eq rfl rfl) rfl ?_
       refine JO_q (QE_as rfl) rfl ?_
       refine JO_nil ?_
       refine thenQ_n ?_
       refine JC_ifD rfl (fun c20 => ?_) (fun c20 => ?_)
       ·
        refine JC_region ?_
        refine JO_q (QE_as rfl) rfl ?_
        refine JO_nil ?_
        refine blockQ_n ?_
        refine thenQ_n ?_
        refine JC_seq ?_
        refine JC_region ?_
        refine JO_q (QE_mv rfl) rfl ?_
        refine JO_q (QE_mv rfl) rfl ?_
        refine JO_q (QE_mv rfl) rfl ?_
        refine JO_q (QE_as rfl) rfl ?_
        refine JO_q (QE_as rfl) rfl ?_
        refine JO_q (QE_as rfl) rfl ?_
        refine JO_nil ?_
        refine thenQ_n ?_
        refine JC_ret ?_
        refine retQ_mk [] L (.inr rfl) (.tmp rfl (.tmp rfl (.tmp rfl (.nil)))) rfl (Le.refl (D := D) _) (fun sR hS2 => ?_)
        exact ⟨by simp_all [resV, usesT, usesX, usesY], rfl⟩
       ·
        refine JC_skip ?_
        refine blockQ_n ?_
        refine thenQ_n ?_
        refine JC_seq ?_
        refine JC_region ?_
        refine JO_q (QE_mv rfl) rfl ?_
        refine JO_q (QE_mv rfl) rfl ?_
        refine JO_q (QE_mv rfl) rfl ?_
        refine JO_q (QE_as rfl) rfl ?_
        refine JO_q (QE_as rfl) rfl ?_
        refine JO_q (QE_as rfl) rfl ?_
        refine JO_nil ?_
        refine thenQ_n ?_
        refine JC_ret ?_
        refine retQ_mk [] L (.inr rfl) (.tmp rfl (.tmp rfl (.tmp rfl (.nil)))) rfl (Le.refl (D := D) _) (fun sR hS2 => ?_)
        exact ⟨by simp_all [resV, usesT, usesX, usesY], rfl⟩
   ·
    refine JC_region ?_
    refine JO_q (QE_eq rfl rfl) rfl ?_
    refine JO_q (QE_as rfl) rfl ?_
    refine JO_nil ?_
    refine thenQ_n ?_
    refine JC_ifD rfl (fun c21 => ?_) (fun c21 => ?_)
    ·
     refine JC_region ?_
     refine JO_q (QE_as rfl) rfl ?_
     refine JO_q (QE_as rfl) rfl ?_
     refine JO_nil ?_
     refine blockQ_n ?_
     refine thenQ_n ?_
     refine JC_seq ?_
     refine JC_region ?_
     refine JO_q (QE_mv rfl) rfl ?_
     refine JO_q (QE_mv rfl) rfl ?_
     refine JO_q (QE_mv rfl) rfl ?_
     refine JO_q (QE_as rfl) rfl ?_
     refine JO_q (QE_as rfl) rfl ?_
     refine JO_q (QE_as rfl) rfl ?_
     refine JO_nil ?_
     refine thenQ_n ?_
     refine JC_ret ?_
     refine retQ_mk [] L (.inr rfl) (.tmp rfl (.tmp rfl (.tmp rfl (.nil)))) rfl (Le.refl (D := D) _) (fun sR hS2 => ?_)
     exact ⟨by simp_all [resV, usesT, usesX, usesY], rfl⟩
    ·
     refine JC_seq ?_
     refine JC_region ?_
     refine JO_q (QE_eq rfl rfl) rfl ?_
     refine JO_q (QE_as rfl) rfl ?_
     refine JO_nil ?_
     refine thenQ_n ?_
     refine JC_ifD rfl (fun c22 => ?_) (fun c22 => ?_)
     ·
      refine JC_region ?_
      refine JO_q (QE_as rfl) rfl ?_
      refine JO_q (QE_as rfl) rfl ?_
      refine JO_nil ?_
      refine blockQ_n ?_
      refine thenQ_n ?_
      refine JC_seq ?_
      refine JC_region ?_
      refine JO_q (QE_mv rfl) rfl ?_
      refine JO_q (QE_mv rfl) rfl ?_
      refine JO_q (QE_mv rfl) rfl ?_
      refine JO_q (QE_as rfl) rfl ?_
      refine JO_q (QE_as rfl) rfl ?_
      refine JO_q (QE_as rfl) rfl ?_
      refine JO_nil ?_
      refine thenQ_n ?_
      refine JC_ret ?_
      refine retQ_mk [] L (.inr rfl) (.tmp rfl (.tmp rfl (.tmp rfl (.nil)))) rfl (Le.refl (D := D) _) (fun sR hS2 => ?_)
      exact ⟨by simp_all [resV, usesT, usesX, usesY], rfl⟩
     ·
      refine JC_seq ?_
      refine JC_seq ?_
      refine JC_region ?_
      refine JO_q (QE_eq rfl rfl) rfl ?_
      refine JO_q (QE_as rfl) rfl ?_
      refine JO_nil ?_
      refine thenQ_n ?_
      refine JC_ifD rfl (fun c23 => ?_) (fun c23 => ?_)
      ·
       refine JC_skip ?_
       refine thenQ_n ?_
       refine JC_ifD rfl (fun c24 => ?_) (fun c24 => ?_)
       ·
        refine JC_region ?_
        refine JO_q (QE_as rfl) rfl ?_
        refine JO_nil ?_
        refine blockQ_n ?_
        refine thenQ_n ?_
        refine JC_seq ?_
        refine JC_region ?_
        refine JO_q (QE_mv rfl) rfl ?_
        refine JO_q (QE_mv rfl) rfl ?_
        refine JO_q (QE_mv rfl) rfl ?_
        refine JO_q (QE_as rfl) rfl ?_
        refine JO_q (QE_as rfl) rfl ?_
        refine JO_q (QE_as rfl) rfl ?_
        refine JO_nil ?_
        refine thenQ_n ?_
        refine JC_ret ?_
        refine retQ_mk [] L (.inr rfl) (.tmp rfl (.tmp rfl (.tmp rfl (.nil)))) rfl (Le.refl (D := D) _) (fun sR hS2 => ?_)
        exact ⟨by simp_all [resV, usesT, usesX, usesY], rfl⟩
       ·
        refine JC_skip ?_
        refine blockQ_n ?_
        refine thenQ_n ?_
        refine JC_seq ?_
        refine JC_region ?_
        refine JO_q (QE_mv rfl) rfl ?_
        refine JO_q (QE_mv rfl) rfl ?_
        refine JO_q (QE_mv rfl) rfl ?_
        refine JO_q (QE_as rfl) rfl ?_
        refine JO_q (QE_as rfl) rfl ?_
        refine JO_q (QE_as rfl) rfl ?_
        refine JO_nil ?_
        refine thenQ_n ?_
        refine JC_ret ?_
        refine retQ_mk [] L (.inr rfl) (.tmp rfl (.tmp rfl (.tmp rfl (.nil)))) rfl (Le.refl (D := D) _) (fun sR hS2 => ?_)
        exact ⟨by simp_all [resV, usesT, usesX, usesY], rfl⟩
      ·
       refine JC_region ?_
       refine JO_q (QE_eq rfl rfl) rfl ?_
       refine JO_q (QE_as rfl) rfl ?_
       refine JO_nil ?_
       refine thenQ_n ?_
       refine JC_ifD rfl (fun c25 => ?_) (fun c25 => ?_)
       ·
        refine JC_region ?_
        refine JO_q (QE_as rfl) rfl ?_
        refine JO_nil ?_
        refine blockQ_n ?_
        refine thenQ_n ?_
        refine JC_seq ?_
        refine JC_region ?_
        refine JO_q (QE_mv rfl) rfl ?_
        refine JO_q (QE_mv rfl) rfl ?_
        refine JO_q (QE_mv rfl) rfl ?_
        refine JO_q (QE_as rfl) rfl ?_
        refine JO_q (QE_as rfl) rfl ?_
        refine JO_q (QE_as rfl) rfl ?_
        refine JO_nil ?_
        refine thenQ_n ?_
        refine JC_ret ?_
        refine retQ_mk [] L (.inr rfl) (.tmp rfl (.tmp rfl (.tmp rfl (.nil)))) rfl (Le.refl (D := D) _) (fun sR hS2 => ?_)
        exact ⟨by simp_all [resV, usesT, usesX, usesY], rfl⟩
       ·
        refine JC_skip ?_
        refine blockQ_n ?_
        refine thenQ_n ?_
        refine JC_seq ?_
        refine JC_region ?_
        refine JO_q (QE_mv rfl) rfl ?_
        refine JO_q (QE_mv rfl) rfl ?_
        refine JO_q (QE_mv rfl) rfl ?_
        refine JO_q (QE_as rfl) rfl ?_
        refine JO_q (QE_as rfl) rfl ?_
        refine JO_q (QE_as rfl) rfl ?_
        refine JO_nil ?_
        refine thenQ_n ?_
        refine JC_ret ?_
        refine retQ_mk [] L (.inr rfl) (.tmp rfl (.tmp rfl (.tmp rfl (.nil)))) rfl (Le.refl (D := D) _) (fun sR hS2 => ?_)
        exact ⟨by simp_all [resV, usesT, usesX, usesY], rfl⟩
set_option maxHeartbeats 1000000 in
set_option maxRecDepth 100000 in
theorem validTerm_ac (D : Nat) (L : Hl) (s : World) (x : Tm) (u o : Bool) : AC Tryz.prog D 124 [.agg #[.int .i64 x.kind, .int .u32 x.val], .bool u, .bool o] L s fun v L' _ => v = .bool (termB x u o) ∧ L = L' := by
 refine AC_enter (TT := TT) (fn := Tryz.f124) TT_ok Tryz.func124 (by kernel_rfl) rfl Tryz.ntmps124 rfl (rs := [.tmp 6]) rfl [(0, _), (1, _), (2, _)] rfl ?_
 refine JC_seq ?_
 refine JC_region ?_
 refine JO_boxA rfl rfl ?_
 intro β1 s1 h1
 refine JO_q (QE_as rfl) rfl ?_
 refine JO_nil ?_
 refine thenQ_n ?_
 refine JC_seq ?_
 refine JC_block ?_
 refine JC_seq ?_
 refine JC_region ?_
 refine JO_q (QE_mv rfl) rfl ?_
 refine JO_q (QE_not rfl) rfl ?_
 refine JO_q (QE_as rfl) rfl ?_
 refine JO_nil ?_
 refine thenQ_n ?_
 refine JC_ifM rfl (fun c2 => ?_) (fun c2 => ?_)
 ·
  refine JC_seq ?_
  refine JC_region ?_
  refine JO_q (QE_ldA 0 [_, _] rfl rfl rfl rfl rfl) rfl ?_
  refine JO_q (QE_build [] [_, _] rfl rfl rfl rfl rfl rfl) rfl ?_
  refine JO_q (QE_aeq rfl rfl (eqTerm _ _ _ _)) rfl ?_
  refine JO_q (QE_as rfl) rfl ?_
  refine JO_nil ?_
  refine thenQ_n ?_
  refine JC_ret ?_
  refine blockQ_r ?_
  refine thenQ_r ?_
  refine retQ_mk [_] L (.inr rfl) (.tmp rfl (.nil)) rfl h1 (fun sR hS2 => ?_)
  exact ⟨by simp_all [resV, termB], rfl⟩
 ·
  refine JC_seq ?_
  refine JC_region ?_
  refine JO_q (QE_fa0 rfl rfl rfl rfl) rfl ?_
  refine JO_q (QE_ld1 0 rfl rfl rfl rfl rfl) rfl ?_
  refine JO_q (QE_eq rfl rfl) rfl ?_
  refine JO_q (QE_as rfl) rfl ?_
  refine JO_nil ?_
  refine thenQ_n ?_
  refine JC_ifD rfl (fun c3 => ?_) (fun c3 => ?_)
  ·
   refine JC_seq ?_
   refine JC_region ?_
   refine JO_q (QE_as rfl) rfl ?_
   refine JO_nil ?_
   refine thenQ_n ?_
   refine JC_ret ?_
   refine blockQ_r ?_
   refine thenQ_r ?_
   refine retQ_mk [_] L (.inr rfl) (.tmp rfl (.nil)) rfl h1 (fun sR hS2 => ?_)
   exact ⟨by simp_all [resV, termB], rfl⟩
  ·
   refine JC_seq ?_
   refine JC_region ?_
   refine JO_q (QE_fa0 rfl rfl rfl rfl) rfl ?_
   refine JO_q (QE_ld1 0 rfl rfl rfl rfl rfl) rfl ?_
   refine JO_q (QE_eq rfl rfl) rfl ?_
   refine JO_q (QE_as rfl) rfl ?_
   refine JO_nil ?_
   refine thenQ_n ?_
   refine JC_ifD rfl (fun c4 => ?_) (fun c4 => ?_)
   ·
    refine JC_seq ?_
    refine JC_region ?_
    refine JO_q (QE_faB rfl rfl rfl rfl) rfl ?_
    refine JO_q (QE_ld1 0 rfl rfl rfl rfl rfl) rfl ?_
    refine JO_q (QE_le rfl rfl) rfl ?_
    refine JO_q (QE_as rfl) rfl ?_
    refine JO_nil ?_
    refine thenQ_n ?_
    refine JC_ret ?_
    refine blockQ_r ?_
    refine thenQ_r ?_
    refine retQ_mk [_] L (.inr rfl) (.tmp rfl (.nil)) rfl h1 (fun sR hS2 => ?_)
    exact ⟨by simp_all [resV, termB], rfl⟩
   ·
    refine JC_skip ?_
    refine blockQ_n ?_
    refine thenQ_n ?_
    refine JC_seq ?_
    refine JC_region ?_
    refine JO_q (QE_fa0 rfl rfl rfl rfl) rfl ?_
    refine JO_q (QE_ld1 0 rfl rfl rfl rfl rfl) rfl ?_
    refine JO_q (QE_eq rfl rfl) rfl ?_
    refine JO_q (QE_mv rfl) rfl ?_
    refine JO_caseD (t := 27) rfl (fun c5 => ?_) (fun c5 => ?_)
    ·
     refine JO_gT rfl rfl ?_
     refine JO_q (QE_faB rfl rfl rfl rfl) rfl ?_
     refine JO_gT rfl rfl ?_
     refine JO_q (QE_ld1 0 rfl rfl rfl rfl rfl) rfl ?_
     refine JO_gT rfl rfl ?_
     refine JO_q (QE_eq rfl rfl) rfl ?_
     refine JO_q (QE_pickT rfl rfl) rfl ?_
     refine JO_q (QE_mv rfl) rfl ?_
     refine JO_caseD (t := 32) rfl (fun c6 => ?_) (fun c6 => ?_)
     ·
      refine JO_gT rfl rfl ?_
      refine JO_q (QE_mv rfl) rfl ?_
      refine JO_q (QE_pickT rfl rfl) rfl ?_
      refine JO_q (QE_as rfl) rfl ?_
      refine JO_nil ?_
      refine thenQ_n ?_
      refine JC_ret ?_
      refine retQ_mk [_] L (.inr rfl) (.tmp rfl (.nil)) rfl h1 (fun sR hS2 => ?_)
      exact ⟨by simp_all [resV, termB], rfl⟩
     ·
      refine JO_gF rfl rfl rfl rfl ?_
      refine JO_q (QE_pickF rfl rfl) rfl ?_
      refine JO_q (QE_as rfl) rfl ?_
      refine JO_nil ?_
      refine thenQ_n ?_
      refine JC_ret ?_
      refine retQ_mk [_] L (.inr rfl) (.tmp rfl (.nil)) rfl h1 (fun sR hS2 => ?_)
      exact ⟨by simp_all [resV, termB], rfl⟩
    ·
     refine JO_gF rfl rfl rfl rfl ?_
     refine JO_gF rfl rfl rfl rfl ?_
     refine JO_gF rfl rfl rfl rfl ?_
     refine JO_q (QE_pickF rfl rfl) rfl ?_
     refine JO_q (QE_mv rfl) rfl ?_
     refine JO_gF rfl rfl rfl rfl ?_
     refine JO_q (QE_pickF rfl rfl) rfl ?_
     refine JO_q (QE_as rfl) rfl ?_
     refine JO_nil ?_
     refine thenQ_n ?_
     refine JC_ret ?_
     refine retQ_mk [_] L (.inr rfl) (.tmp rfl (.nil)) rfl h1 (fun sR hS2 => ?_)
     exact ⟨by simp_all [resV, termB], rfl⟩
set_option maxHeartbeats 1000000 in
set_option maxRecDepth 100000 in
theorem checkAction_ac (D : Nat) (L : Hl) (s : World) (a : Ac) (o : Bool) : AC Tryz.prog D 104 [.agg #[.int .i64 a.kind, .int .i64 a.tgt, .int .i64 a.x.kind, .int .u32 a.x.val, .int .i64 a.y.kind, .int .u32 a.y.val], .bool o] L s fun v L' _ => v = .int .i64 (actCode a o) ∧ L = L' := by
 refine AC_enter (TT := TT) (fn := Tryz.f104) TT_ok Tryz.func104 (by kernel_rfl) rfl Tryz.ntmps104 rfl (rs := [.tmp 4]) rfl [(0, _), (1, _)] rfl ?_
 refine JC_seq ?_
 refine JC_region ?_
 refine JO_boxA rfl rfl ?_
 intro β1 s1 h1
 refine JO_q (QE_as rfl) rfl ?_
 refine JO_nil ?_
 refine thenQ_n ?_
 refine JC_seq ?_
 refine JC_block ?_
 refine JC_seq ?_
 refine JC_region ?_
 refine JO_q (QE_fa0 rfl rfl rfl rfl) rfl ?_
 refine JO_q (QE_ld1 0 rfl rfl rfl rfl rfl) rfl ?_
 refine JO_q (QE_lt rfl rfl) rfl ?_
 refine JO_q (QE_mv rfl) rfl ?_
 refine JO_caseD (t := 12) rfl (fun c2 => ?_) (fun c2 => ?_)
 ·
  refine JO_gF rfl rfl rfl rfl ?_
  refine JO_gF rfl rfl rfl rfl ?_
  refine JO_gF rfl rfl rfl rfl ?_
  refine JO_q (QE_pickT rfl rfl) rfl ?_
  refine JO_q (QE_as rfl) rfl ?_
  refine JO_nil ?_
  refine thenQ_n ?_
  refine JC_ifT rfl ?_
  refine JC_seq ?_
  refine JC_region ?_
  refine JO_q (QE_as rfl) rfl ?_
  refine JO_nil ?_
  refine thenQ_n ?_
  refine JC_ret ?_
  refine blockQ_r ?_
  refine thenQ_r ?_
  refine retQ_mk [_] L (.inr rfl) (.tmp rfl (.nil)) rfl h1 (fun sR hS2 => ?_)
  exact ⟨by (try simp_all [resV, actCode]) <;> grind, rfl⟩
 ·
  refine JO_gT rfl rfl ?_
  refine JO_q (QE_fa0 rfl rfl rfl rfl) rfl ?_
  refine JO_gT rfl rfl ?_
  refine JO_q (QE_ld1 0 rfl rfl rfl rfl rfl) rfl ?_
  refine JO_gT rfl rfl ?_
  refine JO_q (QE_ge rfl rfl) rfl ?_
  refine JO_q (QE_pickF rfl rfl) rfl ?_
  refine JO_q (QE_as rfl) rfl ?_
  refine JO_nil ?_
  refine thenQ_n ?_
  refine JC_ifD rfl (fun c3 => ?_) (fun c3 => ?_)
  ·
   refine JC_seq ?_
   refine JC_region ?_
   refine JO_q (QE_as rfl) rfl ?_
   refine JO_nil ?_
   refine thenQ_n ?_
   refine JC_ret ?_
   refine blockQ_r ?_
   refine thenQ_r ?_
   refine retQ_mk [_] L (.inr rfl) (.tmp rfl (.nil)) rfl h1 (fun sR hS2 => ?_)
   exact ⟨by (try simp_all [resV, actCode]) <;> grind, rfl⟩
  ·
   refine JC_seq ?_
   refine JC_region ?_
   refine JO_q (QE_faB rfl rfl rfl rfl) rfl ?_
   refine JO_q (QE_ld1 0 rfl rfl rfl rfl rfl) rfl ?_
   refine JO_q (QE_lt rfl rfl) rfl ?_
   refine JO_q (QE_mv rfl) rfl ?_
   refine JO_caseD (t := 21) rfl (fun c4 => ?_) (fun c4 => ?_)
   ·
    refine JO_gF rfl rfl rfl rfl ?_
    refine JO_gF rfl rfl rfl rfl ?_
    refine JO_gF rfl rfl rfl rfl ?_
    refine JO_q (QE_pickT rfl rfl) rfl ?_
    refine JO_q (QE_as rfl) rfl ?_
    refine JO_nil ?_
    refine thenQ_n ?_
    refine JC_ifT rfl ?_
    refine JC_seq ?_
    refine JC_region ?_
    refine JO_q (QE_as rfl) rfl ?_
    refine JO_nil ?_
    refine thenQ_n ?_
    refine JC_ret ?_
    refine blockQ_r ?_
    refine thenQ_r ?_
    refine retQ_mk [_] L (.inr rfl) (.tmp rfl (.nil)) rfl h1 (fun sR hS2 => ?_)
    exact ⟨by (try simp_all [resV, actCode]) <;> grind, rfl⟩
   ·
    refine JO_gT rfl rfl ?_
    refine JO_q (QE_faB rfl rfl rfl rfl) rfl ?_
    refine JO_gT rfl rfl ?_
    refine JO_q (QE_ld1 0 rfl rfl rfl rfl rfl) rfl ?_
    refine JO_gT rfl rfl ?_
    refine JO_q (QE_gt rfl rfl) rfl ?_
    refine JO_q (QE_pickF rfl rfl) rfl ?_
    refine JO_q (QE_as rfl) rfl ?_
    refine JO_nil ?_
    refine thenQ_n ?_
    refine JC_ifD rfl (fun c5 => ?_) (fun c5 => ?_)
    ·
     refine JC_seq ?_
     refine JC_region ?_
     refine JO_q (QE_as rfl) rfl ?_
     refine JO_nil ?_
     refine thenQ_n ?_
     refine JC_ret ?_
     refine blockQ_r ?_
     refine thenQ_r ?_
     refine retQ_mk [_] L (.inr rfl) (.tmp rfl (.nil)) rfl h1 (fun sR hS2 => ?_)
     exact ⟨by (try simp_all [resV, actCode]) <;> grind, rfl⟩
    ·
     refine JC_skip ?_
     refine blockQ_n ?_
     refine thenQ_n ?_
     refine JC_seq ?_
     refine JC_region ?_
     refine JO_q (QE_fa0 rfl rfl rfl rfl) rfl ?_
     refine JO_q (QE_ld1 0 rfl rfl rfl rfl rfl) rfl ?_
     refine JO_call (first := []) (captured := []) rfl rfl rfl (uses_ac D _ _ _) ?_
     rintro _ _ s6 h6 ⟨rfl, rfl⟩
     refine JO_q (QE_mv rfl) rfl ?_
     refine JO_q (QE_ext rfl rfl) rfl ?_
     refine JO_q (QE_ext rfl rfl) rfl ?_
     refine JO_q (QE_ext rfl rfl) rfl ?_
     refine JO_q (QE_as rfl) rfl ?_
     refine JO_q (QE_as rfl) rfl ?_
     refine JO_q (QE_as rfl) rfl ?_
     refine JO_nil ?_
     refine thenQ_n ?_
     refine JC_seq ?_
     refine JC_seq ?_
     refine JC_region ?_
     refine JO_q (QE_mv rfl) rfl ?_
     refine JO_q (QE_not rfl) rfl ?_
     refine JO_q (QE_mv rfl) rfl ?_
     refine JO_caseM (t := 35) rfl (fun c7 => ?_) (fun c7 => ?_)
     ·
      refine JO_gT rfl rfl ?_
      refine JO_q (QE_faB rfl rfl rfl rfl) rfl ?_
      refine JO_gT rfl rfl ?_
      refine JO_q (QE_ld1 0 rfl rfl rfl rfl rfl) rfl ?_
      refine JO_gT rfl rfl ?_
      refine JO_q (QE_ne rfl rfl) rfl ?_
      refine JO_q (QE_pickT rfl rfl) rfl ?_
      refine JO_q (QE_mv rfl) rfl ?_
      refine JO_caseN (t := 40) rfl (fun c8 => ?_) (fun c8 => ?_)
      ·
       refine JO_gF rfl rfl rfl rfl ?_
       refine JO_gF rfl rfl rfl rfl ?_
       refine JO_gF rfl rfl rfl rfl ?_
       refine JO_gF rfl rfl rfl rfl ?_
       refine JO_gF rfl rfl rfl rfl ?_
       refine JO_gF rfl rfl rfl rfl ?_
       refine JO_q (QE_pickT rfl rfl) rfl ?_
       refine JO_q (QE_mv rfl) rfl ?_
       refine JO_gF rfl rfl rfl rfl ?_
       refine JO_gF rfl rfl rfl rfl ?_
       refine JO_gF rfl rfl rfl rfl ?_
       refine JO_gF rfl rfl rfl rfl ?_
       refine JO_gF rfl rfl rfl rfl ?_
       refine JO_gF rfl rfl rfl rfl ?_
       refine JO_q (QE_pickT rfl rfl) rfl ?_
       refine JO_nil ?_
       refine thenQ_n ?_
       refine JC_ifT rfl ?_
       refine JC_seq ?_
       refine JC_region ?_
       refine JO_q (QE_as rfl) rfl ?_
       refine JO_nil ?_
       refine thenQ_n ?_
       refine JC_ret ?_
       refine thenQ_r ?_
       refine retQ_mk [_] L (.inr rfl) (.tmp rfl (.nil)) rfl (Le.trans h1 h6) (fun sR hS2 => ?_)
       exact ⟨by (try simp_all [resV, actCode]) <;> grind, rfl⟩
      ·
       refine JO_gT rfl rfl ?_
       refine JO_q (QE_faB rfl rfl rfl rfl) rfl ?_
       refine JO_gT rfl rfl ?_
       refine JO_q (QE_ldA 0 [_, _] rfl rfl rfl rfl rfl) rfl ?_
       refine JO_gT rfl rfl ?_
       refine JO_q (QE_mv rfl) rfl ?_
       refine JO_gT rfl rfl ?_
       refine JO_q (QE_mv rfl) rfl ?_
       refine JO_gT rfl rfl ?_
       refine JO_call (first := []) (captured := []) rfl rfl rfl (validTerm_ac D _ _ _ _ _) ?_
       rintro _ _ s9 h9 ⟨rfl, rfl⟩
       refine JO_gT rfl rfl ?_
       refine JO_q (QE_not rfl) rfl ?_
       refine JO_q (QE_pickF rfl rfl) rfl ?_
       refine JO_q (QE_mv rfl) rfl ?_
       refine JO_caseM (t := 48) rfl (fun c10 => ?_) (fun c10 => ?_)
       ·
        refine JO_gF rfl rfl rfl rfl ?_
        refine JO_gF rfl rfl rfl rfl ?_
        refine JO_gF rfl rfl rfl rfl ?_
        refine JO_gF rfl rfl rfl rfl ?_
        refine JO_gF rfl rfl rfl rfl ?_
        refine JO_gF rfl rfl rfl rfl ?_
        refine JO_q (QE_pickT rfl rfl) rfl ?_
        refine JO_nil ?_
        refine thenQ_n ?_
        refine JC_ifT rfl ?_
        refine JC_seq ?_
        refine JC_region ?_
        refine JO_q (QE_as rfl) rfl ?_
        refine JO_nil ?_
        refine thenQ_n ?_
        refine JC_ret ?_
        refine thenQ_r ?_
        refine retQ_mk [_] L (.inr rfl) (.tmp rfl (.nil)) rfl (Le.trans (Le.trans h1 h6) h9) (fun sR hS2 => ?_)
        exact ⟨by (try simp_all [resV, actCode]) <;> grind, rfl⟩
       ·
        refine JO_gT rfl rfl ?_
        refine JO_q (QE_faB rfl rfl rfl rfl) rfl ?_
        refine JO_gT rfl rfl ?_
        refine JO_q (QE_ldA 0 [_, _] rfl rfl rfl rfl rfl) rfl ?_
        refine JO_gT rfl rfl ?_
        refine JO_q (QE_mv rfl) rfl ?_
        refine JO_gT rfl rfl ?_
        refine JO_q (QE_mv rfl) rfl ?_
        refine JO_gT rfl rfl ?_
        refine JO_call (first := []) (captured := []) rfl rfl rfl (validTerm_ac D _ _ _ _ _) ?_
        rintro _ _ s11 h11 ⟨rfl, rfl⟩
        refine JO_gT rfl rfl ?_
        refine JO_q (QE_not rfl) rfl ?_
        refine JO_q (QE_pickF rfl rfl) rfl ?_
        refine JO_nil ?_
        refine thenQ_n ?_
        refine JC_ifM rfl (fun c12 => ?_) (fun c12 => ?_)
        ·
         refine JC_seq ?_
         refine JC_region ?_
         refine JO_q (QE_as rfl) rfl ?_
         refine JO_nil ?_
         refine thenQ_n ?_
         refine JC_ret ?_
         refine thenQ_r ?_
         refine retQ_mk [_] L (.inr rfl) (.tmp rfl (.nil)) rfl (Le.trans (Le.trans (Le.trans h1 h6) h9) h11) (fun sR hS2 => ?_)
         exact ⟨by (try simp_all [resV, actCode]) <;> grind, rfl⟩
        ·
         refine JC_skip ?_
         refine thenQ_n ?_
         refine JC_seq ?_
         refine JC_region ?_
         refine JO_q (QE_as rfl) rfl ?_
         refine JO_nil ?_
         refine thenQ_n ?_
         refine JC_ret ?_
         refine retQ_mk [_] L (.inr rfl) (.tmp rfl (.nil)) rfl (Le.trans (Le.trans (Le.trans h1 h6) h9) h11) (fun sR hS2 => ?_)
         exact ⟨by (try simp_all [resV, actCode]) <;> grind, rfl⟩
     ·
      refine JO_gF rfl rfl rfl rfl ?_
      refine JO_gF rfl rfl rfl rfl ?_
      refine JO_gF rfl rfl rfl rfl ?_
      refine JO_q (QE_pickF rfl rfl) rfl ?_
      refine JO_q (QE_mv rfl) rfl ?_
      refine JO_gT rfl rfl ?_
      refine JO_q (QE_faB rfl rfl rfl rfl) rfl ?_
      refine JO_gT rfl rfl ?_
      refine JO_q (QE_ldA 0 [_, _] rfl rfl rfl rfl rfl) rfl ?_
      refine JO_gT rfl rfl ?_
      refine JO_q (QE_mv rfl) rfl ?_
      refine JO_gT rfl rfl ?_
      refine JO_q (QE_mv rfl) rfl ?_
      refine JO_gT rfl rfl ?_
      refine JO_call (first := []) (captured := []) rfl rfl rfl (validTerm_ac D _ _ _ _ _) ?_
      rintro _ _ s13 h13 ⟨rfl, rfl⟩
      refine JO_gT rfl rfl ?_
      refine JO_q (QE_not rfl) rfl ?_
      refine JO_q (QE_pickF rfl rfl) rfl ?_
      refine JO_q (QE_mv rfl) rfl ?_
      refine JO_caseM (t := 48) rfl (fun c14 => ?_) (fun c14 => ?_)
      ·
       refine JO_gF rfl rfl rfl rfl ?_
       refine JO_gF rfl rfl rfl rfl ?_
       refine JO_gF rfl rfl rfl rfl ?_
       refine JO_gF rfl rfl rfl rfl ?_
       refine JO_gF rfl rfl rfl rfl ?_
       refine JO_gF rfl rfl rfl rfl ?_
       refine JO_q (QE_pickT rfl rfl) rfl ?_
       refine JO_nil ?_
       refine thenQ_n ?_
       refine JC_ifT rfl ?_
       refine JC_seq ?_
       refine JC_region ?_
       refine JO_q (QE_as rfl) rfl ?_
       refine JO_nil ?_
       refine thenQ_n ?_
       refine JC_ret ?_
       refine thenQ_r ?_
       refine retQ_mk [_] L (.inr rfl) (.tmp rfl (.nil)) rfl (Le.trans (Le.trans h1 h6) h13) (fun sR hS2 => ?_)
       exact ⟨by (try simp_all [resV, actCode]) <;> grind, rfl⟩
      ·
       refine JO_gT rfl rfl ?_
       refine JO_q (QE_faB rfl rfl rfl rfl) rfl ?_
       refine JO_gT rfl rfl ?_
       refine JO_q (QE_ldA 0 [_, _] rfl rfl rfl rfl rfl) rfl ?_
       refine JO_gT rfl rfl ?_
       refine JO_q (QE_mv rfl) rfl ?_
       refine JO_gT rfl rfl ?_
       refine JO_q (QE_mv rfl) rfl ?_
       refine JO_gT rfl rfl ?_
       refine JO_call (first := []) (captured := []) rfl rfl rfl (validTerm_ac D _ _ _ _ _) ?_
       rintro _ _ s15 h15 ⟨rfl, rfl⟩
       refine JO_gT rfl rfl ?_
       refine JO_q (QE_not rfl) rfl ?_
       refine JO_q (QE_pickF rfl rfl) rfl ?_
       refine JO_nil ?_
       refine thenQ_n ?_
       refine JC_ifM rfl (fun c16 => ?_) (fun c16 => ?_)
       ·
        refine JC_seq ?_
        refine JC_region ?_
        refine JO_q (QE_as rfl) rfl ?_
        refine JO_nil ?_
        refine thenQ_n ?_
        refine JC_ret ?_
        refine thenQ_r ?_
        refine retQ_mk [_] L (.inr rfl) (.tmp rfl (.nil)) rfl (Le.trans (Le.trans (Le.trans h1 h6) h13) h15) (fun sR hS2 => ?_)
        exact ⟨by (try simp_all [resV, actCode]) <;> grind, rfl⟩
       ·
        refine JC_skip ?_
        refine thenQ_n ?_
        refine JC_seq ?_
        refine JC_region ?_
        refine JO_q (QE_as rfl) rfl ?_
        refine JO_nil ?_
        refine thenQ_n ?_
        refine JC_ret ?_
        refine retQ_mk [_] L (.inr rfl) (.tmp rfl (.nil)) rfl (Le.trans (Le.trans (Le.trans h1 h6) h13) h15) (fun sR hS2 => ?_)
        exact ⟨by (try simp_all [resV, actCode]) <;> grind, rfl⟩
set_option maxHeartbeats 1000000 in
set_option maxRecDepth 100000 in
theorem isMnemonic_ac (D : Nat) (L : Hl) (s : World) (l : List UInt8) : AC Tryz.prog D 103 [St l] L s fun v L' _ => v = .bool (mnemB l) ∧ L = L' := by
 refine AC_enter (TT := TT) (fn := Tryz.f103) TT_ok Tryz.func103 (by kernel_rfl) rfl Tryz.ntmps103 rfl (rs := [.tmp 2]) rfl [(0, _)] rfl ?_
 refine JC_seq ?_
 refine JC_region ?_
 refine JO_q (QE_as rfl) rfl ?_
 refine JO_nil ?_
 refine thenQ_n ?_
 refine JC_seq ?_
 refine JC_seq ?_
 refine JC_region ?_
 refine JO_q (QE_mv rfl) rfl ?_
 refine JO_q (QE_seq rfl rfl) rfl ?_
 refine JO_q (QE_mv rfl) rfl ?_
 refine JO_caseD (t := 8) rfl (fun c1 => ?_) (fun c1 => ?_)
 ·
  refine JO_gF rfl rfl rfl rfl ?_
  refine JO_gF rfl rfl rfl rfl ?_
  refine JO_gF rfl rfl rfl rfl ?_
  refine JO_q (QE_pickT rfl rfl) rfl ?_
  refine JO_q (QE_mv rfl) rfl ?_
  refine JO_gF rfl rfl rfl rfl ?_
  refine JO_gF rfl rfl rfl rfl ?_
  refine JO_q (QE_pickT rfl rfl) rfl ?_
  refine JO_q (QE_mv rfl) rfl ?_
  refine JO_gF rfl rfl rfl rfl ?_
  refine JO_gF rfl rfl rfl rfl ?_
  refine JO_q (QE_pickT rfl rfl) rfl ?_
  refine JO_nil ?_
  refine thenQ_n ?_
  refine JC_ifT rfl ?_
  refine JC_seq ?_
  refine JC_region ?_
  refine JO_q (QE_as rfl) rfl ?_
  refine JO_nil ?_
  refine thenQ_n ?_
  refine JC_ret ?_
  refine thenQ_r ?_
  refine retQ_mk [] L (.inr rfl) (.tmp rfl (.nil)) rfl (Le.refl (D := D) _) (fun sR hS2 => ?_)
  refine ⟨?_, rfl⟩
  simp [resV, mnemB, labelB, *]; done
 ·
  refine JO_gT rfl rfl ?_
  refine JO_q (QE_mv rfl) rfl ?_
  refine JO_gT rfl rfl ?_
  refine JO_q (QE_lenT rfl rfl rfl) rfl ?_
  refine JO_gT rfl rfl ?_
  refine JO_q (QE_gt rfl rfl) rfl ?_
  refine JO_q (QE_pickF rfl rfl) rfl ?_
  refine JO_q (QE_mv rfl) rfl ?_
  refine JO_caseD (t := 13) rfl (fun c2 => ?_) (fun c2 => ?_)
  ·
   refine JO_gF rfl rfl rfl rfl ?_
   refine JO_gF rfl rfl rfl rfl ?_
   refine JO_q (QE_pickT rfl rfl) rfl ?_
   refine JO_q (QE_mv rfl) rfl ?_
   refine JO_gF rfl rfl rfl rfl ?_
   refine JO_gF rfl rfl rfl rfl ?_
   refine JO_q (QE_pickT rfl rfl) rfl ?_
   refine JO_nil ?_
   refine thenQ_n ?_
   refine JC_ifT rfl ?_
   refine JC_seq ?_
   refine JC_region ?_
   refine JO_q (QE_as rfl) rfl ?_
   refine JO_nil ?_
   refine thenQ_n ?_
   refine JC_ret ?_
   refine thenQ_r ?_
   refine retQ_mk [] L (.inr rfl) (.tmp rfl (.nil)) rfl (Le.refl (D := D) _) (fun sR hS2 => ?_)
   refine ⟨?_, rfl⟩
   have h6 : ¬ l.length ≤ 6 := by omega
   simp [resV, mnemB, labelB, h6]; done
  ·
   refine JO_gT rfl rfl ?_
   refine JO_q (QE_mv rfl) rfl ?_
   refine JO_gT rfl rfl ?_
   refine JO_q (QE_seq rfl rfl) rfl ?_
   refine JO_q (QE_pickF rfl rfl) rfl ?_
   refine JO_q (QE_mv rfl) rfl ?_
   refine JO_caseD (t := 17) rfl (fun c3 => ?_) (fun c3 => ?_)
   ·
    refine JO_gF rfl rfl rfl rfl ?_
    refine JO_gF rfl rfl rfl rfl ?_
    refine JO_q (QE_pickT rfl rfl) rfl ?_
    refine JO_nil ?_
    refine thenQ_n ?_
    refine JC_ifT rfl ?_
    refine JC_seq ?_
    refine JC_region ?_
    refine JO_q (QE_as rfl) rfl ?_
    refine JO_nil ?_
    refine thenQ_n ?_
    refine JC_ret ?_
    refine thenQ_r ?_
    refine retQ_mk [] L (.inr rfl) (.tmp rfl (.nil)) rfl (Le.refl (D := D) _) (fun sR hS2 => ?_)
    refine ⟨?_, rfl⟩
    simp [resV, mnemB, labelB, *]; done
   ·
    refine JO_gT rfl rfl ?_
    refine JO_q (QE_mv rfl) rfl ?_
    refine JO_gT rfl rfl ?_
    refine JO_q (QE_seq rfl rfl) rfl ?_
    refine JO_q (QE_pickF rfl rfl) rfl ?_
    refine JO_nil ?_
    refine thenQ_n ?_
    refine JC_ifD rfl (fun c4 => ?_) (fun c4 => ?_)
    ·
     refine JC_seq ?_
     refine JC_region ?_
     refine JO_q (QE_as rfl) rfl ?_
     refine JO_nil ?_
     refine thenQ_n ?_
     refine JC_ret ?_
     refine thenQ_r ?_
     refine retQ_mk [] L (.inr rfl) (.tmp rfl (.nil)) rfl (Le.refl (D := D) _) (fun sR hS2 => ?_)
     refine ⟨?_, rfl⟩
     simp [resV, mnemB, labelB, *]; done
    ·
     refine JC_skip ?_
     refine thenQ_n ?_
     refine JC_seq ?_
     refine JC_seq ?_
     refine JC_region ?_
     refine JO_q (QE_mv rfl) rfl ?_
     refine JO_q (QE_lenT rfl rfl rfl) rfl ?_
     refine JO_q (QE_mv rfl) rfl ?_
     refine JO_nil ?_
     refine thenQ_n ?_
     refine JC_block ?_
     refine JC_loop (γ := Nat) (fun k => [(0, _), (2, _), (22, _), (23, .int .i64 (k : Int))]) (fun _ => _) (fun k tw => Le D s tw ∧ (k ≤ l.length ∧ ∀ i c, i < k → l[i]? = some c → chOK i c = true)) (fun k => l.length - k) (fun _ _ _ h hl => ⟨h.1.trans hl, h.2⟩) 0 (Keeps.cons rfl (Keeps.cons rfl (Keeps.cons rfl (Keeps.cons rfl (Keeps.nil _))))) rfl ⟨Le.refl _, ⟨Nat.zero_le _, fun i c hi => by omega⟩⟩ ?_
     intro k s5 I5
     have hk0 := I5.2.1
     have hI := I5.2.2
     refine JC_seq ?_
     refine JC_region ?_
     refine JO_q (QE_lt rfl rfl) rfl ?_
     refine JO_nil ?_
     refine thenQ_n ?_
     refine JC_seq ?_
     refine JC_ifD rfl (fun c6 => ?_) (fun c6 => ?_)
     ·
      have hk : k < l.length := by omega
      obtain ⟨ch, hch⟩ : ∃ ch, l[k]? = some ch := ⟨_, List.getElem?_eq_getElem hk⟩
      refine JC_skip ?_
      refine thenQ_n ?_
      refine JC_seq ?_
      refine JC_block ?_
      refine JC_seq ?_
      refine JC_region ?_
      refine JO_q (QE_mv rfl) rfl ?_
      refine JO_q (QE_as rfl) rfl ?_
      refine JO_nil ?_
      refine thenQ_n ?_
      refine JC_seq ?_
      refine JC_draw drawsMixed 22 rfl _ (fun _ h => h) ?_
      intro s7 h7
      refine JA_q 0 rfl (by kernel_rfl) (by kernel_rfl) (by kernel_rfl) trivial (QE_mv rfl) rfl ?_
      refine JA_q 1 rfl (by kernel_rfl) (by kernel_rfl) (by kernel_rfl) trivial (QE_mv rfl) rfl ?_
      refine JA_q 2 rfl (by kernel_rfl) (by kernel_rfl) (by kernel_rfl) trivial (QE_ix rfl rfl rfl rfl hch) rfl ?_
      refine JA_q 3 rfl (by kernel_rfl) (by kernel_rfl) (by kernel_rfl) trivial (QE_ge rfl rfl) rfl ?_
      refine JA_q 4 rfl (by kernel_rfl) (by kernel_rfl) (by kernel_rfl) trivial (QE_mv rfl) rfl ?_
      refine JA_caseD (t := 30) rfl (fun c8 => ?_) (fun c8 => ?_)
      ·
       refine JA_q 5 rfl (by kernel_rfl) (by kernel_rfl) (by kernel_rfl) ⟨_, rfl, rfl⟩ (QE_mv rfl) rfl ?_
       refine JA_q 6 rfl (by kernel_rfl) (by kernel_rfl) (by kernel_rfl) ⟨_, rfl, rfl⟩ (QE_mv rfl) rfl ?_
       refine JA_q 7 rfl (by kernel_rfl) (by kernel_rfl) (by kernel_rfl) ⟨_, rfl, rfl⟩ (QE_ix rfl rfl rfl rfl hch) rfl ?_
       refine JA_q 8 rfl (by kernel_rfl) (by kernel_rfl) (by kernel_rfl) ⟨_, rfl, rfl⟩ (QE_le rfl rfl) rfl ?_
       refine JA_q 9 rfl (by kernel_rfl) (by kernel_rfl) (by kernel_rfl) trivial (QE_pickT rfl rfl) rfl ?_
       refine JA_q 10 rfl (by kernel_rfl) (by kernel_rfl) (by kernel_rfl) trivial (QE_mv rfl) rfl ?_
       refine JA_q 11 rfl (by kernel_rfl) (by kernel_rfl) (by kernel_rfl) trivial (QE_mv rfl) rfl ?_
       refine JA_q 12 rfl (by kernel_rfl) (by kernel_rfl) (by kernel_rfl) trivial (QE_ix rfl rfl rfl rfl hch) rfl ?_
       refine JA_q 13 rfl (by kernel_rfl) (by kernel_rfl) (by kernel_rfl) trivial (QE_ge rfl rfl) rfl ?_
       refine JA_q 14 rfl (by kernel_rfl) (by kernel_rfl) (by kernel_rfl) trivial (QE_mv rfl) rfl ?_
       refine JA_caseD (t := 40) rfl (fun c9 => ?_) (fun c9 => ?_)
       ·
        refine JA_q 15 rfl (by kernel_rfl) (by kernel_rfl) (by kernel_rfl) ⟨_, rfl, rfl⟩ (QE_mv rfl) rfl ?_
        refine JA_q 16 rfl (by kernel_rfl) (by kernel_rfl) (by kernel_rfl) ⟨_, rfl, rfl⟩ (QE_mv rfl) rfl ?_
        refine JA_q 17 rfl (by kernel_rfl) (by kernel_rfl) (by kernel_rfl) ⟨_, rfl, rfl⟩ (QE_ix rfl rfl rfl rfl hch) rfl ?_
        refine JA_q 18 rfl (by kernel_rfl) (by kernel_rfl) (by kernel_rfl) ⟨_, rfl, rfl⟩ (QE_le rfl rfl) rfl ?_
        refine JA_q 19 rfl (by kernel_rfl) (by kernel_rfl) (by kernel_rfl) trivial (QE_pickT rfl rfl) rfl ?_
        refine JA_q 20 rfl (by kernel_rfl) (by kernel_rfl) (by kernel_rfl) trivial (QE_as rfl) rfl ?_
        refine JA_q 21 rfl (by kernel_rfl) (by kernel_rfl) (by kernel_rfl) trivial (QE_as rfl) rfl ?_
        refine JA_done (by kernel_rfl) ?_
        refine thenQ_n ?_
        refine JC_seq ?_
        refine JC_region ?_
        refine JO_q (QE_mv rfl) rfl ?_
        refine JO_q (QE_not rfl) rfl ?_
        refine JO_q (QE_mv rfl) rfl ?_
        refine JO_caseN (t := 48) rfl (fun c10 => ?_) (fun c10 => ?_)
        ·
         refine JO_gT rfl rfl ?_
         refine JO_q (QE_mv rfl) rfl ?_
         refine JO_gT rfl rfl ?_
         refine JO_q (QE_not rfl) rfl ?_
         refine JO_gT rfl rfl ?_
         refine JO_q (QE_mv rfl) rfl ?_
         refine JO_caseN (t := 51) rfl (fun c11 => ?_) (fun c11 => ?_)
         ·
          refine JO_gF rfl rfl rfl rfl ?_
          refine JO_gF rfl rfl rfl rfl ?_
          refine JO_gT rfl rfl ?_
          refine JO_q (QE_pickT rfl rfl) rfl ?_
          refine JO_q (QE_pickT rfl rfl) rfl ?_
          refine JO_nil ?_
          refine thenQ_n ?_
          refine JC_ifT rfl ?_
          refine JC_seq ?_
          refine JC_region ?_
          refine JO_q (QE_as rfl) rfl ?_
          refine JO_nil ?_
          refine thenQ_n ?_
          refine JC_ret ?_
          refine blockQ_r ?_
          refine thenQ_r ?_
          refine thenQ_r ?_
          refine blockQ_r ?_
          refine thenQ_r ?_
          refine retQ_mk [] L (.inr rfl) (.tmp rfl (.nil)) rfl (Le.trans I5.1 h7) (fun sR hS2 => ?_)
          refine ⟨?_, rfl⟩
          have hb : chOK k ch = false := by
            rw [Bool.eq_false_iff]; simp only [chOK, letB, digB, Bool.or_eq_true, Bool.and_eq_true, decide_eq_true_eq, ne_eq]; omega
          simp [resV, mnemB, labelB, chars_not hch hb]; done
         ·
          refine JO_gT rfl rfl ?_
          refine JO_q (QE_mv rfl) rfl ?_
          refine JO_gT rfl rfl ?_
          refine JO_q (QE_eq rfl rfl) rfl ?_
          refine JO_gT rfl rfl ?_
          refine JO_q (QE_pickF rfl rfl) rfl ?_
          refine JO_q (QE_pickT rfl rfl) rfl ?_
          refine JO_nil ?_
          refine thenQ_n ?_
          refine JC_ifD rfl (fun c12 => ?_) (fun c12 => ?_)
          ·
           refine JC_seq ?_
           refine JC_region ?_
           refine JO_q (QE_as rfl) rfl ?_
           refine JO_nil ?_
           refine thenQ_n ?_
           refine JC_ret ?_
           refine blockQ_r ?_
           refine thenQ_r ?_
           refine thenQ_r ?_
           refine blockQ_r ?_
           refine thenQ_r ?_
           refine retQ_mk [] L (.inr rfl) (.tmp rfl (.nil)) rfl (Le.trans I5.1 h7) (fun sR hS2 => ?_)
           refine ⟨?_, rfl⟩
           have hb : chOK k ch = false := by
             rw [Bool.eq_false_iff]; simp only [chOK, letB, digB, Bool.or_eq_true, Bool.and_eq_true, decide_eq_true_eq, ne_eq]; omega
           simp [resV, mnemB, labelB, chars_not hch hb]; done
          ·
           refine JC_skip ?_
           refine blockQ_n ?_
           refine thenQ_n ?_
           refine JC_region ?_
           refine JO_q (QE_add' rfl rfl (w64 (by omega) (by omega))) rfl ?_
           refine JO_q (QE_mv rfl) rfl ?_
           refine JO_nil ?_
           have hOK : chOK k ch = true := by simp only [chOK, letB, digB, Bool.or_eq_true, Bool.and_eq_true, decide_eq_true_eq, ne_eq]; omega
           refine thenQ_n ⟨(k + 1), [], (Keeps.cons rfl (Keeps.cons rfl (Keeps.cons rfl (Keeps.cons rfl (Keeps.nil _))))), rfl, ⟨(Le.trans I5.1 h7), ⟨by omega, below_succ hI hch hOK⟩⟩, (by omega)⟩
        ·
         refine JO_gF rfl rfl rfl rfl ?_
         refine JO_gF rfl rfl rfl rfl ?_
         refine JO_gF rfl rfl rfl rfl ?_
         refine JO_gU rfl rfl rfl ?_
         refine JO_gU rfl rfl rfl ?_
         refine JO_gF rfl rfl rfl rfl ?_
         refine JO_q (QE_pickF rfl rfl) rfl ?_
         refine JO_nil ?_
         refine thenQ_n ?_
         refine JC_ifF rfl ?_
         refine JC_skip ?_
         refine blockQ_n ?_
         refine thenQ_n ?_
         refine JC_region ?_
         refine JO_q (QE_add' rfl rfl (w64 (by omega) (by omega))) rfl ?_
         refine JO_q (QE_mv rfl) rfl ?_
         refine JO_nil ?_
         have hOK : chOK k ch = true := by simp only [chOK, letB, digB, Bool.or_eq_true, Bool.and_eq_true, decide_eq_true_eq, ne_eq]; omega
         refine thenQ_n ⟨(k + 1), [], (Keeps.cons rfl (Keeps.cons rfl (Keeps.cons rfl (Keeps.cons rfl (Keeps.nil _))))), rfl, ⟨(Le.trans I5.1 h7), ⟨by omega, below_succ hI hch hOK⟩⟩, (by omega)⟩
       ·
        refine JA_no 15 rfl (by kernel_rfl) (by kernel_rfl) (by kernel_rfl) rfl rfl rfl rfl ?_
        refine JA_no 16 rfl (by kernel_rfl) (by kernel_rfl) (by kernel_rfl) rfl rfl rfl rfl ?_
        refine JA_no 17 rfl (by kernel_rfl) (by kernel_rfl) (by kernel_rfl) rfl rfl rfl rfl ?_
        refine JA_no 18 rfl (by kernel_rfl) (by kernel_rfl) (by kernel_rfl) rfl rfl rfl rfl ?_
        refine JA_q 19 rfl (by kernel_rfl) (by kernel_rfl) (by kernel_rfl) trivial (QE_pickF rfl rfl) rfl ?_
        refine JA_q 20 rfl (by kernel_rfl) (by kernel_rfl) (by kernel_rfl) trivial (QE_as rfl) rfl ?_
        refine JA_q 21 rfl (by kernel_rfl) (by kernel_rfl) (by kernel_rfl) trivial (QE_as rfl) rfl ?_
        refine JA_done (by kernel_rfl) ?_
        refine thenQ_n ?_
        refine JC_seq ?_
        refine JC_region ?_
        refine JO_q (QE_mv rfl) rfl ?_
        refine JO_q (QE_not rfl) rfl ?_
        refine JO_q (QE_mv rfl) rfl ?_
        refine JO_caseN (t := 48) rfl (fun c13 => ?_) (fun c13 => ?_)
        ·
         refine JO_gT rfl rfl ?_
         refine JO_q (QE_mv rfl) rfl ?_
         refine JO_gT rfl rfl ?_
         refine JO_q (QE_notF rfl) rfl ?_
         refine JO_gT rfl rfl ?_
         refine JO_q (QE_mv rfl) rfl ?_
         refine JO_gF rfl rfl rfl rfl ?_
         refine JO_gF rfl rfl rfl rfl ?_
         refine JO_gT rfl rfl ?_
         refine JO_q (QE_pickT rfl rfl) rfl ?_
         refine JO_q (QE_pickT rfl rfl) rfl ?_
         refine JO_nil ?_
         refine thenQ_n ?_
         refine JC_ifT rfl ?_
         refine JC_seq ?_
         refine JC_region ?_
         refine JO_q (QE_as rfl) rfl ?_
         refine JO_nil ?_
         refine thenQ_n ?_
         refine JC_ret ?_
         refine blockQ_r ?_
         refine thenQ_r ?_
         refine thenQ_r ?_
         refine blockQ_r ?_
         refine thenQ_r ?_
         refine retQ_mk [] L (.inr rfl) (.tmp rfl (.nil)) rfl (Le.trans I5.1 h7) (fun sR hS2 => ?_)
         refine ⟨?_, rfl⟩
         have hb : chOK k ch = false := by
           rw [Bool.eq_false_iff]; simp only [chOK, letB, digB, Bool.or_eq_true, Bool.and_eq_true, decide_eq_true_eq, ne_eq]; omega
         simp [resV, mnemB, labelB, chars_not hch hb]; done
        ·
         refine JO_gF rfl rfl rfl rfl ?_
         refine JO_gF rfl rfl rfl rfl ?_
         refine JO_gF rfl rfl rfl rfl ?_
         refine JO_gU rfl rfl rfl ?_
         refine JO_gU rfl rfl rfl ?_
         refine JO_gF rfl rfl rfl rfl ?_
         refine JO_q (QE_pickF rfl rfl) rfl ?_
         refine JO_nil ?_
         refine thenQ_n ?_
         refine JC_ifF rfl ?_
         refine JC_skip ?_
         refine blockQ_n ?_
         refine thenQ_n ?_
         refine JC_region ?_
         refine JO_q (QE_add' rfl rfl (w64 (by omega) (by omega))) rfl ?_
         refine JO_q (QE_mv rfl) rfl ?_
         refine JO_nil ?_
         have hOK : chOK k ch = true := by simp only [chOK, letB, digB, Bool.or_eq_true, Bool.and_eq_true, decide_eq_true_eq, ne_eq]; omega
         refine thenQ_n ⟨(k + 1), [], (Keeps.cons rfl (Keeps.cons rfl (Keeps.cons rfl (Keeps.cons rfl (Keeps.nil _))))), rfl, ⟨(Le.trans I5.1 h7), ⟨by omega, below_succ hI hch hOK⟩⟩, (by omega)⟩
      ·
       refine JA_no 5 rfl (by kernel_rfl) (by kernel_rfl) (by kernel_rfl) rfl rfl rfl rfl ?_
       refine JA_no 6 rfl (by kernel_rfl) (by kernel_rfl) (by kernel_rfl) rfl rfl rfl rfl ?_
       refine JA_no 7 rfl (by kernel_rfl) (by kernel_rfl) (by kernel_rfl) rfl rfl rfl rfl ?_
       refine JA_no 8 rfl (by kernel_rfl) (by kernel_rfl) (by kernel_rfl) rfl rfl rfl rfl ?_
       refine JA_q 9 rfl (by kernel_rfl) (by kernel_rfl) (by kernel_rfl) trivial (QE_pickF rfl rfl) rfl ?_
       refine JA_q 10 rfl (by kernel_rfl) (by kernel_rfl) (by kernel_rfl) trivial (QE_mv rfl) rfl ?_
       refine JA_q 11 rfl (by kernel_rfl) (by kernel_rfl) (by kernel_rfl) trivial (QE_mv rfl) rfl ?_
       refine JA_q 12 rfl (by kernel_rfl) (by kernel_rfl) (by kernel_rfl) trivial (QE_ix rfl rfl rfl rfl hch) rfl ?_
       refine JA_q 13 rfl (by kernel_rfl) (by kernel_rfl) (by kernel_rfl) trivial (QE_ge rfl rfl) rfl ?_
       refine JA_q 14 rfl (by kernel_rfl) (by kernel_rfl) (by kernel_rfl) trivial (QE_mv rfl) rfl ?_
       refine JA_caseD (t := 40) rfl (fun c14 => ?_) (fun c14 => ?_)
       ·
        refine JA_q 15 rfl (by kernel_rfl) (by kernel_rfl) (by kernel_rfl) ⟨_, rfl, rfl⟩ (QE_mv rfl) rfl ?_
        refine JA_q 16 rfl (by kernel_rfl) (by kernel_rfl) (by kernel_rfl) ⟨_, rfl, rfl⟩ (QE_mv rfl) rfl ?_
        refine JA_q 17 rfl (by kernel_rfl) (by kernel_rfl) (by kernel_rfl) ⟨_, rfl, rfl⟩ (QE_ix rfl rfl rfl rfl hch) rfl ?_
        refine JA_q 18 rfl (by kernel_rfl) (by kernel_rfl) (by kernel_rfl) ⟨_, rfl, rfl⟩ (QE_le rfl rfl) rfl ?_
        refine JA_q 19 rfl (by kernel_rfl) (by kernel_rfl) (by kernel_rfl) trivial (QE_pickT rfl rfl) rfl ?_
        refine JA_q 20 rfl (by kernel_rfl) (by kernel_rfl) (by kernel_rfl) trivial (QE_as rfl) rfl ?_
        refine JA_q 21 rfl (by kernel_rfl) (by kernel_rfl) (by kernel_rfl) trivial (QE_as rfl) rfl ?_
        refine JA_done (by kernel_rfl) ?_
        refine thenQ_n ?_
        refine JC_seq ?_
        refine JC_region ?_
        refine JO_q (QE_mv rfl) rfl ?_
        refine JO_q (QE_notF rfl) rfl ?_
        refine JO_q (QE_mv rfl) rfl ?_
        refine JO_gT rfl rfl ?_
        refine JO_q (QE_mv rfl) rfl ?_
        refine JO_gT rfl rfl ?_
        refine JO_q (QE_not rfl) rfl ?_
        refine JO_gT rfl rfl ?_
        refine JO_q (QE_mv rfl) rfl ?_
        refine JO_caseN (t := 51) rfl (fun c15 => ?_) (fun c15 => ?_)
        ·
         refine JO_gF rfl rfl rfl rfl ?_
         refine JO_gF rfl rfl rfl rfl ?_
         refine JO_gT rfl rfl ?_
         refine JO_q (QE_pickT rfl rfl) rfl ?_
         refine JO_q (QE_pickT rfl rfl) rfl ?_
         refine JO_nil ?_
         refine thenQ_n ?_
         refine JC_ifT rfl ?_
         refine JC_seq ?_
         refine JC_region ?_
         refine JO_q (QE_as rfl) rfl ?_
         refine JO_nil ?_
         refine thenQ_n ?_
         refine JC_ret ?_
         refine blockQ_r ?_
         refine thenQ_r ?_
         refine thenQ_r ?_
         refine blockQ_r ?_
         refine thenQ_r ?_
         refine retQ_mk [] L (.inr rfl) (.tmp rfl (.nil)) rfl (Le.trans I5.1 h7) (fun sR hS2 => ?_)
         refine ⟨?_, rfl⟩
         have hb : chOK k ch = false := by
           rw [Bool.eq_false_iff]; simp only [chOK, letB, digB, Bool.or_eq_true, Bool.and_eq_true, decide_eq_true_eq, ne_eq]; omega
         simp [resV, mnemB, labelB, chars_not hch hb]; done
        ·
         refine JO_gT rfl rfl ?_
         refine JO_q (QE_mv rfl) rfl ?_
         refine JO_gT rfl rfl ?_
         refine JO_q (QE_eq rfl rfl) rfl ?_
         refine JO_gT rfl rfl ?_
         refine JO_q (QE_pickF rfl rfl) rfl ?_
         refine JO_q (QE_pickT rfl rfl) rfl ?_
         refine JO_nil ?_
         refine thenQ_n ?_
         refine JC_ifD rfl (fun c16 => ?_) (fun c16 => ?_)
         ·
          refine JC_seq ?_
          refine JC_region ?_
          refine JO_q (QE_as rfl) rfl ?_
          refine JO_nil ?_
          refine thenQ_n ?_
          refine JC_ret ?_
          refine blockQ_r ?_
          refine thenQ_r ?_
          refine thenQ_r ?_
          refine blockQ_r ?_
          refine thenQ_r ?_
          refine retQ_mk [] L (.inr rfl) (.tmp rfl (.nil)) rfl (Le.trans I5.1 h7) (fun sR hS2 => ?_)
          refine ⟨?_, rfl⟩
          have hb : chOK k ch = false := by
            rw [Bool.eq_false_iff]; simp only [chOK, letB, digB, Bool.or_eq_true, Bool.and_eq_true, decide_eq_true_eq, ne_eq]; omega
          simp [resV, mnemB, labelB, chars_not hch hb]; done
         ·
          refine JC_skip ?_
          refine blockQ_n ?_
          refine thenQ_n ?_
          refine JC_region ?_
          refine JO_q (QE_add' rfl rfl (w64 (by omega) (by omega))) rfl ?_
          refine JO_q (QE_mv rfl) rfl ?_
          refine JO_nil ?_
          have hOK : chOK k ch = true := by simp only [chOK, letB, digB, Bool.or_eq_true, Bool.and_eq_true, decide_eq_true_eq, ne_eq]; omega
          refine thenQ_n ⟨(k + 1), [], (Keeps.cons rfl (Keeps.cons rfl (Keeps.cons rfl (Keeps.cons rfl (Keeps.nil _))))), rfl, ⟨(Le.trans I5.1 h7), ⟨by omega, below_succ hI hch hOK⟩⟩, (by omega)⟩
       ·
        refine JA_no 15 rfl (by kernel_rfl) (by kernel_rfl) (by kernel_rfl) rfl rfl rfl rfl ?_
        refine JA_no 16 rfl (by kernel_rfl) (by kernel_rfl) (by kernel_rfl) rfl rfl rfl rfl ?_
        refine JA_no 17 rfl (by kernel_rfl) (by kernel_rfl) (by kernel_rfl) rfl rfl rfl rfl ?_
        refine JA_no 18 rfl (by kernel_rfl) (by kernel_rfl) (by kernel_rfl) rfl rfl rfl rfl ?_
        refine JA_q 19 rfl (by kernel_rfl) (by kernel_rfl) (by kernel_rfl) trivial (QE_pickF rfl rfl) rfl ?_
        refine JA_q 20 rfl (by kernel_rfl) (by kernel_rfl) (by kernel_rfl) trivial (QE_as rfl) rfl ?_
        refine JA_q 21 rfl (by kernel_rfl) (by kernel_rfl) (by kernel_rfl) trivial (QE_as rfl) rfl ?_
        refine JA_done (by kernel_rfl) ?_
        refine thenQ_n ?_
        refine JC_seq ?_
        refine JC_region ?_
        refine JO_q (QE_mv rfl) rfl ?_
        refine JO_q (QE_notF rfl) rfl ?_
        refine JO_q (QE_mv rfl) rfl ?_
        refine JO_gT rfl rfl ?_
        refine JO_q (QE_mv rfl) rfl ?_
        refine JO_gT rfl rfl ?_
        refine JO_q (QE_notF rfl) rfl ?_
        refine JO_gT rfl rfl ?_
        refine JO_q (QE_mv rfl) rfl ?_
        refine JO_gF rfl rfl rfl rfl ?_
        refine JO_gF rfl rfl rfl rfl ?_
        refine JO_gT rfl rfl ?_
        refine JO_q (QE_pickT rfl rfl) rfl ?_
        refine JO_q (QE_pickT rfl rfl) rfl ?_
        refine JO_nil ?_
        refine thenQ_n ?_
        refine JC_ifT rfl ?_
        refine JC_seq ?_
        refine JC_region ?_
        refine JO_q (QE_as rfl) rfl ?_
        refine JO_nil ?_
        refine thenQ_n ?_
        refine JC_ret ?_
        refine blockQ_r ?_
        refine thenQ_r ?_
        refine thenQ_r ?_
        refine blockQ_r ?_
        refine thenQ_r ?_
        refine retQ_mk [] L (.inr rfl) (.tmp rfl (.nil)) rfl (Le.trans I5.1 h7) (fun sR hS2 => ?_)
        refine ⟨?_, rfl⟩
        have hb : chOK k ch = false := by
          rw [Bool.eq_false_iff]; simp only [chOK, letB, digB, Bool.or_eq_true, Bool.and_eq_true, decide_eq_true_eq, ne_eq]; omega
        simp [resV, mnemB, labelB, chars_not hch hb]; done
     ·
      refine JC_exit ?_
      refine thenQ_x ?_
      refine thenQ_x ?_
      refine blockQ_x ?_
      refine thenQ_n ?_
      refine JC_seq ?_
      refine JC_region ?_
      refine JO_q (QE_as rfl) rfl ?_
      refine JO_nil ?_
      refine thenQ_n ?_
      refine JC_ret ?_
      refine retQ_mk [] L (.inr rfl) (.tmp rfl (.nil)) rfl I5.1 (fun sR hS2 => ?_)
      refine ⟨?_, rfl⟩
      have hb := chars_all (fun i c hi hc => hI i c (by omega) hc)
      have h6 : l.length ≤ 6 := by omega
      simp [resV, mnemB, labelB, hb, h6, *]; done
set_option maxHeartbeats 1000000 in
set_option maxRecDepth 100000 in
theorem checkInstruction_ac (D : Nat) (L : Hl) (s : World) (x : Ins) (A : Option Addr) (n c : Nat) (hA : Acs s A n c x.acts) : AC Tryz.prog D 81 [.agg #[St x.name, .int .u32 x.code, .bool x.operand, .slice A n c]] L s fun v L' _ => v = .int .i64 (insCode x) ∧ L = L' := by
 have hn := hA.1
 have hc1 := hA.2.1
 have hc2 := hA.2.2.1
 refine AC_enter (TT := TT) (fn := Tryz.f81) TT_ok Tryz.func81 (by kernel_rfl) rfl Tryz.ntmps81 rfl (rs := [.tmp 2]) rfl [(0, _)] rfl ?_
 refine JC_seq ?_
 refine JC_region ?_
 refine JO_boxA rfl rfl ?_
 intro β1 s1 h1
 refine JO_q (QE_as rfl) rfl ?_
 refine JO_nil ?_
 refine thenQ_n ?_
 refine JC_seq ?_
 refine JC_block ?_
 refine JC_seq ?_
 refine JC_region ?_
 refine JO_q (QE_fa0 rfl rfl rfl rfl) rfl ?_
 refine JO_q (QE_ld1 0 rfl rfl rfl rfl rfl) rfl ?_
 refine JO_call (first := []) (captured := []) rfl rfl rfl (isMnemonic_ac D _ _ _) ?_
 rintro _ _ s2 h2 ⟨rfl, rfl⟩
 refine JO_q (QE_not rfl) rfl ?_
 refine JO_q (QE_as rfl) rfl ?_
 refine JO_nil ?_
 refine thenQ_n ?_
 refine JC_ifM rfl (fun c3 => ?_) (fun c3 => ?_)
 ·
  refine JC_seq ?_
  refine JC_region ?_
  refine JO_q (QE_as rfl) rfl ?_
  refine JO_nil ?_
  refine thenQ_n ?_
  refine JC_ret ?_
  refine blockQ_r ?_
  refine thenQ_r ?_
  refine retQ_mk [_] L (.inr rfl) (.tmp rfl (.nil)) rfl (Le.trans h1 h2) (fun sR hS2 => ?_)
  refine ⟨?_, rfl⟩
  simp [resV, insCode, *]; done
 ·
  refine JC_seq ?_
  refine JC_region ?_
  refine JO_q (QE_faB rfl rfl rfl rfl) rfl ?_
  refine JO_q (QE_ld1 0 rfl rfl rfl rfl rfl) rfl ?_
  refine JO_q (QE_lenS rfl rfl rfl) rfl ?_
  refine JO_q (QE_gt rfl rfl) rfl ?_
  refine JO_q (QE_as rfl) rfl ?_
  refine JO_nil ?_
  refine thenQ_n ?_
  refine JC_ifD rfl (fun c4 => ?_) (fun c4 => ?_)
  ·
   refine JC_seq ?_
   refine JC_region ?_
   refine JO_q (QE_as rfl) rfl ?_
   refine JO_nil ?_
   refine thenQ_n ?_
   refine JC_ret ?_
   refine blockQ_r ?_
   refine thenQ_r ?_
   refine retQ_mk [_] L (.inr rfl) (.tmp rfl (.nil)) rfl (Le.trans h1 h2) (fun sR hS2 => ?_)
   refine ⟨?_, rfl⟩
   have h8 : 8 < x.acts.length := by omega
   simp [resV, insCode, h8, *]; done
  ·
   refine JC_skip ?_
   refine blockQ_n ?_
   refine thenQ_n ?_
   refine JC_seq ?_
   refine JC_seq ?_
   refine JC_region ?_
   refine JO_q (QE_faB rfl rfl rfl rfl) rfl ?_
   refine JO_q (QE_ld1 0 rfl rfl rfl rfl rfl) rfl ?_
   refine JO_q (QE_lenS rfl rfl rfl) rfl ?_
   refine JO_q (QE_mv rfl) rfl ?_
   refine JO_nil ?_
   refine thenQ_n ?_
   refine JC_block ?_
   refine JC_loop (γ := Nat) (fun k => [(1, _), (2, _), (17, _), (18, _), (19, .int .i64 (k : Int))]) (fun _ => _) (fun k tw => Le D s2 tw ∧ (k ≤ n ∧ ∀ i a, i < k → x.acts[i]? = some a → actCode a x.operand = 0)) (fun k => n - k) (fun _ _ _ h hl => ⟨h.1.trans hl, h.2⟩) 0 (Keeps.cons rfl (Keeps.cons rfl (Keeps.cons rfl (Keeps.cons rfl (Keeps.cons rfl (Keeps.nil _)))))) rfl ⟨Le.refl _, ⟨Nat.zero_le _, fun i c hi => by omega⟩⟩ ?_
   intro k s5 I5
   have hk0 := I5.2.1
   have hI := I5.2.2
   refine JC_seq ?_
   refine JC_region ?_
   refine JO_q (QE_lt rfl rfl) rfl ?_
   refine JO_nil ?_
   refine thenQ_n ?_
   refine JC_seq ?_
   refine JC_ifD rfl (fun c6 => ?_) (fun c6 => ?_)
   ·
    have hk : k < n := by omega
    obtain ⟨b, off, a, rfl, ha, hca, hau⟩ := Acs.at_ (hA.le (Le.trans (Le.trans h1 h2) I5.1)) hk
    refine JC_skip ?_
    refine thenQ_n ?_
    refine JC_seq ?_
    refine JC_block ?_
    refine JC_seq ?_
    refine JC_region ?_
    refine JO_q (QE_iaN rfl rfl rfl rfl rfl rfl hk) rfl ?_
    refine JO_q (QE_ldsA rfl rfl rfl hca rfl) rfl ?_
    refine JO_allocZ rfl [_, _, _, _, _, _] rfl rfl ?_
    intro β7 s7 h7
    refine JO_st 0 [_, _, _, _, _, _] rfl rfl rfl rfl rfl rfl rfl rfl rfl ?_
    refine JO_nil ?_
    refine thenQ_n ?_
    refine JC_seq ?_
    refine JC_region ?_
    refine JO_q (QE_ldA 0 [_, _, _, _, _, _] rfl rfl rfl rfl rfl) rfl ?_
    refine JO_q (QE_faB rfl rfl rfl rfl) rfl ?_
    refine JO_q (QE_ld1 1 rfl rfl rfl rfl rfl) rfl ?_
    refine JO_call (first := []) (captured := []) rfl rfl rfl (checkAction_ac D _ _ _ _) ?_
    rintro _ _ s8 h8 ⟨rfl, rfl⟩
    refine JO_q (QE_as rfl) rfl ?_
    refine JO_nil ?_
    refine thenQ_n ?_
    refine JC_seq ?_
    refine JC_region ?_
    refine JO_q (QE_mv rfl) rfl ?_
    refine JO_q (QE_ne rfl rfl) rfl ?_
    refine JO_nil ?_
    refine thenQ_n ?_
    refine JC_ifN rfl (fun c9 => ?_) (fun c9 => ?_)
    ·
     have hz : actCode a x.operand ≠ 0 := by simpa using c9
     refine JC_seq ?_
     refine JC_region ?_
     refine JO_q (QE_mv rfl) rfl ?_
     refine JO_q (QE_as rfl) rfl ?_
     refine JO_nil ?_
     refine thenQ_n ?_
     refine JC_ret ?_
     refine blockQ_r ?_
     refine thenQ_r ?_
     refine thenQ_r ?_
     refine blockQ_r ?_
     refine thenQ_r ?_
     refine retQ_mk [_, _] L (.inr rfl) (.tmp rfl (.nil)) rfl (Le.trans (Le.trans (Le.trans (Le.trans h1 h2) I5.1) h7) h8) (fun sR hS2 => ?_)
     refine ⟨?_, rfl⟩
     have h8 : ¬ 8 < x.acts.length := by omega
     simp [resV, insCode, h8, firstNZ_hit hI ha hz, *]; done
    ·
     have hz : actCode a x.operand = 0 := by simpa using c9
     refine JC_skip ?_
     refine blockQ_n ?_
     refine thenQ_n ?_
     refine JC_region ?_
     refine JO_q (QE_add' rfl rfl (w64 (by omega) (by omega))) rfl ?_
     refine JO_q (QE_mv rfl) rfl ?_
     refine JO_nil ?_
     refine thenQ_n ⟨(k + 1), [_], (Keeps.cons rfl (Keeps.cons rfl (Keeps.cons rfl (Keeps.cons rfl (Keeps.cons rfl (Keeps.nil _)))))), rfl, ⟨(Le.trans (Le.trans I5.1 h7) h8), ⟨by omega, below_succ hI ha hz⟩⟩, (by omega)⟩
   ·
    refine JC_exit ?_
    refine thenQ_x ?_
    refine thenQ_x ?_
    refine blockQ_x ?_
    refine thenQ_n ?_
    refine JC_seq ?_
    refine JC_region ?_
    refine JO_q (QE_as rfl) rfl ?_
    refine JO_nil ?_
    refine thenQ_n ?_
    refine JC_ret ?_
    refine retQ_mk [_] L (.inr rfl) (.tmp rfl (.nil)) rfl (Le.trans (Le.trans h1 h2) I5.1) (fun sR hS2 => ?_)
    refine ⟨?_, rfl⟩
    have h8 : ¬ 8 < x.acts.length := by omega
    simp [resV, insCode, h8, firstNZ_none (fun i a hi h => hI i a (by omega) h), *]; done
set_option maxHeartbeats 1000000 in
set_option maxRecDepth 100000 in
theorem validate1_ac (D : Nat) (L : Hl) (s : World) (x y : Ins) (A A' : Option Addr) (n c n' c' β : Nat) : AC Tryz.prog D 83 [.agg #[St y.name, .int .u32 y.code, .bool y.operand, .slice A' n' c'], .pointer (some ⟨β, 0, none⟩)] ((β, cb [St x.name, .int .u32 x.code, .bool x.operand, .slice A n c] 97) :: L) s fun v L' _ => v = .bool (sameKey x y) ∧ (β, cb [St x.name, .int .u32 x.code, .bool x.operand, .slice A n c] 97) :: L = L' := by
 refine AC_enter (TT := TT) (fn := Tryz.f83) TT_ok Tryz.func83 (by kernel_rfl) rfl Tryz.ntmps83 rfl (rs := [.tmp 3]) rfl [(0, _), (1, _)] rfl ?_
 refine JC_seq ?_
 refine JC_region ?_
 refine JO_boxA rfl rfl ?_
 intro β1 s1 h1
 refine JO_q (QE_as rfl) rfl ?_
 refine JO_nil ?_
 refine thenQ_n ?_
 refine JC_seq ?_
 refine JC_region ?_
 refine JO_q (QE_fa0 rfl rfl rfl rfl) rfl ?_
 refine JO_q (QE_ld1 1 rfl rfl rfl rfl rfl) rfl ?_
 refine JO_q (QE_fa0 rfl rfl rfl rfl) rfl ?_
 refine JO_q (QE_ld1 0 rfl rfl rfl rfl rfl) rfl ?_
 refine JO_q (QE_seq rfl rfl) rfl ?_
 refine JO_q (QE_mv rfl) rfl ?_
 refine JO_caseD (t := 9) rfl (fun c2 => ?_) (fun c2 => ?_)
 ·
  refine JO_gF rfl rfl rfl rfl ?_
  refine JO_gF rfl rfl rfl rfl ?_
  refine JO_gF rfl rfl rfl rfl ?_
  refine JO_gF rfl rfl rfl rfl ?_
  refine JO_gF rfl rfl rfl rfl ?_
  refine JO_q (QE_pickT rfl rfl) rfl ?_
  refine JO_q (QE_as rfl) rfl ?_
  refine JO_nil ?_
  refine thenQ_n ?_
  refine JC_ret ?_
  refine retQ_mk [_] ((β, cb [St x.name, .int .u32 x.code, .bool x.operand, .slice A n c] 97) :: L) (.inr rfl) (.tmp rfl (.nil)) rfl h1 (fun sR hS2 => ?_)
  exact ⟨by simp_all [resV, sameKey], rfl⟩
 ·
  refine JO_gT rfl rfl ?_
  refine JO_q (QE_faB rfl rfl rfl rfl) rfl ?_
  refine JO_gT rfl rfl ?_
  refine JO_q (QE_ld1 1 rfl rfl rfl rfl rfl) rfl ?_
  refine JO_gT rfl rfl ?_
  refine JO_q (QE_faB rfl rfl rfl rfl) rfl ?_
  refine JO_gT rfl rfl ?_
  refine JO_q (QE_ld1 0 rfl rfl rfl rfl rfl) rfl ?_
  refine JO_gT rfl rfl ?_
  refine JO_q (QE_eq rfl rfl) rfl ?_
  refine JO_q (QE_pickF rfl rfl) rfl ?_
  refine JO_q (QE_as rfl) rfl ?_
  refine JO_nil ?_
  refine thenQ_n ?_
  refine JC_ret ?_
  refine retQ_mk [_] ((β, cb [St x.name, .int .u32 x.code, .bool x.operand, .slice A n c] 97) :: L) (.inr rfl) (.tmp rfl (.nil)) rfl h1 (fun sR hS2 => ?_)
  exact ⟨by simp_all [resV, sameKey], rfl⟩
set_option maxHeartbeats 1000000 in
set_option maxRecDepth 100000 in
theorem indexFunc_ac (D : Nat) (L : Hl) (s : World) (A : Option Addr) (n c : Nat) (l : List Ins) (hA : Inss s A n c l) (f : FuncId) (cap : List Value) (p : Ins → Bool) (hp : ∀ s' x A' n' c', AC Tryz.prog D f ([.agg #[St x.name, .int .u32 x.code, .bool x.operand, .slice A' n' c']] ++ cap) L s' fun v L' _ => v = .bool (p x) ∧ L = L') : AC Tryz.prog D 105 [.slice A n c, .func (.func f) #[] cap.toArray] L s fun v L' _ => v = .int .i64 (idxOf p l 0) ∧ L = L' := by
 have hn := hA.1
 have hc1 := hA.2.1
 have hc2 := hA.2.2.1
 refine AC_enter (TT := TT) (fn := Tryz.f105) TT_ok Tryz.func105 (by kernel_rfl) rfl Tryz.ntmps105 rfl (rs := [.tmp 4]) rfl [(0, _), (1, _)] rfl ?_
 refine JC_seq ?_
 refine JC_region ?_
 refine JO_q (QE_as rfl) rfl ?_
 refine JO_nil ?_
 refine thenQ_n ?_
 refine JC_seq ?_
 refine JC_seq ?_
 refine JC_region ?_
 refine JO_q (QE_mv rfl) rfl ?_
 refine JO_q (QE_lenS rfl rfl rfl) rfl ?_
 refine JO_q (QE_mv rfl) rfl ?_
 refine JO_nil ?_
 refine thenQ_n ?_
 refine JC_block ?_
 refine JC_loop (γ := Nat) (fun k => [(0, _), (1, _), (4, _), (7, _), (8, .int .i64 (k : Int))]) (fun _ => _) (fun k tw => Le D s tw ∧ (k ≤ n ∧ ∀ i x, i < k → l[i]? = some x → p x = false)) (fun k => n - k) (fun _ _ _ h hl => ⟨h.1.trans hl, h.2⟩) 0 (Keeps.cons rfl (Keeps.cons rfl (Keeps.cons rfl (Keeps.cons rfl (Keeps.cons rfl (Keeps.nil _)))))) rfl ⟨Le.refl _, ⟨Nat.zero_le _, fun i c hi => by omega⟩⟩ ?_
 intro k s1 I1
 have hk0 := I1.2.1
 have hI := I1.2.2
 refine JC_seq ?_
 refine JC_region ?_
 refine JO_q (QE_lt rfl rfl) rfl ?_
 refine JO_nil ?_
 refine thenQ_n ?_
 refine JC_seq ?_
 refine JC_ifD rfl (fun c2 => ?_) (fun c2 => ?_)
 ·
  have hk : k < n := by omega
  obtain ⟨b, off, x, A', n', c', rfl, hx, hcx, hax, hnl, hcd⟩ := Inss.at_ (hA.le I1.1) hk
  refine JC_skip ?_
  refine thenQ_n ?_
  refine JC_seq ?_
  refine JC_block ?_
  refine JC_seq ?_
  refine JC_region ?_
  refine JO_q (QE_mv rfl) rfl ?_
  refine JO_q (QE_as rfl) rfl ?_
  refine JO_nil ?_
  refine thenQ_n ?_
  refine JC_seq ?_
  refine JC_region ?_
  refine JO_q (QE_mv rfl) rfl ?_
  refine JO_q (QE_mv rfl) rfl ?_
  refine JO_q (QE_mv rfl) rfl ?_
  refine JO_q (QE_iaN rfl rfl rfl rfl rfl rfl hk) rfl ?_
  refine JO_q (QE_ldsA rfl rfl rfl hcx rfl) rfl ?_
  refine JO_call (first := []) (captured := cap) rfl rfl rfl (hp _ x _ _ _) ?_
  rintro _ _ s3 h3 ⟨rfl, rfl⟩
  refine JO_nil ?_
  refine thenQ_n ?_
  refine JC_if rfl (fun c4 => ?_) (fun c4 => ?_)
  ·
   have hz := c4
   refine JC_seq ?_
   refine JC_region ?_
   refine JO_q (QE_mv rfl) rfl ?_
   refine JO_q (QE_as rfl) rfl ?_
   refine JO_nil ?_
   refine thenQ_n ?_
   refine JC_ret ?_
   refine blockQ_r ?_
   refine thenQ_r ?_
   refine thenQ_r ?_
   refine blockQ_r ?_
   refine thenQ_r ?_
   refine retQ_mk [] L (.inr rfl) (.tmp rfl (.nil)) rfl (Le.trans I1.1 h3) (fun sR hS2 => ?_)
   refine ⟨?_, rfl⟩
   simp [resV, idxOf_hit hI hx hz]; done
  ·
   have hz := c4
   refine JC_skip ?_
   refine blockQ_n ?_
   refine thenQ_n ?_
   refine JC_region ?_
   refine JO_q (QE_add' rfl rfl (w64 (by omega) (by omega))) rfl ?_
   refine JO_q (QE_mv rfl) rfl ?_
   refine JO_nil ?_
   refine thenQ_n ⟨(k + 1), [], (Keeps.cons rfl (Keeps.cons rfl (Keeps.cons rfl (Keeps.cons rfl (Keeps.cons rfl (Keeps.nil _)))))), rfl, ⟨(Le.trans I1.1 h3), ⟨by omega, below_succ hI hx hz⟩⟩, (by omega)⟩
 ·
  refine JC_exit ?_
  refine thenQ_x ?_
  refine thenQ_x ?_
  refine blockQ_x ?_
  refine thenQ_n ?_
  refine JC_seq ?_
  refine JC_region ?_
  refine JO_q (QE_as rfl) rfl ?_
  refine JO_nil ?_
  refine thenQ_n ?_
  refine JC_ret ?_
  refine retQ_mk [] L (.inr rfl) (.tmp rfl (.nil)) rfl I1.1 (fun sR hS2 => ?_)
  refine ⟨?_, rfl⟩
  simp [resV, idxOf_none (fun i a hi h => hI i a (by omega) h)]; done
set_option maxHeartbeats 1000000 in
set_option maxRecDepth 100000 in
theorem containsFunc_ac (D : Nat) (L : Hl) (s : World) (A : Option Addr) (n c : Nat) (l : List Ins) (hA : Inss s A n c l) (f : FuncId) (cap : List Value) (p : Ins → Bool) (hp : ∀ s' x A' n' c', AC Tryz.prog D f ([.agg #[St x.name, .int .u32 x.code, .bool x.operand, .slice A' n' c']] ++ cap) L s' fun v L' _ => v = .bool (p x) ∧ L = L') : AC Tryz.prog D 82 [.slice A n c, .func (.func f) #[] cap.toArray] L s fun v L' _ => v = .bool (l.any p) ∧ L = L' := by
 refine AC_enter (TT := TT) (fn := Tryz.f82) TT_ok Tryz.func82 (by kernel_rfl) rfl Tryz.ntmps82 rfl (rs := [.tmp 4]) rfl [(0, _), (1, _)] rfl ?_
 refine JC_seq ?_
 refine JC_region ?_
 refine JO_q (QE_as rfl) rfl ?_
 refine JO_nil ?_
 refine thenQ_n ?_
 refine JC_seq ?_
 refine JC_region ?_
 refine JO_q (QE_mv rfl) rfl ?_
 refine JO_q (QE_mv rfl) rfl ?_
 refine JO_call (first := []) (captured := []) rfl rfl rfl (indexFunc_ac D _ _ _ _ _ l hA f cap p hp) ?_
 rintro _ _ s1 h1 ⟨rfl, rfl⟩
 refine JO_q (QE_ge rfl rfl) rfl ?_
 refine JO_q (QE_as rfl) rfl ?_
 refine JO_nil ?_
 refine thenQ_n ?_
 refine JC_ret ?_
 refine retQ_mk [] L (.inr rfl) (.tmp rfl (.nil)) rfl h1 (fun sR hS2 => ?_)
 exact ⟨by simp only [resV, idxOf_any], rfl⟩
set_option maxHeartbeats 1000000 in
set_option maxRecDepth 100000 in
theorem validate_ac (D : Nat) (L : Hl) (s : World) (t : Tab) (A : Option Addr) (n c : Nat) (hA : Inss s A n c t.ins) : AC Tryz.prog D 49 [.agg #[.int .i64 t.cells, .slice A n c]] L s fun v L' _ => v = .agg #[.int .i64 (tabFault t).1, .int .i64 (tabFault t).2] ∧ L = L' := by
 have hn := hA.1
 have hc1 := hA.2.1
 have hc2 := hA.2.2.1
 refine AC_enter (TT := TT) (fn := Tryz.f49) TT_ok Tryz.func49 (by kernel_rfl) rfl Tryz.ntmps49 rfl (rs := [.cell 2 27]) rfl [(0, _)] rfl ?_
 refine JC_seq ?_
 refine JC_region ?_
 refine JO_boxA rfl rfl ?_
 intro β1 s1 h1
 refine JO_allocZ rfl [_, _] rfl rfl ?_
 intro β2 s2 h2
 refine JO_nil ?_
 refine thenQ_n ?_
 refine JC_seq ?_
 refine JC_block ?_
 refine JC_seq ?_
 refine JC_region ?_
 refine JO_q (QE_fa0 rfl rfl rfl rfl) rfl ?_
 refine JO_q (QE_ld1 1 rfl rfl rfl rfl rfl) rfl ?_
 refine JO_q (QE_lt rfl rfl) rfl ?_
 refine JO_q (QE_mv rfl) rfl ?_
 refine JO_caseD (t := 10) rfl (fun c3 => ?_) (fun c3 => ?_)
 ·
  refine JO_gF rfl rfl rfl rfl ?_
  refine JO_gF rfl rfl rfl rfl ?_
  refine JO_gF rfl rfl rfl rfl ?_
  refine JO_q (QE_pickT rfl rfl) rfl ?_
  refine JO_q (QE_as rfl) rfl ?_
  refine JO_nil ?_
  refine thenQ_n ?_
  refine JC_ifT rfl ?_
  refine JC_seq ?_
  refine JC_region ?_
  refine JO_call (first := []) (captured := []) rfl rfl rfl (fault_ac D _ _ _ _) ?_
  rintro _ _ s4 h4 ⟨rfl, rfl⟩
  refine JO_st 0 [_, _] rfl rfl rfl rfl rfl rfl rfl rfl rfl ?_
  refine JO_nil ?_
  refine thenQ_n ?_
  refine JC_ret ?_
  refine blockQ_r ?_
  refine thenQ_r ?_
  refine retQ_mk [_, _] L (.inr rfl) (.agg (us := [_, _]) 0 rfl rfl rfl rfl rfl (.nil)) rfl (Le.trans (Le.trans h1 h2) h4) (fun sR hS2 => ?_)
  refine ⟨?_, rfl⟩
  have h0 : t.cells < 1 ∨ 65536 < t.cells := by omega
  simp [resV, tabFault, h0]; done
 ·
  refine JO_gT rfl rfl ?_
  refine JO_q (QE_fa0 rfl rfl rfl rfl) rfl ?_
  refine JO_gT rfl rfl ?_
  refine JO_q (QE_ld1 1 rfl rfl rfl rfl rfl) rfl ?_
  refine JO_gT rfl rfl ?_
  refine JO_q (QE_gt rfl rfl) rfl ?_
  refine JO_q (QE_pickF rfl rfl) rfl ?_
  refine JO_q (QE_as rfl) rfl ?_
  refine JO_nil ?_
  refine thenQ_n ?_
  refine JC_ifD rfl (fun c5 => ?_) (fun c5 => ?_)
  ·
   refine JC_seq ?_
   refine JC_region ?_
   refine JO_call (first := []) (captured := []) rfl rfl rfl (fault_ac D _ _ _ _) ?_
   rintro _ _ s6 h6 ⟨rfl, rfl⟩
   refine JO_st 0 [_, _] rfl rfl rfl rfl rfl rfl rfl rfl rfl ?_
   refine JO_nil ?_
   refine thenQ_n ?_
   refine JC_ret ?_
   refine blockQ_r ?_
   refine thenQ_r ?_
   refine retQ_mk [_, _] L (.inr rfl) (.agg (us := [_, _]) 0 rfl rfl rfl rfl rfl (.nil)) rfl (Le.trans (Le.trans h1 h2) h6) (fun sR hS2 => ?_)
   refine ⟨?_, rfl⟩
   have h0 : t.cells < 1 ∨ 65536 < t.cells := by omega
   simp [resV, tabFault, h0]; done
  ·
   refine JC_seq ?_
   refine JC_region ?_
   refine JO_q (QE_faB rfl rfl rfl rfl) rfl ?_
   refine JO_q (QE_ld1 1 rfl rfl rfl rfl rfl) rfl ?_
   refine JO_q (QE_lenS rfl rfl rfl) rfl ?_
   refine JO_q (QE_gt rfl rfl) rfl ?_
   refine JO_q (QE_as rfl) rfl ?_
   refine JO_nil ?_
   refine thenQ_n ?_
   refine JC_ifD rfl (fun c7 => ?_) (fun c7 => ?_)
   ·
    refine JC_seq ?_
    refine JC_region ?_
    refine JO_call (first := []) (captured := []) rfl rfl rfl (fault_ac D _ _ _ _) ?_
    rintro _ _ s8 h8 ⟨rfl, rfl⟩
    refine JO_st 0 [_, _] rfl rfl rfl rfl rfl rfl rfl rfl rfl ?_
    refine JO_nil ?_
    refine thenQ_n ?_
    refine JC_ret ?_
    refine blockQ_r ?_
    refine thenQ_r ?_
    refine retQ_mk [_, _] L (.inr rfl) (.agg (us := [_, _]) 0 rfl rfl rfl rfl rfl (.nil)) rfl (Le.trans (Le.trans h1 h2) h8) (fun sR hS2 => ?_)
    refine ⟨?_, rfl⟩
    have h0 : ¬ (t.cells < 1 ∨ 65536 < t.cells) := by omega
    have h1 : 64 < t.ins.length := by omega
    simp [resV, tabFault, h0, h1]; done
   ·
    refine JC_skip ?_
    refine blockQ_n ?_
    refine thenQ_n ?_
    refine JC_seq ?_
    refine JC_seq ?_
    refine JC_region ?_
    refine JO_q (QE_faB rfl rfl rfl rfl) rfl ?_
    refine JO_q (QE_ld1 1 rfl rfl rfl rfl rfl) rfl ?_
    refine JO_q (QE_lenS rfl rfl rfl) rfl ?_
    refine JO_q (QE_mv rfl) rfl ?_
    refine JO_nil ?_
    refine thenQ_n ?_
    refine JC_block ?_
    refine JC_loop (γ := Nat) (fun k => [(1, _), (2, _), (23, _), (24, _), (25, .int .i64 (k : Int))]) (fun _ => _) (fun k tw => Le D s2 tw ∧ (k ≤ n ∧ ∀ i, i < k → rowCode t.ins i = 0)) (fun k => n - k) (fun _ _ _ h hl => ⟨h.1.trans hl, h.2⟩) 0 (Keeps.cons rfl (Keeps.cons rfl (Keeps.cons rfl (Keeps.cons rfl (Keeps.cons rfl (Keeps.nil _)))))) rfl ⟨Le.refl _, ⟨Nat.zero_le _, fun i hi => by omega⟩⟩ ?_
    intro k s9 I9
    have hk0 := I9.2.1
    have hI := I9.2.2
    refine JC_seq ?_
    refine JC_region ?_
    refine JO_q (QE_lt rfl rfl) rfl ?_
    refine JO_nil ?_
    refine thenQ_n ?_
    refine JC_seq ?_
    refine JC_ifD rfl (fun c10 => ?_) (fun c10 => ?_)
    ·
     have hk : k < n := by omega
     obtain ⟨b, off, x, A', n', c', rfl, hx, hcx, hax, hnl, hcd⟩ := Inss.at_ (hA.le (Le.trans (Le.trans h1 h2) I9.1)) hk
     refine JC_skip ?_
     refine thenQ_n ?_
     refine JC_seq ?_
     refine JC_block ?_
     refine JC_seq ?_
     refine JC_region ?_
     refine JO_q (QE_mv rfl) rfl ?_
     refine JO_q (QE_iaN rfl rfl rfl rfl rfl rfl hk) rfl ?_
     refine JO_q (QE_ldsA rfl rfl rfl hcx rfl) rfl ?_
     refine JO_allocZ rfl [_, _, _, _] rfl rfl ?_
     intro β11 s11 h11
     refine JO_q (QE_as rfl) rfl ?_
     refine JO_st 0 [_, _, _, _] rfl rfl rfl rfl rfl rfl rfl rfl rfl ?_
     refine JO_nil ?_
     refine thenQ_n ?_
     refine JC_seq ?_
     refine JC_seq ?_
     refine JC_region ?_
     refine JO_q (QE_ldA 0 [_, _, _, _] rfl rfl rfl rfl rfl) rfl ?_
     refine JO_call (first := []) (captured := []) rfl rfl rfl (checkInstruction_ac D _ _ _ _ _ _ (hax.le h11)) ?_
     rintro _ _ s12 h12 ⟨rfl, rfl⟩
     refine JO_q (QE_as rfl) rfl ?_
     refine JO_nil ?_
     refine thenQ_n ?_
     refine JC_seq ?_
     refine JC_region ?_
     refine JO_q (QE_mv rfl) rfl ?_
     refine JO_q (QE_ne rfl rfl) rfl ?_
     refine JO_nil ?_
     refine thenQ_n ?_
     refine JC_ifN rfl (fun c13 => ?_) (fun c13 => ?_)
     ·
      have hz : insCode x ≠ 0 := by simpa using c13
      refine JC_seq ?_
      refine JC_region ?_
      refine JO_q (QE_mv rfl) rfl ?_
      refine JO_q (QE_mv rfl) rfl ?_
      refine JO_call (first := []) (captured := []) rfl rfl rfl (fault_ac D _ _ _ _) ?_
      rintro _ _ s14 h14 ⟨rfl, rfl⟩
      refine JO_st 1 [_, _] rfl rfl rfl rfl rfl rfl rfl rfl rfl ?_
      refine JO_nil ?_
      refine thenQ_n ?_
      refine JC_ret ?_
      refine thenQ_r ?_
      refine blockQ_r ?_
      refine thenQ_r ?_
      refine thenQ_r ?_
      refine blockQ_r ?_
      refine thenQ_r ?_
      refine retQ_mk [_, _, _] L (.inr rfl) (.agg (us := [_, _]) 1 rfl rfl rfl rfl rfl (.nil)) rfl (Le.trans (Le.trans (Le.trans (Le.trans (Le.trans h1 h2) I9.1) h11) h12) h14) (fun sR hS2 => ?_)
      refine ⟨?_, rfl⟩
      have h0 : ¬ (t.cells < 1 ∨ 65536 < t.cells) := by omega
      have h1 : ¬ 64 < t.ins.length := by omega
      have hr : rowCode t.ins k = insCode x := by simp [rowCode, hx, hz]
      have hb := firstBad_hit (f := rowCode t.ins) (m := t.ins.length) (j := 0) (k := k) (fun i _ hi => hI i hi) (by omega) (by rw [hr]; exact hz) (by omega)
      simp [resV, tabFault, h0, h1, hb, hr]; done
     ·
      have hz : insCode x = 0 := by simpa using c13
      refine JC_skip ?_
      refine thenQ_n ?_
      refine JC_seq ?_
      refine JC_region ?_
      refine JO_q (QE_faB rfl rfl rfl rfl) rfl ?_
      refine JO_q (QE_ld1 2 rfl rfl rfl rfl rfl) rfl ?_
      refine JO_q (QE_mv rfl) rfl ?_
      refine JO_q (QE_slH rfl rfl rfl rfl rfl (by omega)) rfl ?_
      refine JO_q (QE_func rfl) rfl ?_
      refine JO_call (first := []) (captured := []) rfl rfl rfl (containsFunc_ac D _ _ _ _ _ (t.ins.take k) (Inss.take (hA.le (Le.trans (Le.trans (Le.trans (Le.trans h1 h2) I9.1) h11) h12)) hk) _ _ (sameKey x) (fun s' y A'' n'' c'' => validate1_ac D _ _ _ _ _ _ _ _ _ _ _)) ?_
      rintro _ _ s15 h15 ⟨rfl, rfl⟩
      refine JO_nil ?_
      refine thenQ_n ?_
      refine JC_if rfl (fun c16 => ?_) (fun c16 => ?_)
      ·
       have hy := c16
       refine JC_seq ?_
       refine JC_region ?_
       refine JO_q (QE_mv rfl) rfl ?_
       refine JO_call (first := []) (captured := []) rfl rfl rfl (fault_ac D _ _ _ _) ?_
       rintro _ _ s17 h17 ⟨rfl, rfl⟩
       refine JO_st 1 [_, _] rfl rfl rfl rfl rfl rfl rfl rfl rfl ?_
       refine JO_nil ?_
       refine thenQ_n ?_
       refine JC_ret ?_
       refine blockQ_r ?_
       refine thenQ_r ?_
       refine thenQ_r ?_
       refine blockQ_r ?_
       refine thenQ_r ?_
       refine retQ_mk [_, _, _] L (.inr rfl) (.agg (us := [_, _]) 1 rfl rfl rfl rfl rfl (.nil)) rfl (Le.trans (Le.trans (Le.trans (Le.trans (Le.trans (Le.trans h1 h2) I9.1) h11) h12) h15) h17) (fun sR hS2 => ?_)
       refine ⟨?_, rfl⟩
       have h0 : ¬ (t.cells < 1 ∨ 65536 < t.cells) := by omega
       have h1 : ¬ 64 < t.ins.length := by omega
       have hr : rowCode t.ins k = 8 := by simp [rowCode, hx, hz, hy]
       have hb := firstBad_hit (f := rowCode t.ins) (m := t.ins.length) (j := 0) (k := k) (fun i _ hi => hI i hi) (by omega) (by rw [hr]; decide) (by omega)
       simp [resV, tabFault, h0, h1, hb, hr]; done
      ·
       have hy := c16
       refine JC_skip ?_
       refine blockQ_n ?_
       refine thenQ_n ?_
       refine JC_region ?_
       refine JO_q (QE_add' rfl rfl (w64 (by omega) (by omega))) rfl ?_
       refine JO_q (QE_mv rfl) rfl ?_
       refine JO_nil ?_
       refine thenQ_n ⟨(k + 1), [_], (Keeps.cons rfl (Keeps.cons rfl (Keeps.cons rfl (Keeps.cons rfl (Keeps.cons rfl (Keeps.nil _)))))), rfl, ⟨(Le.trans (Le.trans (Le.trans I9.1 h11) h12) h15), ⟨by omega, fun i hi => by rcases Nat.lt_succ_iff_lt_or_eq.1 hi with h | rfl; exact hI i h; simp [rowCode, hx, hz, hy]⟩⟩, (by omega)⟩
    ·
     refine JC_exit ?_
     refine thenQ_x ?_
     refine thenQ_x ?_
     refine blockQ_x ?_
     refine thenQ_n ?_
     refine JC_seq ?_
     refine JC_region ?_
     refine JO_q (QE_build [] [_, _] rfl rfl rfl rfl rfl rfl) rfl ?_
     refine JO_st 0 [_, _] rfl rfl rfl rfl rfl rfl rfl rfl rfl ?_
     refine JO_nil ?_
     refine thenQ_n ?_
     refine JC_ret ?_
     refine retQ_mk [_, _] L (.inr rfl) (.agg (us := [_, _]) 0 rfl rfl rfl rfl rfl (.nil)) rfl (Le.trans (Le.trans h1 h2) I9.1) (fun sR hS2 => ?_)
     refine ⟨?_, rfl⟩
     have h0 : ¬ (t.cells < 1 ∨ 65536 < t.cells) := by omega
     have h1 : ¬ 64 < t.ins.length := by omega
     have hb := firstBad_none (f := rowCode t.ins) (m := t.ins.length) (j := 0) (fun i _ hi => hI i (by omega))
     simp [resV, tabFault, h0, h1, hb]; done
end Go.Proofs.YteomcjpigoaioaaGreatDoor
namespace Go.Proofs.YteomcjpigoaioaaGreatDoor
open Go.FL
attribute [local irreducible] JC JO JA JB thenQ blockQ retQ AC fill CellsAt QE Ev Mid
set_option maxHeartbeats 1000000 in
set_option maxRecDepth 100000 in
theorem in_ac (D : Nat) (L : Hl) (s : World) (x lo hi : Int) : AC Tryz.prog D 37 [.int .i64 x, .int .i64 lo, .int .i64 hi] L s fun v L' _ => v = .bool (decide (lo ≤ x ∧ x ≤ hi)) ∧ L = L' := by
 refine AC_enter (TT := TT) (fn := Tryz.f37) TT_ok Tryz.func37 (by kernel_rfl) rfl Tryz.ntmps37 rfl (rs := [.tmp 6]) rfl [(0, _), (1, _), (2, _)] rfl ?_
 refine JC_seq ?_
 refine JC_region ?_
 refine JO_q (QE_as rfl) rfl ?_
 refine JO_nil ?_
 refine thenQ_n ?_
 refine JC_seq ?_
 refine JC_region ?_
 refine JO_q (QE_mv rfl) rfl ?_
 refine JO_q (QE_mv rfl) rfl ?_
 refine JO_q (QE_ge rfl rfl) rfl ?_
 refine JO_q (QE_mv rfl) rfl ?_
 refine JO_caseD (t := 10) rfl (fun c1 => ?_) (fun c1 => ?_)
 ·
  refine JO_gT rfl rfl ?_
  refine JO_q (QE_mv rfl) rfl ?_
  refine JO_gT rfl rfl ?_
  refine JO_q (QE_mv rfl) rfl ?_
  refine JO_gT rfl rfl ?_
  refine JO_q (QE_le rfl rfl) rfl ?_
  refine JO_q (QE_pickT rfl rfl) rfl ?_
  refine JO_q (QE_as rfl) rfl ?_
  refine JO_nil ?_
  refine thenQ_n ?_
  refine JC_ret ?_
  refine retQ_mk [] L (.inr rfl) (.tmp rfl (.nil)) rfl (Le.refl (D := D) _) (fun sR hS2 => ?_)
  exact ⟨by simp [resV, *], rfl⟩
 ·
  refine JO_gF rfl rfl rfl rfl ?_
  refine JO_gF rfl rfl rfl rfl ?_
  refine JO_gF rfl rfl rfl rfl ?_
  refine JO_q (QE_pickF rfl rfl) rfl ?_
  refine JO_q (QE_as rfl) rfl ?_
  refine JO_nil ?_
  refine thenQ_n ?_
  refine JC_ret ?_
  refine retQ_mk [] L (.inr rfl) (.tmp rfl (.nil)) rfl (Le.refl (D := D) _) (fun sR hS2 => ?_)
  exact ⟨by simp [resV, *], rfl⟩
set_option maxHeartbeats 1000000 in
set_option maxRecDepth 100000 in
theorem at_ac (D : Nat) (L : Hl) (s : World) (c i : Int) : AC Tryz.prog D 22 [.int .i64 c, .int .i64 i] L s fun v L' _ => v = .agg #[.int .i64 c, .int .i64 i] ∧ L = L' := by
 refine AC_enter (TT := TT) (fn := Tryz.f22) TT_ok Tryz.func22 (by kernel_rfl) rfl Tryz.ntmps22 rfl (rs := [.cell 4 27]) rfl [(0, _), (1, _)] rfl ?_
 refine JC_seq ?_
 refine JC_region ?_
 refine JO_allocZ rfl [_, _] rfl rfl ?_
 intro β1 s1 h1
 refine JO_nil ?_
 refine thenQ_n ?_
 refine JC_seq ?_
 refine JC_region ?_
 refine JO_q (QE_mv rfl) rfl ?_
 refine JO_q (QE_mv rfl) rfl ?_
 refine JO_q (QE_build [(_, _), (_, _)] [_, _] rfl rfl rfl rfl rfl rfl) rfl ?_
 refine JO_st 0 [_, _] rfl rfl rfl rfl rfl rfl rfl rfl rfl ?_
 refine JO_nil ?_
 refine thenQ_n ?_
 refine JC_ret ?_
 refine retQ_mk [_] L (.inr rfl) (.agg (us := [_, _]) 0 rfl rfl rfl rfl rfl (.nil)) rfl h1 (fun sR hS2 => ?_)
 exact ⟨rfl, rfl⟩
set_option maxHeartbeats 1000000 in
set_option maxRecDepth 100000 in
theorem isName_ac (D : Nat) (L : Hl) (s : World) (l : List UInt8) (m : Int) (hl : l.length ≤ 9223372036854775807) : AC Tryz.prog D 61 [St l, .int .i64 m] L s fun v L' _ => v = .bool (decide (l ≠ []) && decide ((l.length : Int) ≤ m) && charsFrom 0 l) ∧ L = L' := by
 refine AC_enter (TT := TT) (fn := Tryz.f61) TT_ok Tryz.func61 (by kernel_rfl) rfl Tryz.ntmps61 rfl (rs := [.tmp 4]) rfl [(0, _), (1, _)] rfl ?_
 refine JC_seq ?_
 refine JC_region ?_
 refine JO_q (QE_as rfl) rfl ?_
 refine JO_nil ?_
 refine thenQ_n ?_
 refine JC_seq ?_
 refine JC_seq ?_
 refine JC_region ?_
 refine JO_q (QE_mv rfl) rfl ?_
 refine JO_q (QE_lenT rfl rfl rfl) rfl ?_
 refine JO_q (QE_lt rfl rfl) rfl ?_
 refine JO_q (QE_mv rfl) rfl ?_
 refine JO_caseD (t := 11) rfl (fun c1 => ?_) (fun c1 => ?_)
 ·
  refine JO_gF rfl rfl rfl rfl ?_
  refine JO_gF rfl rfl rfl rfl ?_
  refine JO_gF rfl rfl rfl rfl ?_
  refine JO_gF rfl rfl rfl rfl ?_
  refine JO_q (QE_pickT rfl rfl) rfl ?_
  refine JO_nil ?_
  refine thenQ_n ?_
  refine JC_ifT rfl ?_
  refine JC_seq ?_
  refine JC_region ?_
  refine JO_q (QE_as rfl) rfl ?_
  refine JO_nil ?_
  refine thenQ_n ?_
  refine JC_ret ?_
  refine thenQ_r ?_
  refine retQ_mk [] L (.inr rfl) (.tmp rfl (.nil)) rfl (Le.refl (D := D) _) (fun sR hS2 => ?_)
  refine ⟨?_, rfl⟩
  have hnil : l = [] ↔ l.length = 0 := by cases l <;> simp
  have h0 : l = [] := by rw [hnil]; omega
  simp [resV, h0]; done
 ·
  refine JO_gT rfl rfl ?_
  refine JO_q (QE_mv rfl) rfl ?_
  refine JO_gT rfl rfl ?_
  refine JO_q (QE_lenT rfl rfl rfl) rfl ?_
  refine JO_gT rfl rfl ?_
  refine JO_q (QE_mv rfl) rfl ?_
  refine JO_gT rfl rfl ?_
  refine JO_q (QE_gt rfl rfl) rfl ?_
  refine JO_q (QE_pickF rfl rfl) rfl ?_
  refine JO_nil ?_
  refine thenQ_n ?_
  refine JC_ifD rfl (fun c2 => ?_) (fun c2 => ?_)
  ·
   refine JC_seq ?_
   refine JC_region ?_
   refine JO_q (QE_as rfl) rfl ?_
   refine JO_nil ?_
   refine thenQ_n ?_
   refine JC_ret ?_
   refine thenQ_r ?_
   refine retQ_mk [] L (.inr rfl) (.tmp rfl (.nil)) rfl (Le.refl (D := D) _) (fun sR hS2 => ?_)
   refine ⟨?_, rfl⟩
   have hnil : l = [] ↔ l.length = 0 := by cases l <;> simp
   have h0 : ¬ (l.length : Int) ≤ m := by omega
   simp [resV, h0]; done
  ·
   refine JC_skip ?_
   refine thenQ_n ?_
   refine JC_seq ?_
   refine JC_seq ?_
   refine JC_region ?_
   refine JO_q (QE_as rfl) rfl ?_
   refine JO_nil ?_
   refine thenQ_n ?_
   refine JC_block ?_
   refine JC_loop (γ := Nat) (fun k => [(0, _), (4, _), (5, .int .i64 (k : Int))]) (fun _ => _) (fun k tw => Le D s tw ∧ (k ≤ l.length ∧ ∀ i c, i < k → l[i]? = some c → chOK i c = true)) (fun k => l.length - k) (fun _ _ _ h hl => ⟨h.1.trans hl, h.2⟩) 0 (Keeps.cons rfl (Keeps.cons rfl (Keeps.cons rfl (Keeps.nil _)))) rfl ⟨Le.refl _, ⟨Nat.zero_le _, fun i c hi => by omega⟩⟩ ?_
   intro k s3 I3
   have hk0 := I3.2.1
   have hI := I3.2.2
   refine JC_seq ?_
   refine JC_seq ?_
   refine JC_region ?_
   refine JO_q (QE_mv rfl) rfl ?_
   refine JO_q (QE_mv rfl) rfl ?_
   refine JO_q (QE_lenT rfl rfl rfl) rfl ?_
   refine JO_q (QE_lt rfl rfl) rfl ?_
   refine JO_nil ?_
   refine thenQ_n ?_
   refine JC_ifD rfl (fun c4 => ?_) (fun c4 => ?_)
   ·
    have hk : k < l.length := by omega
    obtain ⟨ch, hch⟩ : ∃ ch, l[k]? = some ch := ⟨_, List.getElem?_eq_getElem hk⟩
    refine JC_skip ?_
    refine thenQ_n ?_
    refine JC_seq ?_
    refine JC_block ?_
    refine JC_seq ?_
    refine JC_region ?_
    refine JO_q (QE_mv rfl) rfl ?_
    refine JO_q (QE_mv rfl) rfl ?_
    refine JO_q (QE_ix rfl rfl rfl rfl hch) rfl ?_
    refine JO_q (QE_ge rfl rfl) rfl ?_
    refine JO_q (QE_mv rfl) rfl ?_
    refine JO_caseD (t := 27) rfl (fun c5 => ?_) (fun c5 => ?_)
    ·
     refine JO_gT rfl rfl ?_
     refine JO_q (QE_mv rfl) rfl ?_
     refine JO_gT rfl rfl ?_
     refine JO_q (QE_mv rfl) rfl ?_
     refine JO_gT rfl rfl ?_
     refine JO_q (QE_ix rfl rfl rfl rfl hch) rfl ?_
     refine JO_gT rfl rfl ?_
     refine JO_q (QE_le rfl rfl) rfl ?_
     refine JO_q (QE_pickT rfl rfl) rfl ?_
     refine JO_q (QE_as rfl) rfl ?_
     refine JO_nil ?_
     refine thenQ_n ?_
     refine JC_seq ?_
     refine JC_region ?_
     refine JO_q (QE_mv rfl) rfl ?_
     refine JO_q (QE_mv rfl) rfl ?_
     refine JO_q (QE_ix rfl rfl rfl rfl hch) rfl ?_
     refine JO_q (QE_ge rfl rfl) rfl ?_
     refine JO_q (QE_mv rfl) rfl ?_
     refine JO_caseD (t := 37) rfl (fun c6 => ?_) (fun c6 => ?_)
     ·
      refine JO_gT rfl rfl ?_
      refine JO_q (QE_mv rfl) rfl ?_
      refine JO_gT rfl rfl ?_
      refine JO_q (QE_mv rfl) rfl ?_
      refine JO_gT rfl rfl ?_
      refine JO_q (QE_ix rfl rfl rfl rfl hch) rfl ?_
      refine JO_gT rfl rfl ?_
      refine JO_q (QE_le rfl rfl) rfl ?_
      refine JO_q (QE_pickT rfl rfl) rfl ?_
      refine JO_q (QE_as rfl) rfl ?_
      refine JO_nil ?_
      refine thenQ_n ?_
      refine JC_seq ?_
      refine JC_region ?_
      refine JO_q (QE_mv rfl) rfl ?_
      refine JO_q (QE_not rfl) rfl ?_
      refine JO_q (QE_mv rfl) rfl ?_
      refine JO_caseN (t := 45) rfl (fun c7 => ?_) (fun c7 => ?_)
      ·
       refine JO_gT rfl rfl ?_
       refine JO_q (QE_mv rfl) rfl ?_
       refine JO_gT rfl rfl ?_
       refine JO_q (QE_mv rfl) rfl ?_
       refine JO_caseD (t := 47) rfl (fun c8 => ?_) (fun c8 => ?_)
       ·
        refine JO_gT rfl rfl ?_
        refine JO_q (QE_mv rfl) rfl ?_
        refine JO_gT rfl rfl ?_
        refine JO_q (QE_gt rfl rfl) rfl ?_
        refine JO_gT rfl rfl ?_
        refine JO_q (QE_pickT rfl rfl) rfl ?_
        refine JO_gT rfl rfl ?_
        refine JO_q (QE_not rfl) rfl ?_
        refine JO_q (QE_pickT rfl rfl) rfl ?_
        refine JO_nil ?_
        refine thenQ_n ?_
        refine JC_ifN rfl (fun c9 => ?_) (fun c9 => ?_)
        ·
         refine JC_seq ?_
         refine JC_region ?_
         refine JO_q (QE_as rfl) rfl ?_
         refine JO_nil ?_
         refine thenQ_n ?_
         refine JC_ret ?_
         refine blockQ_r ?_
         refine thenQ_r ?_
         refine thenQ_r ?_
         refine blockQ_r ?_
         refine thenQ_r ?_
         refine retQ_mk [] L (.inr rfl) (.tmp rfl (.nil)) rfl I3.1 (fun sR hS2 => ?_)
         refine ⟨?_, rfl⟩
         have hnil : l = [] ↔ l.length = 0 := by cases l <;> simp
         have h0 : l = [] := by rw [hnil]; omega
         simp [resV, h0]; done
        ·
         refine JC_skip ?_
         refine blockQ_n ?_
         refine thenQ_n ?_
         refine JC_region ?_
         refine JO_q (QE_mv rfl) rfl ?_
         refine JO_q (QE_add' rfl rfl (w64 (by omega) (by omega))) rfl ?_
         refine JO_q (QE_as rfl) rfl ?_
         refine JO_nil ?_
         have hOK : chOK k ch = true := by simp only [chOK, letB, digB, Bool.or_eq_true, Bool.and_eq_true, decide_eq_true_eq, ne_eq]; omega
         refine thenQ_n ⟨(k + 1), [], (Keeps.cons rfl (Keeps.cons rfl (Keeps.cons rfl (Keeps.nil _)))), rfl, ⟨I3.1, ⟨by omega, below_succ hI hch hOK⟩⟩, (by omega)⟩
       ·
        refine JO_gF rfl rfl rfl rfl ?_
        refine JO_gF rfl rfl rfl rfl ?_
        refine JO_gT rfl rfl ?_
        refine JO_q (QE_pickF rfl rfl) rfl ?_
        refine JO_gT rfl rfl ?_
        refine JO_q (QE_notF rfl) rfl ?_
        refine JO_q (QE_pickT rfl rfl) rfl ?_
        refine JO_nil ?_
        refine thenQ_n ?_
        refine JC_ifT rfl ?_
        refine JC_seq ?_
        refine JC_region ?_
        refine JO_q (QE_as rfl) rfl ?_
        refine JO_nil ?_
        refine thenQ_n ?_
        refine JC_ret ?_
        refine blockQ_r ?_
        refine thenQ_r ?_
        refine thenQ_r ?_
        refine blockQ_r ?_
        refine thenQ_r ?_
        refine retQ_mk [] L (.inr rfl) (.tmp rfl (.nil)) rfl I3.1 (fun sR hS2 => ?_)
        refine ⟨?_, rfl⟩
        have hnil : l = [] ↔ l.length = 0 := by cases l <;> simp
        have hb : chOK k ch = false := by
          rw [Bool.eq_false_iff]; simp only [chOK, letB, digB, Bool.or_eq_true, Bool.and_eq_true, decide_eq_true_eq, ne_eq]; omega
        simp [resV, chars_not hch hb]; done
      ·
       refine JO_gF rfl rfl rfl rfl ?_
       refine JO_gF rfl rfl rfl rfl ?_
       refine JO_gU rfl rfl rfl ?_
       refine JO_gU rfl rfl rfl ?_
       refine JO_gF rfl rfl rfl rfl ?_
       refine JO_gF rfl rfl rfl rfl ?_
       refine JO_q (QE_pickF rfl rfl) rfl ?_
       refine JO_nil ?_
       refine thenQ_n ?_
       refine JC_ifF rfl ?_
       refine JC_skip ?_
       refine blockQ_n ?_
       refine thenQ_n ?_
       refine JC_region ?_
       refine JO_q (QE_mv rfl) rfl ?_
       refine JO_q (QE_add' rfl rfl (w64 (by omega) (by omega))) rfl ?_
       refine JO_q (QE_as rfl) rfl ?_
       refine JO_nil ?_
       have hOK : chOK k ch = true := by simp only [chOK, letB, digB, Bool.or_eq_true, Bool.and_eq_true, decide_eq_true_eq, ne_eq]; omega
       refine thenQ_n ⟨(k + 1), [], (Keeps.cons rfl (Keeps.cons rfl (Keeps.cons rfl (Keeps.nil _)))), rfl, ⟨I3.1, ⟨by omega, below_succ hI hch hOK⟩⟩, (by omega)⟩
     ·
      refine JO_gF rfl rfl rfl rfl ?_
      refine JO_gF rfl rfl rfl rfl ?_
      refine JO_gF rfl rfl rfl rfl ?_
      refine JO_gF rfl rfl rfl rfl ?_
      refine JO_q (QE_pickF rfl rfl) rfl ?_
      refine JO_q (QE_as rfl) rfl ?_
      refine JO_nil ?_
      refine thenQ_n ?_
      refine JC_seq ?_
      refine JC_region ?_
      refine JO_q (QE_mv rfl) rfl ?_
      refine JO_q (QE_not rfl) rfl ?_
      refine JO_q (QE_mv rfl) rfl ?_
      refine JO_caseN (t := 45) rfl (fun c10 => ?_) (fun c10 => ?_)
      ·
       refine JO_gT rfl rfl ?_
       refine JO_q (QE_mv rfl) rfl ?_
       refine JO_gT rfl rfl ?_
       refine JO_q (QE_mv rfl) rfl ?_
       refine JO_gF rfl rfl rfl rfl ?_
       refine JO_gF rfl rfl rfl rfl ?_
       refine JO_gT rfl rfl ?_
       refine JO_q (QE_pickF rfl rfl) rfl ?_
       refine JO_gT rfl rfl ?_
       refine JO_q (QE_notF rfl) rfl ?_
       refine JO_q (QE_pickT rfl rfl) rfl ?_
       refine JO_nil ?_
       refine thenQ_n ?_
       refine JC_ifT rfl ?_
       refine JC_seq ?_
       refine JC_region ?_
       refine JO_q (QE_as rfl) rfl ?_
       refine JO_nil ?_
       refine thenQ_n ?_
       refine JC_ret ?_
       refine blockQ_r ?_
       refine thenQ_r ?_
       refine thenQ_r ?_
       refine blockQ_r ?_
       refine thenQ_r ?_
       refine retQ_mk [] L (.inr rfl) (.tmp rfl (.nil)) rfl I3.1 (fun sR hS2 => ?_)
       refine ⟨?_, rfl⟩
       have hnil : l = [] ↔ l.length = 0 := by cases l <;> simp
       have h0 : l = [] := by rw [hnil]; omega
       simp [resV, h0]; done
      ·
       refine JO_gF rfl rfl rfl rfl ?_
       refine JO_gF rfl rfl rfl rfl ?_
       refine JO_gU rfl rfl rfl ?_
       refine JO_gU rfl rfl rfl ?_
       refine JO_gF rfl rfl rfl rfl ?_
       refine JO_gF rfl rfl rfl rfl ?_
       refine JO_q (QE_pickF rfl rfl) rfl ?_
       refine JO_nil ?_
       refine thenQ_n ?_
       refine JC_ifF rfl ?_
       refine JC_skip ?_
       refine blockQ_n ?_
       refine thenQ_n ?_
       refine JC_region ?_
       refine JO_q (QE_mv rfl) rfl ?_
       refine JO_q (QE_add' rfl rfl (w64 (by omega) (by omega))) rfl ?_
       refine JO_q (QE_as rfl) rfl ?_
       refine JO_nil ?_
       have hOK : chOK k ch = true := by simp only [chOK, letB, digB, Bool.or_eq_true, Bool.and_eq_true, decide_eq_true_eq, ne_eq]; omega
       refine thenQ_n ⟨(k + 1), [], (Keeps.cons rfl (Keeps.cons rfl (Keeps.cons rfl (Keeps.nil _)))), rfl, ⟨I3.1, ⟨by omega, below_succ hI hch hOK⟩⟩, (by omega)⟩
    ·
     refine JO_gF rfl rfl rfl rfl ?_
     refine JO_gF rfl rfl rfl rfl ?_
     refine JO_gF rfl rfl rfl rfl ?_
     refine JO_gF rfl rfl rfl rfl ?_
     refine JO_q (QE_pickF rfl rfl) rfl ?_
     refine JO_q (QE_as rfl) rfl ?_
     refine JO_nil ?_
     refine thenQ_n ?_
     refine JC_seq ?_
     refine JC_region ?_
     refine JO_q (QE_mv rfl) rfl ?_
     refine JO_q (QE_mv rfl) rfl ?_
     refine JO_q (QE_ix rfl rfl rfl rfl hch) rfl ?_
     refine JO_q (QE_ge rfl rfl) rfl ?_
     refine JO_q (QE_mv rfl) rfl ?_
     refine JO_caseD (t := 37) rfl (fun c11 => ?_) (fun c11 => ?_)
     ·
      refine JO_gT rfl rfl ?_
      refine JO_q (QE_mv rfl) rfl ?_
      refine JO_gT rfl rfl ?_
      refine JO_q (QE_mv rfl) rfl ?_
      refine JO_gT rfl rfl ?_
      refine JO_q (QE_ix rfl rfl rfl rfl hch) rfl ?_
      refine JO_gT rfl rfl ?_
      refine JO_q (QE_le rfl rfl) rfl ?_
      refine JO_q (QE_pickT rfl rfl) rfl ?_
      refine JO_q (QE_as rfl) rfl ?_
      refine JO_nil ?_
      refine thenQ_n ?_
      refine JC_seq ?_
      refine JC_region ?_
      refine JO_q (QE_mv rfl) rfl ?_
      refine JO_q (QE_notF rfl) rfl ?_
      refine JO_q (QE_mv rfl) rfl ?_
      refine JO_gT rfl rfl ?_
      refine JO_q (QE_mv rfl) rfl ?_
      refine JO_gT rfl rfl ?_
      refine JO_q (QE_mv rfl) rfl ?_
      refine JO_caseD (t := 47) rfl (fun c12 => ?_) (fun c12 => ?_)
      ·
       refine JO_gT rfl rfl ?_
       refine JO_q (QE_mv rfl) rfl ?_
       refine JO_gT rfl rfl ?_
       refine JO_q (QE_gt rfl rfl) rfl ?_
       refine JO_gT rfl rfl ?_
       refine JO_q (QE_pickT rfl rfl) rfl ?_
       refine JO_gT rfl rfl ?_
       refine JO_q (QE_not rfl) rfl ?_
       refine JO_q (QE_pickT rfl rfl) rfl ?_
       refine JO_nil ?_
       refine thenQ_n ?_
       refine JC_ifN rfl (fun c13 => ?_) (fun c13 => ?_)
       ·
        refine JC_seq ?_
        refine JC_region ?_
        refine JO_q (QE_as rfl) rfl ?_
        refine JO_nil ?_
        refine thenQ_n ?_
        refine JC_ret ?_
        refine blockQ_r ?_
        refine thenQ_r ?_
        refine thenQ_r ?_
        refine blockQ_r ?_
        refine thenQ_r ?_
        refine retQ_mk [] L (.inr rfl) (.tmp rfl (.nil)) rfl I3.1 (fun sR hS2 => ?_)
        refine ⟨?_, rfl⟩
        have hnil : l = [] ↔ l.length = 0 := by cases l <;> simp
        have hb : chOK k ch = false := by
          rw [Bool.eq_false_iff]; simp only [chOK, letB, digB, Bool.or_eq_true, Bool.and_eq_true, decide_eq_true_eq, ne_eq]; omega
        simp [resV, chars_not hch hb]; done
       ·
        refine JC_skip ?_
        refine blockQ_n ?_
        refine thenQ_n ?_
        refine JC_region ?_
        refine JO_q (QE_mv rfl) rfl ?_
        refine JO_q (QE_add' rfl rfl (w64 (by omega) (by omega))) rfl ?_
        refine JO_q (QE_as rfl) rfl ?_
        refine JO_nil ?_
        have hOK : chOK k ch = true := by simp only [chOK, letB, digB, Bool.or_eq_true, Bool.and_eq_true, decide_eq_true_eq, ne_eq]; omega
        refine thenQ_n ⟨(k + 1), [], (Keeps.cons rfl (Keeps.cons rfl (Keeps.cons rfl (Keeps.nil _)))), rfl, ⟨I3.1, ⟨by omega, below_succ hI hch hOK⟩⟩, (by omega)⟩
      ·
       refine JO_gF rfl rfl rfl rfl ?_
       refine JO_gF rfl rfl rfl rfl ?_
       refine JO_gT rfl rfl ?_
       refine JO_q (QE_pickF rfl rfl) rfl ?_
       refine JO_gT rfl rfl ?_
       refine JO_q (QE_notF rfl) rfl ?_
       refine JO_q (QE_pickT rfl rfl) rfl ?_
       refine JO_nil ?_
       refine thenQ_n ?_
       refine JC_ifT rfl ?_
       refine JC_seq ?_
       refine JC_region ?_
       refine JO_q (QE_as rfl) rfl ?_
       refine JO_nil ?_
       refine thenQ_n ?_
       refine JC_ret ?_
       refine blockQ_r ?_
       refine thenQ_r ?_
       refine thenQ_r ?_
       refine blockQ_r ?_
       refine thenQ_r ?_
       refine retQ_mk [] L (.inr rfl) (.tmp rfl (.nil)) rfl I3.1 (fun sR hS2 => ?_)
       refine ⟨?_, rfl⟩
       have hnil : l = [] ↔ l.length = 0 := by cases l <;> simp
       have hb : chOK k ch = false := by
         rw [Bool.eq_false_iff]; simp only [chOK, letB, digB, Bool.or_eq_true, Bool.and_eq_true, decide_eq_true_eq, ne_eq]; omega
       simp [resV, chars_not hch hb]; done
     ·
      refine JO_gF rfl rfl rfl rfl ?_
      refine JO_gF rfl rfl rfl rfl ?_
      refine JO_gF rfl rfl rfl rfl ?_
      refine JO_gF rfl rfl rfl rfl ?_
      refine JO_q (QE_pickF rfl rfl) rfl ?_
      refine JO_q (QE_as rfl) rfl ?_
      refine JO_nil ?_
      refine thenQ_n ?_
      refine JC_seq ?_
      refine JC_region ?_
      refine JO_q (QE_mv rfl) rfl ?_
      refine JO_q (QE_notF rfl) rfl ?_
      refine JO_q (QE_mv rfl) rfl ?_
      refine JO_gT rfl rfl ?_
      refine JO_q (QE_mv rfl) rfl ?_
      refine JO_gT rfl rfl ?_
      refine JO_q (QE_mv rfl) rfl ?_
      refine JO_gF rfl rfl rfl rfl ?_
      refine JO_gF rfl rfl rfl rfl ?_
      refine JO_gT rfl rfl ?_
      refine JO_q (QE_pickF rfl rfl) rfl ?_
      refine JO_gT rfl rfl ?_
      refine JO_q (QE_notF rfl) rfl ?_
      refine JO_q (QE_pickT rfl rfl) rfl ?_
      refine JO_nil ?_
      refine thenQ_n ?_
      refine JC_ifT rfl ?_
      refine JC_seq ?_
      refine JC_region ?_
      refine JO_q (QE_as rfl) rfl ?_
      refine JO_nil ?_
      refine thenQ_n ?_
      refine JC_ret ?_
      refine blockQ_r ?_
      refine thenQ_r ?_
      refine thenQ_r ?_
      refine blockQ_r ?_
      refine thenQ_r ?_
      refine retQ_mk [] L (.inr rfl) (.tmp rfl (.nil)) rfl I3.1 (fun sR hS2 => ?_)
      refine ⟨?_, rfl⟩
      have hnil : l = [] ↔ l.length = 0 := by cases l <;> simp
      have hb : chOK k ch = false := by
        rw [Bool.eq_false_iff]; simp only [chOK, letB, digB, Bool.or_eq_true, Bool.and_eq_true, decide_eq_true_eq, ne_eq]; omega
      simp [resV, chars_not hch hb]; done
   ·
    refine JC_exit ?_
    refine thenQ_x ?_
    refine thenQ_x ?_
    refine blockQ_x ?_
    refine thenQ_n ?_
    refine JC_seq ?_
    refine JC_region ?_
    refine JO_q (QE_as rfl) rfl ?_
    refine JO_nil ?_
    refine thenQ_n ?_
    refine JC_ret ?_
    refine retQ_mk [] L (.inr rfl) (.tmp rfl (.nil)) rfl I3.1 (fun sR hS2 => ?_)
    refine ⟨?_, rfl⟩
    have hnil : l = [] ↔ l.length = 0 := by cases l <;> simp
    have hb := chars_all (fun i c hi hc => hI i c (by omega) hc)
    have h6 : (l.length : Int) ≤ m := by omega
    have h0 : ¬ l = [] := by rw [hnil]; omega
    simp [resV, hb, h6, h0]; done
set_option maxHeartbeats 1000000 in
set_option maxRecDepth 100000 in
theorem isLabel_ac (D : Nat) (L : Hl) (s : World) (l : List UInt8) (hl : l.length ≤ 9223372036854775807) : AC Tryz.prog D 28 [St l] L s fun v L' _ => v = .bool (labelB l) ∧ L = L' := by
 refine AC_enter (TT := TT) (fn := Tryz.f28) TT_ok Tryz.func28 (by kernel_rfl) rfl Tryz.ntmps28 rfl (rs := [.tmp 2]) rfl [(0, _)] rfl ?_
 refine JC_seq ?_
 refine JC_region ?_
 refine JO_q (QE_as rfl) rfl ?_
 refine JO_nil ?_
 refine thenQ_n ?_
 refine JC_seq ?_
 refine JC_region ?_
 refine JO_q (QE_mv rfl) rfl ?_
 refine JO_call (first := []) (captured := []) rfl rfl rfl (isName_ac D _ _ _ _ hl) ?_
 rintro _ _ s1 h1 ⟨rfl, rfl⟩
 refine JO_q (QE_as rfl) rfl ?_
 refine JO_nil ?_
 refine thenQ_n ?_
 refine JC_ret ?_
 refine retQ_mk [] L (.inr rfl) (.tmp rfl (.nil)) rfl h1 (fun sR hS2 => ?_)
 exact ⟨by simp only [resV, labelB]; congr 4; exact propext ⟨fun h => by omega, fun h => by omega⟩, rfl⟩
def needsS (k : Int) : List UInt8 := if k = 0 ∨ k = 13 then [116, 120] else if k = 14 ∨ k = 18 then [120, 121] else if k = 15 then [116] else if k = 16 ∨ k = 17 then [120] else [116, 120, 121]
theorem needs_t (k : Int) : (needsS k).any (fun c => decide ((c.toNat : Int) = 116)) = usesT k := by unfold needsS usesT; (repeat' split) <;> simp <;> omega
theorem needs_x (k : Int) : (needsS k).any (fun c => decide ((c.toNat : Int) = 120)) = usesX k := by unfold needsS usesX; (repeat' split) <;> simp <;> omega
theorem needs_y (k : Int) : (needsS k).any (fun c => decide ((c.toNat : Int) = 121)) = usesY k := by unfold needsS usesY; (repeat' split) <;> simp <;> omega
theorem needs_len (k : Int) : (needsS k).length ≤ 9223372036854775807 := by unfold needsS; (repeat' split) <;> simp
theorem any_hit {l : List UInt8} {p : UInt8 → Bool} {k : Nat} {c : UInt8} (hk : l[k]? = some c) (h : p c = true) : l.any p = true := List.any_eq_true.2 ⟨c, List.mem_of_getElem? hk, h⟩
theorem any_none {l : List UInt8} {p : UInt8 → Bool} (h : ∀ i c, i < l.length → l[i]? = some c → p c = false) : l.any p = false := by
  rw [List.any_eq_false]; intro c hc
  obtain ⟨i, hi, he⟩ := List.getElem_of_mem hc
  have := h i c hi (by rw [List.getElem?_eq_getElem hi, he])
  simp [this]
set_option maxHeartbeats 1000000 in
set_option maxRecDepth 100000 in
theorem needs_ac (D : Nat) (L : Hl) (s : World) (k : Int) : AC Tryz.prog D 86 [.int .i64 k] L s fun v L' _ => v = St (needsS k) ∧ L = L' := by
 refine AC_enter (TT := TT) (fn := Tryz.f86) TT_ok Tryz.func86 (by kernel_rfl) rfl Tryz.ntmps86 rfl (rs := [.tmp 2]) rfl [(0, _)] rfl ?_
 refine JC_seq ?_
 refine JC_region ?_
 refine JO_q (QE_as rfl) rfl ?_
 refine JO_nil ?_
 refine thenQ_n ?_
 refine JC_seq ?_
 refine JC_seq ?_
 refine JC_region ?_
 refine JO_q (QE_mv rfl) rfl ?_
 refine JO_q (QE_eq rfl rfl) rfl ?_
 refine JO_q (QE_mv rfl) rfl ?_
 refine JO_caseD (t := 5) rfl (fun c1 => ?_) (fun c1 => ?_)
 ·
  refine JO_gF rfl rfl rfl rfl ?_
  refine JO_gF rfl rfl rfl rfl ?_
  refine JO_q (QE_pickT rfl rfl) rfl ?_
  refine JO_nil ?_
  refine thenQ_n ?_
  refine JC_ifT rfl ?_
  refine JC_seq ?_
  refine JC_region ?_
  refine JO_q (QE_as rfl) rfl ?_
  refine JO_nil ?_
  refine thenQ_n ?_
  refine JC_ret ?_
  refine thenQ_r ?_
  refine retQ_mk [] L (.inr rfl) (.tmp rfl (.nil)) rfl (Le.refl (D := D) _) (fun sR hS2 => ?_)
  exact ⟨by simp [resV, needsS, *], rfl⟩
 ·
  refine JO_gT rfl rfl ?_
  refine JO_q (QE_mv rfl) rfl ?_
  refine JO_gT rfl rfl ?_
  refine JO_q (QE_eq rfl rfl) rfl ?_
  refine JO_q (QE_pickF rfl rfl) rfl ?_
  refine JO_nil ?_
  refine thenQ_n ?_
  refine JC_ifD rfl (fun c2 => ?_) (fun c2 => ?_)
  ·
   refine JC_seq ?_
   refine JC_region ?_
   refine JO_q (QE_as rfl) rfl ?_
   refine JO_nil ?_
   refine thenQ_n ?_
   refine JC_ret ?_
   refine thenQ_r ?_
   refine retQ_mk [] L (.inr rfl) (.tmp rfl (.nil)) rfl (Le.refl (D := D) _) (fun sR hS2 => ?_)
   exact ⟨by simp [resV, needsS, *], rfl⟩
  ·
   refine JC_skip ?_
   refine thenQ_n ?_
   refine JC_seq ?_
   refine JC_seq ?_
   refine JC_region ?_
   refine JO_q (QE_mv rfl) rfl ?_
   refine JO_q (QE_eq rfl rfl) rfl ?_
   refine JO_q (QE_mv rfl) rfl ?_
   refine JO_caseD (t := 11) rfl (fun c3 => ?_) (fun c3 => ?_)
   ·
    refine JO_gF rfl rfl rfl rfl ?_
    refine JO_gF rfl rfl rfl rfl ?_
    refine JO_q (QE_pickT rfl rfl) rfl ?_
    refine JO_nil ?_
    refine thenQ_n ?_
    refine JC_ifT rfl ?_
    refine JC_seq ?_
    refine JC_region ?_
    refine JO_q (QE_as rfl) rfl ?_
    refine JO_nil ?_
    refine thenQ_n ?_
    refine JC_ret ?_
    refine thenQ_r ?_
    refine retQ_mk [] L (.inr rfl) (.tmp rfl (.nil)) rfl (Le.refl (D := D) _) (fun sR hS2 => ?_)
    exact ⟨by simp [resV, needsS, *], rfl⟩
   ·
    refine JO_gT rfl rfl ?_
    refine JO_q (QE_mv rfl) rfl ?_
    refine JO_gT rfl rfl ?_
    refine JO_q (QE_eq rfl rfl) rfl ?_
    refine JO_q (QE_pickF rfl rfl) rfl ?_
    refine JO_nil ?_
    refine thenQ_n ?_
    refine JC_ifD rfl (fun c4 => ?_) (fun c4 => ?_)
    ·
     refine JC_seq ?_
     refine JC_region ?_
     refine JO_q (QE_as rfl) rfl ?_
     refine JO_nil ?_
     refine thenQ_n ?_
     refine JC_ret ?_
     refine thenQ_r ?_
     refine retQ_mk [] L (.inr rfl) (.tmp rfl (.nil)) rfl (Le.refl (D := D) _) (fun sR hS2 => ?_)
     exact ⟨by simp [resV, needsS, *], rfl⟩
    ·
     refine JC_skip ?_
     refine thenQ_n ?_
     refine JC_seq ?_
     refine JC_seq ?_
     refine JC_region ?_
     refine JO_q (QE_mv rfl) rfl ?_
     refine JO_q (QE_eq rfl rfl) rfl ?_
     refine JO_nil ?_
     refine thenQ_n ?_
     refine JC_ifD rfl (fun c5 => ?_) (fun c5 => ?_)
     ·
      refine JC_seq ?_
      refine JC_region ?_
      refine JO_q (QE_as rfl) rfl ?_
      refine JO_nil ?_
      refine thenQ_n ?_
      refine JC_ret ?_
      refine thenQ_r ?_
      refine retQ_mk [] L (.inr rfl) (.tmp rfl (.nil)) rfl (Le.refl (D := D) _) (fun sR hS2 => ?_)
      exact ⟨by simp [resV, needsS, *], rfl⟩
     ·
      refine JC_skip ?_
      refine thenQ_n ?_
      refine JC_seq ?_
      refine JC_seq ?_
      refine JC_region ?_
      refine JO_q (QE_mv rfl) rfl ?_
      refine JO_q (QE_eq rfl rfl) rfl ?_
      refine JO_q (QE_mv rfl) rfl ?_
      refine JO_caseD (t := 19) rfl (fun c6 => ?_) (fun c6 => ?_)
      ·
       refine JO_gF rfl rfl rfl rfl ?_
       refine JO_gF rfl rfl rfl rfl ?_
       refine JO_q (QE_pickT rfl rfl) rfl ?_
       refine JO_nil ?_
       refine thenQ_n ?_
       refine JC_ifT rfl ?_
       refine JC_seq ?_
       refine JC_region ?_
       refine JO_q (QE_as rfl) rfl ?_
       refine JO_nil ?_
       refine thenQ_n ?_
       refine JC_ret ?_
       refine thenQ_r ?_
       refine retQ_mk [] L (.inr rfl) (.tmp rfl (.nil)) rfl (Le.refl (D := D) _) (fun sR hS2 => ?_)
       exact ⟨by simp [resV, needsS, *], rfl⟩
      ·
       refine JO_gT rfl rfl ?_
       refine JO_q (QE_mv rfl) rfl ?_
       refine JO_gT rfl rfl ?_
       refine JO_q (QE_eq rfl rfl) rfl ?_
       refine JO_q (QE_pickF rfl rfl) rfl ?_
       refine JO_nil ?_
       refine thenQ_n ?_
       refine JC_ifD rfl (fun c7 => ?_) (fun c7 => ?_)
       ·
        refine JC_seq ?_
        refine JC_region ?_
        refine JO_q (QE_as rfl) rfl ?_
        refine JO_nil ?_
        refine thenQ_n ?_
        refine JC_ret ?_
        refine thenQ_r ?_
        refine retQ_mk [] L (.inr rfl) (.tmp rfl (.nil)) rfl (Le.refl (D := D) _) (fun sR hS2 => ?_)
        exact ⟨by simp [resV, needsS, *], rfl⟩
       ·
        refine JC_skip ?_
        refine thenQ_n ?_
        refine JC_seq ?_
        refine JC_region ?_
        refine JO_q (QE_as rfl) rfl ?_
        refine JO_nil ?_
        refine thenQ_n ?_
        refine JC_ret ?_
        refine retQ_mk [] L (.inr rfl) (.tmp rfl (.nil)) rfl (Le.refl (D := D) _) (fun sR hS2 => ?_)
        exact ⟨by simp [resV, needsS, *], rfl⟩
set_option maxHeartbeats 1000000 in
set_option maxRecDepth 100000 in
theorem has_ac (D : Nat) (L : Hl) (s : World) (l : List UInt8) (c : Int) (hl : l.length ≤ 9223372036854775807) : AC Tryz.prog D 87 [St l, .int .u8 c] L s fun v L' _ => v = .bool (l.any fun x => decide ((x.toNat : Int) = c)) ∧ L = L' := by
 refine AC_enter (TT := TT) (fn := Tryz.f87) TT_ok Tryz.func87 (by kernel_rfl) rfl Tryz.ntmps87 rfl (rs := [.tmp 4]) rfl [(0, _), (1, _)] rfl ?_
 refine JC_seq ?_
 refine JC_region ?_
 refine JO_q (QE_as rfl) rfl ?_
 refine JO_nil ?_
 refine thenQ_n ?_
 refine JC_seq ?_
 refine JC_seq ?_
 refine JC_region ?_
 refine JO_q (QE_as rfl) rfl ?_
 refine JO_nil ?_
 refine thenQ_n ?_
 refine JC_block ?_
 refine JC_loop (γ := Nat) (fun k => [(0, _), (1, _), (4, _), (5, .int .i64 (k : Int))]) (fun _ => _) (fun k tw => Le D s tw ∧ (k ≤ l.length ∧ ∀ i x, i < k → l[i]? = some x → decide ((x.toNat : Int) = c) = false)) (fun k => l.length - k) (fun _ _ _ h hl => ⟨h.1.trans hl, h.2⟩) 0 (Keeps.cons rfl (Keeps.cons rfl (Keeps.cons rfl (Keeps.cons rfl (Keeps.nil _))))) rfl ⟨Le.refl _, ⟨Nat.zero_le _, fun i c hi => by omega⟩⟩ ?_
 intro k s1 I1
 have hk0 := I1.2.1
 have hI := I1.2.2
 refine JC_seq ?_
 refine JC_seq ?_
 refine JC_region ?_
 refine JO_q (QE_mv rfl) rfl ?_
 refine JO_q (QE_mv rfl) rfl ?_
 refine JO_q (QE_lenT rfl rfl rfl) rfl ?_
 refine JO_q (QE_lt rfl rfl) rfl ?_
 refine JO_nil ?_
 refine thenQ_n ?_
 refine JC_ifD rfl (fun c2 => ?_) (fun c2 => ?_)
 ·
  have hk : k < l.length := by omega
  obtain ⟨ch, hch⟩ : ∃ ch, l[k]? = some ch := ⟨_, List.getElem?_eq_getElem hk⟩
  refine JC_skip ?_
  refine thenQ_n ?_
  refine JC_seq ?_
  refine JC_block ?_
  refine JC_seq ?_
  refine JC_region ?_
  refine JO_q (QE_mv rfl) rfl ?_
  refine JO_q (QE_mv rfl) rfl ?_
  refine JO_q (QE_ix rfl rfl rfl rfl hch) rfl ?_
  refine JO_q (QE_mv rfl) rfl ?_
  refine JO_q (QE_eq rfl rfl) rfl ?_
  refine JO_nil ?_
  refine thenQ_n ?_
  refine JC_ifD rfl (fun c3 => ?_) (fun c3 => ?_)
  ·
   have hz := decide_eq_true c3
   refine JC_seq ?_
   refine JC_region ?_
   refine JO_q (QE_as rfl) rfl ?_
   refine JO_nil ?_
   refine thenQ_n ?_
   refine JC_ret ?_
   refine blockQ_r ?_
   refine thenQ_r ?_
   refine thenQ_r ?_
   refine blockQ_r ?_
   refine thenQ_r ?_
   refine retQ_mk [] L (.inr rfl) (.tmp rfl (.nil)) rfl I1.1 (fun sR hS2 => ?_)
   refine ⟨?_, rfl⟩
   simp only [resV]; rw [any_hit hch hz]; done
  ·
   have hz := decide_eq_false c3
   refine JC_skip ?_
   refine blockQ_n ?_
   refine thenQ_n ?_
   refine JC_region ?_
   refine JO_q (QE_mv rfl) rfl ?_
   refine JO_q (QE_add' rfl rfl (w64 (by omega) (by omega))) rfl ?_
   refine JO_q (QE_as rfl) rfl ?_
   refine JO_nil ?_
   refine thenQ_n ⟨(k + 1), [], (Keeps.cons rfl (Keeps.cons rfl (Keeps.cons rfl (Keeps.cons rfl (Keeps.nil _))))), rfl, ⟨I1.1, ⟨by omega, below_succ hI hch hz⟩⟩, (by omega)⟩
 ·
  refine JC_exit ?_
  refine thenQ_x ?_
  refine thenQ_x ?_
  refine blockQ_x ?_
  refine thenQ_n ?_
  refine JC_seq ?_
  refine JC_region ?_
  refine JO_q (QE_as rfl) rfl ?_
  refine JO_nil ?_
  refine thenQ_n ?_
  refine JC_ret ?_
  refine retQ_mk [] L (.inr rfl) (.tmp rfl (.nil)) rfl I1.1 (fun sR hS2 => ?_)
  refine ⟨?_, rfl⟩
  simp only [resV]; rw [any_none (fun i x hi hx => hI i x (by omega) hx)]; done
set_option maxHeartbeats 1000000 in
set_option maxRecDepth 100000 in
theorem termOk_ac (D : Nat) (L : Hl) (s : World) (x : Tm) (u o : Bool) : AC Tryz.prog D 88 [.agg #[.int .i64 x.kind, .int .u32 x.val], .bool u, .bool o] L s fun v L' _ => v = .bool (termB x u o) ∧ L = L' := by
 refine AC_enter (TT := TT) (fn := Tryz.f88) TT_ok Tryz.func88 (by kernel_rfl) rfl Tryz.ntmps88 rfl (rs := [.tmp 6]) rfl [(0, _), (1, _), (2, _)] rfl ?_
 refine JC_seq ?_
 refine JC_region ?_
 refine JO_boxA rfl rfl ?_
 intro β1 s1 h1
 refine JO_q (QE_as rfl) rfl ?_
 refine JO_nil ?_
 refine thenQ_n ?_
 refine JC_seq ?_
 refine JC_seq ?_
 refine JC_region ?_
 refine JO_q (QE_mv rfl) rfl ?_
 refine JO_q (QE_not rfl) rfl ?_
 refine JO_nil ?_
 refine thenQ_n ?_
 refine JC_ifM rfl (fun c2 => ?_) (fun c2 => ?_)
 ·
  refine JC_seq ?_
  refine JC_region ?_
  refine JO_q (QE_fa0 rfl rfl rfl rfl) rfl ?_
  refine JO_q (QE_ld1 0 rfl rfl rfl rfl rfl) rfl ?_
  refine JO_q (QE_eq rfl rfl) rfl ?_
  refine JO_q (QE_mv rfl) rfl ?_
  refine JO_caseD (t := 12) rfl (fun c3 => ?_) (fun c3 => ?_)
  ·
   refine JO_gT rfl rfl ?_
   refine JO_q (QE_faB rfl rfl rfl rfl) rfl ?_
   refine JO_gT rfl rfl ?_
   refine JO_q (QE_ld1 0 rfl rfl rfl rfl rfl) rfl ?_
   refine JO_gT rfl rfl ?_
   refine JO_q (QE_eq rfl rfl) rfl ?_
   refine JO_q (QE_pickT rfl rfl) rfl ?_
   refine JO_q (QE_as rfl) rfl ?_
   refine JO_nil ?_
   refine thenQ_n ?_
   refine JC_ret ?_
   refine thenQ_r ?_
   refine retQ_mk [_] L (.inr rfl) (.tmp rfl (.nil)) rfl h1 (fun sR hS2 => ?_)
   exact ⟨by simp_all [resV, termB], rfl⟩
  ·
   refine JO_gF rfl rfl rfl rfl ?_
   refine JO_gF rfl rfl rfl rfl ?_
   refine JO_gF rfl rfl rfl rfl ?_
   refine JO_q (QE_pickF rfl rfl) rfl ?_
   refine JO_q (QE_as rfl) rfl ?_
   refine JO_nil ?_
   refine thenQ_n ?_
   refine JC_ret ?_
   refine thenQ_r ?_
   refine retQ_mk [_] L (.inr rfl) (.tmp rfl (.nil)) rfl h1 (fun sR hS2 => ?_)
   exact ⟨by simp_all [resV, termB], rfl⟩
 ·
  refine JC_skip ?_
  refine thenQ_n ?_
  refine JC_seq ?_
  refine JC_region ?_
  refine JO_q (QE_fa0 rfl rfl rfl rfl) rfl ?_
  refine JO_q (QE_ld1 0 rfl rfl rfl rfl rfl) rfl ?_
  refine JO_q (QE_eq rfl rfl) rfl ?_
  refine JO_q (QE_mv rfl) rfl ?_
  refine JO_caseD (t := 20) rfl (fun c4 => ?_) (fun c4 => ?_)
  ·
   refine JO_gF rfl rfl rfl rfl ?_
   refine JO_gF rfl rfl rfl rfl ?_
   refine JO_gF rfl rfl rfl rfl ?_
   refine JO_gF rfl rfl rfl rfl ?_
   refine JO_gU rfl rfl rfl ?_
   refine JO_gU rfl rfl rfl ?_
   refine JO_gU rfl rfl rfl ?_
   refine JO_gF rfl rfl rfl rfl ?_
   refine JO_q (QE_pickT rfl rfl) rfl ?_
   refine JO_q (QE_mv rfl) rfl ?_
   refine JO_gF rfl rfl rfl rfl ?_
   refine JO_gF rfl rfl rfl rfl ?_
   refine JO_gF rfl rfl rfl rfl ?_
   refine JO_gF rfl rfl rfl rfl ?_
   refine JO_gU rfl rfl rfl ?_
   refine JO_gU rfl rfl rfl ?_
   refine JO_gU rfl rfl rfl ?_
   refine JO_gF rfl rfl rfl rfl ?_
   refine JO_gF rfl rfl rfl rfl ?_
   refine JO_gU rfl rfl rfl ?_
   refine JO_gF rfl rfl rfl rfl ?_
   refine JO_q (QE_pickT rfl rfl) rfl ?_
   refine JO_q (QE_as rfl) rfl ?_
   refine JO_nil ?_
   refine thenQ_n ?_
   refine JC_ret ?_
   refine retQ_mk [_] L (.inr rfl) (.tmp rfl (.nil)) rfl h1 (fun sR hS2 => ?_)
   exact ⟨by simp_all [resV, termB], rfl⟩
  ·
   refine JO_gT rfl rfl ?_
   refine JO_q (QE_fa0 rfl rfl rfl rfl) rfl ?_
   refine JO_gT rfl rfl ?_
   refine JO_q (QE_ld1 0 rfl rfl rfl rfl rfl) rfl ?_
   refine JO_gT rfl rfl ?_
   refine JO_q (QE_eq rfl rfl) rfl ?_
   refine JO_gT rfl rfl ?_
   refine JO_q (QE_mv rfl) rfl ?_
   refine JO_caseD (t := 24) rfl (fun c5 => ?_) (fun c5 => ?_)
   ·
    refine JO_gT rfl rfl ?_
    refine JO_q (QE_faB rfl rfl rfl rfl) rfl ?_
    refine JO_gT rfl rfl ?_
    refine JO_q (QE_ld1 0 rfl rfl rfl rfl rfl) rfl ?_
    refine JO_gT rfl rfl ?_
    refine JO_q (QE_le rfl rfl) rfl ?_
    refine JO_gT rfl rfl ?_
    refine JO_q (QE_pickT rfl rfl) rfl ?_
    refine JO_q (QE_pickF rfl rfl) rfl ?_
    refine JO_q (QE_mv rfl) rfl ?_
    refine JO_caseD (t := 30) rfl (fun c6 => ?_) (fun c6 => ?_)
    ·
     refine JO_gF rfl rfl rfl rfl ?_
     refine JO_gF rfl rfl rfl rfl ?_
     refine JO_gF rfl rfl rfl rfl ?_
     refine JO_gF rfl rfl rfl rfl ?_
     refine JO_gU rfl rfl rfl ?_
     refine JO_gU rfl rfl rfl ?_
     refine JO_gU rfl rfl rfl ?_
     refine JO_gF rfl rfl rfl rfl ?_
     refine JO_gF rfl rfl rfl rfl ?_
     refine JO_gU rfl rfl rfl ?_
     refine JO_gF rfl rfl rfl rfl ?_
     refine JO_q (QE_pickT rfl rfl) rfl ?_
     refine JO_q (QE_as rfl) rfl ?_
     refine JO_nil ?_
     refine thenQ_n ?_
     refine JC_ret ?_
     refine retQ_mk [_] L (.inr rfl) (.tmp rfl (.nil)) rfl h1 (fun sR hS2 => ?_)
     exact ⟨by simp_all [resV, termB], rfl⟩
    ·
     refine JO_gT rfl rfl ?_
     refine JO_q (QE_fa0 rfl rfl rfl rfl) rfl ?_
     refine JO_gT rfl rfl ?_
     refine JO_q (QE_ld1 0 rfl rfl rfl rfl rfl) rfl ?_
     refine JO_gT rfl rfl ?_
     refine JO_q (QE_eq rfl rfl) rfl ?_
     refine JO_gT rfl rfl ?_
     refine JO_q (QE_mv rfl) rfl ?_
     refine JO_caseD (t := 34) rfl (fun c7 => ?_) (fun c7 => ?_)
     ·
      refine JO_gT rfl rfl ?_
      refine JO_q (QE_faB rfl rfl rfl rfl) rfl ?_
      refine JO_gT rfl rfl ?_
      refine JO_q (QE_ld1 0 rfl rfl rfl rfl rfl) rfl ?_
      refine JO_gT rfl rfl ?_
      refine JO_q (QE_eq rfl rfl) rfl ?_
      refine JO_gT rfl rfl ?_
      refine JO_q (QE_pickT rfl rfl) rfl ?_
      refine JO_gT rfl rfl ?_
      refine JO_q (QE_mv rfl) rfl ?_
      refine JO_caseD (t := 39) rfl (fun c8 => ?_) (fun c8 => ?_)
      ·
       refine JO_gT rfl rfl ?_
       refine JO_q (QE_mv rfl) rfl ?_
       refine JO_gT rfl rfl ?_
       refine JO_q (QE_pickT rfl rfl) rfl ?_
       refine JO_q (QE_pickF rfl rfl) rfl ?_
       refine JO_q (QE_as rfl) rfl ?_
       refine JO_nil ?_
       refine thenQ_n ?_
       refine JC_ret ?_
       refine retQ_mk [_] L (.inr rfl) (.tmp rfl (.nil)) rfl h1 (fun sR hS2 => ?_)
       exact ⟨by simp_all [resV, termB], rfl⟩
      ·
       refine JO_gF rfl rfl rfl rfl ?_
       refine JO_gT rfl rfl ?_
       refine JO_q (QE_pickF rfl rfl) rfl ?_
       refine JO_q (QE_pickF rfl rfl) rfl ?_
       refine JO_q (QE_as rfl) rfl ?_
       refine JO_nil ?_
       refine thenQ_n ?_
       refine JC_ret ?_
       refine retQ_mk [_] L (.inr rfl) (.tmp rfl (.nil)) rfl h1 (fun sR hS2 => ?_)
       exact ⟨by simp_all [resV, termB], rfl⟩
     ·
      refine JO_gF rfl rfl rfl rfl ?_
      refine JO_gF rfl rfl rfl rfl ?_
      refine JO_gF rfl rfl rfl rfl ?_
      refine JO_gT rfl rfl ?_
      refine JO_q (QE_pickF rfl rfl) rfl ?_
      refine JO_gT rfl rfl ?_
      refine JO_q (QE_mv rfl) rfl ?_
      refine JO_gF rfl rfl rfl rfl ?_
      refine JO_gT rfl rfl ?_
      refine JO_q (QE_pickF rfl rfl) rfl ?_
      refine JO_q (QE_pickF rfl rfl) rfl ?_
      refine JO_q (QE_as rfl) rfl ?_
      refine JO_nil ?_
      refine thenQ_n ?_
      refine JC_ret ?_
      refine retQ_mk [_] L (.inr rfl) (.tmp rfl (.nil)) rfl h1 (fun sR hS2 => ?_)
      exact ⟨by simp_all [resV, termB], rfl⟩
   ·
    refine JO_gF rfl rfl rfl rfl ?_
    refine JO_gF rfl rfl rfl rfl ?_
    refine JO_gF rfl rfl rfl rfl ?_
    refine JO_gT rfl rfl ?_
    refine JO_q (QE_pickF rfl rfl) rfl ?_
    refine JO_q (QE_pickF rfl rfl) rfl ?_
    refine JO_q (QE_mv rfl) rfl ?_
    refine JO_gT rfl rfl ?_
    refine JO_q (QE_fa0 rfl rfl rfl rfl) rfl ?_
    refine JO_gT rfl rfl ?_
    refine JO_q (QE_ld1 0 rfl rfl rfl rfl rfl) rfl ?_
    refine JO_gT rfl rfl ?_
    refine JO_q (QE_eq rfl rfl) rfl ?_
    refine JO_gT rfl rfl ?_
    refine JO_q (QE_mv rfl) rfl ?_
    refine JO_caseD (t := 34) rfl (fun c9 => ?_) (fun c9 => ?_)
    ·
     refine JO_gT rfl rfl ?_
     refine JO_q (QE_faB rfl rfl rfl rfl) rfl ?_
     refine JO_gT rfl rfl ?_
     refine JO_q (QE_ld1 0 rfl rfl rfl rfl rfl) rfl ?_
     refine JO_gT rfl rfl ?_
     refine JO_q (QE_eq rfl rfl) rfl ?_
     refine JO_gT rfl rfl ?_
     refine JO_q (QE_pickT rfl rfl) rfl ?_
     refine JO_gT rfl rfl ?_
     refine JO_q (QE_mv rfl) rfl ?_
     refine JO_caseD (t := 39) rfl (fun c10 => ?_) (fun c10 => ?_)
     ·
      refine JO_gT rfl rfl ?_
      refine JO_q (QE_mv rfl) rfl ?_
      refine JO_gT rfl rfl ?_
      refine JO_q (QE_pickT rfl rfl) rfl ?_
      refine JO_q (QE_pickF rfl rfl) rfl ?_
      refine JO_q (QE_as rfl) rfl ?_
      refine JO_nil ?_
      refine thenQ_n ?_
      refine JC_ret ?_
      refine retQ_mk [_] L (.inr rfl) (.tmp rfl (.nil)) rfl h1 (fun sR hS2 => ?_)
      exact ⟨by simp_all [resV, termB], rfl⟩
     ·
      refine JO_gF rfl rfl rfl rfl ?_
      refine JO_gT rfl rfl ?_
      refine JO_q (QE_pickF rfl rfl) rfl ?_
      refine JO_q (QE_pickF rfl rfl) rfl ?_
      refine JO_q (QE_as rfl) rfl ?_
      refine JO_nil ?_
      refine thenQ_n ?_
      refine JC_ret ?_
      refine retQ_mk [_] L (.inr rfl) (.tmp rfl (.nil)) rfl h1 (fun sR hS2 => ?_)
      exact ⟨by simp_all [resV, termB], rfl⟩
    ·
     refine JO_gF rfl rfl rfl rfl ?_
     refine JO_gF rfl rfl rfl rfl ?_
     refine JO_gF rfl rfl rfl rfl ?_
     refine JO_gT rfl rfl ?_
     refine JO_q (QE_pickF rfl rfl) rfl ?_
     refine JO_gT rfl rfl ?_
     refine JO_q (QE_mv rfl) rfl ?_
     refine JO_gF rfl rfl rfl rfl ?_
     refine JO_gT rfl rfl ?_
     refine JO_q (QE_pickF rfl rfl) rfl ?_
     refine JO_q (QE_pickF rfl rfl) rfl ?_
     refine JO_q (QE_as rfl) rfl ?_
     refine JO_nil ?_
     refine thenQ_n ?_
     refine JC_ret ?_
     refine retQ_mk [_] L (.inr rfl) (.tmp rfl (.nil)) rfl h1 (fun sR hS2 => ?_)
     exact ⟨by simp_all [resV, termB], rfl⟩
set_option maxHeartbeats 1000000 in
set_option maxRecDepth 100000 in
theorem actionCode_ac (D : Nat) (L : Hl) (s : World) (a : Ac) (o : Bool) : AC Tryz.prog D 57 [.agg #[.int .i64 a.kind, .int .i64 a.tgt, .int .i64 a.x.kind, .int .u32 a.x.val, .int .i64 a.y.kind, .int .u32 a.y.val], .bool o] L s fun v L' _ => v = .int .i64 (actCode a o) ∧ L = L' := by
 refine AC_enter (TT := TT) (fn := Tryz.f57) TT_ok Tryz.func57 (by kernel_rfl) rfl Tryz.ntmps57 rfl (rs := [.tmp 4]) rfl [(0, _), (1, _)] rfl ?_
 refine JC_seq ?_
 refine JC_region ?_
 refine JO_boxA rfl rfl ?_
 intro β1 s1 h1
 refine JO_q (QE_as rfl) rfl ?_
 refine JO_nil ?_
 refine thenQ_n ?_
 refine JC_seq ?_
 refine JC_seq ?_
 refine JC_region ?_
 refine JO_q (QE_fa0 rfl rfl rfl rfl) rfl ?_
 refine JO_q (QE_ld1 0 rfl rfl rfl rfl rfl) rfl ?_
 refine JO_call (first := []) (captured := []) rfl rfl rfl (in_ac D _ _ _ _ _) ?_
 rintro _ _ s2 h2 ⟨rfl, rfl⟩
 refine JO_q (QE_not rfl) rfl ?_
 refine JO_nil ?_
 refine thenQ_n ?_
 refine JC_ifN rfl (fun c3 => ?_) (fun c3 => ?_)
 ·
  refine JC_seq ?_
  refine JC_region ?_
  refine JO_q (QE_as rfl) rfl ?_
  refine JO_nil ?_
  refine thenQ_n ?_
  refine JC_ret ?_
  refine thenQ_r ?_
  refine retQ_mk [_] L (.inr rfl) (.tmp rfl (.nil)) rfl (Le.trans h1 h2) (fun sR hS2 => ?_)
  exact ⟨by (try simp only [needs_t, needs_x, needs_y] at *); (try simp_all [resV, actCode]) <;> grind, rfl⟩
 ·
  refine JC_skip ?_
  refine thenQ_n ?_
  refine JC_seq ?_
  refine JC_seq ?_
  refine JC_region ?_
  refine JO_q (QE_faB rfl rfl rfl rfl) rfl ?_
  refine JO_q (QE_ld1 0 rfl rfl rfl rfl rfl) rfl ?_
  refine JO_call (first := []) (captured := []) rfl rfl rfl (in_ac D _ _ _ _ _) ?_
  rintro _ _ s4 h4 ⟨rfl, rfl⟩
  refine JO_q (QE_not rfl) rfl ?_
  refine JO_nil ?_
  refine thenQ_n ?_
  refine JC_ifN rfl (fun c5 => ?_) (fun c5 => ?_)
  ·
   refine JC_seq ?_
   refine JC_region ?_
   refine JO_q (QE_as rfl) rfl ?_
   refine JO_nil ?_
   refine thenQ_n ?_
   refine JC_ret ?_
   refine thenQ_r ?_
   refine retQ_mk [_] L (.inr rfl) (.tmp rfl (.nil)) rfl (Le.trans (Le.trans h1 h2) h4) (fun sR hS2 => ?_)
   exact ⟨by (try simp only [needs_t, needs_x, needs_y] at *); (try simp_all [resV, actCode]) <;> grind, rfl⟩
  ·
   refine JC_skip ?_
   refine thenQ_n ?_
   refine JC_seq ?_
   refine JC_region ?_
   refine JO_q (QE_fa0 rfl rfl rfl rfl) rfl ?_
   refine JO_q (QE_ld1 0 rfl rfl rfl rfl rfl) rfl ?_
   refine JO_call (first := []) (captured := []) rfl rfl rfl (needs_ac D _ _ _) ?_
   rintro _ _ s6 h6 ⟨rfl, rfl⟩
   refine JO_q (QE_as rfl) rfl ?_
   refine JO_nil ?_
   refine thenQ_n ?_
   refine JC_seq ?_
   refine JC_seq ?_
   refine JC_draw drawsMixed 26 rfl _ (fun _ h => h) ?_
   intro s7 h7
   refine JA_q 0 rfl (by kernel_rfl) (by kernel_rfl) (by kernel_rfl) trivial (QE_mv rfl) rfl ?_
   refine JA_1 1 (by kernel_rfl) ?_
   refine JB_call rfl trivial (first := []) (captured := []) rfl rfl rfl (has_ac D _ _ _ _ (needs_len _)) ?_
   rintro _ _ s8 h8 ⟨rfl, rfl⟩
   refine ⟨fun _ _ h => h, ?_⟩
   refine JA_q 2 rfl (by kernel_rfl) (by kernel_rfl) (by kernel_rfl) trivial (QE_not rfl) rfl ?_
   refine JA_q 3 rfl (by kernel_rfl) (by kernel_rfl) (by kernel_rfl) trivial (QE_mv rfl) rfl ?_
   refine JA_caseM (t := 20) rfl (fun c9 => ?_) (fun c9 => ?_)
   ·
    refine JA_q 4 rfl (by kernel_rfl) (by kernel_rfl) (by kernel_rfl) ⟨_, rfl, rfl⟩ (QE_faB rfl rfl rfl rfl) rfl ?_
    refine JA_q 5 rfl (by kernel_rfl) (by kernel_rfl) (by kernel_rfl) ⟨_, rfl, rfl⟩ (QE_ld1 0 rfl rfl rfl rfl rfl) rfl ?_
    refine JA_q 6 rfl (by kernel_rfl) (by kernel_rfl) (by kernel_rfl) ⟨_, rfl, rfl⟩ (QE_ne rfl rfl) rfl ?_
    refine JA_q 7 rfl (by kernel_rfl) (by kernel_rfl) (by kernel_rfl) trivial (QE_pickT rfl rfl) rfl ?_
    refine JA_q 8 rfl (by kernel_rfl) (by kernel_rfl) (by kernel_rfl) trivial (QE_mv rfl) rfl ?_
    refine JA_caseN (t := 25) rfl (fun c10 => ?_) (fun c10 => ?_)
    ·
     refine JA_no 9 rfl (by kernel_rfl) (by kernel_rfl) (by kernel_rfl) rfl rfl rfl rfl ?_
     refine JA_no 10 rfl (by kernel_rfl) (by kernel_rfl) (by kernel_rfl) rfl rfl rfl rfl ?_
     refine JA_no 11 rfl (by kernel_rfl) (by kernel_rfl) (by kernel_rfl) rfl rfl rfl rfl ?_
     refine JA_no 12 rfl (by kernel_rfl) (by kernel_rfl) (by kernel_rfl) rfl rfl rfl rfl ?_
     refine JA_no 13 rfl (by kernel_rfl) (by kernel_rfl) (by kernel_rfl) rfl rfl rfl rfl ?_
     refine JA_no 14 rfl (by kernel_rfl) (by kernel_rfl) (by kernel_rfl) rfl rfl rfl rfl ?_
     refine JA_no 15 rfl (by kernel_rfl) (by kernel_rfl) (by kernel_rfl) rfl rfl rfl rfl ?_
     refine JA_q 16 rfl (by kernel_rfl) (by kernel_rfl) (by kernel_rfl) trivial (QE_pickT rfl rfl) rfl ?_
     refine JA_q 17 rfl (by kernel_rfl) (by kernel_rfl) (by kernel_rfl) trivial (QE_mv rfl) rfl ?_
     refine JA_no 18 rfl (by kernel_rfl) (by kernel_rfl) (by kernel_rfl) rfl rfl rfl rfl ?_
     refine JA_no 19 rfl (by kernel_rfl) (by kernel_rfl) (by kernel_rfl) rfl rfl rfl rfl ?_
     refine JA_no 20 rfl (by kernel_rfl) (by kernel_rfl) (by kernel_rfl) rfl rfl rfl rfl ?_
     refine JA_no 21 rfl (by kernel_rfl) (by kernel_rfl) (by kernel_rfl) rfl rfl rfl rfl ?_
     refine JA_no 22 rfl (by kernel_rfl) (by kernel_rfl) (by kernel_rfl) rfl rfl rfl rfl ?_
     refine JA_no 23 rfl (by kernel_rfl) (by kernel_rfl) (by kernel_rfl) rfl rfl rfl rfl ?_
     refine JA_no 24 rfl (by kernel_rfl) (by kernel_rfl) (by kernel_rfl) rfl rfl rfl rfl ?_
     refine JA_q 25 rfl (by kernel_rfl) (by kernel_rfl) (by kernel_rfl) trivial (QE_pickT rfl rfl) rfl ?_
     refine JA_done (by kernel_rfl) ?_
     refine thenQ_n ?_
     refine JC_ifT rfl ?_
     refine JC_seq ?_
     refine JC_region ?_
     refine JO_q (QE_as rfl) rfl ?_
     refine JO_nil ?_
     refine thenQ_n ?_
     refine JC_ret ?_
     refine thenQ_r ?_
     refine retQ_mk [_] L (.inr rfl) (.tmp rfl (.nil)) rfl (Le.trans (Le.trans (Le.trans (Le.trans (Le.trans h1 h2) h4) h6) h7) h8) (fun sR hS2 => ?_)
     exact ⟨by (try simp only [needs_t, needs_x, needs_y] at *); (try simp_all [resV, actCode]) <;> grind, rfl⟩
    ·
     refine JA_q 9 rfl (by kernel_rfl) (by kernel_rfl) (by kernel_rfl) ⟨_, rfl, rfl⟩ (QE_faB rfl rfl rfl rfl) rfl ?_
     refine JA_q 10 rfl (by kernel_rfl) (by kernel_rfl) (by kernel_rfl) ⟨_, rfl, rfl⟩ (QE_ldA 0 [_, _] rfl rfl rfl rfl rfl) rfl ?_
     refine JA_q 11 rfl (by kernel_rfl) (by kernel_rfl) (by kernel_rfl) ⟨_, rfl, rfl⟩ (QE_mv rfl) rfl ?_
     refine JA_q 13 rfl (by kernel_rfl) (by kernel_rfl) (by kernel_rfl) ⟨_, rfl, rfl⟩ (QE_mv rfl) rfl ?_
     refine JA_1 12 (by kernel_rfl) ?_
     refine JB_call rfl ⟨_, rfl, rfl⟩ (first := []) (captured := []) rfl rfl rfl (has_ac D _ _ _ _ (needs_len _)) ?_
     rintro _ _ s11 h11 ⟨rfl, rfl⟩
     refine ⟨fun _ _ h => h, ?_⟩
     refine JA_1 14 (by kernel_rfl) ?_
     refine JB_call rfl ⟨_, rfl, rfl⟩ (first := []) (captured := []) rfl rfl rfl (termOk_ac D _ _ _ _ _) ?_
     rintro _ _ s12 h12 ⟨rfl, rfl⟩
     refine ⟨fun _ _ h => h, ?_⟩
     refine JA_q 15 rfl (by kernel_rfl) (by kernel_rfl) (by kernel_rfl) ⟨_, rfl, rfl⟩ (QE_not rfl) rfl ?_
     refine JA_q 16 rfl (by kernel_rfl) (by kernel_rfl) (by kernel_rfl) trivial (QE_pickF rfl rfl) rfl ?_
     refine JA_q 17 rfl (by kernel_rfl) (by kernel_rfl) (by kernel_rfl) trivial (QE_mv rfl) rfl ?_
     refine JA_caseM (t := 34) rfl (fun c13 => ?_) (fun c13 => ?_)
     ·
      refine JA_no 18 rfl (by kernel_rfl) (by kernel_rfl) (by kernel_rfl) rfl rfl rfl rfl ?_
      refine JA_no 19 rfl (by kernel_rfl) (by kernel_rfl) (by kernel_rfl) rfl rfl rfl rfl ?_
      refine JA_no 20 rfl (by kernel_rfl) (by kernel_rfl) (by kernel_rfl) rfl rfl rfl rfl ?_
      refine JA_no 21 rfl (by kernel_rfl) (by kernel_rfl) (by kernel_rfl) rfl rfl rfl rfl ?_
      refine JA_no 22 rfl (by kernel_rfl) (by kernel_rfl) (by kernel_rfl) rfl rfl rfl rfl ?_
      refine JA_no 23 rfl (by kernel_rfl) (by kernel_rfl) (by kernel_rfl) rfl rfl rfl rfl ?_
      refine JA_no 24 rfl (by kernel_rfl) (by kernel_rfl) (by kernel_rfl) rfl rfl rfl rfl ?_
      refine JA_q 25 rfl (by kernel_rfl) (by kernel_rfl) (by kernel_rfl) trivial (QE_pickT rfl rfl) rfl ?_
      refine JA_done (by kernel_rfl) ?_
      refine thenQ_n ?_
      refine JC_ifT rfl ?_
      refine JC_seq ?_
      refine JC_region ?_
      refine JO_q (QE_as rfl) rfl ?_
      refine JO_nil ?_
      refine thenQ_n ?_
      refine JC_ret ?_
      refine thenQ_r ?_
      refine retQ_mk [_] L (.inr rfl) (.tmp rfl (.nil)) rfl (Le.trans (Le.trans (Le.trans (Le.trans (Le.trans (Le.trans (Le.trans h1 h2) h4) h6) h7) h8) h11) h12) (fun sR hS2 => ?_)
      exact ⟨by (try simp only [needs_t, needs_x, needs_y] at *); (try simp_all [resV, actCode]) <;> grind, rfl⟩
     ·
      refine JA_q 18 rfl (by kernel_rfl) (by kernel_rfl) (by kernel_rfl) ⟨_, rfl, rfl⟩ (QE_faB rfl rfl rfl rfl) rfl ?_
      refine JA_q 19 rfl (by kernel_rfl) (by kernel_rfl) (by kernel_rfl) ⟨_, rfl, rfl⟩ (QE_ldA 0 [_, _] rfl rfl rfl rfl rfl) rfl ?_
      refine JA_q 20 rfl (by kernel_rfl) (by kernel_rfl) (by kernel_rfl) ⟨_, rfl, rfl⟩ (QE_mv rfl) rfl ?_
      refine JA_q 22 rfl (by kernel_rfl) (by kernel_rfl) (by kernel_rfl) ⟨_, rfl, rfl⟩ (QE_mv rfl) rfl ?_
      refine JA_1 21 (by kernel_rfl) ?_
      refine JB_call rfl ⟨_, rfl, rfl⟩ (first := []) (captured := []) rfl rfl rfl (has_ac D _ _ _ _ (needs_len _)) ?_
      rintro _ _ s14 h14 ⟨rfl, rfl⟩
      refine ⟨fun _ _ h => h, ?_⟩
      refine JA_1 23 (by kernel_rfl) ?_
      refine JB_call rfl ⟨_, rfl, rfl⟩ (first := []) (captured := []) rfl rfl rfl (termOk_ac D _ _ _ _ _) ?_
      rintro _ _ s15 h15 ⟨rfl, rfl⟩
      refine ⟨fun _ _ h => h, ?_⟩
      refine JA_q 24 rfl (by kernel_rfl) (by kernel_rfl) (by kernel_rfl) ⟨_, rfl, rfl⟩ (QE_not rfl) rfl ?_
      refine JA_q 25 rfl (by kernel_rfl) (by kernel_rfl) (by kernel_rfl) trivial (QE_pickF rfl rfl) rfl ?_
      refine JA_done (by kernel_rfl) ?_
      refine thenQ_n ?_
      refine JC_ifM rfl (fun c16 => ?_) (fun c16 => ?_)
      ·
       refine JC_seq ?_
       refine JC_region ?_
       refine JO_q (QE_as rfl) rfl ?_
       refine JO_nil ?_
       refine thenQ_n ?_
       refine JC_ret ?_
       refine thenQ_r ?_
       refine retQ_mk [_] L (.inr rfl) (.tmp rfl (.nil)) rfl (Le.trans (Le.trans (Le.trans (Le.trans (Le.trans (Le.trans (Le.trans (Le.trans (Le.trans h1 h2) h4) h6) h7) h8) h11) h12) h14) h15) (fun sR hS2 => ?_)
       exact ⟨by (try simp only [needs_t, needs_x, needs_y] at *); (try simp_all [resV, actCode]) <;> grind, rfl⟩
      ·
       refine JC_skip ?_
       refine thenQ_n ?_
       refine JC_seq ?_
       refine JC_region ?_
       refine JO_q (QE_as rfl) rfl ?_
       refine JO_nil ?_
       refine thenQ_n ?_
       refine JC_ret ?_
       refine retQ_mk [_] L (.inr rfl) (.tmp rfl (.nil)) rfl (Le.trans (Le.trans (Le.trans (Le.trans (Le.trans (Le.trans (Le.trans (Le.trans (Le.trans h1 h2) h4) h6) h7) h8) h11) h12) h14) h15) (fun sR hS2 => ?_)
       exact ⟨by (try simp only [needs_t, needs_x, needs_y] at *); (try simp_all [resV, actCode]) <;> grind, rfl⟩
   ·
    refine JA_no 4 rfl (by kernel_rfl) (by kernel_rfl) (by kernel_rfl) rfl rfl rfl rfl ?_
    refine JA_no 5 rfl (by kernel_rfl) (by kernel_rfl) (by kernel_rfl) rfl rfl rfl rfl ?_
    refine JA_no 6 rfl (by kernel_rfl) (by kernel_rfl) (by kernel_rfl) rfl rfl rfl rfl ?_
    refine JA_q 7 rfl (by kernel_rfl) (by kernel_rfl) (by kernel_rfl) trivial (QE_pickF rfl rfl) rfl ?_
    refine JA_q 8 rfl (by kernel_rfl) (by kernel_rfl) (by kernel_rfl) trivial (QE_mv rfl) rfl ?_
    refine JA_q 9 rfl (by kernel_rfl) (by kernel_rfl) (by kernel_rfl) ⟨_, rfl, rfl⟩ (QE_faB rfl rfl rfl rfl) rfl ?_
    refine JA_q 10 rfl (by kernel_rfl) (by kernel_rfl) (by kernel_rfl) ⟨_, rfl, rfl⟩ (QE_ldA 0 [_, _] rfl rfl rfl rfl rfl) rfl ?_
    refine JA_q 11 rfl (by kernel_rfl) (by kernel_rfl) (by kernel_rfl) ⟨_, rfl, rfl⟩ (QE_mv rfl) rfl ?_
    refine JA_q 13 rfl (by kernel_rfl) (by kernel_rfl) (by kernel_rfl) ⟨_, rfl, rfl⟩ (QE_mv rfl) rfl ?_
    refine JA_1 12 (by kernel_rfl) ?_
    refine JB_call rfl ⟨_, rfl, rfl⟩ (first := []) (captured := []) rfl rfl rfl (has_ac D _ _ _ _ (needs_len _)) ?_
    rintro _ _ s17 h17 ⟨rfl, rfl⟩
    refine ⟨fun _ _ h => h, ?_⟩
    refine JA_1 14 (by kernel_rfl) ?_
    refine JB_call rfl ⟨_, rfl, rfl⟩ (first := []) (captured := []) rfl rfl rfl (termOk_ac D _ _ _ _ _) ?_
    rintro _ _ s18 h18 ⟨rfl, rfl⟩
    refine ⟨fun _ _ h => h, ?_⟩
    refine JA_q 15 rfl (by kernel_rfl) (by kernel_rfl) (by kernel_rfl) ⟨_, rfl, rfl⟩ (QE_not rfl) rfl ?_
    refine JA_q 16 rfl (by kernel_rfl) (by kernel_rfl) (by kernel_rfl) trivial (QE_pickF rfl rfl) rfl ?_
    refine JA_q 17 rfl (by kernel_rfl) (by kernel_rfl) (by kernel_rfl) trivial (QE_mv rfl) rfl ?_
    refine JA_caseM (t := 34) rfl (fun c19 => ?_) (fun c19 => ?_)
    ·
     refine JA_no 18 rfl (by kernel_rfl) (by kernel_rfl) (by kernel_rfl) rfl rfl rfl rfl ?_
     refine JA_no 19 rfl (by kernel_rfl) (by kernel_rfl) (by kernel_rfl) rfl rfl rfl rfl ?_
     refine JA_no 20 rfl (by kernel_rfl) (by kernel_rfl) (by kernel_rfl) rfl rfl rfl rfl ?_
     refine JA_no 21 rfl (by kernel_rfl) (by kernel_rfl) (by kernel_rfl) rfl rfl rfl rfl ?_
     refine JA_no 22 rfl (by kernel_rfl) (by kernel_rfl) (by kernel_rfl) rfl rfl rfl rfl ?_
     refine JA_no 23 rfl (by kernel_rfl) (by kernel_rfl) (by kernel_rfl) rfl rfl rfl rfl ?_
     refine JA_no 24 rfl (by kernel_rfl) (by kernel_rfl) (by kernel_rfl) rfl rfl rfl rfl ?_
     refine JA_q 25 rfl (by kernel_rfl) (by kernel_rfl) (by kernel_rfl) trivial (QE_pickT rfl rfl) rfl ?_
     refine JA_done (by kernel_rfl) ?_
     refine thenQ_n ?_
     refine JC_ifT rfl ?_
     refine JC_seq ?_
     refine JC_region ?_
     refine JO_q (QE_as rfl) rfl ?_
     refine JO_nil ?_
     refine thenQ_n ?_
     refine JC_ret ?_
     refine thenQ_r ?_
     refine retQ_mk [_] L (.inr rfl) (.tmp rfl (.nil)) rfl (Le.trans (Le.trans (Le.trans (Le.trans (Le.trans (Le.trans (Le.trans h1 h2) h4) h6) h7) h8) h17) h18) (fun sR hS2 => ?_)
     exact ⟨by (try simp only [needs_t, needs_x, needs_y] at *); (try simp_all [resV, actCode]) <;> grind, rfl⟩
    ·
     refine JA_q 18 rfl (by kernel_rfl) (by kernel_rfl) (by kernel_rfl) ⟨_, rfl, rfl⟩ (QE_faB rfl rfl rfl rfl) rfl ?_
     refine JA_q 19 rfl (by kernel_rfl) (by kernel_rfl) (by kernel_rfl) ⟨_, rfl, rfl⟩ (QE_ldA 0 [_, _] rfl rfl rfl rfl rfl) rfl ?_
     refine JA_q 20 rfl (by kernel_rfl) (by kernel_rfl) (by kernel_rfl) ⟨_, rfl, rfl⟩ (QE_mv rfl) rfl ?_
     refine JA_q 22 rfl (by kernel_rfl) (by kernel_rfl) (by kernel_rfl) ⟨_, rfl, rfl⟩ (QE_mv rfl) rfl ?_
     refine JA_1 21 (by kernel_rfl) ?_
     refine JB_call rfl ⟨_, rfl, rfl⟩ (first := []) (captured := []) rfl rfl rfl (has_ac D _ _ _ _ (needs_len _)) ?_
     rintro _ _ s20 h20 ⟨rfl, rfl⟩
     refine ⟨fun _ _ h => h, ?_⟩
     refine JA_1 23 (by kernel_rfl) ?_
     refine JB_call rfl ⟨_, rfl, rfl⟩ (first := []) (captured := []) rfl rfl rfl (termOk_ac D _ _ _ _ _) ?_
     rintro _ _ s21 h21 ⟨rfl, rfl⟩
     refine ⟨fun _ _ h => h, ?_⟩
     refine JA_q 24 rfl (by kernel_rfl) (by kernel_rfl) (by kernel_rfl) ⟨_, rfl, rfl⟩ (QE_not rfl) rfl ?_
     refine JA_q 25 rfl (by kernel_rfl) (by kernel_rfl) (by kernel_rfl) trivial (QE_pickF rfl rfl) rfl ?_
     refine JA_done (by kernel_rfl) ?_
     refine thenQ_n ?_
     refine JC_ifM rfl (fun c22 => ?_) (fun c22 => ?_)
     ·
      refine JC_seq ?_
      refine JC_region ?_
      refine JO_q (QE_as rfl) rfl ?_
      refine JO_nil ?_
      refine thenQ_n ?_
      refine JC_ret ?_
      refine thenQ_r ?_
      refine retQ_mk [_] L (.inr rfl) (.tmp rfl (.nil)) rfl (Le.trans (Le.trans (Le.trans (Le.trans (Le.trans (Le.trans (Le.trans (Le.trans (Le.trans h1 h2) h4) h6) h7) h8) h17) h18) h20) h21) (fun sR hS2 => ?_)
      exact ⟨by (try simp only [needs_t, needs_x, needs_y] at *); (try simp_all [resV, actCode]) <;> grind, rfl⟩
     ·
      refine JC_skip ?_
      refine thenQ_n ?_
      refine JC_seq ?_
      refine JC_region ?_
      refine JO_q (QE_as rfl) rfl ?_
      refine JO_nil ?_
      refine thenQ_n ?_
      refine JC_ret ?_
      refine retQ_mk [_] L (.inr rfl) (.tmp rfl (.nil)) rfl (Le.trans (Le.trans (Le.trans (Le.trans (Le.trans (Le.trans (Le.trans (Le.trans (Le.trans h1 h2) h4) h6) h7) h8) h17) h18) h20) h21) (fun sR hS2 => ?_)
      exact ⟨by (try simp only [needs_t, needs_x, needs_y] at *); (try simp_all [resV, actCode]) <;> grind, rfl⟩
set_option maxHeartbeats 1000000 in
set_option maxRecDepth 100000 in
theorem tableFault_ac (D : Nat) (L : Hl) (s : World) (t : Tab) (A : Option Addr) (n c : Nat) (hA : Inss s A n c t.ins) : AC Tryz.prog D 21 [.agg #[.int .i64 t.cells, .slice A n c]] L s fun v L' _ => v = .agg #[.int .i64 (tabFault t).1, .int .i64 (tabFault t).2] ∧ L = L' := by
 have hn := hA.1
 have hc1 := hA.2.1
 have hc2 := hA.2.2.1
 refine AC_enter (TT := TT) (fn := Tryz.f21) TT_ok Tryz.func21 (by kernel_rfl) rfl Tryz.ntmps21 rfl (rs := [.cell 2 27]) rfl [(0, _)] rfl ?_
 refine JC_seq ?_
 refine JC_region ?_
 refine JO_boxA rfl rfl ?_
 intro β1 s1 h1
 refine JO_allocZ rfl [_, _] rfl rfl ?_
 intro β2 s2 h2
 refine JO_nil ?_
 refine thenQ_n ?_
 refine JC_seq ?_
 refine JC_seq ?_
 refine JC_region ?_
 refine JO_q (QE_fa0 rfl rfl rfl rfl) rfl ?_
 refine JO_q (QE_ld1 1 rfl rfl rfl rfl rfl) rfl ?_
 refine JO_call (first := []) (captured := []) rfl rfl rfl (in_ac D _ _ _ _ _) ?_
 rintro _ _ s3 h3 ⟨rfl, rfl⟩
 refine JO_q (QE_not rfl) rfl ?_
 refine JO_nil ?_
 refine thenQ_n ?_
 refine JC_ifN rfl (fun c4 => ?_) (fun c4 => ?_)
 ·
  refine JC_seq ?_
  refine JC_region ?_
  refine JO_call (first := []) (captured := []) rfl rfl rfl (at_ac D _ _ _ _) ?_
  rintro _ _ s5 h5 ⟨rfl, rfl⟩
  refine JO_st 0 [_, _] rfl rfl rfl rfl rfl rfl rfl rfl rfl ?_
  refine JO_nil ?_
  refine thenQ_n ?_
  refine JC_ret ?_
  refine thenQ_r ?_
  refine retQ_mk [_, _] L (.inr rfl) (.agg (us := [_, _]) 0 rfl rfl rfl rfl rfl (.nil)) rfl (Le.trans (Le.trans (Le.trans h1 h2) h3) h5) (fun sR hS2 => ?_)
  refine ⟨?_, rfl⟩
  have h0 : t.cells < 1 ∨ 65536 < t.cells := by omega
  simp [resV, tabFault, h0]; done
 ·
  refine JC_skip ?_
  refine thenQ_n ?_
  refine JC_seq ?_
  refine JC_seq ?_
  refine JC_region ?_
  refine JO_q (QE_faB rfl rfl rfl rfl) rfl ?_
  refine JO_q (QE_ld1 1 rfl rfl rfl rfl rfl) rfl ?_
  refine JO_q (QE_lenS rfl rfl rfl) rfl ?_
  refine JO_q (QE_gt rfl rfl) rfl ?_
  refine JO_nil ?_
  refine thenQ_n ?_
  refine JC_ifD rfl (fun c6 => ?_) (fun c6 => ?_)
  ·
   refine JC_seq ?_
   refine JC_region ?_
   refine JO_call (first := []) (captured := []) rfl rfl rfl (at_ac D _ _ _ _) ?_
   rintro _ _ s7 h7 ⟨rfl, rfl⟩
   refine JO_st 0 [_, _] rfl rfl rfl rfl rfl rfl rfl rfl rfl ?_
   refine JO_nil ?_
   refine thenQ_n ?_
   refine JC_ret ?_
   refine thenQ_r ?_
   refine retQ_mk [_, _] L (.inr rfl) (.agg (us := [_, _]) 0 rfl rfl rfl rfl rfl (.nil)) rfl (Le.trans (Le.trans (Le.trans h1 h2) h3) h7) (fun sR hS2 => ?_)
   refine ⟨?_, rfl⟩
   have h0 : ¬ (t.cells < 1 ∨ 65536 < t.cells) := by omega
   have h1 : 64 < t.ins.length := by omega
   simp [resV, tabFault, h0, h1]; done
  ·
   refine JC_skip ?_
   refine thenQ_n ?_
   refine JC_seq ?_
   refine JC_seq ?_
   refine JC_region ?_
   refine JO_q (QE_as rfl) rfl ?_
   refine JO_nil ?_
   refine thenQ_n ?_
   refine JC_block ?_
   refine JC_loop (γ := Nat) (fun k => [(1, _), (2, _), (3, .int .i64 (k : Int))]) (fun _ => _) (fun k tw => Le D s3 tw ∧ (k ≤ n ∧ ∀ i, i < k → rowCode t.ins i = 0)) (fun k => n - k) (fun _ _ _ h hl => ⟨h.1.trans hl, h.2⟩) 0 (Keeps.cons rfl (Keeps.cons rfl (Keeps.cons rfl (Keeps.nil _)))) rfl ⟨Le.refl _, ⟨Nat.zero_le _, fun i hi => by omega⟩⟩ ?_
   intro k s8 I8
   have hk0 := I8.2.1
   have hI := I8.2.2
   refine JC_seq ?_
   refine JC_seq ?_
   refine JC_region ?_
   refine JO_q (QE_mv rfl) rfl ?_
   refine JO_q (QE_faB rfl rfl rfl rfl) rfl ?_
   refine JO_q (QE_ld1 1 rfl rfl rfl rfl rfl) rfl ?_
   refine JO_q (QE_lenS rfl rfl rfl) rfl ?_
   refine JO_q (QE_lt rfl rfl) rfl ?_
   refine JO_nil ?_
   refine thenQ_n ?_
   refine JC_ifD rfl (fun c9 => ?_) (fun c9 => ?_)
   ·
    have hk : k < n := by omega
    obtain ⟨b, off, x, A', n', c', rfl, hx, hcx, hax, hnl, hcd⟩ := Inss.at_ (hA.le (Le.trans (Le.trans (Le.trans h1 h2) h3) I8.1)) hk
    have hn' := hax.1
    have hc1' := hax.2.1
    have hc2' := hax.2.2.1
    refine JC_skip ?_
    refine thenQ_n ?_
    refine JC_seq ?_
    refine JC_block ?_
    refine JC_seq ?_
    refine JC_region ?_
    refine JO_q (QE_faB rfl rfl rfl rfl) rfl ?_
    refine JO_q (QE_ld1 1 rfl rfl rfl rfl rfl) rfl ?_
    refine JO_q (QE_mv rfl) rfl ?_
    refine JO_q (QE_iaN rfl rfl rfl rfl rfl rfl hk) rfl ?_
    refine JO_q (QE_ldsA rfl rfl rfl (hcx.le (Le.refl (D := D) _)) rfl) rfl ?_
    refine JO_allocZ rfl [_, _, _, _] rfl rfl ?_
    intro β10 s10 h10
    refine JO_st 0 [_, _, _, _] rfl rfl rfl rfl rfl rfl rfl rfl rfl ?_
    refine JO_nil ?_
    refine thenQ_n ?_
    refine JC_seq ?_
    refine JC_seq ?_
    refine JC_region ?_
    refine JO_q (QE_fa0 rfl rfl rfl rfl) rfl ?_
    refine JO_q (QE_ld1 0 rfl rfl rfl rfl rfl) rfl ?_
    refine JO_call (first := []) (captured := []) rfl rfl rfl (isLabel_ac D _ _ _ hnl) ?_
    rintro _ _ s11 h11 ⟨rfl, rfl⟩
    refine JO_q (QE_not rfl) rfl ?_
    refine JO_q (QE_mv rfl) rfl ?_
    refine JO_caseM (t := 34) rfl (fun c12 => ?_) (fun c12 => ?_)
    ·
     refine JO_gF rfl rfl rfl rfl ?_
     refine JO_gF rfl rfl rfl rfl ?_
     refine JO_gF rfl rfl rfl rfl ?_
     refine JO_q (QE_pickT rfl rfl) rfl ?_
     refine JO_q (QE_mv rfl) rfl ?_
     refine JO_gF rfl rfl rfl rfl ?_
     refine JO_gF rfl rfl rfl rfl ?_
     refine JO_gF rfl rfl rfl rfl ?_
     refine JO_q (QE_pickT rfl rfl) rfl ?_
     refine JO_nil ?_
     refine thenQ_n ?_
     refine JC_ifT rfl ?_
     have hm : mnemB x.name = false := by first | exact mnem_F1 (by assumption) | exact mnem_F2 (by assumption) | exact mnem_F3 (by assumption)
     refine JC_seq ?_
     refine JC_region ?_
     refine JO_q (QE_mv rfl) rfl ?_
     refine JO_call (first := []) (captured := []) rfl rfl rfl (at_ac D _ _ _ _) ?_
     rintro _ _ s13 h13 ⟨rfl, rfl⟩
     refine JO_st 1 [_, _] rfl rfl rfl rfl rfl rfl rfl rfl rfl ?_
     refine JO_nil ?_
     refine thenQ_n ?_
     refine JC_ret ?_
     refine thenQ_r ?_
     refine blockQ_r ?_
     refine thenQ_r ?_
     refine thenQ_r ?_
     refine blockQ_r ?_
     refine thenQ_r ?_
     refine retQ_mk [_, _, _] L (.inr rfl) (.agg (us := [_, _]) 1 rfl rfl rfl rfl rfl (.nil)) rfl (Le.trans (Le.trans (Le.trans (Le.trans (Le.trans (Le.trans h1 h2) h3) I8.1) h10) h11) h13) (fun sR hS2 => ?_)
     refine ⟨?_, rfl⟩
     simp only [resV]; rw [tab_hit (k := k) (c := 7) (by omega) (by omega) hI (by omega) (by simp [rowCode, hx, insCode, hm]) (by decide)]; done
    ·
     refine JO_gT rfl rfl ?_
     refine JO_q (QE_fa0 rfl rfl rfl rfl) rfl ?_
     refine JO_gT rfl rfl ?_
     refine JO_q (QE_ld1 0 rfl rfl rfl rfl rfl) rfl ?_
     refine JO_gT rfl rfl ?_
     refine JO_q (QE_seq rfl rfl) rfl ?_
     refine JO_q (QE_pickF rfl rfl) rfl ?_
     refine JO_q (QE_mv rfl) rfl ?_
     refine JO_caseD (t := 39) rfl (fun c14 => ?_) (fun c14 => ?_)
     ·
      refine JO_gF rfl rfl rfl rfl ?_
      refine JO_gF rfl rfl rfl rfl ?_
      refine JO_gF rfl rfl rfl rfl ?_
      refine JO_q (QE_pickT rfl rfl) rfl ?_
      refine JO_nil ?_
      refine thenQ_n ?_
      refine JC_ifT rfl ?_
      have hm : mnemB x.name = false := by first | exact mnem_F1 (by assumption) | exact mnem_F2 (by assumption) | exact mnem_F3 (by assumption)
      refine JC_seq ?_
      refine JC_region ?_
      refine JO_q (QE_mv rfl) rfl ?_
      refine JO_call (first := []) (captured := []) rfl rfl rfl (at_ac D _ _ _ _) ?_
      rintro _ _ s15 h15 ⟨rfl, rfl⟩
      refine JO_st 1 [_, _] rfl rfl rfl rfl rfl rfl rfl rfl rfl ?_
      refine JO_nil ?_
      refine thenQ_n ?_
      refine JC_ret ?_
      refine thenQ_r ?_
      refine blockQ_r ?_
      refine thenQ_r ?_
      refine thenQ_r ?_
      refine blockQ_r ?_
      refine thenQ_r ?_
      refine retQ_mk [_, _, _] L (.inr rfl) (.agg (us := [_, _]) 1 rfl rfl rfl rfl rfl (.nil)) rfl (Le.trans (Le.trans (Le.trans (Le.trans (Le.trans (Le.trans h1 h2) h3) I8.1) h10) h11) h15) (fun sR hS2 => ?_)
      refine ⟨?_, rfl⟩
      simp only [resV]; rw [tab_hit (k := k) (c := 7) (by omega) (by omega) hI (by omega) (by simp [rowCode, hx, insCode, hm]) (by decide)]; done
     ·
      refine JO_gT rfl rfl ?_
      refine JO_q (QE_fa0 rfl rfl rfl rfl) rfl ?_
      refine JO_gT rfl rfl ?_
      refine JO_q (QE_ld1 0 rfl rfl rfl rfl rfl) rfl ?_
      refine JO_gT rfl rfl ?_
      refine JO_q (QE_seq rfl rfl) rfl ?_
      refine JO_q (QE_pickF rfl rfl) rfl ?_
      refine JO_nil ?_
      refine thenQ_n ?_
      refine JC_ifD rfl (fun c16 => ?_) (fun c16 => ?_)
      ·
       have hm : mnemB x.name = false := by first | exact mnem_F1 (by assumption) | exact mnem_F2 (by assumption) | exact mnem_F3 (by assumption)
       refine JC_seq ?_
       refine JC_region ?_
       refine JO_q (QE_mv rfl) rfl ?_
       refine JO_call (first := []) (captured := []) rfl rfl rfl (at_ac D _ _ _ _) ?_
       rintro _ _ s17 h17 ⟨rfl, rfl⟩
       refine JO_st 1 [_, _] rfl rfl rfl rfl rfl rfl rfl rfl rfl ?_
       refine JO_nil ?_
       refine thenQ_n ?_
       refine JC_ret ?_
       refine thenQ_r ?_
       refine blockQ_r ?_
       refine thenQ_r ?_
       refine thenQ_r ?_
       refine blockQ_r ?_
       refine thenQ_r ?_
       refine retQ_mk [_, _, _] L (.inr rfl) (.agg (us := [_, _]) 1 rfl rfl rfl rfl rfl (.nil)) rfl (Le.trans (Le.trans (Le.trans (Le.trans (Le.trans (Le.trans h1 h2) h3) I8.1) h10) h11) h17) (fun sR hS2 => ?_)
       refine ⟨?_, rfl⟩
       simp only [resV]; rw [tab_hit (k := k) (c := 7) (by omega) (by omega) hI (by omega) (by simp [rowCode, hx, insCode, hm]) (by decide)]; done
      ·
       have hm : mnemB x.name = true := mnem_T (by assumption) (by assumption) (by assumption)
       refine JC_skip ?_
       refine thenQ_n ?_
       refine JC_seq ?_
       refine JC_seq ?_
       refine JC_region ?_
       refine JO_q (QE_faB rfl rfl rfl rfl) rfl ?_
       refine JO_q (QE_ld1 0 rfl rfl rfl rfl rfl) rfl ?_
       refine JO_q (QE_lenS rfl rfl rfl) rfl ?_
       refine JO_q (QE_gt rfl rfl) rfl ?_
       refine JO_nil ?_
       refine thenQ_n ?_
       refine JC_ifD rfl (fun c18 => ?_) (fun c18 => ?_)
       ·
        have h8 : 8 < x.acts.length := by omega
        refine JC_seq ?_
        refine JC_region ?_
        refine JO_q (QE_mv rfl) rfl ?_
        refine JO_call (first := []) (captured := []) rfl rfl rfl (at_ac D _ _ _ _) ?_
        rintro _ _ s19 h19 ⟨rfl, rfl⟩
        refine JO_st 1 [_, _] rfl rfl rfl rfl rfl rfl rfl rfl rfl ?_
        refine JO_nil ?_
        refine thenQ_n ?_
        refine JC_ret ?_
        refine thenQ_r ?_
        refine blockQ_r ?_
        refine thenQ_r ?_
        refine thenQ_r ?_
        refine blockQ_r ?_
        refine thenQ_r ?_
        refine retQ_mk [_, _, _] L (.inr rfl) (.agg (us := [_, _]) 1 rfl rfl rfl rfl rfl (.nil)) rfl (Le.trans (Le.trans (Le.trans (Le.trans (Le.trans (Le.trans h1 h2) h3) I8.1) h10) h11) h19) (fun sR hS2 => ?_)
        refine ⟨?_, rfl⟩
        simp only [resV]; rw [tab_hit (k := k) (c := 2) (by omega) (by omega) hI (by omega) (by simp [rowCode, hx, insCode, hm, h8]) (by decide)]; done
       ·
        have h8 : ¬ 8 < x.acts.length := by omega
        refine JC_skip ?_
        refine thenQ_n ?_
        refine JC_seq ?_
        refine JC_seq ?_
        refine JC_region ?_
        refine JO_q (QE_as rfl) rfl ?_
        refine JO_nil ?_
        refine thenQ_n ?_
        refine JC_block ?_
        refine JC_loop (γ := Nat) (fun j => [(1, _), (2, _), (3, _), (4, _), (5, .int .i64 (j : Int))]) (fun _ => _) (fun j tw => Le D s11 tw ∧ (j ≤ n' ∧ ∀ i a, i < j → x.acts[i]? = some a → actCode a x.operand = 0)) (fun j => n' - j) (fun _ _ _ h hl => ⟨h.1.trans hl, h.2⟩) 0 (Keeps.cons rfl (Keeps.cons rfl (Keeps.cons rfl (Keeps.cons rfl (Keeps.cons rfl (Keeps.nil _)))))) rfl ⟨Le.refl _, ⟨Nat.zero_le _, fun i c hi => by omega⟩⟩ ?_
        intro j s20 I20
        have hj0 := I20.2.1
        have hJ := I20.2.2
        refine JC_seq ?_
        refine JC_seq ?_
        refine JC_region ?_
        refine JO_q (QE_mv rfl) rfl ?_
        refine JO_q (QE_faB rfl rfl rfl rfl) rfl ?_
        refine JO_q (QE_ld1 0 rfl rfl rfl rfl rfl) rfl ?_
        refine JO_q (QE_lenS rfl rfl rfl) rfl ?_
        refine JO_q (QE_lt rfl rfl) rfl ?_
        refine JO_nil ?_
        refine thenQ_n ?_
        refine JC_ifD rfl (fun c21 => ?_) (fun c21 => ?_)
        ·
         have hj : j < n' := by omega
         obtain ⟨b2, off2, a, rfl, ha, hca, hau⟩ := Acs.at_ (hax.le (Le.trans (Le.trans h10 h11) I20.1)) hj
         refine JC_skip ?_
         refine thenQ_n ?_
         refine JC_seq ?_
         refine JC_block ?_
         refine JC_seq ?_
         refine JC_draw drawsMixed 9 rfl _ (fun _ h => h) ?_
         intro s22 h22
         refine JA_q 0 rfl (by kernel_rfl) (by kernel_rfl) (by kernel_rfl) trivial (QE_faB rfl rfl rfl rfl) rfl ?_
         refine JA_q 1 rfl (by kernel_rfl) (by kernel_rfl) (by kernel_rfl) trivial (QE_ld1 0 rfl rfl rfl rfl rfl) rfl ?_
         refine JA_q 2 rfl (by kernel_rfl) (by kernel_rfl) (by kernel_rfl) trivial (QE_mv rfl) rfl ?_
         refine JA_q 3 rfl (by kernel_rfl) (by kernel_rfl) (by kernel_rfl) trivial (QE_iaN rfl rfl rfl rfl rfl rfl hj) rfl ?_
         refine JA_q 4 rfl (by kernel_rfl) (by kernel_rfl) (by kernel_rfl) trivial (QE_ldsA rfl rfl rfl (hca.le h22) rfl) rfl ?_
         refine JA_q 5 rfl (by kernel_rfl) (by kernel_rfl) (by kernel_rfl) trivial (QE_faB rfl rfl rfl rfl) rfl ?_
         refine JA_q 6 rfl (by kernel_rfl) (by kernel_rfl) (by kernel_rfl) trivial (QE_ld1 0 rfl rfl rfl rfl rfl) rfl ?_
         refine JA_1 7 (by kernel_rfl) ?_
         refine JB_call rfl trivial (first := []) (captured := []) rfl rfl rfl (actionCode_ac D _ _ _ _) ?_
         rintro _ _ s23 h23 ⟨rfl, rfl⟩
         refine ⟨fun _ _ h => h, ?_⟩
         refine JA_q 8 rfl (by kernel_rfl) (by kernel_rfl) (by kernel_rfl) trivial (QE_as rfl) rfl ?_
         refine JA_done (by kernel_rfl) ?_
         refine thenQ_n ?_
         refine JC_seq ?_
         refine JC_region ?_
         refine JO_q (QE_mv rfl) rfl ?_
         refine JO_q (QE_ne rfl rfl) rfl ?_
         refine JO_nil ?_
         refine thenQ_n ?_
         refine JC_ifN rfl (fun c24 => ?_) (fun c24 => ?_)
         ·
          have hz : actCode a x.operand ≠ 0 := by simpa using c24
          refine JC_seq ?_
          refine JC_region ?_
          refine JO_q (QE_mv rfl) rfl ?_
          refine JO_q (QE_mv rfl) rfl ?_
          refine JO_call (first := []) (captured := []) rfl rfl rfl (at_ac D _ _ _ _) ?_
          rintro _ _ s25 h25 ⟨rfl, rfl⟩
          refine JO_st 1 [_, _] rfl rfl rfl rfl rfl rfl rfl rfl rfl ?_
          refine JO_nil ?_
          refine thenQ_n ?_
          refine JC_ret ?_
          refine blockQ_r ?_
          refine thenQ_r ?_
          refine thenQ_r ?_
          refine blockQ_r ?_
          refine thenQ_r ?_
          refine blockQ_r ?_
          refine thenQ_r ?_
          refine thenQ_r ?_
          refine blockQ_r ?_
          refine thenQ_r ?_
          refine retQ_mk [_, _, _] L (.inr rfl) (.agg (us := [_, _]) 1 rfl rfl rfl rfl rfl (.nil)) rfl (Le.trans (Le.trans (Le.trans (Le.trans (Le.trans (Le.trans (Le.trans (Le.trans (Le.trans h1 h2) h3) I8.1) h10) h11) I20.1) h22) h23) h25) (fun sR hS2 => ?_)
          refine ⟨?_, rfl⟩
          have hf := firstNZ_hit hJ ha hz
          simp only [resV]; rw [tab_hit (k := k) (c := actCode a x.operand) (by omega) (by omega) hI (by omega) (by simp [rowCode, hx, insCode, hm, h8, hf, hz]) hz]; done
         ·
          have hz : actCode a x.operand = 0 := by simpa using c24
          refine JC_skip ?_
          refine blockQ_n ?_
          refine thenQ_n ?_
          refine JC_region ?_
          refine JO_q (QE_mv rfl) rfl ?_
          refine JO_q (QE_add' rfl rfl (w64 (by omega) (by omega))) rfl ?_
          refine JO_q (QE_as rfl) rfl ?_
          refine JO_nil ?_
          refine thenQ_n ⟨(j + 1), [], (Keeps.cons rfl (Keeps.cons rfl (Keeps.cons rfl (Keeps.cons rfl (Keeps.cons rfl (Keeps.nil _)))))), rfl, ⟨(Le.trans (Le.trans I20.1 h22) h23), ⟨by omega, below_succ hJ ha hz⟩⟩, (by omega)⟩
        ·
         refine JC_exit ?_
         refine thenQ_x ?_
         refine thenQ_x ?_
         refine blockQ_x ?_
         refine thenQ_n ?_
         refine JC_seq ?_
         refine JC_region ?_
         refine JO_q (QE_as rfl) rfl ?_
         refine JO_nil ?_
         refine thenQ_n ?_
         refine JC_block ?_
         refine JC_loop (γ := Nat) (fun m => [(1, _), (2, _), (3, _), (4, _), (7, .int .i64 (m : Int))]) (fun _ => _) (fun m tw => Le D s20 tw ∧ (m ≤ k ∧ ∀ i y, i < m → t.ins[i]? = some y → sameKey x y = false)) (fun m => k - m) (fun _ _ _ h hl => ⟨h.1.trans hl, h.2⟩) 0 (Keeps.cons rfl (Keeps.cons rfl (Keeps.cons rfl (Keeps.cons rfl (Keeps.cons rfl (Keeps.nil _)))))) rfl ⟨Le.refl _, ⟨Nat.zero_le _, fun i c hi => by omega⟩⟩ ?_
         intro m s26 I26
         have hm0 := I26.2.1
         have hM := I26.2.2
         refine JC_seq ?_
         refine JC_seq ?_
         refine JC_region ?_
         refine JO_q (QE_mv rfl) rfl ?_
         refine JO_q (QE_mv rfl) rfl ?_
         refine JO_q (QE_lt rfl rfl) rfl ?_
         refine JO_nil ?_
         refine thenQ_n ?_
         refine JC_ifD rfl (fun c27 => ?_) (fun c27 => ?_)
         ·
          have hmk : m < k := by omega
          obtain ⟨b3, off3, y, A3, n3, c3, he3, hy, hcy, _, _, _⟩ := Inss.at_ (hA.le (Le.trans (Le.trans (Le.trans (Le.trans (Le.trans (Le.trans (Le.trans h1 h2) h3) I8.1) h10) h11) I20.1) I26.1)) (show m < n by omega)
          obtain ⟨rfl, rfl⟩ : b3 = b ∧ off3 = off := by injection he3 with he3; injection he3 with e1 e2; exact ⟨e1.symm, e2.symm⟩
          refine JC_skip ?_
          refine thenQ_n ?_
          refine JC_seq ?_
          refine JC_block ?_
          refine JC_seq ?_
          refine JC_draw drawsMixed 20 rfl _ (fun _ h => h) ?_
          intro s28 h28
          refine JA_q 0 rfl (by kernel_rfl) (by kernel_rfl) (by kernel_rfl) trivial (QE_faB rfl rfl rfl rfl) rfl ?_
          refine JA_q 1 rfl (by kernel_rfl) (by kernel_rfl) (by kernel_rfl) trivial (QE_ld1 2 rfl rfl rfl rfl rfl) rfl ?_
          refine JA_q 2 rfl (by kernel_rfl) (by kernel_rfl) (by kernel_rfl) trivial (QE_mv rfl) rfl ?_
          refine JA_q 3 rfl (by kernel_rfl) (by kernel_rfl) (by kernel_rfl) trivial (QE_iaN rfl rfl rfl rfl rfl rfl (show m < n by omega)) rfl ?_
          refine JA_q 4 rfl (by kernel_rfl) (by kernel_rfl) (by kernel_rfl) trivial (QE_fa0 rfl rfl rfl rfl) rfl ?_
          refine JA_q 5 rfl (by kernel_rfl) (by kernel_rfl) (by kernel_rfl) trivial (QE_ldsR0 rfl rfl rfl (hcy.le h28) rfl) rfl ?_
          refine JA_q 6 rfl (by kernel_rfl) (by kernel_rfl) (by kernel_rfl) trivial (QE_fa0 rfl rfl rfl rfl) rfl ?_
          refine JA_q 7 rfl (by kernel_rfl) (by kernel_rfl) (by kernel_rfl) trivial (QE_ld1 0 rfl rfl rfl rfl rfl) rfl ?_
          refine JA_q 8 rfl (by kernel_rfl) (by kernel_rfl) (by kernel_rfl) trivial (QE_seq rfl rfl) rfl ?_
          refine JA_q 9 rfl (by kernel_rfl) (by kernel_rfl) (by kernel_rfl) trivial (QE_mv rfl) rfl ?_
          refine JA_caseD (t := 86) rfl (fun c29 => ?_) (fun c29 => ?_)
          ·
           refine JA_no 10 rfl (by kernel_rfl) (by kernel_rfl) (by kernel_rfl) rfl rfl rfl rfl ?_
           refine JA_no 11 rfl (by kernel_rfl) (by kernel_rfl) (by kernel_rfl) rfl rfl rfl rfl ?_
           refine JA_no 12 rfl (by kernel_rfl) (by kernel_rfl) (by kernel_rfl) rfl rfl rfl rfl ?_
           refine JA_no 13 rfl (by kernel_rfl) (by kernel_rfl) (by kernel_rfl) rfl rfl rfl rfl ?_
           refine JA_no 14 rfl (by kernel_rfl) (by kernel_rfl) (by kernel_rfl) rfl rfl rfl rfl ?_
           refine JA_no 15 rfl (by kernel_rfl) (by kernel_rfl) (by kernel_rfl) rfl rfl rfl rfl ?_
           refine JA_no 16 rfl (by kernel_rfl) (by kernel_rfl) (by kernel_rfl) rfl rfl rfl rfl ?_
           refine JA_no 17 rfl (by kernel_rfl) (by kernel_rfl) (by kernel_rfl) rfl rfl rfl rfl ?_
           refine JA_no 18 rfl (by kernel_rfl) (by kernel_rfl) (by kernel_rfl) rfl rfl rfl rfl ?_
           refine JA_q 19 rfl (by kernel_rfl) (by kernel_rfl) (by kernel_rfl) trivial (QE_pickT rfl rfl) rfl ?_
           refine JA_done (by kernel_rfl) ?_
           refine thenQ_n ?_
           refine JC_ifT rfl ?_
           have hs : sameKey x y = true := by first | exact same_T1 (by assumption) | exact same_T2 (by assumption)
           refine JC_seq ?_
           refine JC_region ?_
           refine JO_q (QE_mv rfl) rfl ?_
           refine JO_call (first := []) (captured := []) rfl rfl rfl (at_ac D _ _ _ _) ?_
           rintro _ _ s30 h30 ⟨rfl, rfl⟩
           refine JO_st 1 [_, _] rfl rfl rfl rfl rfl rfl rfl rfl rfl ?_
           refine JO_nil ?_
           refine thenQ_n ?_
           refine JC_ret ?_
           refine blockQ_r ?_
           refine thenQ_r ?_
           refine thenQ_r ?_
           refine blockQ_r ?_
           refine blockQ_r ?_
           refine thenQ_r ?_
           refine thenQ_r ?_
           refine blockQ_r ?_
           refine thenQ_r ?_
           refine retQ_mk [_, _, _] L (.inr rfl) (.agg (us := [_, _]) 1 rfl rfl rfl rfl rfl (.nil)) rfl (Le.trans (Le.trans (Le.trans (Le.trans (Le.trans (Le.trans (Le.trans (Le.trans (Le.trans h1 h2) h3) I8.1) h10) h11) I20.1) I26.1) h28) h30) (fun sR hS2 => ?_)
           refine ⟨?_, rfl⟩
           have hf := firstNZ_none (l := x.acts) (f := fun a => actCode a x.operand) (fun i a hi h => hJ i a (by omega) h)
           have hs2 : (t.ins.take k).any (sameKey x) = true := any_take hy hmk hs
           simp only [resV]; rw [tab_hit (k := k) (c := 8) (by omega) (by omega) hI (by omega) (by simp [rowCode, hx, insCode, hm, h8, hf, hs2]) (by decide)]; done
          ·
           refine JA_q 10 rfl (by kernel_rfl) (by kernel_rfl) (by kernel_rfl) ⟨_, rfl, rfl⟩ (QE_faB rfl rfl rfl rfl) rfl ?_
           refine JA_q 11 rfl (by kernel_rfl) (by kernel_rfl) (by kernel_rfl) ⟨_, rfl, rfl⟩ (QE_ld1 2 rfl rfl rfl rfl rfl) rfl ?_
           refine JA_q 12 rfl (by kernel_rfl) (by kernel_rfl) (by kernel_rfl) ⟨_, rfl, rfl⟩ (QE_mv rfl) rfl ?_
           refine JA_q 13 rfl (by kernel_rfl) (by kernel_rfl) (by kernel_rfl) ⟨_, rfl, rfl⟩ (QE_iaN rfl rfl rfl rfl rfl rfl (show m < n by omega)) rfl ?_
           refine JA_q 14 rfl (by kernel_rfl) (by kernel_rfl) (by kernel_rfl) ⟨_, rfl, rfl⟩ (QE_fa rfl rfl rfl rfl) rfl ?_
           refine JA_q 15 rfl (by kernel_rfl) (by kernel_rfl) (by kernel_rfl) ⟨_, rfl, rfl⟩ (QE_ldsR 1 rfl rfl rfl (hcy.le h28) rfl) rfl ?_
           refine JA_q 16 rfl (by kernel_rfl) (by kernel_rfl) (by kernel_rfl) ⟨_, rfl, rfl⟩ (QE_faB rfl rfl rfl rfl) rfl ?_
           refine JA_q 17 rfl (by kernel_rfl) (by kernel_rfl) (by kernel_rfl) ⟨_, rfl, rfl⟩ (QE_ld1 0 rfl rfl rfl rfl rfl) rfl ?_
           refine JA_q 18 rfl (by kernel_rfl) (by kernel_rfl) (by kernel_rfl) ⟨_, rfl, rfl⟩ (QE_eq rfl rfl) rfl ?_
           refine JA_q 19 rfl (by kernel_rfl) (by kernel_rfl) (by kernel_rfl) trivial (QE_pickF rfl rfl) rfl ?_
           refine JA_done (by kernel_rfl) ?_
           refine thenQ_n ?_
           refine JC_ifD rfl (fun c31 => ?_) (fun c31 => ?_)
           ·
            have hs : sameKey x y = true := by first | exact same_T1 (by assumption) | exact same_T2 (by assumption)
            refine JC_seq ?_
            refine JC_region ?_
            refine JO_q (QE_mv rfl) rfl ?_
            refine JO_call (first := []) (captured := []) rfl rfl rfl (at_ac D _ _ _ _) ?_
            rintro _ _ s32 h32 ⟨rfl, rfl⟩
            refine JO_st 1 [_, _] rfl rfl rfl rfl rfl rfl rfl rfl rfl ?_
            refine JO_nil ?_
            refine thenQ_n ?_
            refine JC_ret ?_
            refine blockQ_r ?_
            refine thenQ_r ?_
            refine thenQ_r ?_
            refine blockQ_r ?_
            refine blockQ_r ?_
            refine thenQ_r ?_
            refine thenQ_r ?_
            refine blockQ_r ?_
            refine thenQ_r ?_
            refine retQ_mk [_, _, _] L (.inr rfl) (.agg (us := [_, _]) 1 rfl rfl rfl rfl rfl (.nil)) rfl (Le.trans (Le.trans (Le.trans (Le.trans (Le.trans (Le.trans (Le.trans (Le.trans (Le.trans h1 h2) h3) I8.1) h10) h11) I20.1) I26.1) h28) h32) (fun sR hS2 => ?_)
            refine ⟨?_, rfl⟩
            have hf := firstNZ_none (l := x.acts) (f := fun a => actCode a x.operand) (fun i a hi h => hJ i a (by omega) h)
            have hs2 : (t.ins.take k).any (sameKey x) = true := any_take hy hmk hs
            simp only [resV]; rw [tab_hit (k := k) (c := 8) (by omega) (by omega) hI (by omega) (by simp [rowCode, hx, insCode, hm, h8, hf, hs2]) (by decide)]; done
           ·
            have hs : sameKey x y = false := same_F (by assumption) (by assumption)
            refine JC_skip ?_
            refine blockQ_n ?_
            refine thenQ_n ?_
            refine JC_region ?_
            refine JO_q (QE_mv rfl) rfl ?_
            refine JO_q (QE_add' rfl rfl (w64 (by omega) (by omega))) rfl ?_
            refine JO_q (QE_as rfl) rfl ?_
            refine JO_nil ?_
            refine thenQ_n ⟨(m + 1), [], (Keeps.cons rfl (Keeps.cons rfl (Keeps.cons rfl (Keeps.cons rfl (Keeps.cons rfl (Keeps.nil _)))))), rfl, ⟨(Le.trans I26.1 h28), ⟨by omega, below_succ hM hy hs⟩⟩, (by omega)⟩
         ·
          refine JC_exit ?_
          refine thenQ_x ?_
          refine thenQ_x ?_
          refine blockQ_x ?_
          refine blockQ_n ?_
          refine thenQ_n ?_
          refine JC_region ?_
          refine JO_q (QE_mv rfl) rfl ?_
          refine JO_q (QE_add' rfl rfl (w64 (by omega) (by omega))) rfl ?_
          refine JO_q (QE_as rfl) rfl ?_
          refine JO_nil ?_
          refine thenQ_n ⟨(k + 1), [_], (Keeps.cons rfl (Keeps.cons rfl (Keeps.cons rfl (Keeps.nil _)))), rfl, ⟨(Le.trans (Le.trans (Le.trans (Le.trans I8.1 h10) h11) I20.1) I26.1), ⟨by omega, fun i hi => by rcases Nat.lt_succ_iff_lt_or_eq.1 hi with h | rfl; exact hI i h; exact row_ok hx hm h8 (fun i a hi h => hJ i a (by omega) h) (fun i y hi h => hM i y (by omega) h)⟩⟩, (by omega)⟩
   ·
    refine JC_exit ?_
    refine thenQ_x ?_
    refine thenQ_x ?_
    refine blockQ_x ?_
    refine thenQ_n ?_
    refine JC_seq ?_
    refine JC_region ?_
    refine JO_q (QE_build [] [_, _] rfl rfl rfl rfl rfl rfl) rfl ?_
    refine JO_st 0 [_, _] rfl rfl rfl rfl rfl rfl rfl rfl rfl ?_
    refine JO_nil ?_
    refine thenQ_n ?_
    refine JC_ret ?_
    refine retQ_mk [_, _] L (.inr rfl) (.agg (us := [_, _]) 0 rfl rfl rfl rfl rfl (.nil)) rfl (Le.trans (Le.trans (Le.trans h1 h2) h3) I8.1) (fun sR hS2 => ?_)
    refine ⟨?_, rfl⟩
    simp only [resV]; rw [tab_none (by omega) (by omega) (fun i hi => hI i (by omega))]; done
end Go.Proofs.YteomcjpigoaioaaGreatDoor
namespace Go.FL
open Go Go.RowKit Go.Proofs.YteomcjpigoaioaaGreatDoor
theorem bytes_fold (l : List UInt8) (r : ByteArray) : (l.map (fun x => (x.toNat : Int))).foldl (fun r n => r.push (UInt8.ofNat n.toNat)) r = ⟨r.data ++ l.toArray⟩ := by
  induction l generalizing r with
  | nil => cases r; simp
  | cons x l ih =>
    simp only [List.map_cons, List.foldl_cons, ih]
    apply ByteArray.ext
    simp [ByteArray.push]
theorem QE_b2s {P : Program} {TT : TyTab} {D : Nat} {fr : Fr} {ty : Nat} {K : Hl} {s0 : World} {x : Operand} {t t' e : Nat} {A : Option Addr} {n c : Nat} {l : List UInt8} {ti ti' te : TI} (hx : lk fr x = some (.slice A n c)) (ht : tlook TT t = some ti) (hk : ti.kind = .sl e) (he : tlook TT e = some te) (hke : te.desc = .int .u8)
    (ht' : tlook TT t' = some ti') (hk' : ti'.desc = .string) (h : Bts s0 A n c l) : QE P TT D fr (.convert t t' x) ty K s0 (St l) := fun hT dst pos af g ρ hρ L s ho hl _ => by
  obtain ⟨k1, k2, _⟩ := hT.at_ ht
  rw [hk] at k2
  simp only [TK.fits] at k2
  rw [k2] at k1
  have k3 := (hT.at_ he).1
  rw [hke] at k3
  have k4 := (hT.at_ ht').1
  rw [hk'] at k4
  have hc := run_convert_bytes_string (P := P) (fill L s) t t' e A n c k1 k3 k4
  simp only [execOp, hρ x _ hx, Sem.run_bind, hc]
  cases A with
  | none =>
    have : l = [] := by
      cases l with
      | nil => rfl
      | cons y l => obtain ⟨b, off, cs, h1, _⟩ := h.2.2.2 0 y rfl; cases h1
    subst this
    simp [Conv.bytesToString]
    rfl
  | some a =>
    have hcells : ∀ j v, (l.map (fun x => Value.int .u8 (x.toNat : Int)))[j]? = some v → (fill L s).cell? (a.add j) = some v := fun j v hj => by
      rw [List.getElem?_map] at hj
      cases hx : l[j]? with
      | none => simp [hx] at hj
      | some y =>
        simp [hx] at hj
        obtain ⟨b, off, cs, h1, h2, h3, rfl⟩ := h.2.2.2 j y hx
        injection h1 with h1; subst h1
        have := h2 0 _ rfl
        rw [add_lit, ← hj]
        simpa using fill_cell ho (hl.cell this)
    have hload := run_loadCells_list (P := P) (fill L s) a (l.map (fun x => Value.int .u8 (x.toNat : Int))) hcells
    rw [List.length_map, ← h.1] at hload
    have hr := run_bytesToString (P := P) (fill L s) a n c (l.map (fun x => (x.toNat : Int))) (by rw [hload, List.map_map]; rfl)
    rw [hr, bytes_fold]
    have he : (⟨ByteArray.empty.data ++ l.toArray⟩ : ByteArray) = ⟨l.toArray⟩ := by apply ByteArray.ext; exact Array.empty_append
    simp only [Result.andThen_ok, Sem.run_pure, he]
end Go.FL
namespace Go.Proofs.YteomcjpigoaioaaGreatDoor
open Go Go.FL
theorem same_lists {α : Type} {l m : List α} (hl : l.length = m.length) (h : ∀ i x, i < l.length → l[i]? = some x → m[i]? = some x) : l = m := by
  apply List.ext_getElem?
  intro i
  by_cases hi : i < l.length
  · rw [h i _ hi (List.getElem?_eq_getElem hi), List.getElem?_eq_getElem hi]
  · rw [List.getElem?_eq_none (by omega), List.getElem?_eq_none (by omega)]
theorem diff_lists {α : Type} {l m : List α} {i : Nat} {x y : α} (h1 : l[i]? = some x) (h2 : m[i]? = some y) (h : x ≠ y) : l ≠ m := fun e => by
  subst e; rw [h1] at h2; injection h2; contradiction
theorem firstBad_zero (f : Nat → Int) (m j : Nat) : (firstBad f m j).1 = 0 → (firstBad f m j).2 = 0 := by
  induction m generalizing j with
  | zero => intro _; rfl
  | succ m ih =>
    simp only [firstBad]
    split
    · intro h; contradiction
    · exact ih _
theorem tab_zero (t : Tab) : (tabFault t).1 = 0 → (tabFault t).2 = 0 := by
  unfold tabFault
  split
  · intro h; cases h
  split
  · intro h; cases h
  · exact firstBad_zero _ _ _
end Go.Proofs.YteomcjpigoaioaaGreatDoor
