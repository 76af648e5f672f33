/- Part 2 of the proof of asmCommentsDoNotMatter_holds: texts Dt, Pl, Eq, V1, Ds, V3, FlI, FlJ, Dm, Db, V4, Dp, Da, Dq, FlK, Dr, V9, V10, V11, V14, Du, FlL, Dv, V18, Ea, Eb, W1. -/
import Derived.Test.YteomcjpigoaioaaGreatDoorQ6x1
import Derived.Laws.StructEq
import Derived.Laws.BytesString
import Derived.Maps.AppendAt
import Derived.Laws.MakeOwn
import Derived.Laws.CopyRow
import Derived.MapKept
import Derived.Laws.RangeAny
import Derived.Lib.DecodeN
import Derived.Lib.SmallJoins
set_option linter.unusedVariables false
set_option linter.unusedSimpArgs false
set_option linter.unnecessarySimpa false
namespace Go.Proofs.YteomcjpigoaioaaGreatDoor
open Go Go.FL
structure Tm where
  kind : Int
  val : Int
  deriving DecidableEq
structure Ac where
  kind : Int
  tgt : Int
  x : Tm
  y : Tm
  deriving DecidableEq
structure Ins where
  name : List UInt8
  code : Int
  operand : Bool
  acts : List Ac
  deriving DecidableEq
structure Tab where
  cells : Int
  ins : List Ins
  deriving DecidableEq
def Sl {α : Type} (sz : Nat) (R : World → α → List Value → Prop) (s : World) (A : Option Addr) (n c : Nat) (l : List α) : Prop :=
  n = l.length ∧ n ≤ c ∧ c ≤ 9223372036854775807 ∧ ∀ i x, l[i]? = some x → ∃ b off cs, A = some ⟨b, off, none⟩ ∧ CellsAt s b (off + i * sz) cs ∧ cs.length = sz ∧ R s x cs
theorem Sl.le {α : Type} {sz : Nat} {R : World → α → List Value → Prop} {D : Nat} {s s' : World} {A : Option Addr} {n c : Nat} {l : List α} (hR : ∀ x cs, R s x cs → R s' x cs) (h : Sl sz R s A n c l) (hl : Le D s s') : Sl sz R s' A n c l :=
  ⟨h.1, h.2.1, h.2.2.1, fun i x hi => by
    obtain ⟨b, off, cs, h1, h2, h3, h4⟩ := h.2.2.2 i x hi
    exact ⟨b, off, cs, h1, h2.le hl, h3, hR x cs h4⟩⟩
def U32 (x : Int) : Prop := 0 ≤ x ∧ x < 4294967296
def Ac.cs (a : Ac) : List Value := [.int .i64 a.kind, .int .i64 a.tgt, .int .i64 a.x.kind, .int .u32 a.x.val, .int .i64 a.y.kind, .int .u32 a.y.val]
def Acs (s : World) (A : Option Addr) (n c : Nat) (l : List Ac) : Prop := Sl 6 (fun _ a cs => cs = a.cs ∧ U32 a.x.val ∧ U32 a.y.val) s A n c l
theorem Acs.le {D : Nat} {s s' : World} {A : Option Addr} {n c : Nat} {l : List Ac} (h : Acs s A n c l) (hl : Le D s s') : Acs s' A n c l := Sl.le (fun _ _ h => h) h hl
def InsR (s : World) (x : Ins) (cs : List Value) : Prop := ∃ A n c, cs = [St x.name, .int .u32 x.code, .bool x.operand, .slice A n c] ∧ Acs s A n c x.acts ∧ x.name.length ≤ 9223372036854775807 ∧ U32 x.code
def Inss (s : World) (A : Option Addr) (n c : Nat) (l : List Ins) : Prop := Sl 4 InsR s A n c l
theorem InsR.le {D : Nat} {s s' : World} {x : Ins} {cs : List Value} (h : InsR s x cs) (hl : Le D s s') : InsR s' x cs := by
  obtain ⟨A, n, c, h1, h2, h3⟩ := h
  exact ⟨A, n, c, h1, h2.le hl, h3⟩
theorem Inss.le {D : Nat} {s s' : World} {A : Option Addr} {n c : Nat} {l : List Ins} (h : Inss s A n c l) (hl : Le D s s') : Inss s' A n c l := Sl.le (fun _ _ h => h.le hl) h hl
theorem Acs.at_ {s : World} {A : Option Addr} {n c k : Nat} {l : List Ac} (h : Acs s A n c l) (hk : k < n) : ∃ b off a, A = some ⟨b, off, none⟩ ∧ l[k]? = some a ∧
    CellsAt s b (off + k * 6) [.int .i64 a.kind, .int .i64 a.tgt, .int .i64 a.x.kind, .int .u32 a.x.val, .int .i64 a.y.kind, .int .u32 a.y.val] ∧ U32 a.x.val ∧ U32 a.y.val := by
  have hl : k < l.length := by rw [← h.1]; exact hk
  obtain ⟨b, off, cs, h1, h2, _, rfl, h5⟩ := h.2.2.2 k l[k] (List.getElem?_eq_getElem hl)
  exact ⟨b, off, l[k], h1, List.getElem?_eq_getElem hl, h2, h5⟩
theorem Inss.at_ {s : World} {A : Option Addr} {n c k : Nat} {l : List Ins} (h : Inss s A n c l) (hk : k < n) : ∃ b off x A' n' c', A = some ⟨b, off, none⟩ ∧ l[k]? = some x ∧
    CellsAt s b (off + k * 4) [St x.name, .int .u32 x.code, .bool x.operand, .slice A' n' c'] ∧ Acs s A' n' c' x.acts ∧ x.name.length ≤ 9223372036854775807 ∧ U32 x.code := by
  have hl : k < l.length := by rw [← h.1]; exact hk
  obtain ⟨b, off, cs, h1, h2, _, A', n', c', rfl, h5, h6⟩ := h.2.2.2 k l[k] (List.getElem?_eq_getElem hl)
  exact ⟨b, off, l[k], A', n', c', h1, List.getElem?_eq_getElem hl, h2, h5, h6⟩
theorem Sl.take {α : Type} {sz : Nat} {R : World → α → List Value → Prop} {s : World} {A : Option Addr} {n c k : Nat} {l : List α} (h : Sl sz R s A n c l) (hk : k < n) : Sl sz R s A k c (l.take k) :=
  ⟨by have := h.1; simp; omega, by have := h.2.1; omega, h.2.2.1, fun i x hi => h.2.2.2 i x (by
    rw [List.getElem?_take] at hi
    split at hi
    · exact hi
    · cases hi)⟩
theorem Inss.take {s : World} {A : Option Addr} {n c k : Nat} {l : List Ins} (h : Inss s A n c l) (hk : k < n) : Inss s A k c (l.take k) := Sl.take h hk
def Wds (s : World) (A : Option Addr) (n c : Nat) (l : List Int) : Prop := Sl 1 (fun _ x cs => cs = [.int .u32 x] ∧ U32 x) s A n c l
def Bts (s : World) (A : Option Addr) (n c : Nat) (l : List UInt8) : Prop := Sl 1 (fun _ x cs => cs = [.int .u8 (x.toNat : Int)]) s A n c l
theorem Wds.le {D : Nat} {s s' : World} {A : Option Addr} {n c : Nat} {l : List Int} (h : Wds s A n c l) (hl : Le D s s') : Wds s' A n c l := Sl.le (fun _ _ h => h) h hl
theorem Bts.le {D : Nat} {s s' : World} {A : Option Addr} {n c : Nat} {l : List UInt8} (h : Bts s A n c l) (hl : Le D s s') : Bts s' A n c l := Sl.le (fun _ _ h => h) h hl
theorem Wds.at_ {s : World} {A : Option Addr} {n c k : Nat} {l : List Int} (h : Wds s A n c l) (hk : k < n) : ∃ b off x, A = some ⟨b, off, none⟩ ∧ l[k]? = some x ∧ CellsAt s b (off + k) [.int .u32 x] ∧ U32 x := by
  have hl : k < l.length := by rw [← h.1]; exact hk
  obtain ⟨b, off, cs, h1, h2, _, rfl, h4⟩ := h.2.2.2 k l[k] (List.getElem?_eq_getElem hl)
  exact ⟨b, off, l[k], h1, List.getElem?_eq_getElem hl, by simpa using h2, h4⟩
theorem Bts.at_ {s : World} {A : Option Addr} {n c k : Nat} {l : List UInt8} (h : Bts s A n c l) (hk : k < n) : ∃ b off x, A = some ⟨b, off, none⟩ ∧ l[k]? = some x ∧ CellsAt s b (off + k) [.int .u8 (x.toNat : Int)] := by
  have hl : k < l.length := by rw [← h.1]; exact hk
  obtain ⟨b, off, cs, h1, h2, _, rfl⟩ := h.2.2.2 k l[k] (List.getElem?_eq_getElem hl)
  exact ⟨b, off, l[k], h1, List.getElem?_eq_getElem hl, by simpa using h2⟩
structure Mst where
  cells : List Int
  r0 : Int
  r1 : Int
  r2 : Int
  r3 : Int
  r4 : Int
  input : List UInt8
  output : List UInt8
  stop : Int
  code : Int
  deriving DecidableEq
end Go.Proofs.YteomcjpigoaioaaGreatDoor
namespace Go.Proofs.YteomcjpigoaioaaGreatDoor
open Go Go.FL
theorem below_succ {α : Type} {p : Nat → α → Prop} {l : List α} {k : Nat} {a : α} (h : ∀ i b, i < k → l[i]? = some b → p i b) (hk : l[k]? = some a) (ha : p k a) : ∀ i b, i < k + 1 → l[i]? = some b → p i b := by
  intro i b hi hb
  rcases Nat.lt_succ_iff_lt_or_eq.1 hi with h1 | rfl
  · exact h i b h1 hb
  · rw [hk] at hb; injection hb with hb; subst hb; exact ha
def letB (c : UInt8) : Bool := decide (97 ≤ c.toNat) && decide (c.toNat ≤ 122)
def digB (c : UInt8) : Bool := decide (48 ≤ c.toNat) && decide (c.toNat ≤ 57)
def chOK (i : Nat) (c : UInt8) : Bool := letB c || (digB c && decide (i ≠ 0))
def charsFrom (i : Nat) : List UInt8 → Bool
  | [] => true
  | c :: r => chOK i c && charsFrom (i + 1) r
theorem charsFrom_iff (l : List UInt8) (i : Nat) : charsFrom i l = true ↔ ∀ j c, l[j]? = some c → chOK (i + j) c = true := by
  induction l generalizing i with
  | nil => simp [charsFrom]
  | cons c r ih =>
    simp only [charsFrom, Bool.and_eq_true, ih]
    constructor
    · rintro ⟨h1, h2⟩ j d hj
      cases j with
      | zero => simp at hj; subst hj; exact h1
      | succ j => simp at hj; have := h2 j d hj; rwa [Nat.add_assoc, Nat.add_comm 1 j] at this
    · intro h
      exact ⟨by simpa using h 0 c (by simp), fun j d hj => by have := h (j + 1) d (by simpa using hj); rwa [Nat.add_assoc, Nat.add_comm 1 j]⟩
theorem chars_all {l : List UInt8} (h : ∀ i c, i < l.length → l[i]? = some c → chOK i c = true) : charsFrom 0 l = true :=
  (charsFrom_iff l 0).2 fun j c hj => by
    have hl : j < l.length := (List.getElem?_eq_some_iff.1 hj).1
    simpa using h j c hl hj
theorem chars_not {l : List UInt8} {k : Nat} {c : UInt8} (hk : l[k]? = some c) (h : chOK k c = false) : charsFrom 0 l = false := by
  cases hb : charsFrom 0 l with
  | false => rfl
  | true => have := (charsFrom_iff l 0).1 hb k c hk; simp at this; rw [this] at h; cases h
def labelB (l : List UInt8) : Bool := decide (l ≠ []) && decide (l.length ≤ 6) && charsFrom 0 l
def mnemB (l : List UInt8) : Bool := labelB l && decide (l ≠ [119, 111, 114, 100]) && decide (l ≠ [115, 112, 97, 99, 101])
def firstNZ : List Int → Int
  | [] => 0
  | c :: r => if c ≠ 0 then c else firstNZ r
theorem firstNZ_hit {α : Type} {f : α → Int} {l : List α} {k : Nat} {a : α} (h : ∀ i b, i < k → l[i]? = some b → f b = 0) (hk : l[k]? = some a) (ha : f a ≠ 0) : firstNZ (l.map f) = f a := by
  induction l generalizing k with
  | nil => simp at hk
  | cons b r ih =>
    cases k with
    | zero => simp at hk; subst hk; simp [firstNZ, ha]
    | succ k =>
      have h0 := h 0 b (by omega) (by simp)
      simp only [List.map_cons, firstNZ, h0, ne_eq, not_true, if_false]
      exact ih (k := k) (fun i c hi hc => h (i + 1) c (by omega) (by simpa using hc)) (by simpa using hk)
theorem firstNZ_none {α : Type} {f : α → Int} {l : List α} (h : ∀ i b, i < l.length → l[i]? = some b → f b = 0) : firstNZ (l.map f) = 0 := by
  induction l with
  | nil => rfl
  | cons b r ih =>
    have h0 := h 0 b (by simp) (by simp)
    simp only [List.map_cons, firstNZ, h0, ne_eq, not_true, if_false]
    exact ih fun i c hi hc => h (i + 1) c (by simp; omega) (by simpa using hc)
def firstBad (f : Nat → Int) : Nat → Nat → Int × Int
  | 0, _ => (0, 0)
  | m + 1, k => if f k ≠ 0 then (f k, (k : Int)) else firstBad f m (k + 1)
theorem firstBad_hit {f : Nat → Int} {m k j : Nat} (h : ∀ i, j ≤ i → i < k → f i = 0) (hj : j ≤ k) (hk : f k ≠ 0) (hm : k < j + m) : firstBad f m j = (f k, (k : Int)) := by
  induction m generalizing j with
  | zero => omega
  | succ m ih =>
    by_cases he : j = k
    · subst he; simp [firstBad, hk]
    · have h0 := h j (Nat.le_refl _) (by omega)
      simp only [firstBad, h0, ne_eq, not_true, if_false]
      exact ih (fun i h1 h2 => h i (by omega) h2) (by omega) (by omega)
theorem firstBad_none {f : Nat → Int} {m j : Nat} (h : ∀ i, j ≤ i → i < j + m → f i = 0) : firstBad f m j = (0, 0) := by
  induction m generalizing j with
  | zero => rfl
  | succ m ih =>
    have h0 := h j (Nat.le_refl _) (by omega)
    simp only [firstBad, h0, ne_eq, not_true, if_false]
    exact ih fun i h1 h2 => h i (by omega) (by omega)
def usesT (k : Int) : Bool := !(decide (k = 14) || decide (k = 18) || decide (k = 16) || decide (k = 17))
def usesX (k : Int) : Bool := !(decide (k = 15))
def usesY (k : Int) : Bool := !(decide (k = 16) || decide (k = 17) || decide (k = 15) || decide (k = 0) || decide (k = 13))
def termB (t : Tm) (u o : Bool) : Bool := if u then (decide (t.kind = 0) || decide (t.kind = 1) && decide (t.val ≤ 4) || decide (t.kind = 2) && decide (t.val = 0) && o) else decide (t.kind = 0) && decide (t.val = 0)
def actCode (a : Ac) (o : Bool) : Int :=
  if a.kind < 0 ∨ 20 ≤ a.kind then 5 else if a.tgt < 0 ∨ 4 < a.tgt then 4
  else if (!usesT a.kind && decide (a.tgt ≠ 0)) || !termB a.x (usesX a.kind) o || !termB a.y (usesY a.kind) o then 6 else 0
def insCode (x : Ins) : Int := if mnemB x.name = false then 7 else if 8 < x.acts.length then 2 else firstNZ (x.acts.map fun a => actCode a x.operand)
def sameKey (x y : Ins) : Bool := decide (x.name = y.name) || decide (x.code = y.code)
def idxOf {α : Type} (p : α → Bool) : List α → Nat → Int
  | [], _ => -1
  | x :: r, k => if p x then (k : Int) else idxOf p r (k + 1)
theorem idxOf_hit {α : Type} {p : α → Bool} {l : List α} {k j : Nat} {a : α} (h : ∀ i b, i < k → l[i]? = some b → p b = false) (hk : l[k]? = some a) (ha : p a = true) : idxOf p l j = (j + k : Nat) := by
  induction l generalizing k j with
  | nil => simp at hk
  | cons b r ih =>
    cases k with
    | zero => simp at hk; subst hk; simp [idxOf, ha]
    | succ k =>
      have h0 := h 0 b (by omega) (by simp)
      simp only [idxOf, h0, Bool.false_eq_true, if_false]
      rw [ih (k := k) (fun i c hi hc => h (i + 1) c (by omega) (by simpa using hc)) (by simpa using hk)]
      congr 1; omega
theorem idxOf_none {α : Type} {p : α → Bool} {l : List α} {j : Nat} (h : ∀ i b, i < l.length → l[i]? = some b → p b = false) : idxOf p l j = -1 := by
  induction l generalizing j with
  | nil => rfl
  | cons b r ih =>
    have h0 := h 0 b (by simp) (by simp)
    simp only [idxOf, h0, Bool.false_eq_true, if_false]
    exact ih fun i c hi hc => h (i + 1) c (by simp; omega) (by simpa using hc)
theorem idxOf_any {α : Type} (p : α → Bool) (l : List α) (j : Nat) : decide (0 ≤ idxOf p l j) = l.any p := by
  induction l generalizing j with
  | nil => simp [idxOf]
  | cons b r ih =>
    by_cases hb : p b = true
    · simp [idxOf, hb]
    · simp only [idxOf, hb]; simpa [hb] using ih (j + 1)
def rowCode (l : List Ins) (k : Nat) : Int := match l[k]? with
  | none => 0
  | some x => if insCode x ≠ 0 then insCode x else if (l.take k).any (sameKey x) then 8 else 0
def tabFault (t : Tab) : Int × Int :=
  if t.cells < 1 ∨ 65536 < t.cells then (4, -1) else if 64 < t.ins.length then (2, -1) else firstBad (rowCode t.ins) t.ins.length 0
end Go.Proofs.YteomcjpigoaioaaGreatDoor
namespace Go.Proofs.YteomcjpigoaioaaGreatDoor
open Go Go.FL
theorem aggOne {P : Program} {t : Nat} {ti : TI} (h : ti.ok P t) (hk : isOne ti.kind = true) (w : World) : (isAgg t).run P w = .ok false w := by rw [run_isAgg' h, hk]; rfl
theorem eqTermIn (d : Nat) (a b c e : Int) (w : World) : (Op.equalIn (d + 2) 115 (.agg #[.int .i64 a, .int .u32 b]) (.agg #[.int .i64 c, .int .u32 e])).run Tryz.prog w = .ok (decide (a = c) && decide (b = e)) w := by
  rw [run_equalIn_agg w (d + 1) 115 _ _ (by kernel_rfl) (by kernel_rfl)]
  simp only [Program.fieldsOf, Tryz.underlying115, Op.eqFields, part]
  simp [aggOne ti3_ok rfl, aggOne ti52_ok rfl, run_equalIn_int w d 3 .i64 .i64 _ _ Tryz.underlying3, run_equalIn_int w d 52 .u32 .u32 _ _ Tryz.underlying52]
  by_cases h1 : a = c <;> by_cases h2 : b = e <;> simp [h1, h2]
theorem eqTerm (a b c d : Int) : EqA Tryz.prog 115 [.int .i64 a, .int .u32 b] [.int .i64 c, .int .u32 d] (decide (a = c) && decide (b = d)) := ⟨by kernel_rfl, fun w => eqTermIn 9998 a b c d w⟩
theorem eqFault (a b c d : Int) : EqA Tryz.prog 27 [.int .i64 a, .int .i64 b] [.int .i64 c, .int .i64 d] (decide (a = c ∧ b = d)) := ⟨by kernel_rfl, fun w => by
  show (Op.equalIn (9998 + 2) 27 _ _).run Tryz.prog w = _
  rw [run_equalIn_agg w 9999 27 _ _ (by kernel_rfl) (by kernel_rfl)]
  simp only [Program.fieldsOf, Tryz.underlying27, Op.eqFields, part]
  simp [aggOne ti3_ok rfl, run_equalIn_int w 9998 3 .i64 .i64 _ _ Tryz.underlying3]
  by_cases h1 : a = c <;> by_cases h2 : b = d <;> simp [h1, h2]⟩
end Go.Proofs.YteomcjpigoaioaaGreatDoor
namespace Go.Proofs.YteomcjpigoaioaaGreatDoor
open Go.FL
attribute [local irreducible] JC JO JA JB thenQ blockQ retQ AC fill CellsAt QE Ev Mid
set_option maxHeartbeats 1000000 in
set_option maxRecDepth 100000 in
theorem fault_ac (D : Nat) (L : Hl) (s : World) (c i : Int) : AC Tryz.prog D 64 [.int .i64 c, .int .i64 i] L s fun v L' _ => v = .agg #[.int .i64 c, .int .i64 i] ∧ L = L' := by
 refine AC_enter (TT := TT) (fn := Tryz.f64) TT_ok Tryz.func64 (by kernel_rfl) rfl Tryz.ntmps64 rfl (rs := [.cell 4 27]) rfl [(0, _), (1, _)] rfl ?_
 refine JC_seq ?_
 refine JC_region ?_
 refine JO_allocZ rfl [_, _] rfl rfl ?_
 intro β1 s1 h1
 refine JO_nil ?_
 refine thenQ_n ?_
 refine JC_seq ?_
 refine JC_region ?_
 refine JO_q (QE_mv rfl) rfl ?_
 refine JO_q (QE_mv rfl) rfl ?_
 refine JO_q (QE_build [(_, _), (_, _)] [_, _] rfl rfl rfl rfl rfl rfl) rfl ?_
 refine JO_st 0 [_, _] rfl rfl rfl rfl rfl rfl rfl rfl rfl ?_
 refine JO_nil ?_
 refine thenQ_n ?_
 refine JC_ret ?_
 refine retQ_mk [_] L (.inr rfl) (.agg (us := [_, _]) 0 rfl rfl rfl rfl rfl (.nil)) rfl h1 (fun sR hS2 => ?_)
 exact ⟨rfl, rfl⟩
set_option maxHeartbeats 1000000 in
set_option maxRecDepth 100000 in
theorem uses_ac (D : Nat) (L : Hl) (s : World) (k : Int) : AC Tryz.prog D 123 [.int .i64 k] L s fun v L' _ => v = .tuple #[.bool (usesT k), .bool (usesX k), .bool (usesY k)] ∧ L = L' := by
 refine AC_enter (TT := TT) (fn := Tryz.f123) TT_ok Tryz.func123 (by kernel_rfl) rfl Tryz.ntmps123 rfl (rs := [.tmp 2, .tmp 3, .tmp 4]) rfl [(0, _)] rfl ?_
 refine JC_seq ?_
 refine JC_region ?_
 refine JO_q (QE_as rfl) rfl ?_
 refine JO_q (QE_as rfl) rfl ?_
 refine JO_q (QE_as rfl) rfl ?_
 refine JO_nil ?_
 refine thenQ_n ?_
 refine JC_seq ?_
 refine JC_region ?_
 refine JO_q (QE_as rfl) rfl ?_
 refine JO_q (QE_as rfl) rfl ?_
 refine JO_q (QE_as rfl) rfl ?_
 refine JO_nil ?_
 refine thenQ_n ?_
 refine JC_seq ?_
 refine JC_seq ?_
 refine JC_region ?_
 refine JO_q (QE_mv rfl) rfl ?_
 refine JO_nil ?_
 refine thenQ_n ?_
 refine JC_block ?_
 refine JC_seq ?_
 refine JC_seq ?_
 refine JC_region ?_
 refine JO_q (QE_eq rfl rfl) rfl ?_
 refine JO_q (QE_as rfl) rfl ?_
 refine JO_nil ?_
 refine thenQ_n ?_
 refine JC_ifD rfl (fun c1 => ?_) (fun c1 => ?_)
 ·
  refine JC_skip ?_
  refine thenQ_n ?_
  refine JC_ifD rfl (fun c2 => ?_) (fun c2 => ?_)
  ·
   refine JC_region ?_
   refine JO_q (QE_as rfl) rfl ?_
   refine JO_nil ?_
   refine blockQ_n ?_
   refine thenQ_n ?_
   refine JC_seq ?_
   refine JC_region ?_
   refine JO_q (QE_mv rfl) rfl ?_
   refine JO_q (QE_mv rfl) rfl ?_
   refine JO_q (QE_mv rfl) rfl ?_
   refine JO_q (QE_as rfl) rfl ?_
   refine JO_q (QE_as rfl) rfl ?_
   refine JO_q (QE_as rfl) rfl ?_
   refine JO_nil ?_
   refine thenQ_n ?_
   refine JC_ret ?_
   refine retQ_mk [] L (.inr rfl) (.tmp rfl (.tmp rfl (.tmp rfl (.nil)))) rfl (Le.refl (D := D) _) (fun sR hS2 => ?_)
   exact ⟨by simp_all [resV, usesT, usesX, usesY], rfl⟩
  ·
   refine JC_seq ?_
   refine JC_seq ?_
   refine JC_region ?_
   refine JO_q (QE_eq rfl rfl) rfl ?_
   refine JO_q (QE_as rfl) rfl ?_
   refine JO_nil ?_
   refine thenQ_n ?_
   refine JC_ifD rfl (fun c3 => ?_) (fun c3 => ?_)
   ·
    refine JC_skip ?_
    refine thenQ_n ?_
    refine JC_ifD rfl (fun c4 => ?_) (fun c4 => ?_)
    ·
     refine JC_region ?_
     refine JO_q (QE_as rfl) rfl ?_
     refine JO_q (QE_as rfl) rfl ?_
     refine JO_nil ?_
     refine blockQ_n ?_
     refine thenQ_n ?_
     refine JC_seq ?_
     refine JC_region ?_
     refine JO_q (QE_mv rfl) rfl ?_
     refine JO_q (QE_mv rfl) rfl ?_
     refine JO_q (QE_mv rfl) rfl ?_
     refine JO_q (QE_as rfl) rfl ?_
     refine JO_q (QE_as rfl) rfl ?_
     refine JO_q (QE_as rfl) rfl ?_
     refine JO_nil ?_
     refine thenQ_n ?_
     refine JC_ret ?_
     refine retQ_mk [] L (.inr rfl) (.tmp rfl (.tmp rfl (.tmp rfl (.nil)))) rfl (Le.refl (D := D) _) (fun sR hS2 => ?_)
     exact ⟨by simp_all [resV, usesT, usesX, usesY], rfl⟩
    ·
     refine JC_seq ?_
     refine JC_region ?_
     refine JO_q (QE_eq rfl rfl) rfl ?_
     refine JO_q (QE_as rfl) rfl ?_
     refine JO_nil ?_
     refine thenQ_n ?_
     refine JC_ifD rfl (fun c5 => ?_) (fun c5 => ?_)
     ·
      refine JC_region ?_
      refine JO_q (QE_as rfl) rfl ?_
      refine JO_q (QE_as rfl) rfl ?_
      refine JO_nil ?_
      refine blockQ_n ?_
      refine thenQ_n ?_
      refine JC_seq ?_
      refine JC_region ?_
      refine JO_q (QE_mv rfl) rfl ?_
      refine JO_q (QE_mv rfl) rfl ?_
      refine JO_q (QE_mv rfl) rfl ?_
      refine JO_q (QE_as rfl) rfl ?_
      refine JO_q (QE_as rfl) rfl ?_
      refine JO_q (QE_as rfl) rfl ?_
      refine JO_nil ?_
      refine thenQ_n ?_
      refine JC_ret ?_
      refine retQ_mk [] L (.inr rfl) (.tmp rfl (.tmp rfl (.tmp rfl (.nil)))) rfl (Le.refl (D := D) _) (fun sR hS2 => ?_)
      exact ⟨by simp_all [resV, usesT, usesX, usesY], rfl⟩
     ·
      refine JC_seq ?_
      refine JC_seq ?_
      refine JC_region ?_
      refine JO_q (QE_eq rfl rfl) rfl ?_
      refine JO_q (QE_as rfl) rfl ?_
      refine JO_nil ?_
      refine thenQ_n ?_
      refine JC_ifD rfl (fun c6 => ?_) (fun c6 => ?_)
      ·
       refine JC_skip ?_
       refine thenQ_n ?_
       refine JC_ifD rfl (fun c7 => ?_) (fun c7 => ?_)
       ·
        refine JC_region ?_
        refine JO_q (QE_as rfl) rfl ?_
        refine JO_nil ?_
        refine blockQ_n ?_
        refine thenQ_n ?_
        refine JC_seq ?_
        refine JC_region ?_
        refine JO_q (QE_mv rfl) rfl ?_
        refine JO_q (QE_mv rfl) rfl ?_
        refine JO_q (QE_mv rfl) rfl ?_
        refine JO_q (QE_as rfl) rfl ?_
        refine JO_q (QE_as rfl) rfl ?_
        refine JO_q (QE_as rfl) rfl ?_
        refine JO_nil ?_
        refine thenQ_n ?_
        refine JC_ret ?_
        refine retQ_mk [] L (.inr rfl) (.tmp rfl (.tmp rfl (.tmp rfl (.nil)))) rfl (Le.refl (D := D) _) (fun sR hS2 => ?_)
        exact ⟨by simp_all [resV, usesT, usesX, usesY], rfl⟩
       ·
        refine JC_skip ?_
        refine blockQ_n ?_
        refine thenQ_n ?_
        refine JC_seq ?_
        refine JC_region ?_
        refine JO_q (QE_mv rfl) rfl ?_
        refine JO_q (QE_mv rfl) rfl ?_
        refine JO_q (QE_mv rfl) rfl ?_
        refine JO_q (QE_as rfl) rfl ?_
        refine JO_q (QE_as rfl) rfl ?_
        refine JO_q (QE_as rfl) rfl ?_
        refine JO_nil ?_
        refine thenQ_n ?_
        refine JC_ret ?_
        refine retQ_mk [] L (.inr rfl) (.tmp rfl (.tmp rfl (.tmp rfl (.nil)))) rfl (Le.refl (D := D) _) (fun sR hS2 => ?_)
        exact ⟨by simp_all [resV, usesT, usesX, usesY], rfl⟩
      ·
       refine JC_region ?_
       refine JO_q (QE_eq rfl rfl) rfl ?_
       refine JO_q (QE_as rfl) rfl ?_
       refine JO_nil ?_
       refine thenQ_n ?_
       refine JC_ifD rfl (fun c8 => ?_) (fun c8 => ?_)
       ·
        refine JC_region ?_
        refine JO_q (QE_as rfl) rfl ?_
        refine JO_nil ?_
        refine blockQ_n ?_
        refine thenQ_n ?_
        refine JC_seq ?_
        refine JC_region ?_
        refine JO_q (QE_mv rfl) rfl ?_
        refine JO_q (QE_mv rfl) rfl ?_
        refine JO_q (QE_mv rfl) rfl ?_
        refine JO_q (QE_as rfl) rfl ?_
        refine JO_q (QE_as rfl) rfl ?_
        refine JO_q (QE_as rfl) rfl ?_
        refine JO_nil ?_
        refine thenQ_n ?_
        refine JC_ret ?_
        refine retQ_mk [] L (.inr rfl) (.tmp rfl (.tmp rfl (.tmp rfl (.nil)))) rfl (Le.refl (D := D) _) (fun sR hS2 => ?_)
        exact ⟨by simp_all [resV, usesT, usesX, usesY], rfl⟩
       ·
        refine JC_skip ?_
        refine blockQ_n ?_
        refine thenQ_n ?_
        refine JC_seq ?_
        refine JC_region ?_
        refine JO_q (QE_mv rfl) rfl ?_
        refine JO_q (QE_mv rfl) rfl ?_
        refine JO_q (QE_mv rfl) rfl ?_
        refine JO_q (QE_as rfl) rfl ?_
        refine JO_q (QE_as rfl) rfl ?_
        refine JO_q (QE_as rfl) rfl ?_
        refine JO_nil ?_
        refine thenQ_n ?_
        refine JC_ret ?_
        refine retQ_mk [] L (.inr rfl) (.tmp rfl (.tmp rfl (.tmp rfl (.nil)))) rfl (Le.refl (D := D) _) (fun sR hS2 => ?_)
        exact ⟨by simp_all [resV, usesT, usesX, usesY], rfl⟩
   ·
    refine JC_region ?_
    refine JO_q (QE_eq rfl rfl) rfl ?_
    refine JO_q (QE_as rfl) rfl ?_
    refine JO_nil ?_
    refine thenQ_n ?_
    refine JC_ifD rfl (fun c9 => ?_) (fun c9 => ?_)
    ·
     refine JC_region ?_
     refine JO_q (QE_as rfl) rfl ?_
     refine JO_q (QE_as rfl) rfl ?_
     refine JO_nil ?_
     refine blockQ_n ?_
     refine thenQ_n ?_
     refine JC_seq ?_
     refine JC_region ?_
     refine JO_q (QE_mv rfl) rfl ?_
     refine JO_q (QE_mv rfl) rfl ?_
     refine JO_q (QE_mv rfl) rfl ?_
     refine JO_q (QE_as rfl) rfl ?_
     refine JO_q (QE_as rfl) rfl ?_
     refine JO_q (QE_as rfl) rfl ?_
     refine JO_nil ?_
     refine thenQ_n ?_
     refine JC_ret ?_
     refine retQ_mk [] L (.inr rfl) (.tmp rfl (.tmp rfl (.tmp rfl (.nil)))) rfl (Le.refl (D := D) _) (fun sR hS2 => ?_)
     exact ⟨by simp_all [resV, usesT, usesX, usesY], rfl⟩
    ·
     refine JC_seq ?_
     refine JC_region ?_
     refine JO_q (QE_eq rfl rfl) rfl ?_
     refine JO_q (QE_as rfl) rfl ?_
     refine JO_nil ?_
     refine thenQ_n ?_
     refine JC_ifD rfl (fun c10 => ?_) (fun c10 => ?_)
     ·
      refine JC_region ?_
      refine JO_q (QE_as rfl) rfl ?_
      refine JO_q (QE_as rfl) rfl ?_
      refine JO_nil ?_
      refine blockQ_n ?_
      refine thenQ_n ?_
      refine JC_seq ?_
      refine JC_region ?_
      refine JO_q (QE_mv rfl) rfl ?_
      refine JO_q (QE_mv rfl) rfl ?_
      refine JO_q (QE_mv rfl) rfl ?_
      refine JO_q (QE_as rfl) rfl ?_
      refine JO_q (QE_as rfl) rfl ?_
      refine JO_q (QE_as rfl) rfl ?_
      refine JO_nil ?_
      refine thenQ_n ?_
      refine JC_ret ?_
      refine retQ_mk [] L (.inr rfl) (.tmp rfl (.tmp rfl (.tmp rfl (.nil)))) rfl (Le.refl (D := D) _) (fun sR hS2 => ?_)
      exact ⟨by simp_all [resV, usesT, usesX, usesY], rfl⟩
     ·
      refine JC_seq ?_
      refine JC_seq ?_
      refine JC_region ?_
      refine JO_q (QE_eq rfl rfl) rfl ?_
      refine JO_q (QE_as rfl) rfl ?_
      refine JO_nil ?_
      refine thenQ_n ?_
      refine JC_ifD rfl (fun c11 => ?_) (fun c11 => ?_)
      ·
       refine JC_skip ?_
       refine thenQ_n ?_
       refine JC_ifD rfl (fun c12 => ?_) (fun c12 => ?_)
       ·
        refine JC_region ?_
        refine JO_q (QE_as rfl) rfl ?_
        refine JO_nil ?_
        refine blockQ_n ?_
        refine thenQ_n ?_
        refine JC_seq ?_
        refine JC_region ?_
        refine JO_q (QE_mv rfl) rfl ?_
        refine JO_q (QE_mv rfl) rfl ?_
        refine JO_q (QE_mv rfl) rfl ?_
        refine JO_q (QE_as rfl) rfl ?_
        refine JO_q (QE_as rfl) rfl ?_
        refine JO_q (QE_as rfl) rfl ?_
        refine JO_nil ?_
        refine thenQ_n ?_
        refine JC_ret ?_
        refine retQ_mk [] L (.inr rfl) (.tmp rfl (.tmp rfl (.tmp rfl (.nil)))) rfl (Le.refl (D := D) _) (fun sR hS2 => ?_)
        exact ⟨by simp_all [resV, usesT, usesX, usesY], rfl⟩
       ·
        refine JC_skip ?_
        refine blockQ_n ?_
        refine thenQ_n ?_
        refine JC_seq ?_
        refine JC_region ?_
        refine JO_q (QE_mv rfl) rfl ?_
        refine JO_q (QE_mv rfl) rfl ?_
        refine JO_q (QE_mv rfl) rfl ?_
        refine JO_q (QE_as rfl) rfl ?_
        refine JO_q (QE_as rfl) rfl ?_
        refine JO_q (QE_as rfl) rfl ?_
        refine JO_nil ?_
        refine thenQ_n ?_
        refine JC_ret ?_
        refine retQ_mk [] L (.inr rfl) (.tmp rfl (.tmp rfl (.tmp rfl (.nil)))) rfl (Le.refl (D := D) _) (fun sR hS2 => ?_)
        exact ⟨by simp_all [resV, usesT, usesX, usesY], rfl⟩
      ·
       refine JC_region ?_
       refine JO_q (QE_eq rfl rfl) rfl ?_
       refine JO_q (QE_as rfl) rfl ?_
       refine JO_nil ?_
       refine thenQ_n ?_
       refine JC_ifD rfl (fun c13 => ?_) (fun c13 => ?_)
       ·
        refine JC_region ?_
        refine JO_q (QE_as rfl) rfl ?_
        refine JO_nil ?_
        refine blockQ_n ?_
        refine thenQ_n ?_
        refine JC_seq ?_
        refine JC_region ?_
        refine JO_q (QE_mv rfl) rfl ?_
        refine JO_q (QE_mv rfl) rfl ?_
        refine JO_q (QE_mv rfl) rfl ?_
        refine JO_q (QE_as rfl) rfl ?_
        refine JO_q (QE_as rfl) rfl ?_
        refine JO_q (QE_as rfl) rfl ?_
        refine JO_nil ?_
        refine thenQ_n ?_
        refine JC_ret ?_
        refine retQ_mk [] L (.inr rfl) (.tmp rfl (.tmp rfl (.tmp rfl (.nil)))) rfl (Le.refl (D := D) _) (fun sR hS2 => ?_)
        exact ⟨by simp_all [resV, usesT, usesX, usesY], rfl⟩
       ·
        refine JC_skip ?_
        refine blockQ_n ?_
        refine thenQ_n ?_
        refine JC_seq ?_
        refine JC_region ?_
        refine JO_q (QE_mv rfl) rfl ?_
        refine JO_q (QE_mv rfl) rfl ?_
        refine JO_q (QE_mv rfl) rfl ?_
        refine JO_q (QE_as rfl) rfl ?_
        refine JO_q (QE_as rfl) rfl ?_
        refine JO_q (QE_as rfl) rfl ?_
        refine JO_nil ?_
        refine thenQ_n ?_
        refine JC_ret ?_
        refine retQ_mk [] L (.inr rfl) (.tmp rfl (.tmp rfl (.tmp rfl (.nil)))) rfl (Le.refl (D := D) _) (fun sR hS2 => ?_)
        exact ⟨by simp_all [resV, usesT, usesX, usesY], rfl⟩
 ·
  refine JC_region ?_
  refine JO_q (QE_eq rfl rfl) rfl ?_
  refine JO_q (QE_as rfl) rfl ?_
  refine JO_nil ?_
  refine thenQ_n ?_
  refine JC_ifD rfl (fun c14 => ?_) (fun c14 => ?_)
  ·
   refine JC_region ?_
   refine JO_q (QE_as rfl) rfl ?_
   refine JO_nil ?_
   refine blockQ_n ?_
   refine thenQ_n ?_
   refine JC_seq ?_
   refine JC_region ?_
   refine JO_q (QE_mv rfl) rfl ?_
   refine JO_q (QE_mv rfl) rfl ?_
   refine JO_q (QE_mv rfl) rfl ?_
   refine JO_q (QE_as rfl) rfl ?_
   refine JO_q (QE_as rfl) rfl ?_
   refine JO_q (QE_as rfl) rfl ?_
   refine JO_nil ?_
   refine thenQ_n ?_
   refine JC_ret ?_
   refine retQ_mk [] L (.inr rfl) (.tmp rfl (.tmp rfl (.tmp rfl (.nil)))) rfl (Le.refl (D := D) _) (fun sR hS2 => ?_)
   exact ⟨by simp_all [resV, usesT, usesX, usesY], rfl⟩
  ·
   refine JC_seq ?_
   refine JC_seq ?_
   refine JC_region ?_
   refine JO_q (QE_eq rfl rfl) rfl ?_
   refine JO_q (QE_as rfl) rfl ?_
   refine JO_nil ?_
   refine thenQ_n ?_
   refine JC_ifD rfl (fun c15 => ?_) (fun c15 => ?_)
   ·
    refine JC_skip ?_
    refine thenQ_n ?_
    refine JC_ifD rfl (fun c16 => ?_) (fun c16 => ?_)
    ·
     refine JC_region ?_
     refine JO_q (QE_as rfl) rfl ?_
     refine JO_q (QE_as rfl) rfl ?_
     refine JO_nil ?_
     refine blockQ_n ?_
     refine thenQ_n ?_
     refine JC_seq ?_
     refine JC_region ?_
     refine JO_q (QE_mv rfl) rfl ?_
     refine JO_q (QE_mv rfl) rfl ?_
     refine JO_q (QE_mv rfl) rfl ?_
     refine JO_q (QE_as rfl) rfl ?_
     refine JO_q (QE_as rfl) rfl ?_
     refine JO_q (QE_as rfl) rfl ?_
     refine JO_nil ?_
     refine thenQ_n ?_
     refine JC_ret ?_
     refine retQ_mk [] L (.inr rfl) (.tmp rfl (.tmp rfl (.tmp rfl (.nil)))) rfl (Le.refl (D := D) _) (fun sR hS2 => ?_)
     exact ⟨by simp_all [resV, usesT, usesX, usesY], rfl⟩
    ·
     refine JC_seq ?_
     refine JC_region ?_
     refine JO_q (QE_eq rfl rfl) rfl ?_
     refine JO_q (QE_as rfl) rfl ?_
     refine JO_nil ?_
     refine thenQ_n ?_
     refine JC_ifD rfl (fun c17 => ?_) (fun c17 => ?_)
     ·
      refine JC_region ?_
      refine JO_q (QE_as rfl) rfl ?_
      refine JO_q (QE_as rfl) rfl ?_
      refine JO_nil ?_
      refine blockQ_n ?_
      refine thenQ_n ?_
      refine JC_seq ?_
      refine JC_region ?_
      refine JO_q (QE_mv rfl) rfl ?_
      refine JO_q (QE_mv rfl) rfl ?_
      refine JO_q (QE_mv rfl) rfl ?_
      refine JO_q (QE_as rfl) rfl ?_
      refine JO_q (QE_as rfl) rfl ?_
      refine JO_q (QE_as rfl) rfl ?_
      refine JO_nil ?_
      refine thenQ_n ?_
      refine JC_ret ?_
      refine retQ_mk [] L (.inr rfl) (.tmp rfl (.tmp rfl (.tmp rfl (.nil)))) rfl (Le.refl (D := D) _) (fun sR hS2 => ?_)
      exact ⟨by simp_all [resV, usesT, usesX, usesY], rfl⟩
     ·
      refine JC_seq ?_
      refine JC_seq ?_
      refine JC_region ?_
      refine JO_q (QE_eq rfl rfl) rfl ?_
      refine JO_q (QE_as rfl) rfl ?_
      refine JO_nil ?_
      refine thenQ_n ?_
      refine JC_ifD rfl (fun c18 => ?_) (fun c18 => ?_)
      ·
       refine JC_skip ?_
       refine thenQ_n ?_
       refine JC_ifD rfl (fun c19 => ?_) (fun c19 => ?_)
       ·
        refine JC_region ?_
        refine JO_q (QE_as rfl) rfl ?_
        refine JO_nil ?_
        refine blockQ_n ?_
        refine thenQ_n ?_
        refine JC_seq ?_
        refine JC_region ?_
        refine JO_q (QE_mv rfl) rfl ?_
        refine JO_q (QE_mv rfl) rfl ?_
        refine JO_q (QE_mv rfl) rfl ?_
        refine JO_q (QE_as rfl) rfl ?_
        refine JO_q (QE_as rfl) rfl ?_
        refine JO_q (QE_as rfl) rfl ?_
        refine JO_nil ?_
        refine thenQ_n ?_
        refine JC_ret ?_
        refine retQ_mk [] L (.inr rfl) (.tmp rfl (.tmp rfl (.tmp rfl (.nil)))) rfl (Le.refl (D := D) _) (fun sR hS2 => ?_)
        exact ⟨by simp_all [resV, usesT, usesX, usesY], rfl⟩
       ·
        refine JC_skip ?_
        refine blockQ_n ?_
        refine thenQ_n ?_
        refine JC_seq ?_
        refine JC_region ?_
        refine JO_q (QE_mv rfl) rfl ?_
        refine JO_q (QE_mv rfl) rfl ?_
        refine JO_q (QE_mv rfl) rfl ?_
        refine JO_q (QE_as rfl) rfl ?_
        refine JO_q (QE_as rfl) rfl ?_
        refine JO_q (QE_as rfl) rfl ?_
        refine JO_nil ?_
        refine thenQ_n ?_
        refine JC_ret ?_
        refine retQ_mk [] L (.inr rfl) (.tmp rfl (.tmp rfl (.tmp rfl (.nil)))) rfl (Le.refl (D := D) _) (fun sR hS2 => ?_)
        exact ⟨by simp_all [resV, usesT, usesX, usesY], rfl⟩
      ·
       refine JC_region ?_
       refine JO_q (QE_eq rfl rfl) rfl ?_
       refine JO_q (QE_as rfl) rfl ?_
       refine JO_nil ?_
       refine thenQ_n ?_
       refine JC_ifD rfl (fun c20 => ?_) (fun c20 => ?_)
       ·
        refine JC_region ?_
        refine JO_q (QE_as rfl) rfl ?_
        refine JO_nil ?_
        refine blockQ_n ?_
        refine thenQ_n ?_
        refine JC_seq ?_
        refine JC_region ?_
        refine JO_q (QE_mv rfl) rfl ?_
        refine JO_q (QE_mv rfl) rfl ?_
        refine JO_q (QE_mv rfl) rfl ?_
        refine JO_q (QE_as rfl) rfl ?_
        refine JO_q (QE_as rfl) rfl ?_
        refine JO_q (QE_as rfl) rfl ?_
        refine JO_nil ?_
        refine thenQ_n ?_
        refine JC_ret ?_
        refine retQ_mk [] L (.inr rfl) (.tmp rfl (.tmp rfl (.tmp rfl (.nil)))) rfl (Le.refl (D := D) _) (fun sR hS2 => ?_)
        exact ⟨by simp_all [resV, usesT, usesX, usesY], rfl⟩
       ·
        refine JC_skip ?_
        refine blockQ_n ?_
        refine thenQ_n ?_
        refine JC_seq ?_
        refine JC_region ?_
        refine JO_q (QE_mv rfl) rfl ?_
        refine JO_q (QE_mv rfl) rfl ?_
        refine JO_q (QE_mv rfl) rfl ?_
        refine JO_q (QE_as rfl) rfl ?_
        refine JO_q (QE_as rfl) rfl ?_
        refine JO_q (QE_as rfl) rfl ?_
        refine JO_nil ?_
        refine thenQ_n ?_
        refine JC_ret ?_
        refine retQ_mk [] L (.inr rfl) (.tmp rfl (.tmp rfl (.tmp rfl (.nil)))) rfl (Le.refl (D := D) _) (fun sR hS2 => ?_)
        exact ⟨by simp_all [resV, usesT, usesX, usesY], rfl⟩
   ·
    refine JC_region ?_
    refine JO_q (QE_eq rfl rfl) rfl ?_
    refine JO_q (QE_as rfl) rfl ?_
    refine JO_nil ?_
    refine thenQ_n ?_
    refine JC_ifD rfl (fun c21 => ?_) (fun c21 => ?_)
    ·
     refine JC_region ?_
     refine JO_q (QE_as rfl) rfl ?_
     refine JO_q (QE_as rfl) rfl ?_
     refine JO_nil ?_
     refine blockQ_n ?_
     refine thenQ_n ?_
     refine JC_seq ?_
     refine JC_region ?_
     refine JO_q (QE_mv rfl) rfl ?_
     refine JO_q (QE_mv rfl) rfl ?_
     refine JO_q (QE_mv rfl) rfl ?_
     refine JO_q (QE_as rfl) rfl ?_
     refine JO_q (QE_as rfl) rfl ?_
     refine JO_q (QE_as rfl) rfl ?_
     refine JO_nil ?_
     refine thenQ_n ?_
     refine JC_ret ?_
     refine retQ_mk [] L (.inr rfl) (.tmp rfl (.tmp rfl (.tmp rfl (.nil)))) rfl (Le.refl (D := D) _) (fun sR hS2 => ?_)
     exact ⟨by simp_all [resV, usesT, usesX, usesY], rfl⟩
    ·
     refine JC_seq ?_
     refine JC_region ?_
     refine JO_q (QE_eq rfl rfl) rfl ?_
     refine JO_q (QE_as rfl) rfl ?_
     refine JO_nil ?_
     refine thenQ_n ?_
     refine JC_ifD rfl (fun c22 => ?_) (fun c22 => ?_)
     ·
      refine JC_region ?_
      refine JO_q (QE_as rfl) rfl ?_
      refine JO_q (QE_as rfl) rfl ?_
      refine JO_nil ?_
      refine blockQ_n ?_
      refine thenQ_n ?_
      refine JC_seq ?_
      refine JC_region ?_
      refine JO_q (QE_mv rfl) rfl ?_
      refine JO_q (QE_mv rfl) rfl ?_
      refine JO_q (QE_mv rfl) rfl ?_
      refine JO_q (QE_as rfl) rfl ?_
      refine JO_q (QE_as rfl) rfl ?_
      refine JO_q (QE_as rfl) rfl ?_
      refine JO_nil ?_
      refine thenQ_n ?_
      refine JC_ret ?_
      refine retQ_mk [] L (.inr rfl) (.tmp rfl (.tmp rfl (.tmp rfl (.nil)))) rfl (Le.refl (D := D) _) (fun sR hS2 => ?_)
      exact ⟨by simp_all [resV, usesT, usesX, usesY], rfl⟩
     ·
      refine JC_seq ?_
      refine JC_seq ?_
      refine JC_region ?_
      refine JO_q (QE_eq rfl rfl) rfl ?_
      refine JO_q (QE_as rfl) rfl ?_
      refine JO_nil ?_
      refine thenQ_n ?_
      refine JC_ifD rfl (fun c23 => ?_) (fun c23 => ?_)
      ·
       refine JC_skip ?_
       refine thenQ_n ?_
       refine JC_ifD rfl (fun c24 => ?_) (fun c24 => ?_)
       ·
        refine JC_region ?_
        refine JO_q (QE_as rfl) rfl ?_
        refine JO_nil ?_
        refine blockQ_n ?_
        refine thenQ_n ?_
        refine JC_seq ?_
        refine JC_region ?_
        refine JO_q (QE_mv rfl) rfl ?_
        refine JO_q (QE_mv rfl) rfl ?_
        refine JO_q (QE_mv rfl) rfl ?_
        refine JO_q (QE_as rfl) rfl ?_
        refine JO_q (QE_as rfl) rfl ?_
        refine JO_q (QE_as rfl) rfl ?_
        refine JO_nil ?_
        refine thenQ_n ?_
        refine JC_ret ?_
        refine retQ_mk [] L (.inr rfl) (.tmp rfl (.tmp rfl (.tmp rfl (.nil)))) rfl (Le.refl (D := D) _) (fun sR hS2 => ?_)
        exact ⟨by simp_all [resV, usesT, usesX, usesY], rfl⟩
       ·
        refine JC_skip ?_
        refine blockQ_n ?_
        refine thenQ_n ?_
        refine JC_seq ?_
        refine JC_region ?_
        refine JO_q (QE_mv rfl) rfl ?_
        refine JO_q (QE_mv rfl) rfl ?_
        refine JO_q (QE_mv rfl) rfl ?_
        refine JO_q (QE_as rfl) rfl ?_
        refine JO_q (QE_as rfl) rfl ?_
        refine JO_q (QE_as rfl) rfl ?_
        refine JO_nil ?_
        refine thenQ_n ?_
        refine JC_ret ?_
        refine retQ_mk [] L (.inr rfl) (.tmp rfl (.tmp rfl (.tmp rfl (.nil)))) rfl (Le.refl (D := D) _) (fun sR hS2 => ?_)
        exact ⟨by simp_all [resV, usesT, usesX, usesY], rfl⟩
      ·
       refine JC_region ?_
       refine JO_q (QE_eq rfl rfl) rfl ?_
       refine JO_q (QE_as rfl) rfl ?_
       refine JO_nil ?_
       refine thenQ_n ?_
       refine JC_ifD rfl (fun c25 => ?_) (fun c25 => ?_)
       ·
        refine JC_region ?_
        refine JO_q (QE_as rfl) rfl ?_
        refine JO_nil ?_
        refine blockQ_n ?_
        refine thenQ_n ?_
        refine JC_seq ?_
        refine JC_region ?_
        refine JO_q (QE_mv rfl) rfl ?_
        refine JO_q (QE_mv rfl) rfl ?_
        refine JO_q (QE_mv rfl) rfl ?_
        refine JO_q (QE_as rfl) rfl ?_
        refine JO_q (QE_as rfl) rfl ?_
        refine JO_q (QE_as rfl) rfl ?_
        refine JO_nil ?_
        refine thenQ_n ?_
        refine JC_ret ?_
        refine retQ_mk [] L (.inr rfl) (.tmp rfl (.tmp rfl (.tmp rfl (.nil)))) rfl (Le.refl (D := D) _) (fun sR hS2 => ?_)
        exact ⟨by simp_all [resV, usesT, usesX, usesY], rfl⟩
       ·
        refine JC_skip ?_
        refine blockQ_n ?_
        refine thenQ_n ?_
        refine JC_seq ?_
        refine JC_region ?_
        refine JO_q (QE_mv rfl) rfl ?_
        refine JO_q (QE_mv rfl) rfl ?_
        refine JO_q (QE_mv rfl) rfl ?_
        refine JO_q (QE_as rfl) rfl ?_
        refine JO_q (QE_as rfl) rfl ?_
        refine JO_q (QE_as rfl) rfl ?_
        refine JO_nil ?_
        refine thenQ_n ?_
        refine JC_ret ?_
        refine retQ_mk [] L (.inr rfl) (.tmp rfl (.tmp rfl (.tmp rfl (.nil)))) rfl (Le.refl (D := D) _) (fun sR hS2 => ?_)
        exact ⟨by simp_all [resV, usesT, usesX, usesY], rfl⟩
set_option maxHeartbeats 1000000 in
set_option maxRecDepth 100000 in
theorem validTerm_ac (D : Nat) (L : Hl) (s : World) (x : Tm) (u o : Bool) : AC Tryz.prog D 124 [.agg #[.int .i64 x.kind, .int .u32 x.val], .bool u, .bool o] L s fun v L' _ => v = .bool (termB x u o) ∧ L = L' := by
 refine AC_enter (TT := TT) (fn := Tryz.f124) TT_ok Tryz.func124 (by kernel_rfl) rfl Tryz.ntmps124 rfl (rs := [.tmp 6]) rfl [(0, _), (1, _), (2, _)] rfl ?_
 refine JC_seq ?_
 refine JC_region ?_
 refine JO_boxA rfl rfl ?_
 intro β1 s1 h1
 refine JO_q (QE_as rfl) rfl ?_
 refine JO_nil ?_
 refine thenQ_n ?_
 refine JC_seq ?_
 refine JC_block ?_
 refine JC_seq ?_
 refine JC_region ?_
 refine JO_q (QE_mv rfl) rfl ?_
 refine JO_q (QE_not rfl) rfl ?_
 refine JO_q (QE_as rfl) rfl ?_
 refine JO_nil ?_
 refine thenQ_n ?_
 refine JC_ifM rfl (fun c2 => ?_) (fun c2 => ?_)
 ·
  refine JC_seq ?_
  refine JC_region ?_
  refine JO_q (QE_ldA 0 [_, _] rfl rfl rfl rfl rfl) rfl ?_
  refine JO_q (QE_build [] [_, _] rfl rfl rfl rfl rfl rfl) rfl ?_
  refine JO_q (QE_aeq rfl rfl (eqTerm _ _ _ _)) rfl ?_
  refine JO_q (QE_as rfl) rfl ?_
  refine JO_nil ?_
  refine thenQ_n ?_
  refine JC_ret ?_
  refine blockQ_r ?_
  refine thenQ_r ?_
  refine retQ_mk [_] L (.inr rfl) (.tmp rfl (.nil)) rfl h1 (fun sR hS2 => ?_)
  exact ⟨by simp_all [resV, termB], rfl⟩
 ·
  refine JC_seq ?_
  refine JC_region ?_
  refine JO_q (QE_fa0 rfl rfl rfl rfl) rfl ?_
  refine JO_q (QE_ld1 0 rfl rfl rfl rfl rfl) rfl ?_
  refine JO_q (QE_eq rfl rfl) rfl ?_
  refine JO_q (QE_as rfl) rfl ?_
  refine JO_nil ?_
  refine thenQ_n ?_
  refine JC_ifD rfl (fun c3 => ?_) (fun c3 => ?_)
  ·
   refine JC_seq ?_
   refine JC_region ?_
   refine JO_q (QE_as rfl) rfl ?_
   refine JO_nil ?_
   refine thenQ_n ?_
   refine JC_ret ?_
   refine blockQ_r ?_
   refine thenQ_r ?_
   refine retQ_mk [_] L (.inr rfl) (.tmp rfl (.nil)) rfl h1 (fun sR hS2 => ?_)
   exact ⟨by simp_all [resV, termB], rfl⟩
  ·
   refine JC_seq ?_
   refine JC_region ?_
   refine JO_q (QE_fa0 rfl rfl rfl rfl) rfl ?_
   refine JO_q (QE_ld1 0 rfl rfl rfl rfl rfl) rfl ?_
   refine JO_q (QE_eq rfl rfl) rfl ?_
   refine JO_q (QE_as rfl) rfl ?_
   refine JO_nil ?_
   refine thenQ_n ?_
   refine JC_ifD rfl (fun c4 => ?_) (fun c4 => ?_)
   ·
    refine JC_seq ?_
    refine JC_region ?_
    refine JO_q (QE_faB rfl rfl rfl rfl) rfl ?_
    refine JO_q (QE_ld1 0 rfl rfl rfl rfl rfl) rfl ?_
    refine JO_q (QE_le rfl rfl) rfl ?_
    refine JO_q (QE_as rfl) rfl ?_
    refine JO_nil ?_
    refine thenQ_n ?_
    refine JC_ret ?_
    refine blockQ_r ?_
    refine thenQ_r ?_
    refine retQ_mk [_] L (.inr rfl) (.tmp rfl (.nil)) rfl h1 (fun sR hS2 => ?_)
    exact ⟨by simp_all [resV, termB], rfl⟩
   ·
    refine JC_skip ?_
    refine blockQ_n ?_
    refine thenQ_n ?_
    refine JC_seq ?_
    refine JC_region ?_
    refine JO_q (QE_fa0 rfl rfl rfl rfl) rfl ?_
    refine JO_q (QE_ld1 0 rfl rfl rfl rfl rfl) rfl ?_
    refine JO_q (QE_eq rfl rfl) rfl ?_
    refine JO_q (QE_mv rfl) rfl ?_
    refine JO_caseD (t := 27) rfl (fun c5 => ?_) (fun c5 => ?_)
    ·
     refine JO_gT rfl rfl ?_
     refine JO_q (QE_faB rfl rfl rfl rfl) rfl ?_
     refine JO_gT rfl rfl ?_
     refine JO_q (QE_ld1 0 rfl rfl rfl rfl rfl) rfl ?_
     refine JO_gT rfl rfl ?_
     refine JO_q (QE_eq rfl rfl) rfl ?_
     refine JO_q (QE_pickT rfl rfl) rfl ?_
     refine JO_q (QE_mv rfl) rfl ?_
     refine JO_caseD (t := 32) rfl (fun c6 => ?_) (fun c6 => ?_)
     ·
      refine JO_gT rfl rfl ?_
      refine JO_q (QE_mv rfl) rfl ?_
      refine JO_q (QE_pickT rfl rfl) rfl ?_
      refine JO_q (QE_as rfl) rfl ?_
      refine JO_nil ?_
      refine thenQ_n ?_
      refine JC_ret ?_
      refine retQ_mk [_] L (.inr rfl) (.tmp rfl (.nil)) rfl h1 (fun sR hS2 => ?_)
      exact ⟨by simp_all [resV, termB], rfl⟩
     ·
      refine JO_gF rfl rfl rfl rfl ?_
      refine JO_q (QE_pickF rfl rfl) rfl ?_
      refine JO_q (QE_as rfl) rfl ?_
      refine JO_nil ?_
      refine thenQ_n ?_
      refine JC_ret ?_
      refine retQ_mk [_] L (.inr rfl) (.tmp rfl (.nil)) rfl h1 (fun sR hS2 => ?_)
      exact ⟨by simp_all [resV, termB], rfl⟩
    ·
     refine JO_gF rfl rfl rfl rfl ?_
     refine JO_gF rfl rfl rfl rfl ?_
     refine JO_gF rfl rfl rfl rfl ?_
     refine JO_q (QE_pickF rfl rfl) rfl ?_
     refine JO_q (QE_mv rfl) rfl ?_
     refine JO_gF rfl rfl rfl rfl ?_
     refine JO_q (QE_pickF rfl rfl) rfl ?_
     refine JO_q (QE_as rfl) rfl ?_
     refine JO_nil ?_
     refine thenQ_n ?_
     refine JC_ret ?_
     refine retQ_mk [_] L (.inr rfl) (.tmp rfl (.nil)) rfl h1 (fun sR hS2 => ?_)
     exact ⟨by simp_all [resV, termB], rfl⟩
set_option maxHeartbeats 1000000 in
set_option maxRecDepth 100000 in
theorem checkAction_ac (D : Nat) (L : Hl) (s : World) (a : Ac) (o : Bool) : AC Tryz.prog D 104 [.agg #[.int .i64 a.kind, .int .i64 a.tgt, .int .i64 a.x.kind, .int .u32 a.x.val, .int .i64 a.y.kind, .int .u32 a.y.val], .bool o] L s fun v L' _ => v = .int .i64 (actCode a o) ∧ L = L' := by
 refine AC_enter (TT := TT) (fn := Tryz.f104) TT_ok Tryz.func104 (by kernel_rfl) rfl Tryz.ntmps104 rfl (rs := [.tmp 4]) rfl [(0, _), (1, _)] rfl ?_
 refine JC_seq ?_
 refine JC_region ?_
 refine JO_boxA rfl rfl ?_
 intro β1 s1 h1
 refine JO_q (QE_as rfl) rfl ?_
 refine JO_nil ?_
 refine thenQ_n ?_
 refine JC_seq ?_
 refine JC_block ?_
 refine JC_seq ?_
 refine JC_region ?_
 refine JO_q (QE_fa0 rfl rfl rfl rfl) rfl ?_
 refine JO_q (QE_ld1 0 rfl rfl rfl rfl rfl) rfl ?_
 refine JO_q (QE_lt rfl rfl) rfl ?_
 refine JO_q (QE_mv rfl) rfl ?_
 refine JO_caseD (t := 12) rfl (fun c2 => ?_) (fun c2 => ?_)
 ·
  refine JO_gF rfl rfl rfl rfl ?_
  refine JO_gF rfl rfl rfl rfl ?_
  refine JO_gF rfl rfl rfl rfl ?_
  refine JO_q (QE_pickT rfl rfl) rfl ?_
  refine JO_q (QE_as rfl) rfl ?_
  refine JO_nil ?_
  refine thenQ_n ?_
  refine JC_ifT rfl ?_
  refine JC_seq ?_
  refine JC_region ?_
  refine JO_q (QE_as rfl) rfl ?_
  refine JO_nil ?_
  refine thenQ_n ?_
  refine JC_ret ?_
  refine blockQ_r ?_
  refine thenQ_r ?_
  refine retQ_mk [_] L (.inr rfl) (.tmp rfl (.nil)) rfl h1 (fun sR hS2 => ?_)
  exact ⟨by (try simp_all [resV, actCode]) <;> grind, rfl⟩
 ·
  refine JO_gT rfl rfl ?_
  refine JO_q (QE_fa0 rfl rfl rfl rfl) rfl ?_
  refine JO_gT rfl rfl ?_
  refine JO_q (QE_ld1 0 rfl rfl rfl rfl rfl) rfl ?_
  refine JO_gT rfl rfl ?_
  refine JO_q (QE_ge rfl rfl) rfl ?_
  refine JO_q (QE_pickF rfl rfl) rfl ?_
  refine JO_q (QE_as rfl) rfl ?_
  refine JO_nil ?_
  refine thenQ_n ?_
  refine JC_ifD rfl (fun c3 => ?_) (fun c3 => ?_)
  ·
   refine JC_seq ?_
   refine JC_region ?_
   refine JO_q (QE_as rfl) rfl ?_
   refine JO_nil ?_
   refine thenQ_n ?_
   refine JC_ret ?_
   refine blockQ_r ?_
   refine thenQ_r ?_
   refine retQ_mk [_] L (.inr rfl) (.tmp rfl (.nil)) rfl h1 (fun sR hS2 => ?_)
   exact ⟨by (try simp_all [resV, actCode]) <;> grind, rfl⟩
  ·
   refine JC_seq ?_
   refine JC_region ?_
   refine JO_q (QE_faB rfl rfl rfl rfl) rfl ?_
   refine JO_q (QE_ld1 0 rfl rfl rfl rfl rfl) rfl ?_
   refine JO_q (QE_lt rfl rfl) rfl ?_
   refine JO_q (QE_mv rfl) rfl ?_
   refine JO_caseD (t := 21) rfl (fun c4 => ?_) (fun c4 => ?_)
   ·
    refine JO_gF rfl rfl rfl rfl ?_
    refine JO_gF rfl rfl rfl rfl ?_
    refine JO_gF rfl rfl rfl rfl ?_
    refine JO_q (QE_pickT rfl rfl) rfl ?_
    refine JO_q (QE_as rfl) rfl ?_
    refine JO_nil ?_
    refine thenQ_n ?_
    refine JC_ifT rfl ?_
    refine JC_seq ?_
    refine JC_region ?_
    refine JO_q (QE_as rfl) rfl ?_
    refine JO_nil ?_
    refine thenQ_n ?_
    refine JC_ret ?_
    refine blockQ_r ?_
    refine thenQ_r ?_
    refine retQ_mk [_] L (.inr rfl) (.tmp rfl (.nil)) rfl h1 (fun sR hS2 => ?_)
    exact ⟨by (try simp_all [resV, actCode]) <;> grind, rfl⟩
   ·
    refine JO_gT rfl rfl ?_
    refine JO_q (QE_faB rfl rfl rfl rfl) rfl ?_
    refine JO_gT rfl rfl ?_
    refine JO_q (QE_ld1 0 rfl rfl rfl rfl rfl) rfl ?_
    refine JO_gT rfl rfl ?_
    refine JO_q (QE_gt rfl rfl) rfl ?_
    refine JO_q (QE_pickF rfl rfl) rfl ?_
    refine JO_q (QE_as rfl) rfl ?_
    refine JO_nil ?_
    refine thenQ_n ?_
    refine JC_ifD rfl (fun c5 => ?_) (fun c5 => ?_)
    ·
     refine JC_seq ?_
     refine JC_region ?_
     refine JO_q (QE_as rfl) rfl ?_
     refine JO_nil ?_
     refine thenQ_n ?_
     refine JC_ret ?_
     refine blockQ_r ?_
     refine thenQ_r ?_
     refine retQ_mk [_] L (.inr rfl) (.tmp rfl (.nil)) rfl h1 (fun sR hS2 => ?_)
     exact ⟨by (try simp_all [resV, actCode]) <;> grind, rfl⟩
    ·
     refine JC_skip ?_
     refine blockQ_n ?_
     refine thenQ_n ?_
     refine JC_seq ?_
     refine JC_region ?_
     refine JO_q (QE_fa0 rfl rfl rfl rfl) rfl ?_
     refine JO_q (QE_ld1 0 rfl rfl rfl rfl rfl) rfl ?_
     refine JO_call (first := []) (captured := []) rfl rfl rfl (uses_ac D _ _ _) ?_
     rintro _ _ s6 h6 ⟨rfl, rfl⟩
     refine JO_q (QE_mv rfl) rfl ?_
     refine JO_q (QE_ext rfl rfl) rfl ?_
     refine JO_q (QE_ext rfl rfl) rfl ?_
     refine JO_q (QE_ext rfl rfl) rfl ?_
     refine JO_q (QE_as rfl) rfl ?_
     refine JO_q (QE_as rfl) rfl ?_
     refine JO_q (QE_as rfl) rfl ?_
     refine JO_nil ?_
     refine thenQ_n ?_
     refine JC_seq ?_
     refine JC_seq ?_
     refine JC_region ?_
     refine JO_q (QE_mv rfl) rfl ?_
     refine JO_q (QE_not rfl) rfl ?_
     refine JO_q (QE_mv rfl) rfl ?_
     refine JO_caseM (t := 35) rfl (fun c7 => ?_) (fun c7 => ?_)
     ·
      refine JO_gT rfl rfl ?_
      refine JO_q (QE_faB rfl rfl rfl rfl) rfl ?_
      refine JO_gT rfl rfl ?_
      refine JO_q (QE_ld1 0 rfl rfl rfl rfl rfl) rfl ?_
      refine JO_gT rfl rfl ?_
      refine JO_q (QE_ne rfl rfl) rfl ?_
      refine JO_q (QE_pickT rfl rfl) rfl ?_
      refine JO_q (QE_mv rfl) rfl ?_
      refine JO_caseN (t := 40) rfl (fun c8 => ?_) (fun c8 => ?_)
      ·
       refine JO_gF rfl rfl rfl rfl ?_
       refine JO_gF rfl rfl rfl rfl ?_
       refine JO_gF rfl rfl rfl rfl ?_
       refine JO_gF rfl rfl rfl rfl ?_
       refine JO_gF rfl rfl rfl rfl ?_
       refine JO_gF rfl rfl rfl rfl ?_
       refine JO_q (QE_pickT rfl rfl) rfl ?_
       refine JO_q (QE_mv rfl) rfl ?_
       refine JO_gF rfl rfl rfl rfl ?_
       refine JO_gF rfl rfl rfl rfl ?_
       refine JO_gF rfl rfl rfl rfl ?_
       refine JO_gF rfl rfl rfl rfl ?_
       refine JO_gF rfl rfl rfl rfl ?_
       refine JO_gF rfl rfl rfl rfl ?_
       refine JO_q (QE_pickT rfl rfl) rfl ?_
       refine JO_nil ?_
       refine thenQ_n ?_
       refine JC_ifT rfl ?_
       refine JC_seq ?_
       refine JC_region ?_
       refine JO_q (QE_as rfl) rfl ?_
       refine JO_nil ?_
       refine thenQ_n ?_
       refine JC_ret ?_
       refine thenQ_r ?_
       refine retQ_mk [_] L (.inr rfl) (.tmp rfl (.nil)) rfl (Le.trans h1 h6) (fun sR hS2 => ?_)
       exact ⟨by (try simp_all [resV, actCode]) <;> grind, rfl⟩
      ·
       refine JO_gT rfl rfl ?_
       refine JO_q (QE_faB rfl rfl rfl rfl) rfl ?_
       refine JO_gT rfl rfl ?_
       refine JO_q (QE_ldA 0 [_, _] rfl rfl rfl rfl rfl) rfl ?_
       refine JO_gT rfl rfl ?_
       refine JO_q (QE_mv rfl) rfl ?_
       refine JO_gT rfl rfl ?_
       refine JO_q (QE_mv rfl) rfl ?_
       refine JO_gT rfl rfl ?_
       refine JO_call (first := []) (captured := []) rfl rfl rfl (validTerm_ac D _ _ _ _ _) ?_
       rintro _ _ s9 h9 ⟨rfl, rfl⟩
       refine JO_gT rfl rfl ?_
       refine JO_q (QE_not rfl) rfl ?_
       refine JO_q (QE_pickF rfl rfl) rfl ?_
       refine JO_q (QE_mv rfl) rfl ?_
       refine JO_caseM (t := 48) rfl (fun c10 => ?_) (fun c10 => ?_)
       ·
        refine JO_gF rfl rfl rfl rfl ?_
        refine JO_gF rfl rfl rfl rfl ?_
        refine JO_gF rfl rfl rfl rfl ?_
        refine JO_gF rfl rfl rfl rfl ?_
        refine JO_gF rfl rfl rfl rfl ?_
        refine JO_gF rfl rfl rfl rfl ?_
        refine JO_q (QE_pickT rfl rfl) rfl ?_
        refine JO_nil ?_
        refine thenQ_n ?_
        refine JC_ifT rfl ?_
        refine JC_seq ?_
        refine JC_region ?_
        refine JO_q (QE_as rfl) rfl ?_
        refine JO_nil ?_
        refine thenQ_n ?_
        refine JC_ret ?_
        refine thenQ_r ?_
        refine retQ_mk [_] L (.inr rfl) (.tmp rfl (.nil)) rfl (Le.trans (Le.trans h1 h6) h9) (fun sR hS2 => ?_)
        exact ⟨by (try simp_all [resV, actCode]) <;> grind, rfl⟩
       ·
        refine JO_gT rfl rfl ?_
        refine JO_q (QE_faB rfl rfl rfl rfl) rfl ?_
        refine JO_gT rfl rfl ?_
        refine JO_q (QE_ldA 0 [_, _] rfl rfl rfl rfl rfl) rfl ?_
        refine JO_gT rfl rfl ?_
        refine JO_q (QE_mv rfl) rfl ?_
        refine JO_gT rfl rfl ?_
        refine JO_q (QE_mv rfl) rfl ?_
        refine JO_gT rfl rfl ?_
        refine JO_call (first := []) (captured := []) rfl rfl rfl (validTerm_ac D _ _ _ _ _) ?_
        rintro _ _ s11 h11 ⟨rfl, rfl⟩
        refine JO_gT rfl rfl ?_
        refine JO_q (QE_not rfl) rfl ?_
        refine JO_q (QE_pickF rfl rfl) rfl ?_
        refine JO_nil ?_
        refine thenQ_n ?_
        refine JC_ifM rfl (fun c12 => ?_) (fun c12 => ?_)
        ·
         refine JC_seq ?_
         refine JC_region ?_
         refine JO_q (QE_as rfl) rfl ?_
         refine JO_nil ?_
         refine thenQ_n ?_
         refine JC_ret ?_
         refine thenQ_r ?_
         refine retQ_mk [_] L (.inr rfl) (.tmp rfl (.nil)) rfl (Le.trans (Le.trans (Le.trans h1 h6) h9) h11) (fun sR hS2 => ?_)
         exact ⟨by (try simp_all [resV, actCode]) <;> grind, rfl⟩
        ·
         refine JC_skip ?_
         refine thenQ_n ?_
         refine JC_seq ?_
         refine JC_region ?_
         refine JO_q (QE_as rfl) rfl ?_
         refine JO_nil ?_
         refine thenQ_n ?_
         refine JC_ret ?_
         refine retQ_mk [_] L (.inr rfl) (.tmp rfl (.nil)) rfl (Le.trans (Le.trans (Le.trans h1 h6) h9) h11) (fun sR hS2 => ?_)
         exact ⟨by (try simp_all [resV, actCode]) <;> grind, rfl⟩
     ·
      refine JO_gF rfl rfl rfl rfl ?_
      refine JO_gF rfl rfl rfl rfl ?_
      refine JO_gF rfl rfl rfl rfl ?_
      refine JO_q (QE_pickF rfl rfl) rfl ?_
      refine JO_q (QE_mv rfl) rfl ?_
      refine JO_gT rfl rfl ?_
      refine JO_q (QE_faB rfl rfl rfl rfl) rfl ?_
      refine JO_gT rfl rfl ?_
      refine JO_q (QE_ldA 0 [_, _] rfl rfl rfl rfl rfl) rfl ?_
      refine JO_gT rfl rfl ?_
      refine JO_q (QE_mv rfl) rfl ?_
      refine JO_gT rfl rfl ?_
      refine JO_q (QE_mv rfl) rfl ?_
      refine JO_gT rfl rfl ?_
      refine JO_call (first := []) (captured := []) rfl rfl rfl (validTerm_ac D _ _ _ _ _) ?_
      rintro _ _ s13 h13 ⟨rfl, rfl⟩
      refine JO_gT rfl rfl ?_
      refine JO_q (QE_not rfl) rfl ?_
      refine JO_q (QE_pickF rfl rfl) rfl ?_
      refine JO_q (QE_mv rfl) rfl ?_
      refine JO_caseM (t := 48) rfl (fun c14 => ?_) (fun c14 => ?_)
      ·
       refine JO_gF rfl rfl rfl rfl ?_
       refine JO_gF rfl rfl rfl rfl ?_
       refine JO_gF rfl rfl rfl rfl ?_
       refine JO_gF rfl rfl rfl rfl ?_
       refine JO_gF rfl rfl rfl rfl ?_
       refine JO_gF rfl rfl rfl rfl ?_
       refine JO_q (QE_pickT rfl rfl) rfl ?_
       refine JO_nil ?_
       refine thenQ_n ?_
       refine JC_ifT rfl ?_
       refine JC_seq ?_
       refine JC_region ?_
       refine JO_q (QE_as rfl) rfl ?_
       refine JO_nil ?_
       refine thenQ_n ?_
       refine JC_ret ?_
       refine thenQ_r ?_
       refine retQ_mk [_] L (.inr rfl) (.tmp rfl (.nil)) rfl (Le.trans (Le.trans h1 h6) h13) (fun sR hS2 => ?_)
       exact ⟨by (try simp_all [resV, actCode]) <;> grind, rfl⟩
      ·
       refine JO_gT rfl rfl ?_
       refine JO_q (QE_faB rfl rfl rfl rfl) rfl ?_
       refine JO_gT rfl rfl ?_
       refine JO_q (QE_ldA 0 [_, _] rfl rfl rfl rfl rfl) rfl ?_
       refine JO_gT rfl rfl ?_
       refine JO_q (QE_mv rfl) rfl ?_
       refine JO_gT rfl rfl ?_
       refine JO_q (QE_mv rfl) rfl ?_
       refine JO_gT rfl rfl ?_
       refine JO_call (first := []) (captured := []) rfl rfl rfl (validTerm_ac D _ _ _ _ _) ?_
       rintro _ _ s15 h15 ⟨rfl, rfl⟩
       refine JO_gT rfl rfl ?_
       refine JO_q (QE_not rfl) rfl ?_
       refine JO_q (QE_pickF rfl rfl) rfl ?_
       refine JO_nil ?_
       refine thenQ_n ?_
       refine JC_ifM rfl (fun c16 => ?_) (fun c16 => ?_)
       ·
        refine JC_seq ?_
        refine JC_region ?_
        refine JO_q (QE_as rfl) rfl ?_
        refine JO_nil ?_
        refine thenQ_n ?_
        refine JC_ret ?_
        refine thenQ_r ?_
        refine retQ_mk [_] L (.inr rfl) (.tmp rfl (.nil)) rfl (Le.trans (Le.trans (Le.trans h1 h6) h13) h15) (fun sR hS2 => ?_)
        exact ⟨by (try simp_all [resV, actCode]) <;> grind, rfl⟩
       ·
        refine JC_skip ?_
        refine thenQ_n ?_
        refine JC_seq ?_
        refine JC_region ?_
        refine JO_q (QE_as rfl) rfl ?_
        refine JO_nil ?_
        refine thenQ_n ?_
        refine JC_ret ?_
        refine retQ_mk [_] L (.inr rfl) (.tmp rfl (.nil)) rfl (Le.trans (Le.trans (Le.trans h1 h6) h13) h15) (fun sR hS2 => ?_)
        exact ⟨by (try simp_all [resV, actCode]) <;> grind, rfl⟩
set_option maxHeartbeats 1000000 in
set_option maxRecDepth 100000 in
theorem isMnemonic_ac (D : Nat) (L : Hl) (s : World) (l : List UInt8) : AC Tryz.prog D 103 [St l] L s fun v L' _ => v = .bool (mnemB l) ∧ L = L' := by
 refine AC_enter (TT := TT) (fn := Tryz.f103) TT_ok Tryz.func103 (by kernel_rfl) rfl Tryz.ntmps103 rfl (rs := [.tmp 2]) rfl [(0, _)] rfl ?_
 refine JC_seq ?_
 refine JC_region ?_
 refine JO_q (QE_as rfl) rfl ?_
 refine JO_nil ?_
 refine thenQ_n ?_
 refine JC_seq ?_
 refine JC_seq ?_
 refine JC_region ?_
 refine JO_q (QE_mv rfl) rfl ?_
 refine JO_q (QE_seq rfl rfl) rfl ?_
 refine JO_q (QE_mv rfl) rfl ?_
 refine JO_caseD (t := 8) rfl (fun c1 => ?_) (fun c1 => ?_)
 ·
  refine JO_gF rfl rfl rfl rfl ?_
  refine JO_gF rfl rfl rfl rfl ?_
  refine JO_gF rfl rfl rfl rfl ?_
  refine JO_q (QE_pickT rfl rfl) rfl ?_
  refine JO_q (QE_mv rfl) rfl ?_
  refine JO_gF rfl rfl rfl rfl ?_
  refine JO_gF rfl rfl rfl rfl ?_
  refine JO_q (QE_pickT rfl rfl) rfl ?_
  refine JO_q (QE_mv rfl) rfl ?_
  refine JO_gF rfl rfl rfl rfl ?_
  refine JO_gF rfl rfl rfl rfl ?_
  refine JO_q (QE_pickT rfl rfl) rfl ?_
  refine JO_nil ?_
  refine thenQ_n ?_
  refine JC_ifT rfl ?_
  refine JC_seq ?_
  refine JC_region ?_
  refine JO_q (QE_as rfl) rfl ?_
  refine JO_nil ?_
  refine thenQ_n ?_
  refine JC_ret ?_
  refine thenQ_r ?_
  refine retQ_mk [] L (.inr rfl) (.tmp rfl (.nil)) rfl (Le.refl (D := D) _) (fun sR hS2 => ?_)
  refine ⟨?_, rfl⟩
  simp [resV, mnemB, labelB, *]; done
 ·
  refine JO_gT rfl rfl ?_
  refine JO_q (QE_mv rfl) rfl ?_
  refine JO_gT rfl rfl ?_
  refine JO_q (QE_lenT rfl rfl rfl) rfl ?_
  refine JO_gT rfl rfl ?_
  refine JO_q (QE_gt rfl rfl) rfl ?_
  refine JO_q (QE_pickF rfl rfl) rfl ?_
  refine JO_q (QE_mv rfl) rfl ?_
  refine JO_caseD (t := 13) rfl (fun c2 => ?_) (fun c2 => ?_)
  ·
   refine JO_gF rfl rfl rfl rfl ?_
   refine JO_gF rfl rfl rfl rfl ?_
   refine JO_q (QE_pickT rfl rfl) rfl ?_
   refine JO_q (QE_mv rfl) rfl ?_
   refine JO_gF rfl rfl rfl rfl ?_
   refine JO_gF rfl rfl rfl rfl ?_
   refine JO_q (QE_pickT rfl rfl) rfl ?_
   refine JO_nil ?_
   refine thenQ_n ?_
   refine JC_ifT rfl ?_
   refine JC_seq ?_
   refine JC_region ?_
   refine JO_q (QE_as rfl) rfl ?_
   refine JO_nil ?_
   refine thenQ_n ?_
   refine JC_ret ?_
   refine thenQ_r ?_
   refine retQ_mk [] L (.inr rfl) (.tmp rfl (.nil)) rfl (Le.refl (D := D) _) (fun sR hS2 => ?_)
   refine ⟨?_, rfl⟩
   have h6 : ¬ l.length ≤ 6 := by omega
   simp [resV, mnemB, labelB, h6]; done
  ·
   refine JO_gT rfl rfl ?_
   refine JO_q (QE_mv rfl) rfl ?_
   refine JO_gT rfl rfl ?_
   refine JO_q (QE_seq rfl rfl) rfl ?_
   refine JO_q (QE_pickF rfl rfl) rfl ?_
   refine JO_q (QE_mv rfl) rfl ?_
   refine JO_caseD (t := 17) rfl (fun c3 => ?_) (fun c3 => ?_)
   ·
    refine JO_gF rfl rfl rfl rfl ?_
    refine JO_gF rfl rfl rfl rfl ?_
    refine JO_q (QE_pickT rfl rfl) rfl ?_
    refine JO_nil ?_
    refine thenQ_n ?_
    refine JC_ifT rfl ?_
    refine JC_seq ?_
    refine JC_region ?_
    refine JO_q (QE_as rfl) rfl ?_
    refine JO_nil ?_
    refine thenQ_n ?_
    refine JC_ret ?_
    refine thenQ_r ?_
    refine retQ_mk [] L (.inr rfl) (.tmp rfl (.nil)) rfl (Le.refl (D := D) _) (fun sR hS2 => ?_)
    refine ⟨?_, rfl⟩
    simp [resV, mnemB, labelB, *]; done
   ·
    refine JO_gT rfl rfl ?_
    refine JO_q (QE_mv rfl) rfl ?_
    refine JO_gT rfl rfl ?_
    refine JO_q (QE_seq rfl rfl) rfl ?_
    refine JO_q (QE_pickF rfl rfl) rfl ?_
    refine JO_nil ?_
    refine thenQ_n ?_
    refine JC_ifD rfl (fun c4 => ?_) (fun c4 => ?_)
    ·
     refine JC_seq ?_
     refine JC_region ?_
     refine JO_q (QE_as rfl) rfl ?_
     refine JO_nil ?_
     refine thenQ_n ?_
     refine JC_ret ?_
     refine thenQ_r ?_
     refine retQ_mk [] L (.inr rfl) (.tmp rfl (.nil)) rfl (Le.refl (D := D) _) (fun sR hS2 => ?_)
     refine ⟨?_, rfl⟩
     simp [resV, mnemB, labelB, *]; done
    ·
     refine JC_skip ?_
     refine thenQ_n ?_
     refine JC_seq ?_
     refine JC_seq ?_
     refine JC_region ?_
     refine JO_q (QE_mv rfl) rfl ?_
     refine JO_q (QE_lenT rfl rfl rfl) rfl ?_
     refine JO_q (QE_mv rfl) rfl ?_
     refine JO_nil ?_
     refine thenQ_n ?_
     refine JC_block ?_
     refine JC_loop (γ := Nat) (fun k => [(0, _), (2, _), (22, _), (23, .int .i64 (k : Int))]) (fun _ => _) (fun k tw => Le D s tw ∧ (k ≤ l.length ∧ ∀ i c, i < k → l[i]? = some c → chOK i c = true)) (fun k => l.length - k) (fun _ _ _ h hl => ⟨h.1.trans hl, h.2⟩) 0 (Keeps.cons rfl (Keeps.cons rfl (Keeps.cons rfl (Keeps.cons rfl (Keeps.nil _))))) rfl ⟨Le.refl _, ⟨Nat.zero_le _, fun i c hi => by omega⟩⟩ ?_
     intro k s5 I5
     have hk0 := I5.2.1
     have hI := I5.2.2
     refine JC_seq ?_
     refine JC_region ?_
     refine JO_q (QE_lt rfl rfl) rfl ?_
     refine JO_nil ?_
     refine thenQ_n ?_
     refine JC_seq ?_
     refine JC_ifD rfl (fun c6 => ?_) (fun c6 => ?_)
     ·
      have hk : k < l.length := by omega
      obtain ⟨ch, hch⟩ : ∃ ch, l[k]? = some ch := ⟨_, List.getElem?_eq_getElem hk⟩
      refine JC_skip ?_
      refine thenQ_n ?_
      refine JC_seq ?_
      refine JC_block ?_
      refine JC_seq ?_
      refine JC_region ?_
      refine JO_q (QE_mv rfl) rfl ?_
      refine JO_q (QE_as rfl) rfl ?_
      refine JO_nil ?_
      refine thenQ_n ?_
      refine JC_seq ?_
      refine JC_draw drawsMixed 22 rfl _ (fun _ h => h) ?_
      intro s7 h7
      refine JA_q 0 rfl (by kernel_rfl) (by kernel_rfl) (by kernel_rfl) trivial (QE_mv rfl) rfl ?_
      refine JA_q 1 rfl (by kernel_rfl) (by kernel_rfl) (by kernel_rfl) trivial (QE_mv rfl) rfl ?_
      refine JA_q 2 rfl (by kernel_rfl) (by kernel_rfl) (by kernel_rfl) trivial (QE_ix rfl rfl rfl rfl hch) rfl ?_
      refine JA_q 3 rfl (by kernel_rfl) (by kernel_rfl) (by kernel_rfl) trivial (QE_ge rfl rfl) rfl ?_
      refine JA_q 4 rfl (by kernel_rfl) (by kernel_rfl) (by kernel_rfl) trivial (QE_mv rfl) rfl ?_
      refine JA_caseD (t := 30) rfl (fun c8 => ?_) (fun c8 => ?_)
      ·
       refine JA_q 5 rfl (by kernel_rfl) (by kernel_rfl) (by kernel_rfl) ⟨_, rfl, rfl⟩ (QE_mv rfl) rfl ?_
       refine JA_q 6 rfl (by kernel_rfl) (by kernel_rfl) (by kernel_rfl) ⟨_, rfl, rfl⟩ (QE_mv rfl) rfl ?_
       refine JA_q 7 rfl (by kernel_rfl) (by kernel_rfl) (by kernel_rfl) ⟨_, rfl, rfl⟩ (QE_ix rfl rfl rfl rfl hch) rfl ?_
       refine JA_q 8 rfl (by kernel_rfl) (by kernel_rfl) (by kernel_rfl) ⟨_, rfl, rfl⟩ (QE_le rfl rfl) rfl ?_
       refine JA_q 9 rfl (by kernel_rfl) (by kernel_rfl) (by kernel_rfl) trivial (QE_pickT rfl rfl) rfl ?_
       refine JA_q 10 rfl (by kernel_rfl) (by kernel_rfl) (by kernel_rfl) trivial (QE_mv rfl) rfl ?_
       refine JA_q 11 rfl (by kernel_rfl) (by kernel_rfl) (by kernel_rfl) trivial (QE_mv rfl) rfl ?_
       refine JA_q 12 rfl (by kernel_rfl) (by kernel_rfl) (by kernel_rfl) trivial (QE_ix rfl rfl rfl rfl hch) rfl ?_
       refine JA_q 13 rfl (by kernel_rfl) (by kernel_rfl) (by kernel_rfl) trivial (QE_ge rfl rfl) rfl ?_
       refine JA_q 14 rfl (by kernel_rfl) (by kernel_rfl) (by kernel_rfl) trivial (QE_mv rfl) rfl ?_
       refine JA_caseD (t := 40) rfl (fun c9 => ?_) (fun c9 => ?_)
       ·
        refine JA_q 15 rfl (by kernel_rfl) (by kernel_rfl) (by kernel_rfl) ⟨_, rfl, rfl⟩ (QE_mv rfl) rfl ?_
        refine JA_q 16 rfl (by kernel_rfl) (by kernel_rfl) (by kernel_rfl) ⟨_, rfl, rfl⟩ (QE_mv rfl) rfl ?_
        refine JA_q 17 rfl (by kernel_rfl) (by kernel_rfl) (by kernel_rfl) ⟨_, rfl, rfl⟩ (QE_ix rfl rfl rfl rfl hch) rfl ?_
        refine JA_q 18 rfl (by kernel_rfl) (by kernel_rfl) (by kernel_rfl) ⟨_, rfl, rfl⟩ (QE_le rfl rfl) rfl ?_
        refine JA_q 19 rfl (by kernel_rfl) (by kernel_rfl) (by kernel_rfl) trivial (QE_pickT rfl rfl) rfl ?_
        refine JA_q 20 rfl (by kernel_rfl) (by kernel_rfl) (by kernel_rfl) trivial (QE_as rfl) rfl ?_
        refine JA_q 21 rfl (by kernel_rfl) (by kernel_rfl) (by kernel_rfl) trivial (QE_as rfl) rfl ?_
        refine JA_done (by kernel_rfl) ?_
        refine thenQ_n ?_
        refine JC_seq ?_
        refine JC_region ?_
        refine JO_q (QE_mv rfl) rfl ?_
        refine JO_q (QE_not rfl) rfl ?_
        refine JO_q (QE_mv rfl) rfl ?_
        refine JO_caseN (t := 48) rfl (fun c10 => ?_) (fun c10 => ?_)
        ·
         refine JO_gT rfl rfl ?_
         refine JO_q (QE_mv rfl) rfl ?_
         refine JO_gT rfl rfl ?_
         refine JO_q (QE_not rfl) rfl ?_
         refine JO_gT rfl rfl ?_
         refine JO_q (QE_mv rfl) rfl ?_
         refine JO_caseN (t := 51) rfl (fun c11 => ?_) (fun c11 => ?_)
         ·
          refine JO_gF rfl rfl rfl rfl ?_
          refine JO_gF rfl rfl rfl rfl ?_
          refine JO_gT rfl rfl ?_
          refine JO_q (QE_pickT rfl rfl) rfl ?_
          refine JO_q (QE_pickT rfl rfl) rfl ?_
          refine JO_nil ?_
          refine thenQ_n ?_
          refine JC_ifT rfl ?_
          refine JC_seq ?_
          refine JC_region ?_
          refine JO_q (QE_as rfl) rfl ?_
          refine JO_nil ?_
          refine thenQ_n ?_
          refine JC_ret ?_
          refine blockQ_r ?_
          refine thenQ_r ?_
          refine thenQ_r ?_
          refine blockQ_r ?_
          refine thenQ_r ?_
          refine retQ_mk [] L (.inr rfl) (.tmp rfl (.nil)) rfl (Le.trans I5.1 h7) (fun sR hS2 => ?_)
          refine ⟨?_, rfl⟩
          have hb : chOK k ch = false := by
            rw [Bool.eq_false_iff]; simp only [chOK, letB, digB, Bool.or_eq_true, Bool.and_eq_true, decide_eq_true_eq, ne_eq]; omega
          simp [resV, mnemB, labelB, chars_not hch hb]; done
         ·
          refine JO_gT rfl rfl ?_
          refine JO_q (QE_mv rfl) rfl ?_
          refine JO_gT rfl rfl ?_
          refine JO_q (QE_eq rfl rfl) rfl ?_
          refine JO_gT rfl rfl ?_
          refine JO_q (QE_pickF rfl rfl) rfl ?_
          refine JO_q (QE_pickT rfl rfl) rfl ?_
          refine JO_nil ?_
          refine thenQ_n ?_
          refine JC_ifD rfl (fun c12 => ?_) (fun c12 => ?_)
          ·
           refine JC_seq ?_
           refine JC_region ?_
           refine JO_q (QE_as rfl) rfl ?_
           refine JO_nil ?_
           refine thenQ_n ?_
           refine JC_ret ?_
           refine blockQ_r ?_
           refine thenQ_r ?_
           refine thenQ_r ?_
           refine blockQ_r ?_
           refine thenQ_r ?_
           refine retQ_mk [] L (.inr rfl) (.tmp rfl (.nil)) rfl (Le.trans I5.1 h7) (fun sR hS2 => ?_)
           refine ⟨?_, rfl⟩
           have hb : chOK k ch = false := by
             rw [Bool.eq_false_iff]; simp only [chOK, letB, digB, Bool.or_eq_true, Bool.and_eq_true, decide_eq_true_eq, ne_eq]; omega
           simp [resV, mnemB, labelB, chars_not hch hb]; done
          ·
           refine JC_skip ?_
           refine blockQ_n ?_
           refine thenQ_n ?_
           refine JC_region ?_
           refine JO_q (QE_add' rfl rfl (w64 (by omega) (by omega))) rfl ?_
           refine JO_q (QE_mv rfl) rfl ?_
           refine JO_nil ?_
           have hOK : chOK k ch = true := by simp only [chOK, letB, digB, Bool.or_eq_true, Bool.and_eq_true, decide_eq_true_eq, ne_eq]; omega
           refine thenQ_n ⟨(k + 1), [], (Keeps.cons rfl (Keeps.cons rfl (Keeps.cons rfl (Keeps.cons rfl (Keeps.nil _))))), rfl, ⟨(Le.trans I5.1 h7), ⟨by omega, below_succ hI hch hOK⟩⟩, (by omega)⟩
        ·
         refine JO_gF rfl rfl rfl rfl ?_
         refine JO_gF rfl rfl rfl rfl ?_
         refine JO_gF rfl rfl rfl rfl ?_
         refine JO_gU rfl rfl rfl ?_
         refine JO_gU rfl rfl rfl ?_
         refine JO_gF rfl rfl rfl rfl ?_
         refine JO_q (QE_pickF rfl rfl) rfl ?_
         refine JO_nil ?_
         refine thenQ_n ?_
         refine JC_ifF rfl ?_
         refine JC_skip ?_
         refine blockQ_n ?_
         refine thenQ_n ?_
         refine JC_region ?_
         refine JO_q (QE_add' rfl rfl (w64 (by omega) (by omega))) rfl ?_
         refine JO_q (QE_mv rfl) rfl ?_
         refine JO_nil ?_
         have hOK : chOK k ch = true := by simp only [chOK, letB, digB, Bool.or_eq_true, Bool.and_eq_true, decide_eq_true_eq, ne_eq]; omega
         refine thenQ_n ⟨(k + 1), [], (Keeps.cons rfl (Keeps.cons rfl (Keeps.cons rfl (Keeps.cons rfl (Keeps.nil _))))), rfl, ⟨(Le.trans I5.1 h7), ⟨by omega, below_succ hI hch hOK⟩⟩, (by omega)⟩
       ·
        refine JA_no 15 rfl (by kernel_rfl) (by kernel_rfl) (by kernel_rfl) rfl rfl rfl rfl ?_
        refine JA_no 16 rfl (by kernel_rfl) (by kernel_rfl) (by kernel_rfl) rfl rfl rfl rfl ?_
        refine JA_no 17 rfl (by kernel_rfl) (by kernel_rfl) (by kernel_rfl) rfl rfl rfl rfl ?_
        refine JA_no 18 rfl (by kernel_rfl) (by kernel_rfl) (by kernel_rfl) rfl rfl rfl rfl ?_
        refine JA_q 19 rfl (by kernel_rfl) (by kernel_rfl) (by kernel_rfl) trivial (QE_pickF rfl rfl) rfl ?_
        refine JA_q 20 rfl (by kernel_rfl) (by kernel_rfl) (by kernel_rfl) trivial (QE_as rfl) rfl ?_
        refine JA_q 21 rfl (by kernel_rfl) (by kernel_rfl) (by kernel_rfl) trivial (QE_as rfl) rfl ?_
        refine JA_done (by kernel_rfl) ?_
        refine thenQ_n ?_
        refine JC_seq ?_
        refine JC_region ?_
        refine JO_q (QE_mv rfl) rfl ?_
        refine JO_q (QE_not rfl) rfl ?_
        refine JO_q (QE_mv rfl) rfl ?_
        refine JO_caseN (t := 48) rfl (fun c13 => ?_) (fun c13 => ?_)
        ·
         refine JO_gT rfl rfl ?_
         refine JO_q (QE_mv rfl) rfl ?_
         refine JO_gT rfl rfl ?_
         refine JO_q (QE_notF rfl) rfl ?_
         refine JO_gT rfl rfl ?_
         refine JO_q (QE_mv rfl) rfl ?_
         refine JO_gF rfl rfl rfl rfl ?_
         refine JO_gF rfl rfl rfl rfl ?_
         refine JO_gT rfl rfl ?_
         refine JO_q (QE_pickT rfl rfl) rfl ?_
         refine JO_q (QE_pickT rfl rfl) rfl ?_
         refine JO_nil ?_
         refine thenQ_n ?_
         refine JC_ifT rfl ?_
         refine JC_seq ?_
         refine JC_region ?_
         refine JO_q (QE_as rfl) rfl ?_
         refine JO_nil ?_
         refine thenQ_n ?_
         refine JC_ret ?_
         refine blockQ_r ?_
         refine thenQ_r ?_
         refine thenQ_r ?_
         refine blockQ_r ?_
         refine thenQ_r ?_
         refine retQ_mk [] L (.inr rfl) (.tmp rfl (.nil)) rfl (Le.trans I5.1 h7) (fun sR hS2 => ?_)
         refine ⟨?_, rfl⟩
         have hb : chOK k ch = false := by
           rw [Bool.eq_false_iff]; simp only [chOK, letB, digB, Bool.or_eq_true, Bool.and_eq_true, decide_eq_true_eq, ne_eq]; omega
         simp [resV, mnemB, labelB, chars_not hch hb]; done
        ·
         refine JO_gF rfl rfl rfl rfl ?_
         refine JO_gF rfl rfl rfl rfl ?_
         refine JO_gF rfl rfl rfl rfl ?_
         refine JO_gU rfl rfl rfl ?_
         refine JO_gU rfl rfl rfl ?_
         refine JO_gF rfl rfl rfl rfl ?_
         refine JO_q (QE_pickF rfl rfl) rfl ?_
         refine JO_nil ?_
         refine thenQ_n ?_
         refine JC_ifF rfl ?_
         refine JC_skip ?_
         refine blockQ_n ?_
         refine thenQ_n ?_
         refine JC_region ?_
         refine JO_q (QE_add' rfl rfl (w64 (by omega) (by omega))) rfl ?_
         refine JO_q (QE_mv rfl) rfl ?_
         refine JO_nil ?_
         have hOK : chOK k ch = true := by simp only [chOK, letB, digB, Bool.or_eq_true, Bool.and_eq_true, decide_eq_true_eq, ne_eq]; omega
         refine thenQ_n ⟨(k + 1), [], (Keeps.cons rfl (Keeps.cons rfl (Keeps.cons rfl (Keeps.cons rfl (Keeps.nil _))))), rfl, ⟨(Le.trans I5.1 h7), ⟨by omega, below_succ hI hch hOK⟩⟩, (by omega)⟩
      ·
       refine JA_no 5 rfl (by kernel_rfl) (by kernel_rfl) (by kernel_rfl) rfl rfl rfl rfl ?_
       refine JA_no 6 rfl (by kernel_rfl) (by kernel_rfl) (by kernel_rfl) rfl rfl rfl rfl ?_
       refine JA_no 7 rfl (by kernel_rfl) (by kernel_rfl) (by kernel_rfl) rfl rfl rfl rfl ?_
       refine JA_no 8 rfl (by kernel_rfl) (by kernel_rfl) (by kernel_rfl) rfl rfl rfl rfl ?_
       refine JA_q 9 rfl (by kernel_rfl) (by kernel_rfl) (by kernel_rfl) trivial (QE_pickF rfl rfl) rfl ?_
       refine JA_q 10 rfl (by kernel_rfl) (by kernel_rfl) (by kernel_rfl) trivial (QE_mv rfl) rfl ?_
       refine JA_q 11 rfl (by kernel_rfl) (by kernel_rfl) (by kernel_rfl) trivial (QE_mv rfl) rfl ?_
       refine JA_q 12 rfl (by kernel_rfl) (by kernel_rfl) (by kernel_rfl) trivial (QE_ix rfl rfl rfl rfl hch) rfl ?_
       refine JA_q 13 rfl (by kernel_rfl) (by kernel_rfl) (by kernel_rfl) trivial (QE_ge rfl rfl) rfl ?_
       refine JA_q 14 rfl (by kernel_rfl) (by kernel_rfl) (by kernel_rfl) trivial (QE_mv rfl) rfl ?_
       refine JA_caseD (t := 40) rfl (fun c14 => ?_) (fun c14 => ?_)
       ·
        refine JA_q 15 rfl (by kernel_rfl) (by kernel_rfl) (by kernel_rfl) ⟨_, rfl, rfl⟩ (QE_mv rfl) rfl ?_
        refine JA_q 16 rfl (by kernel_rfl) (by kernel_rfl) (by kernel_rfl) ⟨_, rfl, rfl⟩ (QE_mv rfl) rfl ?_
        refine JA_q 17 rfl (by kernel_rfl) (by kernel_rfl) (by kernel_rfl) ⟨_, rfl, rfl⟩ (QE_ix rfl rfl rfl rfl hch) rfl ?_
        refine JA_q 18 rfl (by kernel_rfl) (by kernel_rfl) (by kernel_rfl) ⟨_, rfl, rfl⟩ (QE_le rfl rfl) rfl ?_
        refine JA_q 19 rfl (by kernel_rfl) (by kernel_rfl) (by kernel_rfl) trivial (QE_pickT rfl rfl) rfl ?_
        refine JA_q 20 rfl (by kernel_rfl) (by kernel_rfl) (by kernel_rfl) trivial (QE_as rfl) rfl ?_
        refine JA_q 21 rfl (by kernel_rfl) (by kernel_rfl) (by kernel_rfl) trivial (QE_as rfl) rfl ?_
        refine JA_done (by kernel_rfl) ?_
        refine thenQ_n ?_
        refine JC_seq ?_
        refine JC_region ?_
        refine JO_q (QE_mv rfl) rfl ?_
        refine JO_q (QE_notF rfl) rfl ?_
        refine JO_q (QE_mv rfl) rfl ?_
        refine JO_gT rfl rfl ?_
        refine JO_q (QE_mv rfl) rfl ?_
        refine JO_gT rfl rfl ?_
        refine JO_q (QE_not rfl) rfl ?_
        refine JO_gT rfl rfl ?_
        refine JO_q (QE_mv rfl) rfl ?_
        refine JO_caseN (t := 51) rfl (fun c15 => ?_) (fun c15 => ?_)
        ·
         refine JO_gF rfl rfl rfl rfl ?_
         refine JO_gF rfl rfl rfl rfl ?_
         refine JO_gT rfl rfl ?_
         refine JO_q (QE_pickT rfl rfl) rfl ?_
         refine JO_q (QE_pickT rfl rfl) rfl ?_
         refine JO_nil ?_
         refine thenQ_n ?_
         refine JC_ifT rfl ?_
         refine JC_seq ?_
         refine JC_region ?_
         refine JO_q (QE_as rfl) rfl ?_
         refine JO_nil ?_
         refine thenQ_n ?_
         refine JC_ret ?_
         refine blockQ_r ?_
         refine thenQ_r ?_
         refine thenQ_r ?_
         refine blockQ_r ?_
         refine thenQ_r ?_
         refine retQ_mk [] L (.inr rfl) (.tmp rfl (.nil)) rfl (Le.trans I5.1 h7) (fun sR hS2 => ?_)
         refine ⟨?_, rfl⟩
         have hb : chOK k ch = false := by
           rw [Bool.eq_false_iff]; simp only [chOK, letB, digB, Bool.or_eq_true, Bool.and_eq_true, decide_eq_true_eq, ne_eq]; omega
         simp [resV, mnemB, labelB, chars_not hch hb]; done
        ·
         refine JO_gT rfl rfl ?_
         refine JO_q (QE_mv rfl) rfl ?_
         refine JO_gT rfl rfl ?_
         refine JO_q (QE_eq rfl rfl) rfl ?_
         refine JO_gT rfl rfl ?_
         refine JO_q (QE_pickF rfl rfl) rfl ?_
         refine JO_q (QE_pickT rfl rfl) rfl ?_
         refine JO_nil ?_
         refine thenQ_n ?_
         refine JC_ifD rfl (fun c16 => ?_) (fun c16 => ?_)
         ·
          refine JC_seq ?_
          refine JC_region ?_
          refine JO_q (QE_as rfl) rfl ?_
          refine JO_nil ?_
          refine thenQ_n ?_
          refine JC_ret ?_
          refine blockQ_r ?_
          refine thenQ_r ?_
          refine thenQ_r ?_
          refine blockQ_r ?_
          refine thenQ_r ?_
          refine retQ_mk [] L (.inr rfl) (.tmp rfl (.nil)) rfl (Le.trans I5.1 h7) (fun sR hS2 => ?_)
          refine ⟨?_, rfl⟩
          have hb : chOK k ch = false := by
            rw [Bool.eq_false_iff]; simp only [chOK, letB, digB, Bool.or_eq_true, Bool.and_eq_true, decide_eq_true_eq, ne_eq]; omega
          simp [resV, mnemB, labelB, chars_not hch hb]; done
         ·
          refine JC_skip ?_
          refine blockQ_n ?_
          refine thenQ_n ?_
          refine JC_region ?_
          refine JO_q (QE_add' rfl rfl (w64 (by omega) (by omega))) rfl ?_
          refine JO_q (QE_mv rfl) rfl ?_
          refine JO_nil ?_
          have hOK : chOK k ch = true := by simp only [chOK, letB, digB, Bool.or_eq_true, Bool.and_eq_true, decide_eq_true_eq, ne_eq]; omega
          refine thenQ_n ⟨(k + 1), [], (Keeps.cons rfl (Keeps.cons rfl (Keeps.cons rfl (Keeps.cons rfl (Keeps.nil _))))), rfl, ⟨(Le.trans I5.1 h7), ⟨by omega, below_succ hI hch hOK⟩⟩, (by omega)⟩
       ·
        refine JA_no 15 rfl (by kernel_rfl) (by kernel_rfl) (by kernel_rfl) rfl rfl rfl rfl ?_
        refine JA_no 16 rfl (by kernel_rfl) (by kernel_rfl) (by kernel_rfl) rfl rfl rfl rfl ?_
        refine JA_no 17 rfl (by kernel_rfl) (by kernel_rfl) (by kernel_rfl) rfl rfl rfl rfl ?_
        refine JA_no 18 rfl (by kernel_rfl) (by kernel_rfl) (by kernel_rfl) rfl rfl rfl rfl ?_
        refine JA_q 19 rfl (by kernel_rfl) (by kernel_rfl) (by kernel_rfl) trivial (QE_pickF rfl rfl) rfl ?_
        refine JA_q 20 rfl (by kernel_rfl) (by kernel_rfl) (by kernel_rfl) trivial (QE_as rfl) rfl ?_
        refine JA_q 21 rfl (by kernel_rfl) (by kernel_rfl) (by kernel_rfl) trivial (QE_as rfl) rfl ?_
        refine JA_done (by kernel_rfl) ?_
        refine thenQ_n ?_
        refine JC_seq ?_
        refine JC_region ?_
        refine JO_q (QE_mv rfl) rfl ?_
        refine JO_q (QE_notF rfl) rfl ?_
        refine JO_q (QE_mv rfl) rfl ?_
        refine JO_gT rfl rfl ?_
        refine JO_q (QE_mv rfl) rfl ?_
        refine JO_gT rfl rfl ?_
        refine JO_q (QE_notF rfl) rfl ?_
        refine JO_gT rfl rfl ?_
        refine JO_q (QE_mv rfl) rfl ?_
        refine JO_gF rfl rfl rfl rfl ?_
        refine JO_gF rfl rfl rfl rfl ?_
        refine JO_gT rfl rfl ?_
        refine JO_q (QE_pickT rfl rfl) rfl ?_
        refine JO_q (QE_pickT rfl rfl) rfl ?_
        refine JO_nil ?_
        refine thenQ_n ?_
        refine JC_ifT rfl ?_
        refine JC_seq ?_
        refine JC_region ?_
        refine JO_q (QE_as rfl) rfl ?_
        refine JO_nil ?_
        refine thenQ_n ?_
        refine JC_ret ?_
        refine blockQ_r ?_
        refine thenQ_r ?_
        refine thenQ_r ?_
        refine blockQ_r ?_
        refine thenQ_r ?_
        refine retQ_mk [] L (.inr rfl) (.tmp rfl (.nil)) rfl (Le.trans I5.1 h7) (fun sR hS2 => ?_)
        refine ⟨?_, rfl⟩
        have hb : chOK k ch = false := by
          rw [Bool.eq_false_iff]; simp only [chOK, letB, digB, Bool.or_eq_true, Bool.and_eq_true, decide_eq_true_eq, ne_eq]; omega
        simp [resV, mnemB, labelB, chars_not hch hb]; done
     ·
      refine JC_exit ?_
      refine thenQ_x ?_
      refine thenQ_x ?_
      refine blockQ_x ?_
      refine thenQ_n ?_
      refine JC_seq ?_
      refine JC_region ?_
      refine JO_q (QE_as rfl) rfl ?_
      refine JO_nil ?_
      refine thenQ_n ?_
      refine JC_ret ?_
      refine retQ_mk [] L (.inr rfl) (.tmp rfl (.nil)) rfl I5.1 (fun sR hS2 => ?_)
      refine ⟨?_, rfl⟩
      have hb := chars_all (fun i c hi hc => hI i c (by omega) hc)
      have h6 : l.length ≤ 6 := by omega
      simp [resV, mnemB, labelB, hb, h6, *]; done
set_option maxHeartbeats 1000000 in
set_option maxRecDepth 100000 in
theorem checkInstruction_ac (D : Nat) (L : Hl) (s : World) (x : Ins) (A : Option Addr) (n c : Nat) (hA : Acs s A n c x.acts) : AC Tryz.prog D 81 [.agg #[St x.name, .int .u32 x.code, .bool x.operand, .slice A n c]] L s fun v L' _ => v = .int .i64 (insCode x) ∧ L = L' := by
 have hn := hA.1
 have hc1 := hA.2.1
 have hc2 := hA.2.2.1
 refine AC_enter (TT := TT) (fn := Tryz.f81) TT_ok Tryz.func81 (by kernel_rfl) rfl Tryz.ntmps81 rfl (rs := [.tmp 2]) rfl [(0, _)] rfl ?_
 refine JC_seq ?_
 refine JC_region ?_
 refine JO_boxA rfl rfl ?_
 intro β1 s1 h1
 refine JO_q (QE_as rfl) rfl ?_
 refine JO_nil ?_
 refine thenQ_n ?_
 refine JC_seq ?_
 refine JC_block ?_
 refine JC_seq ?_
 refine JC_region ?_
 refine JO_q (QE_fa0 rfl rfl rfl rfl) rfl ?_
 refine JO_q (QE_ld1 0 rfl rfl rfl rfl rfl) rfl ?_
 refine JO_call (first := []) (captured := []) rfl rfl rfl (isMnemonic_ac D _ _ _) ?_
 rintro _ _ s2 h2 ⟨rfl, rfl⟩
 refine JO_q (QE_not rfl) rfl ?_
 refine JO_q (QE_as rfl) rfl ?_
 refine JO_nil ?_
 refine thenQ_n ?_
 refine JC_ifM rfl (fun c3 => ?_) (fun c3 => ?_)
 ·
  refine JC_seq ?_
  refine JC_region ?_
  refine JO_q (QE_as rfl) rfl ?_
  refine JO_nil ?_
  refine thenQ_n ?_
  refine JC_ret ?_
  refine blockQ_r ?_
  refine thenQ_r ?_
  refine retQ_mk [_] L (.inr rfl) (.tmp rfl (.nil)) rfl (Le.trans h1 h2) (fun sR hS2 => ?_)
  refine ⟨?_, rfl⟩
  simp [resV, insCode, *]; done
 ·
  refine JC_seq ?_
  refine JC_region ?_
  refine JO_q (QE_faB rfl rfl rfl rfl) rfl ?_
  refine JO_q (QE_ld1 0 rfl rfl rfl rfl rfl) rfl ?_
  refine JO_q (QE_lenS rfl rfl rfl) rfl ?_
  refine JO_q (QE_gt rfl rfl) rfl ?_
  refine JO_q (QE_as rfl) rfl ?_
  refine JO_nil ?_
  refine thenQ_n ?_
  refine JC_ifD rfl (fun c4 => ?_) (fun c4 => ?_)
  ·
   refine JC_seq ?_
   refine JC_region ?_
   refine JO_q (QE_as rfl) rfl ?_
   refine JO_nil ?_
   refine thenQ_n ?_
   refine JC_ret ?_
   refine blockQ_r ?_
   refine thenQ_r ?_
   refine retQ_mk [_] L (.inr rfl) (.tmp rfl (.nil)) rfl (Le.trans h1 h2) (fun sR hS2 => ?_)
   refine ⟨?_, rfl⟩
   have h8 : 8 < x.acts.length := by omega
   simp [resV, insCode, h8, *]; done
  ·
   refine JC_skip ?_
   refine blockQ_n ?_
   refine thenQ_n ?_
   refine JC_seq ?_
   refine JC_seq ?_
   refine JC_region ?_
   refine JO_q (QE_faB rfl rfl rfl rfl) rfl ?_
   refine JO_q (QE_ld1 0 rfl rfl rfl rfl rfl) rfl ?_
   refine JO_q (QE_lenS rfl rfl rfl) rfl ?_
   refine JO_q (QE_mv rfl) rfl ?_
   refine JO_nil ?_
   refine thenQ_n ?_
   refine JC_block ?_
   refine JC_loop (γ := Nat) (fun k => [(1, _), (2, _), (17, _), (18, _), (19, .int .i64 (k : Int))]) (fun _ => _) (fun k tw => Le D s2 tw ∧ (k ≤ n ∧ ∀ i a, i < k → x.acts[i]? = some a → actCode a x.operand = 0)) (fun k => n - k) (fun _ _ _ h hl => ⟨h.1.trans hl, h.2⟩) 0 (Keeps.cons rfl (Keeps.cons rfl (Keeps.cons rfl (Keeps.cons rfl (Keeps.cons rfl (Keeps.nil _)))))) rfl ⟨Le.refl _, ⟨Nat.zero_le _, fun i c hi => by omega⟩⟩ ?_
   intro k s5 I5
   have hk0 := I5.2.1
   have hI := I5.2.2
   refine JC_seq ?_
   refine JC_region ?_
   refine JO_q (QE_lt rfl rfl) rfl ?_
   refine JO_nil ?_
   refine thenQ_n ?_
   refine JC_seq ?_
   refine JC_ifD rfl (fun c6 => ?_) (fun c6 => ?_)
   ·
    have hk : k < n := by omega
    obtain ⟨b, off, a, rfl, ha, hca, hau⟩ := Acs.at_ (hA.le (Le.trans (Le.trans h1 h2) I5.1)) hk
    refine JC_skip ?_
    refine thenQ_n ?_
    refine JC_seq ?_
    refine JC_block ?_
    refine JC_seq ?_
    refine JC_region ?_
    refine JO_q (QE_iaN rfl rfl rfl rfl rfl rfl hk) rfl ?_
    refine JO_q (QE_ldsA rfl rfl rfl hca rfl) rfl ?_
    refine JO_allocZ rfl [_, _, _, _, _, _] rfl rfl ?_
    intro β7 s7 h7
    refine JO_st 0 [_, _, _, _, _, _] rfl rfl rfl rfl rfl rfl rfl rfl rfl ?_
    refine JO_nil ?_
    refine thenQ_n ?_
    refine JC_seq ?_
    refine JC_region ?_
    refine JO_q (QE_ldA 0 [_, _, _, _, _, _] rfl rfl rfl rfl rfl) rfl ?_
    refine JO_q (QE_faB rfl rfl rfl rfl) rfl ?_
    refine JO_q (QE_ld1 1 rfl rfl rfl rfl rfl) rfl ?_
    refine JO_call (first := []) (captured := []) rfl rfl rfl (checkAction_ac D _ _ _ _) ?_
    rintro _ _ s8 h8 ⟨rfl, rfl⟩
    refine JO_q (QE_as rfl) rfl ?_
    refine JO_nil ?_
    refine thenQ_n ?_
    refine JC_seq ?_
    refine JC_region ?_
    refine JO_q (QE_mv rfl) rfl ?_
    refine JO_q (QE_ne rfl rfl) rfl ?_
    refine JO_nil ?_
    refine thenQ_n ?_
    refine JC_ifN rfl (fun c9 => ?_) (fun c9 => ?_)
    ·
     have hz : actCode a x.operand ≠ 0 := by simpa using c9
     refine JC_seq ?_
     refine JC_region ?_
     refine JO_q (QE_mv rfl) rfl ?_
     refine JO_q (QE_as rfl) rfl ?_
     refine JO_nil ?_
     refine thenQ_n ?_
     refine JC_ret ?_
     refine blockQ_r ?_
     refine thenQ_r ?_
     refine thenQ_r ?_
     refine blockQ_r ?_
     refine thenQ_r ?_
     refine retQ_mk [_, _] L (.inr rfl) (.tmp rfl (.nil)) rfl (Le.trans (Le.trans (Le.trans (Le.trans h1 h2) I5.1) h7) h8) (fun sR hS2 => ?_)
     refine ⟨?_, rfl⟩
     have h8 : ¬ 8 < x.acts.length := by omega
     simp [resV, insCode, h8, firstNZ_hit hI ha hz, *]; done
    ·
     have hz : actCode a x.operand = 0 := by simpa using c9
     refine JC_skip ?_
     refine blockQ_n ?_
     refine thenQ_n ?_
     refine JC_region ?_
     refine JO_q (QE_add' rfl rfl (w64 (by omega) (by omega))) rfl ?_
     refine JO_q (QE_mv rfl) rfl ?_
     refine JO_nil ?_
     refine thenQ_n ⟨(k + 1), [_], (Keeps.cons rfl (Keeps.cons rfl (Keeps.cons rfl (Keeps.cons rfl (Keeps.cons rfl (Keeps.nil _)))))), rfl, ⟨(Le.trans (Le.trans I5.1 h7) h8), ⟨by omega, below_succ hI ha hz⟩⟩, (by omega)⟩
   ·
    refine JC_exit ?_
    refine thenQ_x ?_
    refine thenQ_x ?_
    refine blockQ_x ?_
    refine thenQ_n ?_
    refine JC_seq ?_
    refine JC_region ?_
    refine JO_q (QE_as rfl) rfl ?_
    refine JO_nil ?_
    refine thenQ_n ?_
    refine JC_ret ?_
    refine retQ_mk [_] L (.inr rfl) (.tmp rfl (.nil)) rfl (Le.trans (Le.trans h1 h2) I5.1) (fun sR hS2 => ?_)
    refine ⟨?_, rfl⟩
    have h8 : ¬ 8 < x.acts.length := by omega
    simp [resV, insCode, h8, firstNZ_none (fun i a hi h => hI i a (by omega) h), *]; done
set_option maxHeartbeats 1000000 in
set_option maxRecDepth 100000 in
theorem validate1_ac (D : Nat) (L : Hl) (s : World) (x y : Ins) (A A' : Option Addr) (n c n' c' β : Nat) : AC Tryz.prog D 83 [.agg #[St y.name, .int .u32 y.code, .bool y.operand, .slice A' n' c'], .pointer (some ⟨β, 0, none⟩)] ((β, cb [St x.name, .int .u32 x.code, .bool x.operand, .slice A n c] 97) :: L) s fun v L' _ => v = .bool (sameKey x y) ∧ (β, cb [St x.name, .int .u32 x.code, .bool x.operand, .slice A n c] 97) :: L = L' := by
 refine AC_enter (TT := TT) (fn := Tryz.f83) TT_ok Tryz.func83 (by kernel_rfl) rfl Tryz.ntmps83 rfl (rs := [.tmp 3]) rfl [(0, _), (1, _)] rfl ?_
 refine JC_seq ?_
 refine JC_region ?_
 refine JO_boxA rfl rfl ?_
 intro β1 s1 h1
 refine JO_q (QE_as rfl) rfl ?_
 refine JO_nil ?_
 refine thenQ_n ?_
 refine JC_seq ?_
 refine JC_region ?_
 refine JO_q (QE_fa0 rfl rfl rfl rfl) rfl ?_
 refine JO_q (QE_ld1 1 rfl rfl rfl rfl rfl) rfl ?_
 refine JO_q (QE_fa0 rfl rfl rfl rfl) rfl ?_
 refine JO_q (QE_ld1 0 rfl rfl rfl rfl rfl) rfl ?_
 refine JO_q (QE_seq rfl rfl) rfl ?_
 refine JO_q (QE_mv rfl) rfl ?_
 refine JO_caseD (t := 9) rfl (fun c2 => ?_) (fun c2 => ?_)
 ·
  refine JO_gF rfl rfl rfl rfl ?_
  refine JO_gF rfl rfl rfl rfl ?_
  refine JO_gF rfl rfl rfl rfl ?_
  refine JO_gF rfl rfl rfl rfl ?_
  refine JO_gF rfl rfl rfl rfl ?_
  refine JO_q (QE_pickT rfl rfl) rfl ?_
  refine JO_q (QE_as rfl) rfl ?_
  refine JO_nil ?_
  refine thenQ_n ?_
  refine JC_ret ?_
  refine retQ_mk [_] ((β, cb [St x.name, .int .u32 x.code, .bool x.operand, .slice A n c] 97) :: L) (.inr rfl) (.tmp rfl (.nil)) rfl h1 (fun sR hS2 => ?_)
  exact ⟨by simp_all [resV, sameKey], rfl⟩
 ·
  refine JO_gT rfl rfl ?_
  refine JO_q (QE_faB rfl rfl rfl rfl) rfl ?_
  refine JO_gT rfl rfl ?_
  refine JO_q (QE_ld1 1 rfl rfl rfl rfl rfl) rfl ?_
  refine JO_gT rfl rfl ?_
  refine JO_q (QE_faB rfl rfl rfl rfl) rfl ?_
  refine JO_gT rfl rfl ?_
  refine JO_q (QE_ld1 0 rfl rfl rfl rfl rfl) rfl ?_
  refine JO_gT rfl rfl ?_
  refine JO_q (QE_eq rfl rfl) rfl ?_
  refine JO_q (QE_pickF rfl rfl) rfl ?_
  refine JO_q (QE_as rfl) rfl ?_
  refine JO_nil ?_
  refine thenQ_n ?_
  refine JC_ret ?_
  refine retQ_mk [_] ((β, cb [St x.name, .int .u32 x.code, .bool x.operand, .slice A n c] 97) :: L) (.inr rfl) (.tmp rfl (.nil)) rfl h1 (fun sR hS2 => ?_)
  exact ⟨by simp_all [resV, sameKey], rfl⟩
set_option maxHeartbeats 1000000 in
set_option maxRecDepth 100000 in
theorem indexFunc_ac (D : Nat) (L : Hl) (s : World) (A : Option Addr) (n c : Nat) (l : List Ins) (hA : Inss s A n c l) (f : FuncId) (cap : List Value) (p : Ins → Bool) (hp : ∀ s' x A' n' c', AC Tryz.prog D f ([.agg #[St x.name, .int .u32 x.code, .bool x.operand, .slice A' n' c']] ++ cap) L s' fun v L' _ => v = .bool (p x) ∧ L = L') : AC Tryz.prog D 105 [.slice A n c, .func (.func f) #[] cap.toArray] L s fun v L' _ => v = .int .i64 (idxOf p l 0) ∧ L = L' := by
 have hn := hA.1
 have hc1 := hA.2.1
 have hc2 := hA.2.2.1
 refine AC_enter (TT := TT) (fn := Tryz.f105) TT_ok Tryz.func105 (by kernel_rfl) rfl Tryz.ntmps105 rfl (rs := [.tmp 4]) rfl [(0, _), (1, _)] rfl ?_
 refine JC_seq ?_
 refine JC_region ?_
 refine JO_q (QE_as rfl) rfl ?_
 refine JO_nil ?_
 refine thenQ_n ?_
 refine JC_seq ?_
 refine JC_seq ?_
 refine JC_region ?_
 refine JO_q (QE_mv rfl) rfl ?_
 refine JO_q (QE_lenS rfl rfl rfl) rfl ?_
 refine JO_q (QE_mv rfl) rfl ?_
 refine JO_nil ?_
 refine thenQ_n ?_
 refine JC_block ?_
 refine JC_loop (γ := Nat) (fun k => [(0, _), (1, _), (4, _), (7, _), (8, .int .i64 (k : Int))]) (fun _ => _) (fun k tw => Le D s tw ∧ (k ≤ n ∧ ∀ i x, i < k → l[i]? = some x → p x = false)) (fun k => n - k) (fun _ _ _ h hl => ⟨h.1.trans hl, h.2⟩) 0 (Keeps.cons rfl (Keeps.cons rfl (Keeps.cons rfl (Keeps.cons rfl (Keeps.cons rfl (Keeps.nil _)))))) rfl ⟨Le.refl _, ⟨Nat.zero_le _, fun i c hi => by omega⟩⟩ ?_
 intro k s1 I1
 have hk0 := I1.2.1
 have hI := I1.2.2
 refine JC_seq ?_
 refine JC_region ?_
 refine JO_q (QE_lt rfl rfl) rfl ?_
 refine JO_nil ?_
 refine thenQ_n ?_
 refine JC_seq ?_
 refine JC_ifD rfl (fun c2 => ?_) (fun c2 => ?_)
 ·
  have hk : k < n := by omega
  obtain ⟨b, off, x, A', n', c', rfl, hx, hcx, hax, hnl, hcd⟩ := Inss.at_ (hA.le I1.1) hk
  refine JC_skip ?_
  refine thenQ_n ?_
  refine JC_seq ?_
  refine JC_block ?_
  refine JC_seq ?_
  refine JC_region ?_
  refine JO_q (QE_mv rfl) rfl ?_
  refine JO_q (QE_as rfl) rfl ?_
  refine JO_nil ?_
  refine thenQ_n ?_
  refine JC_seq ?_
  refine JC_region ?_
  refine JO_q (QE_mv rfl) rfl ?_
  refine JO_q (QE_mv rfl) rfl ?_
  refine JO_q (QE_mv rfl) rfl ?_
  refine JO_q (QE_iaN rfl rfl rfl rfl rfl rfl hk) rfl ?_
  refine JO_q (QE_ldsA rfl rfl rfl hcx rfl) rfl ?_
  refine JO_call (first := []) (captured := cap) rfl rfl rfl (hp _ x _ _ _) ?_
  rintro _ _ s3 h3 ⟨rfl, rfl⟩
  refine JO_nil ?_
  refine thenQ_n ?_
  refine JC_if rfl (fun c4 => ?_) (fun c4 => ?_)
  ·
   have hz := c4
   refine JC_seq ?_
   refine JC_region ?_
   refine JO_q (QE_mv rfl) rfl ?_
   refine JO_q (QE_as rfl) rfl ?_
   refine JO_nil ?_
   refine thenQ_n ?_
   refine JC_ret ?_
   refine blockQ_r ?_
   refine thenQ_r ?_
   refine thenQ_r ?_
   refine blockQ_r ?_
   refine thenQ_r ?_
   refine retQ_mk [] L (.inr rfl) (.tmp rfl (.nil)) rfl (Le.trans I1.1 h3) (fun sR hS2 => ?_)
   refine ⟨?_, rfl⟩
   simp [resV, idxOf_hit hI hx hz]; done
  ·
   have hz := c4
   refine JC_skip ?_
   refine blockQ_n ?_
   refine thenQ_n ?_
   refine JC_region ?_
   refine JO_q (QE_add' rfl rfl (w64 (by omega) (by omega))) rfl ?_
   refine JO_q (QE_mv rfl) rfl ?_
   refine JO_nil ?_
   refine thenQ_n ⟨(k + 1), [], (Keeps.cons rfl (Keeps.cons rfl (Keeps.cons rfl (Keeps.cons rfl (Keeps.cons rfl (Keeps.nil _)))))), rfl, ⟨(Le.trans I1.1 h3), ⟨by omega, below_succ hI hx hz⟩⟩, (by omega)⟩
 ·
  refine JC_exit ?_
  refine thenQ_x ?_
  refine thenQ_x ?_
  refine blockQ_x ?_
  refine thenQ_n ?_
  refine JC_seq ?_
  refine JC_region ?_
  refine JO_q (QE_as rfl) rfl ?_
  refine JO_nil ?_
  refine thenQ_n ?_
  refine JC_ret ?_
  refine retQ_mk [] L (.inr rfl) (.tmp rfl (.nil)) rfl I1.1 (fun sR hS2 => ?_)
  refine ⟨?_, rfl⟩
  simp [resV, idxOf_none (fun i a hi h => hI i a (by omega) h)]; done
set_option maxHeartbeats 1000000 in
set_option maxRecDepth 100000 in
theorem containsFunc_ac (D : Nat) (L : Hl) (s : World) (A : Option Addr) (n c : Nat) (l : List Ins) (hA : Inss s A n c l) (f : FuncId) (cap : List Value) (p : Ins → Bool) (hp : ∀ s' x A' n' c', AC Tryz.prog D f ([.agg #[St x.name, .int .u32 x.code, .bool x.operand, .slice A' n' c']] ++ cap) L s' fun v L' _ => v = .bool (p x) ∧ L = L') : AC Tryz.prog D 82 [.slice A n c, .func (.func f) #[] cap.toArray] L s fun v L' _ => v = .bool (l.any p) ∧ L = L' := by
 refine AC_enter (TT := TT) (fn := Tryz.f82) TT_ok Tryz.func82 (by kernel_rfl) rfl Tryz.ntmps82 rfl (rs := [.tmp 4]) rfl [(0, _), (1, _)] rfl ?_
 refine JC_seq ?_
 refine JC_region ?_
 refine JO_q (QE_as rfl) rfl ?_
 refine JO_nil ?_
 refine thenQ_n ?_
 refine JC_seq ?_
 refine JC_region ?_
 refine JO_q (QE_mv rfl) rfl ?_
 refine JO_q (QE_mv rfl) rfl ?_
 refine JO_call (first := []) (captured := []) rfl rfl rfl (indexFunc_ac D _ _ _ _ _ l hA f cap p hp) ?_
 rintro _ _ s1 h1 ⟨rfl, rfl⟩
 refine JO_q (QE_ge rfl rfl) rfl ?_
 refine JO_q (QE_as rfl) rfl ?_
 refine JO_nil ?_
 refine thenQ_n ?_
 refine JC_ret ?_
 refine retQ_mk [] L (.inr rfl) (.tmp rfl (.nil)) rfl h1 (fun sR hS2 => ?_)
 exact ⟨by simp only [resV, idxOf_any], rfl⟩
set_option maxHeartbeats 1000000 in
set_option maxRecDepth 100000 in
theorem validate_ac (D : Nat) (L : Hl) (s : World) (t : Tab) (A : Option Addr) (n c : Nat) (hA : Inss s A n c t.ins) : AC Tryz.prog D 49 [.agg #[.int .i64 t.cells, .slice A n c]] L s fun v L' _ => v = .agg #[.int .i64 (tabFault t).1, .int .i64 (tabFault t).2] ∧ L = L' := by
 have hn := hA.1
 have hc1 := hA.2.1
 have hc2 := hA.2.2.1
 refine AC_enter (TT := TT) (fn := Tryz.f49) TT_ok Tryz.func49 (by kernel_rfl) rfl Tryz.ntmps49 rfl (rs := [.cell 2 27]) rfl [(0, _)] rfl ?_
 refine JC_seq ?_
 refine JC_region ?_
 refine JO_boxA rfl rfl ?_
 intro β1 s1 h1
 refine JO_allocZ rfl [_, _] rfl rfl ?_
 intro β2 s2 h2
 refine JO_nil ?_
 refine thenQ_n ?_
 refine JC_seq ?_
 refine JC_block ?_
 refine JC_seq ?_
 refine JC_region ?_
 refine JO_q (QE_fa0 rfl rfl rfl rfl) rfl ?_
 refine JO_q (QE_ld1 1 rfl rfl rfl rfl rfl) rfl ?_
 refine JO_q (QE_lt rfl rfl) rfl ?_
 refine JO_q (QE_mv rfl) rfl ?_
 refine JO_caseD (t := 10) rfl (fun c3 => ?_) (fun c3 => ?_)
 ·
  refine JO_gF rfl rfl rfl rfl ?_
  refine JO_gF rfl rfl rfl rfl ?_
  refine JO_gF rfl rfl rfl rfl ?_
  refine JO_q (QE_pickT rfl rfl) rfl ?_
  refine JO_q (QE_as rfl) rfl ?_
  refine JO_nil ?_
  refine thenQ_n ?_
  refine JC_ifT rfl ?_
  refine JC_seq ?_
  refine JC_region ?_
  refine JO_call (first := []) (captured := []) rfl rfl rfl (fault_ac D _ _ _ _) ?_
  rintro _ _ s4 h4 ⟨rfl, rfl⟩
  refine JO_st 0 [_, _] rfl rfl rfl rfl rfl rfl rfl rfl rfl ?_
  refine JO_nil ?_
  refine thenQ_n ?_
  refine JC_ret ?_
  refine blockQ_r ?_
  refine thenQ_r ?_
  refine retQ_mk [_, _] L (.inr rfl) (.agg (us := [_, _]) 0 rfl rfl rfl rfl rfl (.nil)) rfl (Le.trans (Le.trans h1 h2) h4) (fun sR hS2 => ?_)
  refine ⟨?_, rfl⟩
  have h0 : t.cells < 1 ∨ 65536 < t.cells := by omega
  simp [resV, tabFault, h0]; done
 ·
  refine JO_gT rfl rfl ?_
  refine JO_q (QE_fa0 rfl rfl rfl rfl) rfl ?_
  refine JO_gT rfl rfl ?_
  refine JO_q (QE_ld1 1 rfl rfl rfl rfl rfl) rfl ?_
  refine JO_gT rfl rfl ?_
  refine JO_q (QE_gt rfl rfl) rfl ?_
  refine JO_q (QE_pickF rfl rfl) rfl ?_
  refine JO_q (QE_as rfl) rfl ?_
  refine JO_nil ?_
  refine thenQ_n ?_
  refine JC_ifD rfl (fun c5 => ?_) (fun c5 => ?_)
  ·
   refine JC_seq ?_
   refine JC_region ?_
   refine JO_call (first := []) (captured := []) rfl rfl rfl (fault_ac D _ _ _ _) ?_
   rintro _ _ s6 h6 ⟨rfl, rfl⟩
   refine JO_st 0 [_, _] rfl rfl rfl rfl rfl rfl rfl rfl rfl ?_
   refine JO_nil ?_
   refine thenQ_n ?_
   refine JC_ret ?_
   refine blockQ_r ?_
   refine thenQ_r ?_
   refine retQ_mk [_, _] L (.inr rfl) (.agg (us := [_, _]) 0 rfl rfl rfl rfl rfl (.nil)) rfl (Le.trans (Le.trans h1 h2) h6) (fun sR hS2 => ?_)
   refine ⟨?_, rfl⟩
   have h0 : t.cells < 1 ∨ 65536 < t.cells := by omega
   simp [resV, tabFault, h0]; done
  ·
   refine JC_seq ?_
   refine JC_region ?_
   refine JO_q (QE_faB rfl rfl rfl rfl) rfl ?_
   refine JO_q (QE_ld1 1 rfl rfl rfl rfl rfl) rfl ?_
   refine JO_q (QE_lenS rfl rfl rfl) rfl ?_
   refine JO_q (QE_gt rfl rfl) rfl ?_
   refine JO_q (QE_as rfl) rfl ?_
   refine JO_nil ?_
   refine thenQ_n ?_
   refine JC_ifD rfl (fun c7 => ?_) (fun c7 => ?_)
   ·
    refine JC_seq ?_
    refine JC_region ?_
    refine JO_call (first := []) (captured := []) rfl rfl rfl (fault_ac D _ _ _ _) ?_
    rintro _ _ s8 h8 ⟨rfl, rfl⟩
    refine JO_st 0 [_, _] rfl rfl rfl rfl rfl rfl rfl rfl rfl ?_
    refine JO_nil ?_
    refine thenQ_n ?_
    refine JC_ret ?_
    refine blockQ_r ?_
    refine thenQ_r ?_
    refine retQ_mk [_, _] L (.inr rfl) (.agg (us := [_, _]) 0 rfl rfl rfl rfl rfl (.nil)) rfl (Le.trans (Le.trans h1 h2) h8) (fun sR hS2 => ?_)
    refine ⟨?_, rfl⟩
    have h0 : ¬ (t.cells < 1 ∨ 65536 < t.cells) := by omega
    have h1 : 64 < t.ins.length := by omega
    simp [resV, tabFault, h0, h1]; done
   ·
    refine JC_skip ?_
    refine blockQ_n ?_
    refine thenQ_n ?_
    refine JC_seq ?_
    refine JC_seq ?_
    refine JC_region ?_
    refine JO_q (QE_faB rfl rfl rfl rfl) rfl ?_
    refine JO_q (QE_ld1 1 rfl rfl rfl rfl rfl) rfl ?_
    refine JO_q (QE_lenS rfl rfl rfl) rfl ?_
    refine JO_q (QE_mv rfl) rfl ?_
    refine JO_nil ?_
    refine thenQ_n ?_
    refine JC_block ?_
    refine JC_loop (γ := Nat) (fun k => [(1, _), (2, _), (23, _), (24, _), (25, .int .i64 (k : Int))]) (fun _ => _) (fun k tw => Le D s2 tw ∧ (k ≤ n ∧ ∀ i, i < k → rowCode t.ins i = 0)) (fun k => n - k) (fun _ _ _ h hl => ⟨h.1.trans hl, h.2⟩) 0 (Keeps.cons rfl (Keeps.cons rfl (Keeps.cons rfl (Keeps.cons rfl (Keeps.cons rfl (Keeps.nil _)))))) rfl ⟨Le.refl _, ⟨Nat.zero_le _, fun i hi => by omega⟩⟩ ?_
    intro k s9 I9
    have hk0 := I9.2.1
    have hI := I9.2.2
    refine JC_seq ?_
    refine JC_region ?_
    refine JO_q (QE_lt rfl rfl) rfl ?_
    refine JO_nil ?_
    refine thenQ_n ?_
    refine JC_seq ?_
    refine JC_ifD rfl (fun c10 => ?_) (fun c10 => ?_)
    ·
     have hk : k < n := by omega
     obtain ⟨b, off, x, A', n', c', rfl, hx, hcx, hax, hnl, hcd⟩ := Inss.at_ (hA.le (Le.trans (Le.trans h1 h2) I9.1)) hk
     refine JC_skip ?_
     refine thenQ_n ?_
     refine JC_seq ?_
     refine JC_block ?_
     refine JC_seq ?_
     refine JC_region ?_
     refine JO_q (QE_mv rfl) rfl ?_
     refine JO_q (QE_iaN rfl rfl rfl rfl rfl rfl hk) rfl ?_
     refine JO_q (QE_ldsA rfl rfl rfl hcx rfl) rfl ?_
     refine JO_allocZ rfl [_, _, _, _] rfl rfl ?_
     intro β11 s11 h11
     refine JO_q (QE_as rfl) rfl ?_
     refine JO_st 0 [_, _, _, _] rfl rfl rfl rfl rfl rfl rfl rfl rfl ?_
     refine JO_nil ?_
     refine thenQ_n ?_
     refine JC_seq ?_
     refine JC_seq ?_
     refine JC_region ?_
     refine JO_q (QE_ldA 0 [_, _, _, _] rfl rfl rfl rfl rfl) rfl ?_
     refine JO_call (first := []) (captured := []) rfl rfl rfl (checkInstruction_ac D _ _ _ _ _ _ (hax.le h11)) ?_
     rintro _ _ s12 h12 ⟨rfl, rfl⟩
     refine JO_q (QE_as rfl) rfl ?_
     refine JO_nil ?_
     refine thenQ_n ?_
     refine JC_seq ?_
     refine JC_region ?_
     refine JO_q (QE_mv rfl) rfl ?_
     refine JO_q (QE_ne rfl rfl) rfl ?_
     refine JO_nil ?_
     refine thenQ_n ?_
     refine JC_ifN rfl (fun c13 => ?_) (fun c13 => ?_)
     ·
      have hz : insCode x ≠ 0 := by simpa using c13
      refine JC_seq ?_
      refine JC_region ?_
      refine JO_q (QE_mv rfl) rfl ?_
      refine JO_q (QE_mv rfl) rfl ?_
      refine JO_call (first := []) (captured := []) rfl rfl rfl (fault_ac D _ _ _ _) ?_
      rintro _ _ s14 h14 ⟨rfl, rfl⟩
      refine JO_st 1 [_, _] rfl rfl rfl rfl rfl rfl rfl rfl rfl ?_
      refine JO_nil ?_
      refine thenQ_n ?_
      refine JC_ret ?_
      refine thenQ_r ?_
      refine blockQ_r ?_
      refine thenQ_r ?_
      refine thenQ_r ?_
      refine blockQ_r ?_
      refine thenQ_r ?_
      refine retQ_mk [_, _, _] L (.inr rfl) (.agg (us := [_, _]) 1 rfl rfl rfl rfl rfl (.nil)) rfl (Le.trans (Le.trans (Le.trans (Le.trans (Le.trans h1 h2) I9.1) h11) h12) h14) (fun sR hS2 => ?_)
      refine ⟨?_, rfl⟩
      have h0 : ¬ (t.cells < 1 ∨ 65536 < t.cells) := by omega
      have h1 : ¬ 64 < t.ins.length := by omega
      have hr : rowCode t.ins k = insCode x := by simp [rowCode, hx, hz]
      have hb := firstBad_hit (f := rowCode t.ins) (m := t.ins.length) (j := 0) (k := k) (fun i _ hi => hI i hi) (by omega) (by rw [hr]; exact hz) (by omega)
      simp [resV, tabFault, h0, h1, hb, hr]; done
     ·
      have hz : insCode x = 0 := by simpa using c13
      refine JC_skip ?_
      refine thenQ_n ?_
      refine JC_seq ?_
      refine JC_region ?_
      refine JO_q (QE_faB rfl rfl rfl rfl) rfl ?_
      refine JO_q (QE_ld1 2 rfl rfl rfl rfl rfl) rfl ?_
      refine JO_q (QE_mv rfl) rfl ?_
      refine JO_q (QE_slH rfl rfl rfl rfl rfl (by omega)) rfl ?_
      refine JO_q (QE_func rfl) rfl ?_
      refine JO_call (first := []) (captured := []) rfl rfl rfl (containsFunc_ac D _ _ _ _ _ (t.ins.take k) (Inss.take (hA.le (Le.trans (Le.trans (Le.trans (Le.trans h1 h2) I9.1) h11) h12)) hk) _ _ (sameKey x) (fun s' y A'' n'' c'' => validate1_ac D _ _ _ _ _ _ _ _ _ _ _)) ?_
      rintro _ _ s15 h15 ⟨rfl, rfl⟩
      refine JO_nil ?_
      refine thenQ_n ?_
      refine JC_if rfl (fun c16 => ?_) (fun c16 => ?_)
      ·
       have hy := c16
       refine JC_seq ?_
       refine JC_region ?_
       refine JO_q (QE_mv rfl) rfl ?_
       refine JO_call (first := []) (captured := []) rfl rfl rfl (fault_ac D _ _ _ _) ?_
       rintro _ _ s17 h17 ⟨rfl, rfl⟩
       refine JO_st 1 [_, _] rfl rfl rfl rfl rfl rfl rfl rfl rfl ?_
       refine JO_nil ?_
       refine thenQ_n ?_
       refine JC_ret ?_
       refine blockQ_r ?_
       refine thenQ_r ?_
       refine thenQ_r ?_
       refine blockQ_r ?_
       refine thenQ_r ?_
       refine retQ_mk [_, _, _] L (.inr rfl) (.agg (us := [_, _]) 1 rfl rfl rfl rfl rfl (.nil)) rfl (Le.trans (Le.trans (Le.trans (Le.trans (Le.trans (Le.trans h1 h2) I9.1) h11) h12) h15) h17) (fun sR hS2 => ?_)
       refine ⟨?_, rfl⟩
       have h0 : ¬ (t.cells < 1 ∨ 65536 < t.cells) := by omega
       have h1 : ¬ 64 < t.ins.length := by omega
       have hr : rowCode t.ins k = 8 := by simp [rowCode, hx, hz, hy]
       have hb := firstBad_hit (f := rowCode t.ins) (m := t.ins.length) (j := 0) (k := k) (fun i _ hi => hI i hi) (by omega) (by rw [hr]; decide) (by omega)
       simp [resV, tabFault, h0, h1, hb, hr]; done
      ·
       have hy := c16
       refine JC_skip ?_
       refine blockQ_n ?_
       refine thenQ_n ?_
       refine JC_region ?_
       refine JO_q (QE_add' rfl rfl (w64 (by omega) (by omega))) rfl ?_
       refine JO_q (QE_mv rfl) rfl ?_
       refine JO_nil ?_
       refine thenQ_n ⟨(k + 1), [_], (Keeps.cons rfl (Keeps.cons rfl (Keeps.cons rfl (Keeps.cons rfl (Keeps.cons rfl (Keeps.nil _)))))), rfl, ⟨(Le.trans (Le.trans (Le.trans I9.1 h11) h12) h15), ⟨by omega, fun i hi => by rcases Nat.lt_succ_iff_lt_or_eq.1 hi with h | rfl; exact hI i h; simp [rowCode, hx, hz, hy]⟩⟩, (by omega)⟩
    ·
     refine JC_exit ?_
     refine thenQ_x ?_
     refine thenQ_x ?_
     refine blockQ_x ?_
     refine thenQ_n ?_
     refine JC_seq ?_
     refine JC_region ?_
     refine JO_q (QE_build [] [_, _] rfl rfl rfl rfl rfl rfl) rfl ?_
     refine JO_st 0 [_, _] rfl rfl rfl rfl rfl rfl rfl rfl rfl ?_
     refine JO_nil ?_
     refine thenQ_n ?_
     refine JC_ret ?_
     refine retQ_mk [_, _] L (.inr rfl) (.agg (us := [_, _]) 0 rfl rfl rfl rfl rfl (.nil)) rfl (Le.trans (Le.trans h1 h2) I9.1) (fun sR hS2 => ?_)
     refine ⟨?_, rfl⟩
     have h0 : ¬ (t.cells < 1 ∨ 65536 < t.cells) := by omega
     have h1 : ¬ 64 < t.ins.length := by omega
     have hb := firstBad_none (f := rowCode t.ins) (m := t.ins.length) (j := 0) (fun i _ hi => hI i (by omega))
     simp [resV, tabFault, h0, h1, hb]; done
end Go.Proofs.YteomcjpigoaioaaGreatDoor
namespace Go.FL
open Go Go.RowKit Go.Proofs.YteomcjpigoaioaaGreatDoor
theorem bytes_fold (l : List UInt8) (r : ByteArray) : (l.map (fun x => (x.toNat : Int))).foldl (fun r n => r.push (UInt8.ofNat n.toNat)) r = ⟨r.data ++ l.toArray⟩ := by
  induction l generalizing r with
  | nil => cases r; simp
  | cons x l ih =>
    simp only [List.map_cons, List.foldl_cons, ih]
    apply ByteArray.ext
    simp [ByteArray.push]
theorem QE_b2s {P : Program} {TT : TyTab} {D : Nat} {fr : Fr} {ty : Nat} {K : Hl} {s0 : World} {x : Operand} {t t' e : Nat} {A : Option Addr} {n c : Nat} {l : List UInt8} {ti ti' te : TI} (hx : lk fr x = some (.slice A n c)) (ht : tlook TT t = some ti) (hk : ti.kind = .sl e) (he : tlook TT e = some te) (hke : te.desc = .int .u8)
    (ht' : tlook TT t' = some ti') (hk' : ti'.desc = .string) (h : Bts s0 A n c l) : QE P TT D fr (.convert t t' x) ty K s0 (St l) := fun hT dst pos af g ρ hρ L s ho hl _ => by
  obtain ⟨k1, k2, _⟩ := hT.at_ ht
  rw [hk] at k2
  simp only [TK.fits] at k2
  rw [k2] at k1
  have k3 := (hT.at_ he).1
  rw [hke] at k3
  have k4 := (hT.at_ ht').1
  rw [hk'] at k4
  have hc := run_convert_bytes_string (P := P) (fill L s) t t' e A n c k1 k3 k4
  simp only [execOp, hρ x _ hx, Sem.run_bind, hc]
  cases A with
  | none =>
    have : l = [] := by
      cases l with
      | nil => rfl
      | cons y l => obtain ⟨b, off, cs, h1, _⟩ := h.2.2.2 0 y rfl; cases h1
    subst this
    simp [Conv.bytesToString]
    rfl
  | some a =>
    have hcells : ∀ j v, (l.map (fun x => Value.int .u8 (x.toNat : Int)))[j]? = some v → (fill L s).cell? (a.add j) = some v := fun j v hj => by
      rw [List.getElem?_map] at hj
      cases hx : l[j]? with
      | none => simp [hx] at hj
      | some y =>
        simp [hx] at hj
        obtain ⟨b, off, cs, h1, h2, h3, rfl⟩ := h.2.2.2 j y hx
        injection h1 with h1; subst h1
        have := h2 0 _ rfl
        rw [add_lit, ← hj]
        simpa using fill_cell ho (hl.cell this)
    have hload := run_loadCells_list (P := P) (fill L s) a (l.map (fun x => Value.int .u8 (x.toNat : Int))) hcells
    rw [List.length_map, ← h.1] at hload
    have hr := run_bytesToString (P := P) (fill L s) a n c (l.map (fun x => (x.toNat : Int))) (by rw [hload, List.map_map]; rfl)
    rw [hr, bytes_fold]
    have he : (⟨ByteArray.empty.data ++ l.toArray⟩ : ByteArray) = ⟨l.toArray⟩ := by apply ByteArray.ext; exact Array.empty_append
    simp only [Result.andThen_ok, Sem.run_pure, he]
end Go.FL
namespace Go.Proofs.YteomcjpigoaioaaGreatDoor
open Go Go.FL
theorem same_lists {α : Type} {l m : List α} (hl : l.length = m.length) (h : ∀ i x, i < l.length → l[i]? = some x → m[i]? = some x) : l = m := by
  apply List.ext_getElem?
  intro i
  by_cases hi : i < l.length
  · rw [h i _ hi (List.getElem?_eq_getElem hi), List.getElem?_eq_getElem hi]
  · rw [List.getElem?_eq_none (by omega), List.getElem?_eq_none (by omega)]
theorem diff_lists {α : Type} {l m : List α} {i : Nat} {x y : α} (h1 : l[i]? = some x) (h2 : m[i]? = some y) (h : x ≠ y) : l ≠ m := fun e => by
  subst e; rw [h1] at h2; injection h2; contradiction
theorem firstBad_zero (f : Nat → Int) (m j : Nat) : (firstBad f m j).1 = 0 → (firstBad f m j).2 = 0 := by
  induction m generalizing j with
  | zero => intro _; rfl
  | succ m ih =>
    simp only [firstBad]
    split
    · intro h; contradiction
    · exact ih _
theorem tab_zero (t : Tab) : (tabFault t).1 = 0 → (tabFault t).2 = 0 := by
  unfold tabFault
  split
  · intro h; cases h
  split
  · intro h; cases h
  · exact firstBad_zero _ _ _
end Go.Proofs.YteomcjpigoaioaaGreatDoor
namespace Go.Proofs.YteomcjpigoaioaaGreatDoor
open Go.FL
attribute [local irreducible] JC JO JA JB thenQ blockQ retQ AC fill CellsAt QE Ev Mid
set_option maxHeartbeats 1000000 in
set_option maxRecDepth 100000 in
theorem sameWords_ac (D : Nat) (L : Hl) (s : World) (A : Option Addr) (n c : Nat) (l : List Int) (hA : Wds s A n c l) (A1 : Option Addr) (n1 c1 : Nat) (l1 : List Int) (hB : Wds s A1 n1 c1 l1) : AC Tryz.prog D 15 [.slice A n c, .slice A1 n1 c1] L s fun v L' _ => v = .bool (decide (l = l1)) ∧ L = L' := by
 have hn := hA.1
 have hc1 := hA.2.1
 have hc2 := hA.2.2.1
 have hn1 := hB.1
 refine AC_enter (TT := TT) (fn := Tryz.f15) TT_ok Tryz.func15 (by kernel_rfl) rfl Tryz.ntmps15 rfl (rs := [.tmp 4]) rfl [(0, _), (1, _)] rfl ?_
 refine JC_seq ?_
 refine JC_region ?_
 refine JO_q (QE_as rfl) rfl ?_
 refine JO_nil ?_
 refine thenQ_n ?_
 refine JC_seq ?_
 refine JC_seq ?_
 refine JC_region ?_
 refine JO_q (QE_mv rfl) rfl ?_
 refine JO_q (QE_lenS rfl rfl rfl) rfl ?_
 refine JO_q (QE_mv rfl) rfl ?_
 refine JO_q (QE_lenS rfl rfl rfl) rfl ?_
 refine JO_q (QE_ne rfl rfl) rfl ?_
 refine JO_nil ?_
 refine thenQ_n ?_
 refine JC_ifN rfl (fun c1 => ?_) (fun c1 => ?_)
 ·
  refine JC_seq ?_
  refine JC_region ?_
  refine JO_q (QE_as rfl) rfl ?_
  refine JO_nil ?_
  refine thenQ_n ?_
  refine JC_ret ?_
  refine thenQ_r ?_
  refine retQ_mk [] L (.inr rfl) (.tmp rfl (.nil)) rfl (Le.refl (D := D) _) (fun sR hS2 => ?_)
  refine ⟨?_, rfl⟩
  have h0 : l ≠ l1 := fun e => by subst e; omega
  simp [resV, h0]; done
 ·
  refine JC_skip ?_
  refine thenQ_n ?_
  refine JC_seq ?_
  refine JC_seq ?_
  refine JC_region ?_
  refine JO_q (QE_as rfl) rfl ?_
  refine JO_nil ?_
  refine thenQ_n ?_
  refine JC_block ?_
  refine JC_loop (γ := Nat) (fun k => [(0, _), (1, _), (4, _), (5, .int .i64 (k : Int))]) (fun _ => _) (fun k tw => Le D s tw ∧ (k ≤ n ∧ ∀ i x, i < k → l[i]? = some x → l1[i]? = some x)) (fun k => n - k) (fun _ _ _ h hl => ⟨h.1.trans hl, h.2⟩) 0 (Keeps.cons rfl (Keeps.cons rfl (Keeps.cons rfl (Keeps.cons rfl (Keeps.nil _))))) rfl ⟨Le.refl _, ⟨Nat.zero_le _, fun i c hi => by omega⟩⟩ ?_
  intro k s2 I2
  have hk0 := I2.2.1
  have hI := I2.2.2
  refine JC_seq ?_
  refine JC_seq ?_
  refine JC_region ?_
  refine JO_q (QE_mv rfl) rfl ?_
  refine JO_q (QE_mv rfl) rfl ?_
  refine JO_q (QE_lenS rfl rfl rfl) rfl ?_
  refine JO_q (QE_lt rfl rfl) rfl ?_
  refine JO_nil ?_
  refine thenQ_n ?_
  refine JC_ifD rfl (fun c3 => ?_) (fun c3 => ?_)
  ·
   have hk : k < n := by omega
   obtain ⟨b, off, x, rfl, hx, hcx, _⟩ := Wds.at_ (hA.le I2.1) hk
   obtain ⟨b1, off1, y, rfl, hy, hcy, _⟩ := Wds.at_ (hB.le I2.1) (show k < n1 by omega)
   refine JC_skip ?_
   refine thenQ_n ?_
   refine JC_seq ?_
   refine JC_block ?_
   refine JC_seq ?_
   refine JC_draw drawsMixed 9 rfl _ (fun _ h => h) ?_
   intro s4 h4
   refine JA_q 0 rfl (by kernel_rfl) (by kernel_rfl) (by kernel_rfl) trivial (QE_mv rfl) rfl ?_
   refine JA_q 1 rfl (by kernel_rfl) (by kernel_rfl) (by kernel_rfl) trivial (QE_mv rfl) rfl ?_
   refine JA_q 2 rfl (by kernel_rfl) (by kernel_rfl) (by kernel_rfl) trivial (QE_ia1 rfl rfl rfl rfl rfl rfl hk) rfl ?_
   refine JA_q 3 rfl (by kernel_rfl) (by kernel_rfl) (by kernel_rfl) trivial (QE_ldsR0 rfl rfl rfl (hcx.le h4) rfl) rfl ?_
   refine JA_q 4 rfl (by kernel_rfl) (by kernel_rfl) (by kernel_rfl) trivial (QE_mv rfl) rfl ?_
   refine JA_q 5 rfl (by kernel_rfl) (by kernel_rfl) (by kernel_rfl) trivial (QE_mv rfl) rfl ?_
   refine JA_q 6 rfl (by kernel_rfl) (by kernel_rfl) (by kernel_rfl) trivial (QE_ia1 rfl rfl rfl rfl rfl rfl (show k < n1 by omega)) rfl ?_
   refine JA_q 7 rfl (by kernel_rfl) (by kernel_rfl) (by kernel_rfl) trivial (QE_ldsR0 rfl rfl rfl (hcy.le h4) rfl) rfl ?_
   refine JA_q 8 rfl (by kernel_rfl) (by kernel_rfl) (by kernel_rfl) trivial (QE_ne rfl rfl) rfl ?_
   refine JA_done (by kernel_rfl) ?_
   refine thenQ_n ?_
   refine JC_ifN rfl (fun c5 => ?_) (fun c5 => ?_)
   ·
    have hE : x ≠ y := by assumption
    refine JC_seq ?_
    refine JC_region ?_
    refine JO_q (QE_as rfl) rfl ?_
    refine JO_nil ?_
    refine thenQ_n ?_
    refine JC_ret ?_
    refine blockQ_r ?_
    refine thenQ_r ?_
    refine thenQ_r ?_
    refine blockQ_r ?_
    refine thenQ_r ?_
    refine retQ_mk [] L (.inr rfl) (.tmp rfl (.nil)) rfl (Le.trans I2.1 h4) (fun sR hS2 => ?_)
    refine ⟨?_, rfl⟩
    have h0 : l ≠ l1 := diff_lists hx hy hE
    simp [resV, h0]; done
   ·
    have hE : x = y := by simpa using c5
    refine JC_skip ?_
    refine blockQ_n ?_
    refine thenQ_n ?_
    refine JC_region ?_
    refine JO_q (QE_mv rfl) rfl ?_
    refine JO_q (QE_add' rfl rfl (w64 (by omega) (by omega))) rfl ?_
    refine JO_q (QE_as rfl) rfl ?_
    refine JO_nil ?_
    refine thenQ_n ⟨(k + 1), [], (Keeps.cons rfl (Keeps.cons rfl (Keeps.cons rfl (Keeps.cons rfl (Keeps.nil _))))), rfl, ⟨(Le.trans I2.1 h4), ⟨by omega, below_succ hI hx (hE ▸ hy)⟩⟩, (by omega)⟩
  ·
   refine JC_exit ?_
   refine thenQ_x ?_
   refine thenQ_x ?_
   refine blockQ_x ?_
   refine thenQ_n ?_
   refine JC_seq ?_
   refine JC_region ?_
   refine JO_q (QE_as rfl) rfl ?_
   refine JO_nil ?_
   refine thenQ_n ?_
   refine JC_ret ?_
   refine retQ_mk [] L (.inr rfl) (.tmp rfl (.nil)) rfl I2.1 (fun sR hS2 => ?_)
   refine ⟨?_, rfl⟩
   have h0 : l = l1 := same_lists (by omega) (fun i x hi h => hI i x (by omega) h)
   simp [resV, h0]; done
set_option maxHeartbeats 1000000 in
set_option maxRecDepth 100000 in
theorem sameBytes_ac (D : Nat) (L : Hl) (s : World) (A : Option Addr) (n c : Nat) (l : List UInt8) (hA : Bts s A n c l) (A1 : Option Addr) (n1 c1 : Nat) (l1 : List UInt8) (hB : Bts s A1 n1 c1 l1) : AC Tryz.prog D 34 [.slice A n c, .slice A1 n1 c1] L s fun v L' _ => v = .bool (decide (l = l1)) ∧ L = L' := by
 refine AC_enter (TT := TT) (fn := Tryz.f34) TT_ok Tryz.func34 (by kernel_rfl) rfl Tryz.ntmps34 rfl (rs := [.tmp 4]) rfl [(0, _), (1, _)] rfl ?_
 refine JC_seq ?_
 refine JC_region ?_
 refine JO_q (QE_as rfl) rfl ?_
 refine JO_nil ?_
 refine thenQ_n ?_
 refine JC_seq ?_
 refine JC_region ?_
 refine JO_q (QE_mv rfl) rfl ?_
 refine JO_q (QE_b2s rfl rfl rfl rfl rfl rfl rfl (hA.le (Le.refl (D := D) _))) rfl ?_
 refine JO_q (QE_mv rfl) rfl ?_
 refine JO_q (QE_b2s rfl rfl rfl rfl rfl rfl rfl (hB.le (Le.refl (D := D) _))) rfl ?_
 refine JO_q (QE_seq rfl rfl) rfl ?_
 refine JO_q (QE_as rfl) rfl ?_
 refine JO_nil ?_
 refine thenQ_n ?_
 refine JC_ret ?_
 refine retQ_mk [] L (.inr rfl) (.tmp rfl (.nil)) rfl (Le.refl (D := D) _) (fun sR hS2 => ?_)
 exact ⟨rfl, rfl⟩
end Go.Proofs.YteomcjpigoaioaaGreatDoor
namespace Go.FL
open Go Go.RowKit
variable {D : Nat}
theorem of_grown {L L' : Hl} {s w' : World} (h : OKL D L s) (hos : w'.os = s.os) (htp : w'.tape = s.tape) (hout : w'.output = s.output) (hsz : s.heap.size ≤ w'.heap.size) (hnd : (L'.map (·.1)).Nodup)
    (hin : ∀ x ∈ L', w'.heap[x.1]? = some x.2) (hkeys : ∀ x ∈ L', x.1 ∈ L.map (·.1) ∨ s.heap.size ≤ x.1) (hold : ∀ k, k < s.heap.size → k ∉ L.map (·.1) → w'.heap[k]? = s.heap[k]?) :
    w' = fill L' (blank D L' w') ∧ OKL D L' (blank D L' w') ∧ Le D s (blank D L' w') := by
  have hlt : ∀ x ∈ L', x.1 < w'.heap.size := fun x hx => by
    have := hin x hx
    rcases Nat.lt_or_ge x.1 w'.heap.size with h1 | h1
    · exact h1
    · rw [Array.getElem?_eq_none h1] at this; cases this
  have hok : OKL D L' (blank D L' w') := ⟨hnd, fun x hx => blank_mem hlt (List.mem_map.2 ⟨x, hx, rfl⟩)⟩
  refine ⟨world_eq (heap_ext fun k => ?_) ?_ ?_ ?_ ?_, hok, ⟨?_, ?_, ?_, by rw [blank_size]; exact hsz, fun k hk => ?_⟩⟩
  · by_cases hk : k ∈ L'.map (·.1)
    · obtain ⟨x, hx, rfl⟩ := List.mem_map.1 hk
      rw [fill_mem hok hx, hin x hx]
    · rw [fill_other hk, blank_other hk]
  · rw [fill_tape, blank_tape]
  · rw [fill_drawn, blank_drawn]
  · rw [fill_os, blank_os]
  · rw [fill_output, blank_output]
  · rw [blank_os, hos]
  · rw [blank_tape, htp]
  · rw [blank_output, hout]
  · by_cases hd : s.heap[k]? = some (dum D)
    · exact .inl hd
    · have hk1 := not_key h hd
      have hk2 : k ∉ L'.map (·.1) := fun hm => by
        obtain ⟨x, hx, rfl⟩ := List.mem_map.1 hm
        rcases hkeys x hx with h1 | h1
        · exact hk1 h1
        · omega
      exact .inr (by rw [blank_other hk2, hold k hk hk1])
inductive Own (e sz : Nat) : Hl → Value → Nat → List Value → Prop
  | nil : Own e sz [] (.slice none 0 0) 0 []
  | blk (b cap n : Nat) (xs ys : List Value) (hn : xs.length = n * sz) (hc : xs.length + ys.length = cap * sz) (hnc : n ≤ cap) (hm : cap ≤ 9223372036854775807) : Own e sz [(b, cb (xs ++ ys) e)] (.slice (some ⟨b, 0, none⟩) n cap) n xs
def Row (s : World) (A : Option Addr) (m sz : Nat) (news : List Value) : Prop :=
  news.length = m * sz ∧ (∀ u ∈ news, u.oneCell' = true) ∧ ∀ j u, news[j]? = some u → ∃ b off, A = some ⟨b, off, none⟩ ∧ s.cell? ⟨b, off + j, none⟩ = some u
theorem Row.of_cells {s : World} {b off m sz : Nat} {news : List Value} (h : CellsAt s b off news) (hl : news.length = m * sz) (h1 : news.all (·.oneCell') = true) : Row s (some ⟨b, off, none⟩) m sz news :=
  ⟨hl, fun u hu => List.all_eq_true.1 h1 u hu, fun j u hj => ⟨b, off, rfl, h j u hj⟩⟩
theorem Row.le {s s' : World} {A : Option Addr} {m sz : Nat} {news : List Value} (h : Row s A m sz news) (hl : Le D s s') : Row s' A m sz news :=
  ⟨h.1, h.2.1, fun j u hj => by obtain ⟨b, off, h1, h2⟩ := h.2.2 j u hj; exact ⟨b, off, h1, hl.cell h2⟩⟩
theorem Own.owns {e sz : Nat} {A : Hl} {v : Value} {n : Nat} {xs : List Value} (h : Own e sz A v n xs) {w : World} (hw : ∀ x ∈ A, w.heap[x.1]? = some x.2) : w.ownsRow 0 e sz v n xs := by
  cases h with
  | nil => exact World.ownsRow_nil w 0 e sz
  | blk b cap n xs ys hn hc hnc hm =>
    refine ⟨hn, .inr ⟨b, cap, (xs ++ ys).toArray, rfl, Nat.zero_le _, hw _ (List.mem_cons_self ..), hnc, by simpa [maxLen] using hm, by simpa using hc, ?_⟩⟩
    rw [← hn]; simp
theorem Own.key {e sz : Nat} {A : Hl} {v : Value} {n : Nat} {xs : List Value} (h : Own e sz A v n xs) (k : Nat) : k ∈ A.map (·.1) ↔ v.ownBlock = some k := by
  cases h with
  | nil => simp [Value.ownBlock]
  | blk b cap n xs ys => simp [Value.ownBlock, eq_comm]
theorem Own.of_owns {e sz : Nat} {w : World} {v : Value} {n : Nat} {xs : List Value} (h : w.ownsRow 0 e sz v n xs) : ∃ A, Own e sz A v n xs ∧ ∀ x ∈ A, w.heap[x.1]? = some x.2 := by
  obtain ⟨h1, h2⟩ := h
  rcases h2 with ⟨rfl, rfl⟩ | ⟨g, cap, cur, rfl, _, hg, hnc, hcm, hcs, ht⟩
  · have : xs = [] := List.eq_nil_of_length_eq_zero (by simpa using h1)
    subst this
    exact ⟨[], .nil, fun x hx => by cases hx⟩
  · have he : cur = (xs ++ cur.toList.drop (n * sz)).toArray := by
      rw [← ht, List.take_append_drop]
    have hcs' : xs.length + (cur.toList.drop (n * sz)).length = cap * sz := by
      rw [← hcs, ← List.length_append]
      have := congrArg Array.size he
      simpa using this.symm
    refine ⟨[(g, cb (xs ++ cur.toList.drop (n * sz)) e)], .blk g cap n xs _ h1 hcs' hnc (by simpa [maxLen] using hcm), fun x hx => ?_⟩
    simp only [List.mem_singleton] at hx
    subst hx
    rw [hg, cb, ← he]
theorem mem_mid {B A L0 : Hl} {x : Nat × Obj} : x ∈ B ++ (A ++ L0) ↔ x ∈ B ∨ x ∈ A ∨ x ∈ L0 := by simp
theorem of_row {B A A' L0 : Hl} {s w' : World} {e sz : Nat} {v v' : Value} {n n' : Nat} {xs xs' : List Value} (h : OKL D (B ++ (A ++ L0)) s) (hO : Own e sz A v n xs) (hO' : Own e sz A' v' n' xs') (hA' : ∀ x ∈ A', w'.heap[x.1]? = some x.2)
    (hg : (fill (B ++ (A ++ L0)) s).grownBy w' v.ownBlock) (hat : v'.ownBlock = v.ownBlock ∨ v'.ownBlock = some s.heap.size) :
    w' = fill (B ++ (A' ++ L0)) (blank D (B ++ (A' ++ L0)) w') ∧ OKL D (B ++ (A' ++ L0)) (blank D (B ++ (A' ++ L0)) w') ∧ Le D s (blank D (B ++ (A' ++ L0)) w') := by
  have hnd := h.nd
  have hkA' : ∀ k, k ∈ A'.map (·.1) → k ∈ A.map (·.1) ∨ k = s.heap.size := fun k hk => by
    rw [hO'.key] at hk
    rcases hat with h1 | h1
    · exact .inl ((hO.key k).2 (h1 ▸ hk))
    · rw [h1] at hk; injection hk with hk; exact .inr hk.symm
  have hsize := hg.size
  rw [fill_size] at hsize
  have hlt : ∀ x ∈ B ++ (A ++ L0), x.1 < s.heap.size := fun x hx => h.lt hx
  simp only [List.map_append, List.nodup_append, List.mem_append] at hnd
  obtain ⟨nB, ⟨nA, nL, dAL⟩, dB⟩ := hnd
  have hrest : ∀ x, x ∈ B ∨ x ∈ L0 → w'.heap[x.1]? = some x.2 := fun x hx => by
    have hmem : x ∈ B ++ (A ++ L0) := mem_mid.2 (by rcases hx with h1 | h1; exact .inl h1; exact .inr (.inr h1))
    rw [hg.block x.1 (by rw [fill_size]; exact hlt x hmem), fill_mem h hmem]
    intro he
    have hk := (hO.key x.1).2 he.symm
    rcases hx with h1 | h1
    · exact dB _ (List.mem_map.2 ⟨x, h1, rfl⟩) _ (.inl hk) rfl
    · exact dAL _ hk _ (List.mem_map.2 ⟨x, h1, rfl⟩) rfl
  refine of_grown h (hg.os.trans (fill_os _ _)) (hg.tape.trans (fill_tape _ _)) (hg.output.trans (fill_output _ _)) hsize ?_ ?_ ?_ ?_
  · have nA' : (A'.map (·.1)).Nodup := by cases hO' <;> simp
    simp only [List.map_append, List.nodup_append, List.mem_append]
    refine ⟨nB, ⟨nA', nL, fun a ha b hb he => ?_⟩, fun a ha b hb he => ?_⟩
    · subst he
      rcases hkA' a ha with h1 | h1
      · exact dAL _ h1 _ hb rfl
      · obtain ⟨x, hx, rfl⟩ := List.mem_map.1 hb
        have := hlt x (mem_mid.2 (.inr (.inr hx))); omega
    · subst he
      rcases hb with hb | hb
      · rcases hkA' a hb with h1 | h1
        · exact dB _ ha _ (.inl h1) rfl
        · obtain ⟨x, hx, rfl⟩ := List.mem_map.1 ha
          have := hlt x (mem_mid.2 (.inl hx)); omega
      · exact dB _ ha _ (.inr hb) rfl
  · intro x hx
    rcases mem_mid.1 hx with h1 | h1 | h1
    · exact hrest x (.inl h1)
    · exact hA' x h1
    · exact hrest x (.inr h1)
  · intro x hx
    rcases mem_mid.1 hx with h1 | h1 | h1
    · exact .inl (List.mem_map.2 ⟨x, mem_mid.2 (.inl h1), rfl⟩)
    · rcases hkA' x.1 (List.mem_map.2 ⟨x, h1, rfl⟩) with h2 | h2
      · exact .inl (by rw [List.map_append, List.map_append]; simp only [List.mem_append]; exact .inr (.inl h2))
      · exact .inr (by omega)
    · exact .inl (List.mem_map.2 ⟨x, mem_mid.2 (.inr (.inr h1)), rfl⟩)
  · intro k hk hn
    rw [hg.block k (by rw [fill_size]; exact hk), fill_other hn]
    intro he
    exact hn (by rw [List.map_append, List.map_append]; simp only [List.mem_append]; exact .inr (.inl ((hO.key k).2 he.symm)))
section
variable {P : Program} {TT : TyTab} {n : Nat} {Q : APost} {fr : Fr} {L L' K : Hl} {s s' s0 : World} {ops : Array Oper} {rest : List Oper} {d ty : Nat} {op : Op} {pos : String} {af : Array Edge} {v : Value}
theorem Ev_app {t e m c k sz : Nat} {x y : Operand} {ti te : TI} {A1 : Option Addr} {news xs : List Value} (B A L0 : Hl) (hT : TabOK P TT) (hx : lk fr x = some v) (hy : lk fr y = some (.slice A1 m c)) (ht : tlook TT t = some ti) (hk : ti.kind = .sl e) (he : tlook TT e = some te) (hsz : te.size = sz)
    (hO : Own e sz A v k xs) (hR : Row s A1 m sz news) (h63 : (k + m) * te.bytes ≤ 140737488355328 ∧ k + m ≤ 9223372036854775807) (ho : OKL D (B ++ (A ++ L0)) s) :
    ∃ v' A' s', Ev P TT D fr (.call { callee := .builtin .append, args := #[x, y], argTypes := #[t, t] }) ty (B ++ (A ++ L0)) s (.value v') (B ++ (A' ++ L0)) s' ∧ Le D s s' ∧ Own e sz A' v' (k + m) (xs ++ news) := by
  have hok := hT.at_ ht
  obtain ⟨k1, k2, _⟩ := hok
  rw [hk] at k2
  simp only [TK.fits] at k2
  rw [k2] at k1
  have hte := hT.at_ he
  obtain ⟨i, i1, i2, i3, i4⟩ := info_of hte
  have hpos : 0 < te.size := hte.2.2.2.2.2.1
  have hzs : te.zero.cells.size = te.size := by rw [zero_cells hte]; simpa using hte.2.2.2.1
  have hin : ∀ x ∈ A, (fill (B ++ (A ++ L0)) s).heap[x.1]? = some x.2 := fun x hx => fill_mem ho (mem_mid.2 (.inr (.inl hx)))
  have hown := hO.owns hin
  by_cases hm : m = 0
  · subst hm
    have hn : news = [] := List.eq_nil_of_length_eq_zero (by simpa using hR.1)
    subst hn
    refine ⟨v, A, s, fun hT ho dst pos af g ρ hρ => ⟨?_, ho⟩, Le.refl _, by simpa using hO⟩
    have hle : ∀ (A2 : Option Addr) (w : World), (Builtin.firstCells te.size 0 (.slice A2 0 c)).run P w = .ok #[] w := fun A2 w => by
      cases A2 <;> simp [Builtin.firstCells, loadCells, loadCellsFrom]
    cases hO with
    | nil => simp [execOp, resolve, invoke, builtin, Builtin.append_, hρ x _ hx, hρ y _ hy, run_underlying k1, run_sizeOf' hte, Builtin.lenOf, hle]
    | blk b cap n xs ys hn hc hnc hm => simp [execOp, resolve, invoke, builtin, Builtin.append_, hρ x _ hx, hρ y _ hy, run_underlying k1, run_sizeOf' hte, Builtin.lenOf, hle, hnc, storeCells]
  · have h0 : ∃ b off, A1 = some ⟨b, off, none⟩ ∧ CellsAt s b off news := by
      have hl : 0 < news.length := by rw [hR.1, ← hsz]; exact Nat.mul_pos (Nat.pos_of_ne_zero hm) hpos
      obtain ⟨b, off, h1, _⟩ := hR.2.2 0 news[0] (List.getElem?_eq_getElem hl)
      refine ⟨b, off, h1, fun j u hj => ?_⟩
      obtain ⟨b', off', h1', h2⟩ := hR.2.2 j u hj
      rw [h1] at h1'
      injection h1' with h1'; injection h1' with e1 e2; subst e1; subst e2
      exact h2
    obtain ⟨b, off, rfl, hcells⟩ := h0
    obtain ⟨v', w', hrun, hown', hgr, _, hat⟩ := run_append_own_at (P := P) (fill (B ++ (A ++ L0)) s) 0 t ty e i te.zero sz te.bytes k1 i1 i4 (i2.trans hsz) i3 (by rw [hzs, hsz]) (by rw [← hsz]; exact hpos) v k xs hown ⟨b, off, none⟩ m c news hR.1
      (fun j u hj => by rw [add_lit]; exact fill_cell ho (hcells j u hj)) hR.2.1 (by simpa [maxLen] using h63.2) h63.1 (Nat.zero_le _)
    obtain ⟨A', hO', hA'⟩ := Own.of_owns hown'
    rw [fill_size] at hat
    obtain ⟨r1, r2, r3⟩ := of_row (D := D) ho hO hO' hA' hgr hat
    refine ⟨v', A', blank D (B ++ (A' ++ L0)) w', fun hT ho dst pos af g ρ hρ => ⟨?_, r2⟩, r3, hO'⟩
    rw [← r1]
    simp only [execOp, resolve, invoke, builtin, Sem.run_bind, Sem.run_pure, Result.andThen_ok, List.map_toArray, List.map_cons, List.map_nil, hρ x _ hx, hρ y _ hy, hrun]
theorem JO_app {t e m c k sz : Nat} {x y : Operand} {ti te : TI} {A1 : Option Addr} {news xs : List Value} (B A L0 : Hl) (hL : L = B ++ (A ++ L0)) (hx : lk fr x = some v) (hy : lk fr y = some (.slice A1 m c)) (ht : tlook TT t = some ti) (hk : ti.kind = .sl e) (he : tlook TT e = some te) (hsz : te.size = sz)
    (hO : Own e sz A v k xs) (hR : Row s A1 m sz news) (h63 : (k + m) * te.bytes ≤ 140737488355328 ∧ k + m ≤ 9223372036854775807) (hd : Nat.blt d n = true)
    (kk : ∀ v' A' s', Le D s s' → Own e sz A' v' (k + m) (xs ++ news) → JO P TT D n ops Q rest ((d, v') :: fr) (B ++ (A' ++ L0)) s') :
    JO P TT D n ops Q (⟨some d, .call { callee := .builtin .append, args := #[x, y], argTypes := #[t, t] }, ty, pos, af, none⟩ :: rest) fr L s := fun hT a hr ho => by
  subst hL
  obtain ⟨v', A', s', h1, h2, h3⟩ := Ev_app (ty := ty) B A L0 hT hx hy ht hk he hsz hO hR h63 ho
  exact JO_ev hd h1 (kk v' A' s' h2 h3) hT a hr ho
theorem JB_app {i0 t e m c k sz : Nat} {g : Option (Nat × Bool)} {fuel : Nat} {listed : Array Bool} {x y : Operand} {ti te : TI} {A1 : Option Addr} {news xs : List Value} (hi0 : ops[i0]? = some ⟨some d, .call { callee := .builtin .append, args := #[x, y], argTypes := #[t, t] }, ty, pos, af, g⟩) (hgk : GOK ops fr g)
    (B A L0 : Hl) (hL : L = B ++ (A ++ L0)) (hx : lk fr x = some v) (hy : lk fr y = some (.slice A1 m c)) (ht : tlook TT t = some ti) (hk : ti.kind = .sl e) (he : tlook TT e = some te) (hsz : te.size = sz)
    (hO : Own e sz A v k xs) (hR : Row s A1 m sz news) (h63 : (k + m) * te.bytes ≤ 140737488355328 ∧ k + m ≤ 9223372036854775807) (hd : Nat.blt d n = true) (hK : ∀ A', ∀ x ∈ K, x ∈ B ++ (A ++ L0) → x ∈ B ++ (A' ++ L0))
    (kk : ∀ v' A' s', Le D s s' → Own e sz A' v' (k + m) (xs ++ news) → JA P TT D n ops Q K s0 fuel (listed.setIfInBounds i0 true) ((d, v') :: fr) (B ++ (A' ++ L0)) s') :
    JB P TT D n ops Q K s0 fuel listed i0 fr L s := fun hT a hr ho hl hKL => by
  subst hL
  obtain ⟨v', A', s', h1, h2, h3⟩ := Ev_app (ty := ty) B A L0 hT hx hy ht hk he hsz hO hR h63 ho
  exact JB_ev hi0 hgk h1 h2 (hK A') hd (kk v' A' s' h2 h3) hT a hr ho hl hKL
theorem JO_bs0 {t e sz : Nat} {ti te : TI} (ht : tlook TT t = some ti) (hk : ti.kind = .sl e) (he : tlook TT e = some te) (hd : Nat.blt d n = true) (k : ∀ β s', Le D s s' → Own e sz [(β, cb [] e)] (.slice (some ⟨β, 0, none⟩) 0 0) 0 [] → JO P TT D n ops Q rest ((d, .slice (some ⟨β, 0, none⟩) 0 0) :: fr) ((β, cb [] e) :: L) s') :
    JO P TT D n ops Q (⟨some d, .buildSlice t 0 #[], ty, pos, af, none⟩ :: rest) fr L s := fun hT a hr ho => by
  obtain ⟨h1, h2, h3⟩ := alloc_fill ho (cb [] e)
  obtain ⟨k1, k2, _⟩ := hT.at_ ht
  rw [hk] at k2
  simp only [TK.fits] at k2
  rw [k2] at k1
  refine JO_ev hd (L' := (s.heap.size, cb [] e) :: L) (s' := s.alloc (dum D)) (v := .slice (some ⟨s.heap.size, 0, none⟩) 0 0) (fun hT _ dst pos af g ρ hρ => ⟨?_, h2⟩) (k _ _ h3 (.blk s.heap.size 0 0 [] [] (by simp) (by simp) (Nat.le_refl _) (by omega))) hT a hr ho
  rw [← h1]
  simp [execOp, Instr.buildSlice, run_underlying k1, run_sizeOf' (hT.at_ he), Instr.fill, run_new, fill_size, cb, show Array.range 0 = #[] from rfl]
theorem AC.mid {f : FuncId} {args : List Value} {R : Value → Hl → World → Prop} (X M Y : Hl) (h : AC P D f args (M ++ (X ++ Y)) s (fun v L' s' => ∃ M', L' = M' ++ (X ++ Y) ∧ R v M' s')) :
    AC P D f args (X ++ (M ++ Y)) s (fun v L' s' => ∃ M', L' = X ++ (M' ++ Y) ∧ R v M' s') := by
  have hp : ∀ M' : Hl, (X ++ (M' ++ Y)).Perm (M' ++ (X ++ Y)) := fun M' => by
    rw [← List.append_assoc, ← List.append_assoc]
    exact (List.perm_append_comm).append_right Y
  refine ⟨h.1, fun ho => ?_⟩
  rw [fill_perm (hp M) _ ho]
  refine (h.2 (ho.perm (hp M))).mono ?_
  rintro e w' ⟨v, L', s', h1, rfl, h3, h4, M', rfl, h6⟩
  exact ⟨v, X ++ (M' ++ Y), s', h1, (fill_perm (hp M').symm _ h3), h3.perm (hp M').symm, h4, M', rfl, h6⟩
end
end Go.FL
namespace Go.FL
open Go Go.RowKit
structure KeyK (κ : Type) [DecidableEq κ] (d : TypeDesc) (kf : κ → Value) : Prop where
  same : ∀ a b, Instr.sameNow d (kf a) (kf b) = some (decide (a = b))
  bits : ∀ a, Instr.sameBits 10000 (kf a) (kf a) = true
  check : ∀ (P : Program) (w : World) (t : Nat) (e : Bool) (a : κ), P.underlying t = some d → (Instr.checkKey e 10000 t (kf a)).run P w = .ok () w
theorem KeyK.int (k : IntKind) : KeyK Int (.int k) (Value.int k) :=
  ⟨fun a b => by simp [Instr.sameNow]; rfl, fun a => by simp [Instr.sameBits], fun P w t e a h => by unfold Instr.checkKey; simp [run_underlying h]⟩
theorem ba_beq (a b : List UInt8) : ((⟨a.toArray⟩ : ByteArray) == ⟨b.toArray⟩) = decide (a = b) := by
  have e : ((⟨a.toArray⟩ : ByteArray) == ⟨b.toArray⟩) = (a.toArray == b.toArray) := rfl
  rw [e]
  by_cases h : a = b <;> simp [h]
theorem KeyK.str : KeyK (List UInt8) .string (fun l => St l) :=
  ⟨fun a b => by simp only [Instr.sameNow, ba_beq], fun a => by simp [Instr.sameBits, ba_beq], fun P w t e a h => by unfold Instr.checkKey; simp [run_underlying h]⟩
section
variable {κ : Type} [DecidableEq κ] {dk : TypeDesc} {kf : κ → Value}
def mp (kf : κ → Value) (es : List (κ × Value × Nat)) (ck : Nat) : Obj := .map (es.map fun x => ⟨kf x.1, x.2.1, x.2.2⟩).toArray ck
def assoc : List (κ × Value × Nat) → κ → Option Value
  | [], _ => none
  | x :: r, k => if k = x.1 then some x.2.1 else assoc r k
def mset (es : List (κ × Value × Nat)) (k : κ) (v : Value) (ck : Nat) : List (κ × Value × Nat) := match es with
  | [] => [(k, v, ck)]
  | x :: r => if k = x.1 then (x.1, v, x.2.2) :: r else x :: mset r k v ck
theorem assoc_mset (es : List (κ × Value × Nat)) (k : κ) (v : Value) (ck : Nat) (j : κ) : assoc (mset es k v ck) j = if j = k then some v else assoc es j := by
  induction es with
  | nil => simp [mset, assoc]
  | cons x r ih =>
    simp only [mset]
    by_cases h : k = x.1
    · simp only [h, if_true, assoc]
      by_cases hj : j = x.1 <;> simp [hj, h]
    · simp only [h, if_false, assoc, ih]
      by_cases hj : j = x.1
      · have : ¬ x.1 = k := fun e => h e.symm
        simp [hj, this]
      · simp [hj]
theorem findNow_assoc (K : KeyK κ dk kf) (es : List (κ × Value × Nat)) (k : κ) (i : Nat) :
    (assoc es k = none ∧ Instr.findNow dk (kf k) (es.map fun x => ⟨kf x.1, x.2.1, x.2.2⟩) i = some none) ∨
    ∃ j v b, assoc es k = some v ∧ es[j]? = some (k, v, b) ∧ (∀ v' ck, mset es k v' ck = es.set j (k, v', b)) ∧ Instr.findNow dk (kf k) (es.map fun x => ⟨kf x.1, x.2.1, x.2.2⟩) i = some (some (i + j, v)) := by
  induction es generalizing i with
  | nil => exact .inl ⟨rfl, rfl⟩
  | cons x r ih =>
    obtain ⟨a, v, b⟩ := x
    simp only [List.map_cons, Instr.findNow, K.same]
    by_cases h : k = a
    · subst h
      exact .inr ⟨0, v, b, by simp [assoc], rfl, fun v' ck => by simp [mset], by simp⟩
    · rcases ih (i + 1) with ⟨h1, h2⟩ | ⟨j, v', b', h1, h2, h3, h4⟩
      · exact .inl ⟨by simp [assoc, h, h1], by simp [h, h2]⟩
      · exact .inr ⟨j + 1, v', b', by simp [assoc, h, h1], by simpa using h2, fun v'' ck => by simp [mset, h, h3], by simp [h, h4]; omega⟩
variable {P : Program} {TT : TyTab} {D n : Nat} {Q : APost} {fr : Fr} {L L' K : Hl} {s s' s0 : World} {ops : Array Oper} {rest : List Oper} {d ty : Nat} {op : Op} {pos : String} {af : Array Edge} {v : Value}
def MapTy (P : Program) (t : Nat) (dk : TypeDesc) (z : Value) : Prop := ∃ kt et, P.underlying t = some (.map kt et) ∧ P.underlying kt = some dk ∧ ∀ w, (zeroValue et).run P w = .ok z w
theorem run_lookup' (KK : KeyK κ dk kf) {t b : Nat} {z : Value} (hm : MapTy P t dk z) {es : List (κ × Value × Nat)} {ck : Nat} {w : World} (hb : w.heap[b]? = some (mp kf es ck)) (k : κ) (c : Bool) :
    (Instr.lookup t (.map (some b)) (kf k) c).run P w = .ok (if c then .tuple #[(assoc es k).getD z, .bool (assoc es k).isSome] else (assoc es k).getD z) w := by
  obtain ⟨kt, et, h1, h2, h3⟩ := hm
  rcases findNow_assoc KK es k 0 with ⟨a1, a2⟩ | ⟨j, v, bn, a1, _, _, a2⟩
  · simp only [Instr.lookup, Sem.run_bind, run_underlying h1, Result.andThen_ok, Go.MapKept.run_getObj_map hb, Sem.run_pure, KK.check P w kt _ k h2, Go.MapKept.run_findKey h2 a2, h3, a1]
    cases c <;> rfl
  · simp only [Instr.lookup, Sem.run_bind, run_underlying h1, Result.andThen_ok, Go.MapKept.run_getObj_map hb, Sem.run_pure, KK.check P w kt _ k h2, Go.MapKept.run_findKey h2 a2, a1]
    cases c <;> rfl
theorem QE_lookup2 (KK : KeyK κ dk kf) {t b : Nat} {x y : Operand} {z : Value} (i : Nat) (hm : MapTy P t dk z) {es : List (κ × Value × Nat)} {ck : Nat} {k : κ} (hx : lk fr x = some (.map (some b))) (hy : lk fr y = some (kf k)) (hi : K[i]? = some (b, mp kf es ck)) :
    QE P TT D fr (.lookup t x y true) ty K s0 (.tuple #[(assoc es k).getD z, .bool (assoc es k).isSome]) := fun hT dst pos af g ρ hρ L s ho _ hK => by
  have hb := fill_mem ho (hK _ (List.mem_of_getElem? hi))
  simp only [execOp, hρ x _ hx, hρ y _ hy, Sem.run_bind, run_lookup' KK hm hb, Result.andThen_ok, Sem.run_pure]
  rfl
omit [DecidableEq κ] in
theorem Ev_mkmap {t : Nat} (kf : κ → Value) (ho : OKL D L s) : Ev P TT D fr (.makeMap t none) ty L s (.value (.map (some s.heap.size))) ((s.heap.size, mp kf [] 0) :: L) (s.alloc (dum D)) := fun hT _ dst pos af g ρ _ => by
  obtain ⟨h1, h2, h3⟩ := alloc_fill ho (mp kf [] 0)
  refine ⟨?_, h2⟩
  rw [← h1]
  simp [execOp, Instr.makeMap, fill_size, mp]
omit [DecidableEq κ] in
theorem JO_mkmap {t : Nat} (kf : κ → Value) (hd : Nat.blt d n = true) (k : ∀ β s', Le D s s' → JO P TT D n ops Q rest ((d, .map (some β)) :: fr) ((β, mp kf [] 0) :: L) s') :
    JO P TT D n ops Q (⟨some d, .makeMap t none, ty, pos, af, none⟩ :: rest) fr L s := fun hT a hr ho => JO_ev hd (Ev_mkmap kf ho) (k _ _ (alloc_fill ho (mp kf [] 0)).2.2) hT a hr ho
theorem Ev_mupd (KK : KeyK κ dk kf) {t b : Nat} {x y z : Operand} {zv : Value} (i : Nat) (hm : MapTy P t dk zv) {es : List (κ × Value × Nat)} {ck : Nat} {k : κ} (hx : lk fr x = some (.map (some b))) (hy : lk fr y = some (kf k)) (hz : lk fr z = some v) (hi : L[i]? = some (b, mp kf es ck)) :
    ∃ ck', Ev P TT D fr (.mapUpdate t x y z) ty L s .skip (setL L i (mp kf (mset es k v ck) ck')) s := by
  obtain ⟨kt, et, h1, h2, h3⟩ := hm
  rcases findNow_assoc KK es k 0 with ⟨a1, a2⟩ | ⟨j, v', bn, a1, a3, a4, a2⟩
  · refine ⟨ck + 1, fun hT ho dst pos af g ρ hρ => ⟨?_, setL_ok ho _ _⟩⟩
    have hb := fill_mem ho (List.mem_of_getElem? hi)
    have hms : mset es k v ck = es ++ [(k, v, ck)] := by
      clear hi a2 hb
      induction es with
      | nil => rfl
      | cons x r ih =>
        simp only [assoc] at a1
        split at a1
        · cases a1
        · rename_i h; simp [mset, h, ih a1]
    rw [fill_setL ho hi]
    simp only [execOp, hρ x _ hx, hρ y _ hy, hρ z _ hz, Instr.mapUpdate, Sem.run_bind, run_underlying h1, Result.andThen_ok, Go.MapKept.run_getObj_map hb, Sem.run_pure, KK.check P _ kt _ k h2, Go.MapKept.run_findKey h2 a2, Go.MapKept.run_setObj_map _ hb]
    simp [setBlk, mp, hms]
  · refine ⟨ck, fun hT ho dst pos af g ρ hρ => ⟨?_, setL_ok ho _ _⟩⟩
    have hb := fill_mem ho (List.mem_of_getElem? hi)
    rw [fill_setL ho hi]
    have hkey : ((((es.map fun x => (⟨kf x.1, x.2.1, x.2.2⟩ : MapEntry)).toArray)[0 + j]?.map (·.key)).getD (kf k)) = kf k := by simp [a3]
    simp only [execOp, hρ x _ hx, hρ y _ hy, hρ z _ hz, Instr.mapUpdate, Sem.run_bind, run_underlying h1, Result.andThen_ok, Go.MapKept.run_getObj_map hb, Sem.run_pure, KK.check P _ kt _ k h2, Go.MapKept.run_findKey h2 a2, hkey, Instr.keyThatStays, KK.bits, if_true, Go.MapKept.run_setObj_map _ hb, a4]
    have hmod : ((es.map fun x => (⟨kf x.1, x.2.1, x.2.2⟩ : MapEntry)).toArray).modify (0 + j) (fun e => { e with key := kf k, val := v }) = ((es.set j (k, v, bn)).map fun x => (⟨kf x.1, x.2.1, x.2.2⟩ : MapEntry)).toArray := by
      apply Array.ext_getElem?
      intro q
      rw [Array.getElem?_modify]
      by_cases hq : 0 + j = q
      · have : j = q := by omega
        subst this
        obtain ⟨hlt, _⟩ := List.getElem?_eq_some_iff.1 a3
        simp [hlt, a3]
        have := List.getElem?_eq_some_iff.1 a3
        obtain ⟨_, e⟩ := this
        simp [e]
      · have hne : j ≠ q := by omega
        simp [hq, hne]
    rw [hmod]
    rfl
theorem JB_mupd {i0 : Nat} {g : Option (Nat × Bool)} {fuel : Nat} {listed : Array Bool} (KK : KeyK κ dk kf) {t b : Nat} {x y z : Operand} {zv : Value} (hi0 : ops[i0]? = some ⟨none, .mapUpdate t x y z, ty, pos, af, g⟩) (hg : GOK ops fr g) (i : Nat) (hm : MapTy P t dk zv) {es : List (κ × Value × Nat)} {ck : Nat} {k : κ} (hx : lk fr x = some (.map (some b))) (hy : lk fr y = some (kf k)) (hz : lk fr z = some v) (hi : L[i]? = some (b, mp kf es ck))
    (hK' : ∀ x ∈ K, x ∈ L.eraseIdx i) (kk : ∀ ck', JA P TT D n ops Q K s0 fuel (listed.setIfInBounds i0 true) fr (setL L i (mp kf (mset es k v ck) ck')) s) : JB P TT D n ops Q K s0 fuel listed i0 fr L s := by
  obtain ⟨ck', h⟩ := Ev_mupd (TT := TT) (D := D) (s := s) (ty := ty) KK i hm hx hy hz hi
  exact JB_sk hi0 hg h (Le.refl _) (fun x hx _ => erase_setL (hK' x hx) _) (kk ck')
end
end Go.FL
namespace Go.Proofs.YteomcjpigoaioaaGreatDoor
open Go Go.FL
def wv (l : List Int) : List Value := l.map (Value.int .u32)
def bv (l : List UInt8) : List Value := l.map fun x => Value.int .u8 (x.toNat : Int)
theorem wv_len (l : List Int) : (wv l).length = l.length := by simp [wv]
theorem bv_len (l : List UInt8) : (bv l).length = l.length := by simp [bv]
theorem Wds.row {s : World} {A : Option Addr} {n c : Nat} {l : List Int} (h : Wds s A n c l) : Row s A n 1 (wv l) :=
  ⟨by simp [wv, h.1], fun u hu => by simp [wv] at hu; obtain ⟨x, _, rfl⟩ := hu; rfl, fun j u hj => by
    simp only [wv, List.getElem?_map] at hj
    cases hx : l[j]? with
    | none => simp [hx] at hj
    | some x =>
      simp [hx] at hj; subst hj
      obtain ⟨b, off, cs, h1, h2, _, rfl, _⟩ := h.2.2.2 j x hx
      exact ⟨b, off, h1, by simpa using h2 0 _ rfl⟩⟩
theorem Bts.row {s : World} {A : Option Addr} {n c : Nat} {l : List UInt8} (h : Bts s A n c l) : Row s A n 1 (bv l) :=
  ⟨by simp [bv, h.1], fun u hu => by simp [bv] at hu; obtain ⟨x, _, rfl⟩ := hu; rfl, fun j u hj => by
    simp only [bv, List.getElem?_map] at hj
    cases hx : l[j]? with
    | none => simp [hx] at hj
    | some x =>
      simp [hx] at hj; subst hj
      obtain ⟨b, off, cs, h1, h2, _, rfl⟩ := h.2.2.2 j x hx
      exact ⟨b, off, h1, by simpa using h2 0 _ rfl⟩⟩
theorem Bts.nil (s : World) (A : Option Addr) (c : Nat) (hc : c ≤ 9223372036854775807) : Bts s A 0 c [] := ⟨rfl, Nat.zero_le _, hc, fun i x h => by cases h⟩
theorem Wds.nil (s : World) (A : Option Addr) (c : Nat) (hc : c ≤ 9223372036854775807) : Wds s A 0 c [] := ⟨rfl, Nat.zero_le _, hc, fun i x h => by cases h⟩
theorem Own.slice {e sz : Nat} {A : Hl} {v : Value} {n : Nat} {xs : List Value} (h : Own e sz A v n xs) : ∃ Ad c, v = .slice Ad n c ∧ n ≤ c ∧ c ≤ 9223372036854775807 := by
  cases h with
  | nil => exact ⟨none, 0, rfl, Nat.le_refl _, by omega⟩
  | blk b cap n xs ys hn hc hnc hm => exact ⟨_, cap, rfl, hnc, hm⟩
theorem Own.bts {e : Nat} {A : Hl} {Ad : Option Addr} {n c : Nat} {l : List UInt8} {s : World} (h : Own e 1 A (.slice Ad n c) n (bv l)) (hp : ∀ b zs t, (b, cb zs t) ∈ A → CellsAt s b 0 zs) : Bts s Ad n c l := by
  generalize hv : Value.slice Ad n c = v at h
  generalize hx : bv l = xs at h
  cases h with
  | nil =>
    injection hv with e1 e2 e3
    have : l = [] := by cases l with
      | nil => rfl
      | cons y l => simp [bv] at hx
    subst this; subst e3; exact Bts.nil s Ad 0 (by omega)
  | blk b cap n xs ys hn hc hnc hm =>
    injection hv with e1 e2 e3
    subst e1; subst e3; subst hx
    refine ⟨by simpa [bv] using hn.symm, hnc, hm, fun i x hi => ⟨b, 0, [.int .u8 (x.toNat : Int)], rfl, fun j u hj => ?_, rfl, rfl⟩⟩
    have hc := hp b _ e (List.mem_cons_self ..)
    cases j with
    | zero =>
      simp at hj; subst hj
      have := hc i (.int .u8 (x.toNat : Int)) (by rw [List.getElem?_append_left (by simp [bv]; exact (List.getElem?_eq_some_iff.1 hi).1)]; simp [bv, hi])
      simpa using this
    | succ j => simp at hj
theorem Own.wds {e : Nat} {A : Hl} {Ad : Option Addr} {n c : Nat} {l : List Int} {s : World} (h : Own e 1 A (.slice Ad n c) n (wv l)) (hu : ∀ x ∈ l, U32 x) (hp : ∀ b zs t, (b, cb zs t) ∈ A → CellsAt s b 0 zs) : Wds s Ad n c l := by
  generalize hv : Value.slice Ad n c = v at h
  generalize hx : wv l = xs at h
  cases h with
  | nil =>
    injection hv with e1 e2 e3
    have : l = [] := by cases l with
      | nil => rfl
      | cons y l => simp [wv] at hx
    subst this; subst e3; exact Wds.nil s Ad 0 (by omega)
  | blk b cap n xs ys hn hc hnc hm =>
    injection hv with e1 e2 e3
    subst e1; subst e3; subst hx
    refine ⟨by simpa [wv] using hn.symm, hnc, hm, fun i x hi => ⟨b, 0, [.int .u32 x], rfl, fun j u hj => ?_, rfl, rfl, hu x (List.mem_of_getElem? hi)⟩⟩
    have hc := hp b _ e (List.mem_cons_self ..)
    cases j with
    | zero =>
      simp at hj; subst hj
      have := hc i (.int .u32 x) (by rw [List.getElem?_append_left (by simp [wv]; exact (List.getElem?_eq_some_iff.1 hi).1)]; simp [wv, hi])
      simpa using this
    | succ j => simp at hj
theorem Wds.u32 {s : World} {A : Option Addr} {n c : Nat} {l : List Int} (h : Wds s A n c l) : ∀ x ∈ l, U32 x := fun x hx => by
  obtain ⟨i, hi⟩ := List.getElem?_of_mem hx
  obtain ⟨b, off, cs, h1, h2, _, rfl, h4⟩ := h.2.2.2 i x hi
  exact h4
theorem Bts.tail {s : World} {A : Option Addr} {n c : Nat} {x : UInt8} {l : List UInt8} (h : Bts s A n c (x :: l)) : Bts s (if c = 1 then A else A.map (·.add (1 * 1))) (n - 1) (c - 1) l :=
  ⟨by have := h.1; simp at this; omega, by have := h.2.1; omega, by have := h.2.2.1; omega, fun i y hi => by
    obtain ⟨b, off, cs, h1, h2, h3, h4⟩ := h.2.2.2 (i + 1) y (by simpa using hi)
    have hl : i < l.length := (List.getElem?_eq_some_iff.1 hi).1
    have hn := h.1
    simp at hn
    have hc := h.2.1
    subst h1
    refine ⟨b, off + 1, cs, ?_, ?_, h3, h4⟩
    · rw [if_neg (by omega)]; simp [add_lit]
    · rw [show off + 1 + i * 1 = off + (i + 1) * 1 by omega]; exact h2⟩
def w32 (x : Int) : Int := x % 4294967296
def comp (k x y : Int) : Int :=
  if k = 1 then w32 (x + y) else if k = 2 then w32 (x - y) else if k = 3 then w32 (x * y) else if k = 4 then x / y else if k = 5 then x % y
  else if k = 6 then ((x.toNat &&& y.toNat : Nat) : Int) else if k = 7 then ((x.toNat ||| y.toNat : Nat) : Int) else if k = 8 then ((x.toNat ^^^ y.toNat : Nat) : Int)
  else if k = 9 then (((x.toNat <<< y.toNat) % 4294967296 : Nat) : Int) else if k = 10 then ((x.toNat >>> y.toNat : Nat) : Int)
  else if k = 11 then (if x = y then 1 else 0) else if k = 12 then (if x < y then 1 else 0) else x
def findI (ins : List Ins) (c : Int) : Option Ins := ins.find? fun x => decide (x.code = c)
end Go.Proofs.YteomcjpigoaioaaGreatDoor
namespace Go.FL
open Go Go.RowKit Go.Proofs.YteomcjpigoaioaaGreatDoor
theorem QE_cast {P : Program} {TT : TyTab} {D : Nat} {fr : Fr} {ty : Nat} {op : Op} {K : Hl} {s0 : World} {v v' : Value} (h : QE P TT D fr op ty K s0 v) (e : v = v') : QE P TT D fr op ty K s0 v' := e ▸ h
theorem notEq_and : (BinOp.and ≠ .eql ∧ BinOp.and ≠ .neq) := ⟨(by intro h; cases h), (by intro h; cases h)⟩
theorem notEq_or : (BinOp.or ≠ .eql ∧ BinOp.or ≠ .neq) := ⟨(by intro h; cases h), (by intro h; cases h)⟩
theorem notEq_shl : (BinOp.shl ≠ .eql ∧ BinOp.shl ≠ .neq) := ⟨(by intro h; cases h), (by intro h; cases h)⟩
theorem notEq_shr : (BinOp.shr ≠ .eql ∧ BinOp.shr ≠ .neq) := ⟨(by intro h; cases h), (by intro h; cases h)⟩
end Go.FL
namespace Go.Proofs.YteomcjpigoaioaaGreatDoor
open Go Go.FL
end Go.Proofs.YteomcjpigoaioaaGreatDoor
namespace Go.Proofs.YteomcjpigoaioaaGreatDoor
open Go.FL
attribute [local irreducible] JC JO JA JB thenQ blockQ retQ AC fill CellsAt QE Ev Mid
theorem w32_in {a : Int} (h1 : 0 ≤ a) (h2 : a < 4294967296) : IntKind.u32.wrap a = a := by rw [IntKind.wrap_u32]; omega
theorem wrapW (a : Int) : IntKind.u32.wrap a = w32 a := IntKind.wrap_u32 a
end Go.Proofs.YteomcjpigoaioaaGreatDoor
namespace Go.FL
open Go Go.RowKit
section
variable {P : Program} {TT : TyTab} {D n : Nat} {Q : APost} {fr : Fr} {L L' K : Hl} {s s' s0 : World} {ops : Array Oper} {rest : List Oper} {d ty : Nat} {op : Op} {pos : String} {af : Array Edge} {v : Value}
theorem JC_drawT {id : Nat} {l : List Oper} (hm : P.follows .mixedOrders = true) (N : Nat) (hN : l.length = N) (j : Nat)
    (h : ∀ s', Le D s s' → JA P TT D n l.toArray Q (L.take j) s' N (Array.replicate N false) fr L s') : JC P TT D n Q (.region id l.toArray true) fr L s := JC_draw hm N hN _ (fun _ hx => List.mem_of_mem_take hx) h
end
end Go.FL
namespace Go.Proofs.YteomcjpigoaioaaGreatDoor
open Go Go.FL
theorem nth_wv {l : List Int} {y : List Value} {j : Nat} {x : Int} (h : l[j]? = some x) : nth (wv l ++ y) j = some (.int .u32 x) := by
  rw [nth_eq, List.getElem?_append_left (by simp [wv]; exact (List.getElem?_eq_some_iff.1 h).1)]; simp [wv, h]
theorem spl_wv {l : List Int} {y : List Value} {j : Nat} (v : Int) (h : j < l.length) : splice (wv l ++ y) j [.int .u32 v] = wv (l.set j v) ++ y := by
  rw [splice_eq _ _ _ (by simp [wv]; omega)]
  have h1 : (wv l).length = l.length := by simp [wv]
  rw [List.take_append_of_le_length (by omega), List.drop_append_of_le_length (by simp; omega)]
  simp only [wv, List.map_set]
  rw [List.set_eq_take_append_cons_drop]
  simp [h]
theorem ble_wv {l : List Int} {y : List Value} {j : Nat} (h : j < l.length) : Nat.ble (j + 1) (wv l ++ y).length = true := by
  rw [Nat.ble_eq]; simp [wv]; omega
theorem w64u {a : Int} (h1 : 0 ≤ a) (h2 : a < 18446744073709551616) : IntKind.u64.wrap a = a := by simp [IntKind.wrap, IntKind.bits, IntKind.signed]; omega
end Go.Proofs.YteomcjpigoaioaaGreatDoor
namespace Go.FL
open Go Go.RowKit
theorem CellsAt.sub {s : World} {b off : Nat} {vs us : List Value} (j : Nat) (h : CellsAt s b off vs) (hc : cut vs j us.length = some us) : CellsAt s b (off + j) us := fun i v hi => by
  obtain ⟨_, h2⟩ := cut_spec hc
  rw [Nat.add_assoc]
  exact h (j + i) v (h2 i v hi)
def front (L : Hl) (i : Nat) : Hl := match L[i]? with
  | some x => x :: L.eraseIdx i
  | none => L
theorem front_perm (L : Hl) (i : Nat) : L.Perm (front L i) := by
  unfold front
  cases h : L[i]? with
  | none => exact List.Perm.refl _
  | some x =>
    induction L generalizing i with
    | nil => simp at h
    | cons y L ih =>
      cases i with
      | zero => simp at h; subst h; exact List.Perm.refl _
      | succ i =>
        simp at h
        simp only [List.eraseIdx_cons_succ]
        exact ((ih i h).cons y).trans (List.Perm.swap x y _)
theorem JC_front {P : Program} {TT : TyTab} {D n : Nat} {Q : APost} {fr : Fr} {L : Hl} {s : World} {c : Code} (i : Nat) (h : JC P TT D n Q c fr (front L i) s) : JC P TT D n Q c fr L s := fun ht a hr ho => by
  rw [fill_perm (front_perm L i) _ ho]
  exact h ht a hr (ho.perm (front_perm L i))
end Go.FL
namespace Go.Proofs.YteomcjpigoaioaaGreatDoor
open Go Go.FL
theorem head_tail {α : Type} {l : List α} {x : α} (h : l[0]? = some x) : ∃ r, l = x :: r := by
  cases l with
  | nil => cases h
  | cons y r => simp at h; exact ⟨r, by rw [h]⟩
structure AcOK (a : Ac) : Prop where
  kind : 0 ≤ a.kind ∧ a.kind ≤ 19
  tgt : 0 ≤ a.tgt ∧ a.tgt ≤ 4
  x : a.x.kind = 1 → 0 ≤ a.x.val ∧ a.x.val ≤ 4
  y : a.y.kind = 1 → 0 ≤ a.y.val ∧ a.y.val ≤ 4
  ux : U32 a.x.val
  uy : U32 a.y.val
theorem nth_wv0 {l : List Int} {y : List Value} {i : Int} (h0 : 0 ≤ i) (h : i < l.length) : nth (wv l ++ y) (0 + i.toNat) = some (.int .u32 (l.getD i.toNat 0)) := by
  rw [Nat.zero_add]; exact nth_wv (by rw [List.getElem?_eq_getElem (by omega)]; simp [List.getD, show i.toNat < l.length by omega])
theorem spl_wv0 {l : List Int} {y : List Value} {i : Int} (v : Int) (h0 : 0 ≤ i) (h : i < l.length) : splice (wv l ++ y) (0 + i.toNat) [.int .u32 v] = wv (l.set i.toNat v) ++ y := by
  rw [Nat.zero_add]; exact spl_wv v (by omega)
theorem ble_wv0 {l : List Int} {y : List Value} {i : Int} (h0 : 0 ≤ i) (h : i < l.length) : Nat.ble (0 + i.toNat + 1) (wv l ++ y).length = true := by
  rw [Nat.zero_add]; exact ble_wv (by omega)
end Go.Proofs.YteomcjpigoaioaaGreatDoor
namespace Go.Proofs.YteomcjpigoaioaaGreatDoor
open Go Go.FL
structure TabG (t : Tab) : Prop where
  cells : 1 ≤ t.cells ∧ t.cells ≤ 65536
  len : t.ins.length ≤ 64
  codes : ∀ (i j : Nat) (x y : Ins), t.ins[i]? = some x → t.ins[j]? = some y → x.code = y.code → i = j
  acts : ∀ (i : Nat) (x : Ins) (a : Ac), t.ins[i]? = some x → a ∈ x.acts → AcOK a ∧ (x.operand = false → a.x.kind ≠ 2 ∧ a.y.kind ≠ 2)
  few : ∀ (i : Nat) (x : Ins), t.ins[i]? = some x → x.acts.length ≤ 8
theorem firstBad_all {f : Nat → Int} {m j : Nat} (h : (firstBad f m j).1 = 0) : ∀ i, j ≤ i → i < j + m → f i = 0 := by
  induction m generalizing j with
  | zero => intro i h1 h2; omega
  | succ m ih =>
    simp only [firstBad] at h
    split at h
    · contradiction
    · rename_i h0
      simp at h0
      intro i h1 h2
      rcases Nat.eq_or_lt_of_le h1 with rfl | h3
      · exact h0
      · exact ih h i h3 (by omega)
theorem firstNZ_all {α : Type} {f : α → Int} {l : List α} (h : firstNZ (l.map f) = 0) : ∀ a ∈ l, f a = 0 := by
  induction l with
  | nil => intro a ha; cases ha
  | cons x l ih =>
    simp only [List.map_cons, firstNZ] at h
    split at h
    · contradiction
    · rename_i h0
      simp at h0
      intro a ha
      rcases List.mem_cons.1 ha with rfl | ha
      · exact h0
      · exact ih h a ha
theorem Inss.u32 {s : World} {A : Option Addr} {n c : Nat} {l : List Ins} (h : Inss s A n c l) {i : Nat} {x : Ins} {a : Ac} (hi : l[i]? = some x) (ha : a ∈ x.acts) : U32 a.x.val ∧ U32 a.y.val := by
  obtain ⟨b, off, cs, h1, h2, h3, A', n', c', rfl, h5, h6⟩ := h.2.2.2 i x hi
  obtain ⟨j, hj⟩ := List.getElem?_of_mem ha
  obtain ⟨_, _, _, _, _, _, _, h7⟩ := h5.2.2.2 j a hj
  exact h7
theorem term_ok {x : Tm} {u o : Bool} (h : termB x u o = true) : (x.kind = 1 → x.val ≤ 4) ∧ (o = false → x.kind ≠ 2) := by
  unfold termB at h
  cases u <;> cases o <;> simp at h ⊢ <;> omega
theorem tabG {t : Tab} {s : World} {A : Option Addr} {n c : Nat} (hX : Inss s A n c t.ins) (h : (tabFault t).1 = 0) : TabG t := by
  unfold tabFault at h
  split at h
  · cases h
  rename_i h1
  split at h
  · cases h
  rename_i h2
  have hr := firstBad_all h
  have hrow : ∀ (i : Nat) (x : Ins), t.ins[i]? = some x → insCode x = 0 ∧ (t.ins.take i).any (sameKey x) = false := fun i x hi => by
    have hl : i < t.ins.length := (List.getElem?_eq_some_iff.1 hi).1
    have := hr i (Nat.zero_le _) (by omega)
    simp only [rowCode, hi] at this
    split at this
    · contradiction
    · rename_i h0
      simp at h0
      refine ⟨h0, ?_⟩
      split at this
      · cases this
      · rename_i h3; simpa using h3
  refine ⟨by omega, by omega, ?_, ?_, ?_⟩
  · have key : ∀ (i j : Nat) (x y : Ins), i < j → t.ins[i]? = some x → t.ins[j]? = some y → x.code ≠ y.code := fun i j x y hij hi hj he => by
      have := (hrow j y hj).2
      rw [List.any_eq_false] at this
      have hx : x ∈ t.ins.take j := List.mem_of_getElem? (i := i) (by rw [List.getElem?_take, if_pos hij]; exact hi)
      have := this x hx
      simp [sameKey, he] at this
    intro i j x y hi hj he
    rcases Nat.lt_trichotomy i j with h | h | h
    · exact absurd he (key i j x y h hi hj)
    · exact h
    · exact absurd he.symm (key j i y x h hj hi)
  · intro i x a hi ha
    obtain ⟨hu1, hu2⟩ := Inss.u32 hX hi ha
    have hc := (hrow i x hi).1
    unfold insCode at hc
    split at hc
    · cases hc
    split at hc
    · cases hc
    have hac := firstNZ_all hc a ha
    unfold actCode at hac
    split at hac
    · cases hac
    split at hac
    · cases hac
    split at hac
    · cases hac
    rename_i k1 k2 k3
    simp only [Bool.or_eq_true, not_or, Bool.not_eq_true', Bool.not_eq_false] at k3
    have hx := term_ok k3.1.2
    have hy := term_ok k3.2
    exact ⟨⟨by omega, by omega, fun e => ⟨hu1.1, hx.1 e⟩, fun e => ⟨hu2.1, hy.1 e⟩, hu1, hu2⟩, fun e => ⟨hx.2 e, hy.2 e⟩⟩
  · intro i x hi
    have hc := (hrow i x hi).1
    unfold insCode at hc
    split at hc
    · cases hc
    split at hc
    · cases hc
    omega
end Go.Proofs.YteomcjpigoaioaaGreatDoor
namespace Go.FL
open Go Go.RowKit
section
variable {P : Program} {TT : TyTab} {D n : Nat} {Q : APost} {fr : Fr} {L : Hl} {s : World}
theorem JC_loopX {γ : Type} {c : Code} (X : Hl) (S : γ → Fr) (H : γ → Hl) (I : γ → World → Prop) (μ : γ → Nat) (mono : ∀ g s s', I g s → Le D s s' → I g s') (g0 : γ)
    (hS : Keeps fr (S g0)) (hL : L = X ++ H g0) (hI : I g0 s)
    (round : ∀ g s, I g s → JC P TT D n (thenQ (fun fr' L' s' => ∃ g' A, Keeps fr' (S g') ∧ L' = A ++ (X ++ H g') ∧ I g' s' ∧ μ g' < μ g) Q) c (S g) (X ++ H g) s) :
    JC P TT D n Q (.loop c) fr L s := JC_loop S (fun g => X ++ H g) I μ mono g0 hS hL hI round
inductive Suf (fr : Fr) : Fr → Prop
  | refl : Suf fr fr
  | push {d : Nat} {v : Value} {fr' : Fr} (hd : (flook fr d).isNone = true) (h : Suf fr fr') : Suf fr ((d, v) :: fr')
theorem Suf.keeps {fr fr' : Fr} (h : Suf fr fr') : Keeps fr' fr := by
  induction h with
  | refl => exact fun _ _ h => h
  | @push d v fr' hd _ ih =>
    intro t u hu
    rw [flook_cons]
    by_cases he : d = t
    · subst he; rw [hu] at hd; cases hd
    · rw [if_neg he]; exact ih t u hu
def MidB (D : Nat) (s : World) (fr : Fr) (L : Hl) (t : Nat) (p : Prop) [Decidable p] : Fr → Hl → World → Prop := fun fr' L' s' => Le D s s' ∧ L' = L ∧ Keeps fr' ((t, .bool (decide p)) :: fr)
theorem MidB.mk {t : Nat} {p : Prop} [Decidable p] {fr' : Fr} {s' : World} {b : Bool} (hl : Le D s s') (hS : Suf fr fr') (ht : flook fr' t = some (.bool b)) (hb : b = decide p) : MidB D s fr L t p fr' L s' := by
  subst hb; exact ⟨hl, rfl, Keeps.cons ht hS.keeps⟩
theorem JC_cutB {x y : Code} (t : Nat) (p : Prop) [Decidable p] (h1 : JC P TT D n (thenQ (MidB D s fr L t p) Q) x fr L s)
    (h2 : ∀ s', Le D s s' → JC P TT D n Q y ((t, .bool (decide p)) :: fr) L s') : JC P TT D n Q (.seq x y) fr L s := fun ht a hr ho =>
  wp_seq (wp_mono (h1 ht a hr ho) fun e a w ⟨fr', L', s', k1, k2, k3, k4⟩ => by
    cases e with
    | normal =>
      subst k3
      obtain ⟨j1, j2, j3⟩ := k4
      subst j2
      exact h2 s' j1 ht a (k1.sub j3) k2
    | _ => exact ⟨fr', L', s', k1, k2, k3, k4⟩)
def MidN {γ : Type} (D : Nat) (s : World) (fr : Fr) (L : Hl) (new : γ → Fr) (B : γ → Hl) (I : γ → World → Prop) : Fr → Hl → World → Prop := fun fr' L' s' => ∃ g A, Le D s s' ∧ L'.Perm (A ++ (B g ++ L)) ∧ I g s' ∧ Keeps fr' (new g ++ fr)
theorem MidN.mk {γ : Type} {new : γ → Fr} {B : γ → Hl} {I : γ → World → Prop} {fr' : Fr} {L' : Hl} {s' : World} (g : γ) (A : Hl) (hl : Le D s s') (hK : Keeps fr' (new g ++ fr)) (hp : L'.Perm (A ++ (B g ++ L))) (hI : I g s') : MidN D s fr L new B I fr' L' s' := ⟨g, A, hl, hp, hI, hK⟩
theorem JC_cutN {γ : Type} {x y : Code} (new : γ → Fr) (B : γ → Hl) (I : γ → World → Prop) (mono : ∀ g s s', I g s → Le D s s' → I g s') (h1 : JC P TT D n (thenQ (MidN D s fr L new B I) Q) x fr L s)
    (h2 : ∀ g s', Le D s s' → I g s' → JC P TT D n Q y (new g ++ fr) (B g ++ L) s') : JC P TT D n Q (.seq x y) fr L s := fun ht a hr ho =>
  wp_seq (wp_mono (h1 ht a hr ho) fun e a w ⟨fr', L', s', k1, k2, k3, k4⟩ => by
    cases e with
    | normal =>
      subst k3
      obtain ⟨g, A, j0, j2, j3, j1⟩ := k4
      rw [fill_perm j2 _ k2]
      obtain ⟨e, d1, d2⟩ := drop_own (k2.perm j2)
      rw [e]
      exact h2 g _ (j0.trans d2) (mono _ _ _ j3 d2) ht a (k1.sub j1) d1
    | _ => exact ⟨fr', L', s', k1, k2, k3, k4⟩)
def Pub (M : Hl) (s : World) : Prop := ∀ b zs t, (b, cb zs t) ∈ M → CellsAt s b 0 zs
theorem Pub.nil (s : World) : Pub [] s := fun _ _ _ h => by cases h
theorem Pub.tail {x : Nat × Obj} {M : Hl} {s : World} (h : Pub (x :: M) s) : Pub M s := fun b zs t hm => h b zs t (List.mem_cons_of_mem _ hm)
theorem Pub.left {A B : Hl} {s : World} (h : Pub (A ++ B) s) : Pub A s := fun b zs t hm => h b zs t (List.mem_append_left _ hm)
theorem Pub.right {A B : Hl} {s : World} (h : Pub (A ++ B) s) : Pub B s := fun b zs t hm => h b zs t (List.mem_append_right _ hm)
theorem Pub.le {D : Nat} {A : Hl} {s s' : World} (h : Pub A s) (hl : Le D s s') : Pub A s' := fun b zs t hm => (h b zs t hm).le hl
theorem AC.pubW {f : FuncId} {args : List Value} {R : Value → World → Prop} (h : AC P D f args L s (fun v L' s' => ∃ M', L' = M' ++ L ∧ ∀ s2, Le D s' s2 → Pub M' s2 → R v s2)) :
    AC P D f args L s (fun v L' s' => L = L' ∧ R v s') := by
  refine ⟨h.1, fun ho => (h.2 ho).mono ?_⟩
  rintro e w' ⟨v, L', s', h1, rfl, h3, h4, M', rfl, h6⟩
  obtain ⟨d1, d2, d3⟩ := drop_own h3
  refine ⟨v, L, fill M' s', h1, d1, d2, h4.trans d3, rfl, h6 _ d3 fun b zs t hm j u hj => ?_⟩
  rw [mem_cell h3.left hm, Nat.zero_add]; exact hj
end
end Go.FL
namespace Go.Proofs.YteomcjpigoaioaaGreatDoor
open Go Go.FL
def zeroM : Mst := ⟨[], 0, 0, 0, 0, 0, [], [], 0, 0⟩
def StW (s : World) (m : Mst) (v : Value) : Prop := ∃ A nA cA B nB cB O nO cO, v = .agg #[.slice A nA cA, .int .u32 m.r0, .int .u32 m.r1, .int .u32 m.r2, .int .u32 m.r3, .int .u32 m.r4, .slice B nB cB, .slice O nO cO, .int .i64 m.stop, .int .u32 m.code]
  ∧ Wds s A nA cA m.cells ∧ Bts s B nB cB m.input ∧ Bts s O nO cO m.output
theorem StW.le {D : Nat} {s s' : World} {m : Mst} {v : Value} (h : StW s m v) (hl : Le D s s') : StW s' m v := by
  obtain ⟨A, nA, cA, B, nB, cB, O, nO, cO, h1, h2, h3, h4⟩ := h
  exact ⟨A, nA, cA, B, nB, cB, O, nO, cO, h1, h2.le hl, h3.le hl, h4.le hl⟩
theorem StW.zero (s : World) : StW s zeroM (.agg #[.slice none 0 0, .int .u32 0, .int .u32 0, .int .u32 0, .int .u32 0, .int .u32 0, .slice none 0 0, .slice none 0 0, .int .i64 0, .int .u32 0]) :=
  ⟨none, 0, 0, none, 0, 0, none, 0, 0, rfl, Wds.nil _ _ _ (by omega), Bts.nil _ _ _ (by omega), Bts.nil _ _ _ (by omega)⟩
end Go.Proofs.YteomcjpigoaioaaGreatDoor
namespace Go.Proofs.YteomcjpigoaioaaGreatDoor
open Go.FL
attribute [local irreducible] JC JO JA JB thenQ blockQ retQ AC fill CellsAt QE Ev Mid
theorem wds_pub {s : World} {bc cc : Nat} {l : List Int} {yc : List Value} (hp : CellsAt s bc 0 (wv l ++ yc)) (hu : ∀ x ∈ l, U32 x) (h1 : l.length + yc.length = cc) (h2 : cc ≤ 9223372036854775807) : Wds s (some ⟨bc, 0, none⟩) l.length cc l :=
  Own.wds (e := 0) (A := [(bc, cb (wv l ++ yc) 0)]) (.blk bc cc l.length (wv l) yc (by simp [wv]) (by rw [wv_len]; omega) (by omega) h2) hu (fun b zs t hm => by
    simp only [List.mem_singleton, Prod.mk.injEq, cb, Obj.cells.injEq] at hm
    obtain ⟨rfl, h, rfl, _⟩ := hm
    have e : zs = wv l ++ yc := by simpa using h
    rw [e]; exact hp)
theorem U32_zero : U32 0 := ⟨by decide, by decide⟩
end Go.Proofs.YteomcjpigoaioaaGreatDoor
namespace Go.Proofs.YteomcjpigoaioaaGreatDoor
open Go.FL
attribute [local irreducible] JC JO JA JB thenQ blockQ retQ AC fill CellsAt QE Ev Mid
def StO (m : Mst) (v : Value) (M : Hl) (s : World) : Prop := ∃ bc cc yc O Ao co Ai ni ci, v = .agg #[.slice (some ⟨bc, 0, none⟩) m.cells.length cc, .int .u32 m.r0, .int .u32 m.r1, .int .u32 m.r2, .int .u32 m.r3, .int .u32 m.r4, .slice Ai ni ci, .slice Ao m.output.length co, .int .i64 m.stop, .int .u32 m.code]
  ∧ M = (bc, cb (wv m.cells ++ yc) 52) :: O ∧ Own 5 1 O (.slice Ao m.output.length co) m.output.length (bv m.output) ∧ Bts s Ai ni ci m.input ∧ m.cells.length + yc.length = cc ∧ cc ≤ 9223372036854775807
end Go.Proofs.YteomcjpigoaioaaGreatDoor
namespace Go.Proofs.YteomcjpigoaioaaGreatDoor
open Go.FL
attribute [local irreducible] JC JO JA JB thenQ blockQ retQ AC fill CellsAt QE Ev Mid
theorem StO.le {D : Nat} {m : Mst} {v : Value} {M : Hl} {s s' : World} (h : StO m v M s) (hl : Le D s s') : StO m v M s' := by
  obtain ⟨bc, cc, yc, O, Ao, co, Ai, ni, ci, h1, h2, h3, h4, h5⟩ := h
  exact ⟨bc, cc, yc, O, Ao, co, Ai, ni, ci, h1, h2, h3, h4.le hl, h5⟩
end Go.Proofs.YteomcjpigoaioaaGreatDoor
namespace Go.Proofs.YteomcjpigoaioaaGreatDoor
open Go.FL
attribute [local irreducible] JC JO JA JB thenQ blockQ retQ AC fill CellsAt QE Ev Mid
def OutW (s : World) (o : List UInt8 × Int × Int × Int) (v : Value) : Prop := ∃ A n c, v = .agg #[.slice A n c, .int .i64 o.2.1, .int .u32 o.2.2.1, .int .i64 o.2.2.2] ∧ Bts s A n c o.1
theorem OutW.zero (s : World) : OutW s ([], 0, 0, 0) (.agg #[.slice none 0 0, .int .i64 0, .int .u32 0, .int .i64 0]) := ⟨none, 0, 0, rfl, Bts.nil _ _ _ (by omega)⟩
theorem OutW.le {D : Nat} {s s' : World} {o : List UInt8 × Int × Int × Int} {v : Value} (h : OutW s o v) (hl : Le D s s') : OutW s' o v := by
  obtain ⟨A, n, c, h1, h2⟩ := h
  exact ⟨A, n, c, h1, h2.le hl⟩
end Go.Proofs.YteomcjpigoaioaaGreatDoor
namespace Go.Proofs.YteomcjpigoaioaaGreatDoor
open Go Go.FL
inductive All2 {α β : Type} (R : α → β → Prop) : List α → List β → Prop
  | nil : All2 R [] []
  | cons {a : α} {b : β} {l : List α} {m : List β} (h : R a b) (k : All2 R l m) : All2 R (a :: l) (b :: m)
theorem sl_lit {α : Type} {sz : Nat} {R : World → α → List Value → Prop} {s : World} {b : Nat} {l : List α} {css : List (List Value)} (h : All2 (fun x cs => cs.length = sz ∧ R s x cs) l css) :
    ∀ off, CellsAt s b off css.flatten → ∀ i x, l[i]? = some x → ∃ cs, CellsAt s b (off + i * sz) cs ∧ cs.length = sz ∧ R s x cs := by
  induction h with
  | nil => intro off _ i x hi; cases hi
  | @cons a c l m h k ih =>
    intro off hc i x hi
    have h1 : CellsAt s b off c := fun j v hj => hc j v (by rw [List.flatten_cons, List.getElem?_append_left (List.getElem?_eq_some_iff.1 hj).1]; exact hj)
    have h2 : CellsAt s b (off + sz) m.flatten := fun j v hj => by
      have := hc (sz + j) v (by rw [List.flatten_cons, List.getElem?_append_right (by omega), h.1]; simpa using hj)
      rwa [← Nat.add_assoc] at this
    cases i with
    | zero => simp at hi; subst hi; exact ⟨c, by simpa using h1, h.1, h.2⟩
    | succ i =>
      obtain ⟨cs, k1, k2⟩ := ih (off + sz) h2 i x (by simpa using hi)
      exact ⟨cs, by rw [Nat.succ_mul]; rwa [show off + sz + i * sz = off + (i * sz + sz) by omega] at k1, k2⟩
theorem Sl.lit {α : Type} {sz : Nat} {R : World → α → List Value → Prop} {s : World} {b : Nat} {l : List α} (css : List (List Value)) {zs : List Value} (hc : CellsAt s b 0 zs) (hz : css.flatten = zs) (h : All2 (fun x cs => cs.length = sz ∧ R s x cs) l css) (n : Nat) (hn : n = l.length) (hm : n ≤ 9223372036854775807) : Sl sz R s (some ⟨b, 0, none⟩) n n l :=
  ⟨hn, Nat.le_refl _, hm, fun i x hi => by
    obtain ⟨cs, h1, h2⟩ := sl_lit h 0 (hz ▸ hc) i x hi
    exact ⟨b, 0, cs, rfl, h1, h2⟩⟩
theorem bts_pub {s : World} {b cc : Nat} {l : List UInt8} {yc : List Value} (hp : CellsAt s b 0 (bv l ++ yc)) (h1 : l.length + yc.length = cc) (h2 : cc ≤ 9223372036854775807) : Bts s (some ⟨b, 0, none⟩) l.length cc l :=
  Own.bts (e := 0) (A := [(b, cb (bv l ++ yc) 0)]) (.blk b cc l.length (bv l) yc (by simp [bv]) (by rw [bv_len]; omega) (by omega) h2) (fun b zs t hm => by
    simp only [List.mem_singleton, Prod.mk.injEq, cb, Obj.cells.injEq] at hm
    obtain ⟨rfl, h, rfl, _⟩ := hm
    have e : zs = bv l ++ yc := by simpa using h
    rw [e]; exact hp)
end Go.Proofs.YteomcjpigoaioaaGreatDoor
namespace Go.FL
open Go Go.RowKit
theorem JC_pubX {P : Program} {TT : TyTab} {D n : Nat} {Q : APost} {fr : Fr} {s : World} {c : Code} (X A Y : Hl) (h : ∀ s', Le D s s' → Pub A s' → JC P TT D n Q c fr (X ++ Y) s') : JC P TT D n Q c fr (X ++ (A ++ Y)) s := fun ht a hr ho => by
  have hp : (X ++ (A ++ Y)).Perm (A ++ (X ++ Y)) := by
    rw [← List.append_assoc, ← List.append_assoc]
    exact (List.perm_append_comm).append_right Y
  rw [fill_perm hp _ ho]
  have ho2 := ho.perm hp
  obtain ⟨e, d1, d2⟩ := drop_own ho2
  rw [e]
  refine h _ d2 (fun b zs t hm j u hj => ?_) ht a hr d1
  rw [mem_cell ho2.left hm, Nat.zero_add]; exact hj
end Go.FL
namespace Go.Proofs.YteomcjpigoaioaaGreatDoor
open Go Go.FL
theorem All2.len {α β : Type} {R : α → β → Prop} {l : List α} {m : List β} (h : All2 R l m) : l.length = m.length := by
  induction h with
  | nil => rfl
  | cons _ _ ih => simp [ih]
theorem All2.mono {α β : Type} {R R' : α → β → Prop} {l : List α} {m : List β} (h : All2 R l m) (hr : ∀ a b, R a b → R' a b) : All2 R' l m := by
  induction h with
  | nil => exact .nil
  | cons h _ ih => exact .cons (hr _ _ h) ih
theorem All2.snoc {α β : Type} {R : α → β → Prop} {l : List α} {m : List β} {a : α} {b : β} (h : All2 R l m) (k : R a b) : All2 R (l ++ [a]) (m ++ [b]) := by
  induction h with
  | nil => exact .cons k .nil
  | cons h _ ih => exact .cons h ih
theorem Own.rows {α : Type} {e sz : Nat} {A : Hl} {Ad : Option Addr} {n c : Nat} {css : List (List Value)} {l : List α} {R : World → α → List Value → Prop} {s : World} (h : Own e sz A (.slice Ad n c) n css.flatten) (hp : Pub A s) (ha : All2 (fun x cs => cs.length = sz ∧ R s x cs) l css) (hn : n = l.length) : Sl sz R s Ad n c l := by
  generalize hv : Value.slice Ad n c = v at h
  generalize hx : css.flatten = xs at h
  cases h with
  | nil =>
    injection hv with e1 e2 e3
    subst e1; subst e3
    have : l = [] := List.eq_nil_of_length_eq_zero hn.symm
    subst this
    exact ⟨rfl, Nat.le_refl _, by omega, fun i x h => by cases h⟩
  | blk b cap n xs ys h1 h2 h3 h4 =>
    injection hv with e1 e2 e3
    subst e1; subst e3; subst hx
    have hc : CellsAt s b 0 css.flatten := fun j v hj => hp b _ e (List.mem_cons_self ..) j v (by rw [List.getElem?_append_left (List.getElem?_eq_some_iff.1 hj).1]; exact hj)
    exact ⟨hn, h3, h4, fun i x hi => by
      obtain ⟨cs, k1, k2⟩ := sl_lit ha 0 hc i x hi
      exact ⟨b, 0, cs, rfl, k1, k2⟩⟩
def Strs (s : World) (A : Option Addr) (n c : Nat) (l : List (List UInt8)) : Prop := Sl 1 (fun _ x cs => cs = [St x] ∧ x.length ≤ 9223372036854775807) s A n c l
theorem Strs.le {D : Nat} {s s' : World} {A : Option Addr} {n c : Nat} {l : List (List UInt8)} (h : Strs s A n c l) (hl : Le D s s') : Strs s' A n c l := Sl.le (fun _ _ h => h) h hl
theorem Strs.at_ {s : World} {A : Option Addr} {n c k : Nat} {l : List (List UInt8)} (h : Strs s A n c l) (hk : k < n) : ∃ b off x, A = some ⟨b, off, none⟩ ∧ l[k]? = some x ∧ CellsAt s b (off + k) [St x] ∧ x.length ≤ 9223372036854775807 := by
  have hl : k < l.length := by rw [← h.1]; exact hk
  obtain ⟨b, off, cs, h1, h2, _, rfl, h4⟩ := h.2.2.2 k l[k] (List.getElem?_eq_getElem hl)
  exact ⟨b, off, l[k], h1, List.getElem?_eq_getElem hl, by simpa using h2, h4⟩
end Go.Proofs.YteomcjpigoaioaaGreatDoor
namespace Go.Proofs.YteomcjpigoaioaaGreatDoor
open Go Go.FL
def splitF (c : Int) : List UInt8 → List UInt8 → List (List UInt8)
  | cur, [] => [cur]
  | cur, x :: r => if (x.toNat : Int) = c then cur :: splitF c [] r else splitF c (cur ++ [x]) r
def splitB (c : Int) (l : List UInt8) : List (List UInt8) := splitF c [] l
theorem splitF_pos (c : Int) (cur l : List UInt8) : 0 < (splitF c cur l).length := by
  induction l generalizing cur with
  | nil => simp [splitF]
  | cons x r ih =>
    simp only [splitF]
    split
    · simp
    · exact ih _
theorem splitF_len (c : Int) (cur l : List UInt8) : (splitF c cur l).length ≤ l.length + 1 := by
  induction l generalizing cur with
  | nil => simp [splitF]
  | cons x r ih =>
    simp only [splitF]
    split
    · simp only [List.length_cons]; have := ih []; omega
    · simp only [List.length_cons]; have := ih (cur ++ [x]); omega
theorem splitF_short (c : Int) (cur l : List UInt8) : ∀ p ∈ splitF c cur l, p.length ≤ cur.length + l.length := by
  induction l generalizing cur with
  | nil => intro p hp; simp [splitF] at hp; subst hp; simp
  | cons x r ih =>
    intro p hp
    simp only [splitF] at hp
    split at hp
    · rcases List.mem_cons.1 hp with rfl | hp
      · simp only [List.length_cons]; omega
      · have := ih [] p hp; simp only [List.length_nil, List.length_cons] at this ⊢; omega
    · have := ih (cur ++ [x]) p hp; simp only [List.length_append, List.length_cons, List.length_nil] at this ⊢; omega
theorem split_hit {l : List UInt8} {c : Int} {i f : Nat} {x : UInt8} (h : l[i]? = some x) (hx : (x.toNat : Int) = c) : splitF c ((l.drop f).take (i - f)) (l.drop i) = ((l.drop f).take (i - f)) :: splitF c ((l.drop (i + 1)).take ((i + 1) - (i + 1))) (l.drop (i + 1)) := by
  obtain ⟨hi, rfl⟩ := List.getElem?_eq_some_iff.1 h
  rw [List.drop_eq_getElem_cons hi]
  simp only [splitF, hx, if_true, Nat.sub_self, List.take_zero]
theorem split_miss {l : List UInt8} {c : Int} {i f : Nat} {x : UInt8} (h : l[i]? = some x) (hx : ¬ (x.toNat : Int) = c) (hf : f ≤ i) : splitF c ((l.drop f).take (i - f)) (l.drop i) = splitF c ((l.drop f).take ((i + 1) - f)) (l.drop (i + 1)) := by
  obtain ⟨hi, rfl⟩ := List.getElem?_eq_some_iff.1 h
  rw [List.drop_eq_getElem_cons hi]
  simp only [splitF, hx, if_false]
  congr 1
  rw [show i + 1 - f = (i - f) + 1 by omega, List.take_add_one, List.getElem?_drop, show f + (i - f) = i by omega, List.getElem?_eq_getElem hi]; rfl
theorem split_end {l : List UInt8} {c : Int} {f : Nat} : splitF c ((l.drop f).take (l.length - f)) (l.drop l.length) = [l.drop f] := by
  rw [List.drop_length, List.take_of_length_le (by simp)]; rfl
def sb (l : List (List UInt8)) : List Value := l.map fun x => St x
theorem sb_snoc (l : List (List UInt8)) (x : List UInt8) : sb (l ++ [x]) = sb l ++ [St x] := by simp [sb]
theorem Own.strs {e : Nat} {A : Hl} {Ad : Option Addr} {n c : Nat} {l : List (List UInt8)} {s : World} (h : Own e 1 A (.slice Ad n c) n (sb l)) (hu : ∀ x ∈ l, x.length ≤ 9223372036854775807) (hp : Pub A s) (hn : n = l.length) : Strs s Ad n c l := by
  have he : sb l = (l.map fun x => [St x]).flatten := by
    clear h hu hn
    induction l with
    | nil => rfl
    | cons x r ih => simp [sb] at ih ⊢; exact ih
  rw [he] at h
  refine Own.rows h hp ?_ hn
  clear h he hn
  induction l with
  | nil => exact .nil
  | cons x r ih => exact .cons ⟨rfl, rfl, hu x (List.mem_cons_self ..)⟩ (ih fun y hy => hu y (List.mem_cons_of_mem _ hy))
theorem w32_u (x : Int) : U32 (w32 x) := ⟨by unfold w32; omega, by unfold w32; omega⟩
end Go.Proofs.YteomcjpigoaioaaGreatDoor
namespace Go.Proofs.YteomcjpigoaioaaGreatDoor
open Go.FL
attribute [local irreducible] JC JO JA JB thenQ blockQ retQ AC fill CellsAt QE Ev Mid
theorem flat_snoc2 (css : List (List Value)) (cs : List Value) : (css ++ [cs]).flatten = css.flatten ++ cs := by simp
set_option maxHeartbeats 2000000 in
set_option maxRecDepth 100000 in
theorem splitO_ac (D : Nat) (L : Hl) (s : World) (l : List UInt8) (c : Int) (hl : l.length ≤ 1000000000) : AC Tryz.prog D 25 [St l, .int .u8 c] L s fun v L' s' => ∃ M', L' = M' ++ L ∧ ∀ s2, Le D s' s2 → Pub M' s2 → ∃ A n c', v = .slice A n c' ∧ Strs s2 A n c' (splitB c l) := by
 refine AC_enter (TT := TT) (fn := Tryz.f25) TT_ok Tryz.func25 (by kernel_rfl) rfl Tryz.ntmps25 rfl (rs := [.tmp 4]) rfl [(0, _), (1, _)] rfl ?_
 refine JC_seq ?_
 refine JC_region ?_
 refine JO_q (QE_as rfl) rfl ?_
 refine JO_nil ?_
 refine thenQ_n ?_
 refine JC_seq ?_
 refine JC_region ?_
 refine JO_q (QE_as rfl) rfl ?_
 refine JO_nil ?_
 refine thenQ_n ?_
 refine JC_seq ?_
 refine JC_region ?_
 refine JO_q (QE_as rfl) rfl ?_
 refine JO_nil ?_
 refine thenQ_n ?_
 refine JC_seq ?_
 refine JC_seq ?_
 refine JC_region ?_
 refine JO_q (QE_as rfl) rfl ?_
 refine JO_nil ?_
 refine thenQ_n ?_
 refine JC_block ?_
 refine JC_loop (γ := Nat × Nat × Value × Hl × List (List UInt8)) (fun g => [(0, _), (1, _), (4, _), (5, g.2.2.1), (6, .int .i64 (g.2.1 : Int)), (7, .int .i64 (g.1 : Int))]) (fun g => g.2.2.2.1 ++ L) (fun g tw => Le D s tw ∧ (g.1 ≤ l.length ∧ g.2.1 ≤ g.1 ∧ Own 9 1 g.2.2.2.1 g.2.2.1 g.2.2.2.2.length (sb g.2.2.2.2) ∧ g.2.2.2.2.length ≤ g.1 ∧ splitB c l = g.2.2.2.2 ++ splitF c ((l.drop g.2.1).take (g.1 - g.2.1)) (l.drop g.1))) (fun g => l.length - g.1) (fun _ _ _ h hl => ⟨h.1.trans hl, h.2⟩) (0, 0, .slice none 0 0, [], []) (Keeps.cons rfl (Keeps.cons rfl (Keeps.cons rfl (Keeps.cons rfl (Keeps.cons rfl (Keeps.cons rfl (Keeps.nil _))))))) rfl ⟨Le.refl _, ⟨Nat.zero_le _, Nat.le_refl _, Own.nil, Nat.le_refl _, by simp [splitB]⟩⟩ ?_
 intro g s1 I1
 obtain ⟨i, f, vo, Mo, out⟩ := g
 obtain ⟨hi0, hf, hO, hol, hS⟩ := I1.2
 simp only at hi0 hf hO hol hS
 dsimp only
 refine JC_seq ?_
 refine JC_seq ?_
 refine JC_region ?_
 refine JO_q (QE_mv rfl) rfl ?_
 refine JO_q (QE_mv rfl) rfl ?_
 refine JO_q (QE_lenT rfl rfl rfl) rfl ?_
 refine JO_q (QE_lt rfl rfl) rfl ?_
 refine JO_nil ?_
 refine thenQ_n ?_
 refine JC_ifD rfl (fun c2 => ?_) (fun c2 => ?_)
 ·
  have hk : i < l.length := by omega
  obtain ⟨ch, hch⟩ : ∃ ch, l[i]? = some ch := ⟨_, List.getElem?_eq_getElem hk⟩
  refine JC_skip ?_
  refine thenQ_n ?_
  refine JC_seq ?_
  refine JC_block ?_
  refine JC_seq ?_
  refine JC_region ?_
  refine JO_q (QE_mv rfl) rfl ?_
  refine JO_q (QE_mv rfl) rfl ?_
  refine JO_q (QE_ix rfl rfl rfl rfl hch) rfl ?_
  refine JO_q (QE_mv rfl) rfl ?_
  refine JO_q (QE_eq rfl rfl) rfl ?_
  refine JO_nil ?_
  refine thenQ_n ?_
  refine JC_ifD rfl (fun c3 => ?_) (fun c3 => ?_)
  ·
   have hne := c3
   refine JC_seq ?_
   refine JC_region ?_
   refine JO_q (QE_mv rfl) rfl ?_
   refine JO_q (QE_mv rfl) rfl ?_
   refine JO_q (QE_mv rfl) rfl ?_
   refine JO_q (QE_mv rfl) rfl ?_
   refine JO_q (QE_stLH rfl rfl rfl rfl rfl (by omega) (by omega)) rfl ?_
   refine JO_bs [(_, _)] [_] rfl rfl rfl rfl rfl rfl rfl rfl rfl ?_
   intro βn s4 h4 hcb
   refine JO_app (sz := 1) [] Mo L rfl rfl rfl rfl rfl rfl rfl hO (Row.of_cells (hcb.le (Le.refl (D := D) _)) rfl rfl) ⟨by simp [ti9]; omega, by omega⟩ rfl ?_
   intro v2 A2x s5 h5 o2
   obtain ⟨Av2, cv2, rfl, _, _⟩ := Own.slice o2
   simp only [List.nil_append]
   refine JO_q (QE_as rfl) rfl ?_
   refine JO_nil ?_
   refine thenQ_n ?_
   refine JC_region ?_
   refine JO_q (QE_mv rfl) rfl ?_
   refine JO_q (QE_add' rfl rfl (w64 (by omega) (by omega))) rfl ?_
   refine JO_q (QE_as rfl) rfl ?_
   refine JO_nil ?_
   refine blockQ_n ?_
   refine thenQ_n ?_
   refine JC_region ?_
   refine JO_q (QE_mv rfl) rfl ?_
   refine JO_q (QE_add' rfl rfl (w64 (by omega) (by omega))) rfl ?_
   refine JO_q (QE_as rfl) rfl ?_
   refine JO_nil ?_
   refine thenQ_n ⟨(i + 1, i + 1, .slice Av2 (out.length + 1) cv2, A2x, out ++ [(l.drop f).take (i - f)]), [], (Keeps.cons rfl (Keeps.cons rfl (Keeps.cons rfl (Keeps.cons rfl (Keeps.cons rfl (Keeps.cons rfl (Keeps.nil _))))))), rfl, ⟨(Le.trans (Le.trans I1.1 h4) h5), by first | exact ⟨by simp only; omega, by simp only; omega, by simp only [List.length_append, List.length_cons, List.length_nil, sb_snoc]; exact o2, by simp; omega, by simp only; rw [hS, split_hit hch hne, List.append_assoc]; rfl⟩ | exact ⟨by simp only; omega, by simp only; omega, hO, by simp only; omega, by simp only; rw [hS, split_miss hch hne hf]⟩⟩, (by simp only; omega)⟩
  ·
   have hne := c3
   refine JC_skip ?_
   refine blockQ_n ?_
   refine thenQ_n ?_
   refine JC_region ?_
   refine JO_q (QE_mv rfl) rfl ?_
   refine JO_q (QE_add' rfl rfl (w64 (by omega) (by omega))) rfl ?_
   refine JO_q (QE_as rfl) rfl ?_
   refine JO_nil ?_
   refine thenQ_n ⟨(i + 1, f, vo, Mo, out), [], (Keeps.cons rfl (Keeps.cons rfl (Keeps.cons rfl (Keeps.cons rfl (Keeps.cons rfl (Keeps.cons rfl (Keeps.nil _))))))), rfl, ⟨I1.1, by first | exact ⟨by simp only; omega, by simp only; omega, by simp only [List.length_append, List.length_cons, List.length_nil, sb_snoc]; exact o2, by simp; omega, by simp only; rw [hS, split_hit hch hne, List.append_assoc]; rfl⟩ | exact ⟨by simp only; omega, by simp only; omega, hO, by simp only; omega, by simp only; rw [hS, split_miss hch hne hf]⟩⟩, (by simp only; omega)⟩
 ·
  have hiE : i = l.length := by omega
  subst hiE
  rw [split_end] at hS
  refine JC_exit ?_
  refine thenQ_x ?_
  refine thenQ_x ?_
  refine blockQ_x ?_
  refine thenQ_n ?_
  refine JC_seq ?_
  refine JC_region ?_
  refine JO_q (QE_mv rfl) rfl ?_
  refine JO_q (QE_mv rfl) rfl ?_
  refine JO_q (QE_mv rfl) rfl ?_
  refine JO_q (QE_stL rfl rfl rfl rfl (by omega)) rfl ?_
  refine JO_bs [(_, _)] [_] rfl rfl rfl rfl rfl rfl rfl rfl rfl ?_
  intro βn s6 h6 hcb
  refine JO_app (sz := 1) [] Mo L rfl rfl rfl rfl rfl rfl rfl hO (Row.of_cells (hcb.le (Le.refl (D := D) _)) rfl rfl) ⟨by simp [ti9]; omega, by omega⟩ rfl ?_
  intro v2 A2x s7 h7 o2
  obtain ⟨Av2, cv2, rfl, _, _⟩ := Own.slice o2
  simp only [List.nil_append]
  refine JO_q (QE_as rfl) rfl ?_
  refine JO_nil ?_
  refine thenQ_n ?_
  refine JC_ret ?_
  refine retQ_mk [] _ (.inr rfl) (.tmp rfl (.nil)) rfl (Le.trans (Le.trans I1.1 h6) h7) (fun sR hS2 => ?_)
  refine ⟨_, rfl, fun s2 hs2 hp => ⟨_, _, _, rfl, ?_⟩⟩
  rw [hS]
  exact Own.strs (by rw [sb_snoc]; exact o2) (fun x hx => by rw [← hS] at hx; have := splitF_short c [] l x hx; simp at this; omega) hp (by simp)
theorem split_ac (D : Nat) (L : Hl) (s : World) (l : List UInt8) (c : Int) (hl : l.length ≤ 1000000000) : AC Tryz.prog D 25 [St l, .int .u8 c] L s fun v L' s' => L = L' ∧ ∃ A n c', v = .slice A n c' ∧ Strs s' A n c' (splitB c l) := AC.pubW (splitO_ac D L s l c hl)
theorem Strs.get {s : World} {b off n c k : Nat} {l : List (List UInt8)} {x : List UInt8} (h : Strs s (some ⟨b, off, none⟩) n c l) (hk : l[k]? = some x) : k < n ∧ CellsAt s b (off + k) [St x] ∧ x.length ≤ 9223372036854775807 := by
  obtain ⟨b', off', cs, h1, h2, _, rfl, h4⟩ := h.2.2.2 k x hk
  injection h1 with h1; injection h1 with e1 e2; subst e1; subst e2
  exact ⟨by rw [h.1]; exact (List.getElem?_eq_some_iff.1 hk).1, by simpa using h2, h4⟩
end Go.Proofs.YteomcjpigoaioaaGreatDoor
namespace Go.FL
open Go Go.RowKit
section
variable {P : Program} {D : Nat} {L : Hl} {s : World}
theorem AC.of_calls {f : FuncId} {args : List Value} {R : Value → Hl → World → Prop} (hf : FnOK P f)
    (h : OKL D L s → Calls P f args.toArray (fill L s) fun e w' => ∃ v, e = .returned v ∧ Below (fill L s).heap.size (fill L s) w' ∧ ∀ s', w' = fill L s' → Le D s s' → (∀ k, s.heap.size ≤ k → s'.heap[k]? = w'.heap[k]?) → R v L s') : AC P D f args L s R :=
  ⟨hf, fun ho => (h ho).mono fun e w' ⟨v, he, hb, hr⟩ => by
    obtain ⟨e1, o1, l1⟩ := of_ext ho hb
    refine ⟨v, L, blank D L w', he, e1, o1, l1, hr _ e1 l1 fun k hk => blank_other fun hm => ?_⟩
    obtain ⟨x, hx, rfl⟩ := List.mem_map.1 hm
    have := ho.lt hx
    omega⟩
theorem below_refl (w : World) : Below w.heap.size w w := Below.refl _ _
theorem mark_free' (l : List Obj) : ∃ D, ∀ E, D ≤ E → ∀ o ∈ l, o ≠ dum E := by
  induction l with
  | nil => exact ⟨0, fun _ _ _ h => by cases h⟩
  | cons x l ih =>
    obtain ⟨D, h⟩ := ih
    by_cases hx : ∃ E, x = dum E
    · obtain ⟨E0, rfl⟩ := hx
      refine ⟨D + E0 + 1, fun E hE o ho => ?_⟩
      rcases List.mem_cons.1 ho with rfl | ho
      · intro e; simp only [dum] at e; injection e; omega
      · exact h E (by omega) o ho
    · refine ⟨D, fun E hE o ho => ?_⟩
      rcases List.mem_cons.1 ho with rfl | ho
      · exact fun e => hx ⟨E, e⟩
      · exact h E hE o ho
theorem mark_world' (W : World) : ∃ D, ∀ k : Nat, W.heap[k]? ≠ some (dum D) := by
  obtain ⟨D, h⟩ := mark_free' W.heap.toList
  refine ⟨D, fun k hk => h D (Nat.le_refl _) _ ?_ rfl⟩
  rw [← Array.getElem?_toList] at hk
  exact List.mem_of_getElem? hk
theorem calls_of_AC {f : FuncId} {args : List Value} {W : World} {v0 : Value} (h : ∀ D, AC P D f args [] W fun v L' _ => v = v0 ∧ [] = L') :
    Calls P f args.toArray W fun e w' => e = .returned v0 ∧ Below W.heap.size W w' := by
  obtain ⟨D, hD⟩ := mark_world' W
  refine ((h D).2 ⟨List.nodup_nil, fun _ h => by cases h⟩).mono ?_
  rintro e w' ⟨v, L', s', he, hw, _, hl, hv, hL⟩
  subst hL
  have hw' : w' = s' := hw
  subst hw'
  refine ⟨by rw [he, hv], ⟨hl.os, hl.tape, hl.output, hl.size, fun k hk => ?_⟩⟩
  rcases hl.block k hk with h1 | h1
  · exact absurd h1 (hD k)
  · exact h1
theorem AC.fn {f : FuncId} {args : List Value} {R : Value → Hl → World → Prop} (h : AC P D f args L s R) : FnOK P f := h.1
end
end Go.FL
namespace Go.Proofs.YteomcjpigoaioaaGreatDoor
open Go Go.FL Go.RowKit
def fnd (c : UInt8) : List UInt8 → Option Nat
  | [] => none
  | x :: l => if x = c then some 0 else (fnd c l).map (· + 1)
def fndI : Option Nat → Int
  | none => -1
  | some i => (i : Int)
theorem fnd_lt {c : UInt8} {l : List UInt8} {i : Nat} (h : fnd c l = some i) : i < l.length := by
  induction l generalizing i with
  | nil => cases h
  | cons x l ih =>
    simp only [fnd] at h
    split at h
    · injection h with h; subst h; simp
    · cases h' : fnd c l with
      | none => rw [h'] at h; cases h
      | some j => rw [h'] at h; simp at h; have := ih h'; simp; omega
theorem indexByte_fnd (l : List UInt8) (c : UInt8) : Lib.indexByte l c = fndI (fnd c l) := by
  induction l with
  | nil => rfl
  | cons x l ih =>
    simp only [Lib.indexByte, fnd]
    by_cases h : x = c
    · simp [h, fndI]
    · simp only [beq_iff_eq, h, if_false, ih]
      cases fnd c l with
      | none => simp [fndI]
      | some i =>
        have h1 : ¬ (i : Int) = -1 := by omega
        show (if (i : Int) = -1 then (-1 : Int) else (i : Int) + 1) = ((i + 1 : Nat) : Int)
        rw [if_neg h1]; rfl
theorem u8_eq {x c : UInt8} : x = c ↔ (x.toNat : Int) = (c.toNat : Int) := by
  constructor
  · rintro rfl; rfl
  · intro h; exact UInt8.toNat_inj.1 (by omega)
def cutB (c : UInt8) (l : List UInt8) : List UInt8 × List UInt8 × Bool := match fnd c l with
  | none => (l, [], false)
  | some i => (l.take i, l.drop (i + 1), true)
theorem splitF_fnd (c : UInt8) (cur l : List UInt8) : splitF (c.toNat : Int) cur l = match fnd c l with | none => [cur ++ l] | some i => (cur ++ l.take i) :: splitB (c.toNat : Int) (l.drop (i + 1)) := by
  induction l generalizing cur with
  | nil => simp [splitF, fnd]
  | cons x l ih =>
    simp only [splitF, fnd]
    by_cases h : x = c
    · simp [h, splitB]
    · have h' : ¬ (x.toNat : Int) = (c.toNat : Int) := fun e => h (u8_eq.2 e)
      simp only [h, if_false, h', ih]
      cases fnd c l with
      | none => simp
      | some i => simp
theorem splitB_fnd (c : UInt8) (l : List UInt8) : splitB (c.toNat : Int) l = match fnd c l with | none => [l] | some i => l.take i :: splitB (c.toNat : Int) (l.drop (i + 1)) := by
  rw [splitB, splitF_fnd]; cases fnd c l <;> simp
theorem count_fnd (c : UInt8) (l : List UInt8) : l.count c = match fnd c l with | none => 0 | some i => (l.drop (i + 1)).count c + 1 := by
  induction l with
  | nil => rfl
  | cons x l ih =>
    simp only [fnd]
    by_cases h : x = c
    · simp [h]
    · rw [List.count_cons]
      simp only [beq_iff_eq, h, if_false, Nat.add_zero]
      rw [ih]
      cases fnd c l with
      | none => rfl
      | some i => simp
end Go.Proofs.YteomcjpigoaioaaGreatDoor
namespace Go.Proofs.YteomcjpigoaioaaGreatDoor
open Go Go.FL Go.RowKit
structure GW (s : World) : Prop where
  pow : ∃ ty fz, s.heap[Tryz.laysM171_ren.g 17]? = some (.cells (Lib.pow10Tab.map fun z => Value.int .u64 z).toArray ty fz)
  es : ∃ t p, s.cell? ⟨Tryz.laysPu14_ren.g 0, 0, none⟩ = some (.iface t p)
  er : ∃ t p, s.cell? ⟨Tryz.laysPu14_ren.g 1, 0, none⟩ = some (.iface t p)
theorem heap_le {D : Nat} {s s' : World} {k : Nat} {cs : Array Value} {ty : TypeId} {fz : Nat × Nat} (h : s.heap[k]? = some (.cells cs ty fz)) (hl : Le D s s') : s'.heap[k]? = some (.cells cs ty fz) := by
  have hk : k < s.heap.size := by
    rcases Nat.lt_or_ge k s.heap.size with h1 | h1
    · exact h1
    · rw [Array.getElem?_eq_none h1] at h; cases h
  rcases hl.block k hk with h1 | h1
  · rw [h] at h1; simp [dum] at h1
  · rw [h1, h]
theorem GW.le {D : Nat} {s s' : World} (h : GW s) (hl : Le D s s') : GW s' := by
  obtain ⟨⟨t, f, h1⟩, ⟨t2, p2, h2⟩, ⟨t3, p3, h3⟩⟩ := h
  exact ⟨⟨t, f, heap_le h1 hl⟩, ⟨t2, p2, hl.cell h2⟩, ⟨t3, p3, hl.cell h3⟩⟩
theorem tab_of {w : World} {nm : String} (hg : Tryz.prog.globalNamed nm = some (Tryz.laysM171_ren.g 17)) (h : GW w) : Lib.TabIs Tryz.prog w nm .u64 Lib.pow10Tab := by
  obtain ⟨t, f, h1⟩ := h.pow
  simp only [Lib.TabIs, World.var?, hg, Option.bind_some, h1]
section
variable (D : Nat) (L : Hl) (s : World)
theorem fnok_itoa : FnOK Tryz.prog 53 := ⟨_, Tryz.func53, by kernel_rfl, by kernel_rfl⟩
theorem fnok_parse : FnOK Tryz.prog 155 := ⟨_, Tryz.func155, by kernel_rfl, by kernel_rfl⟩
theorem fnok_contains : FnOK Tryz.prog 89 := ⟨_, Tryz.func89, by kernel_rfl, by kernel_rfl⟩
theorem fnok_fields : FnOK Tryz.prog 118 := ⟨_, Tryz.func118, by kernel_rfl, by kernel_rfl⟩
theorem fnok_index : FnOK Tryz.prog 139 := ⟨_, Tryz.func139, by kernel_rfl, by kernel_rfl⟩
theorem fnok_suffix : FnOK Tryz.prog 120 := ⟨_, Tryz.func120, by kernel_rfl, by kernel_rfl⟩
theorem fnok_split : FnOK Tryz.prog 99 := ⟨_, Tryz.func99, by kernel_rfl, by kernel_rfl⟩
theorem itoa_ac (hG : GW s) (n : Int) (h0 : -9223372036854775808 ≤ n) (h1 : n ≤ 9223372036854775807) : AC Tryz.prog D 53 [.int .i64 n] L s fun v L' _ => v = St (Lib.itoa n) ∧ L = L' :=
  AC.of_calls fnok_itoa fun ho => (Any.strconv_Itoa Tryz.laysM171 n h0 h1 (fill L s) (tab_of Tryz.laysM171.m17 (hG.le (fill_le ho)))).mono fun e w' ⟨he, k, os, hw⟩ => by
    refine ⟨_, he, ?_, fun s' _ _ _ => ⟨rfl, rfl⟩⟩
    rw [hw]
    exact ⟨rfl, rfl, rfl, by simp [Sort.grow], fun j hj => by simp [Sort.grow, Array.getElem?_append_left hj]⟩
theorem index_ac (l : List UInt8) (c : UInt8) : AC Tryz.prog D 139 [St l, St [c]] L s fun v L' _ => v = .int .i64 (fndI (fnd c l)) ∧ L = L' :=
  AC.of_calls fnok_index fun _ => (Any.stringslite_Index_one Tryz.lays219 ⟨l.toArray⟩ c (fill L s)).mono fun e w' ⟨he, hw⟩ => by
    refine ⟨_, he, by rw [hw]; exact below_refl _, fun s' _ _ _ => ⟨?_, rfl⟩⟩
    show Value.int .i64 (Lib.indexByte l c) = _
    rw [indexByte_fnd]
def endsB (c : UInt8) (l : List UInt8) : Bool := decide (l.getLast? = some c)
theorem suffix_one (l : List UInt8) (c : UInt8) : Lib.hasSuffix l [c] = endsB c l := by
  rw [Lib.hasSuffix, endsB]
  rw [Bool.eq_iff_iff, List.isSuffixOf_iff_suffix, decide_eq_true_eq]
  constructor
  · rintro ⟨t, rfl⟩; simp
  · intro h
    obtain ⟨t, ht⟩ := List.getLast?_eq_some_iff.1 h
    exact ⟨t, ht.symm⟩
theorem cutSuffix_ac (l : List UInt8) (c : UInt8) (hl : l.length ≤ 9223372036854775807) : AC Tryz.prog D 120 [St l, St [c]] L s fun v L' _ => v = .tuple #[St (if endsB c l then l.dropLast else l), .bool (endsB c l)] ∧ L = L' :=
  AC.of_calls fnok_suffix fun _ => (Any.strings_CutSuffix Tryz.lays104 ⟨l.toArray⟩ ⟨#[c]⟩ (fill L s) (by simpa [Lib.size_eq] using hl)).mono fun e w' ⟨he, hw⟩ => by
    refine ⟨_, he, by rw [hw]; exact below_refl _, fun s' _ _ _ => ⟨?_, rfl⟩⟩
    show Value.tuple #[.string ⟨(Lib.trimSuffix l [c]).toArray⟩, .bool (Lib.hasSuffix l [c])] = _
    rw [Lib.trimSuffix, suffix_one]
    simp [List.dropLast_eq_take]
inductive PuV : List UInt8 → Value → Prop
  | ok (l : List UInt8) (u : Nat) (h : Lib.parseUintB 32 l = .ok u) : PuV l (.tuple #[.int .u64 u, .nilIface])
  | bad (l : List UInt8) (h : ∀ u, Lib.parseUintB 32 l ≠ .ok u) (n : Int) (t : TypeId) (p : Value) : PuV l (.tuple #[.int .u64 n, .iface t p])
theorem parse_ac (hG : GW s) (l : List UInt8) (hl : l.length ≤ 281474976710656) : AC Tryz.prog D 155 [St l, .int .i64 10, .int .i64 32] L s fun v L' _ => PuV l v ∧ L = L' :=
  AC.of_calls fnok_parse fun ho => by
    have hw := hG.le (fill_le ho)
    have hs : (⟨l.toArray⟩ : ByteArray).size ≤ 281474976710656 := by simpa [Lib.size_eq] using hl
    by_cases hok : ∃ u, Lib.parseUintB 32 l = .ok u
    · obtain ⟨u, hp⟩ := hok
      refine (Any.strconv_ParseUint_10_at32_ok Tryz.laysPu14 ⟨l.toArray⟩ (by omega) u hp (fill L s)).mono fun e w' ⟨he, hw'⟩ => ⟨_, he, ?_, fun s' _ _ _ => ⟨.ok l u hp, rfl⟩⟩
      rcases hw' with rfl | rfl
      · exact below_refl _
      · exact Go.Joins.below_bytesWorld _ _ _ _ (Nat.le_refl _)
    · have hno : ∀ u, Lib.parseUintB 32 l ≠ .ok u := fun u h => hok ⟨u, h⟩
      by_cases hr : Lib.parseUintB 32 l = .range
      · obtain ⟨te, pe, h1⟩ := hw.er
        refine (Any.strconv_ParseUint_10_at32_range Tryz.laysPu14 ⟨l.toArray⟩ hs hr _ (fill L s) h1 (.inr ⟨te, pe, rfl⟩)).mono fun e w' ⟨N, he, _, _, hb⟩ => ⟨_, he, hb, fun s' _ _ _ => ⟨.bad l hno _ _ _, rfl⟩⟩
      · obtain ⟨te, pe, h1⟩ := hw.es
        refine (Any.strconv_ParseUint_10_at32_syntax Tryz.laysPu14 ⟨l.toArray⟩ hs (by cases h : Lib.parseUintB 32 l <;> simp_all) _ (fill L s) h1 (.inr ⟨te, pe, rfl⟩)).mono fun e w' ⟨N, he, _, _, hb⟩ => ⟨_, he, hb, fun s' _ _ _ => ⟨.bad l hno _ _ _, rfl⟩⟩
end
end Go.Proofs.YteomcjpigoaioaaGreatDoor
namespace Go.Proofs.YteomcjpigoaioaaGreatDoor
open Go.FL
attribute [local irreducible] JC JO JA JB thenQ blockQ retQ AC fill CellsAt QE Ev Mid
set_option maxHeartbeats 1000000 in
set_option maxRecDepth 100000 in
theorem afault_ac (D : Nat) (L : Hl) (s : World) (c i : Int) : AC Tryz.prog D 50 [.int .i64 c, .int .i64 i] L s fun v L' _ => v = .agg #[.int .i64 c, .int .i64 i] ∧ L = L' := by
 refine AC_enter (TT := TT) (fn := Tryz.f50) TT_ok Tryz.func50 (by kernel_rfl) rfl Tryz.ntmps50 rfl (rs := [.cell 4 27]) rfl [(0, _), (1, _)] rfl ?_
 refine JC_seq ?_
 refine JC_region ?_
 refine JO_allocZ rfl [_, _] rfl rfl ?_
 intro β1 s1 h1
 refine JO_nil ?_
 refine thenQ_n ?_
 refine JC_seq ?_
 refine JC_region ?_
 refine JO_q (QE_mv rfl) rfl ?_
 refine JO_q (QE_mv rfl) rfl ?_
 refine JO_q (QE_build [(_, _), (_, _)] [_, _] rfl rfl rfl rfl rfl rfl) rfl ?_
 refine JO_st 0 [_, _] rfl rfl rfl rfl rfl rfl rfl rfl rfl ?_
 refine JO_nil ?_
 refine thenQ_n ?_
 refine JC_ret ?_
 refine retQ_mk [_] L (.inr rfl) (.agg (us := [_, _]) 0 rfl rfl rfl rfl rfl (.nil)) rfl h1 (fun sR hS2 => ?_)
 exact ⟨rfl, rfl⟩
set_option maxHeartbeats 1000000 in
set_option maxRecDepth 100000 in
theorem isName1_ac (D : Nat) (L : Hl) (s : World) (r : Int) : AC Tryz.prog D 90 [.int .i32 r] L s fun v L' _ => v = .bool (decide ((r < 97 ∨ 122 < r) ∧ (r < 48 ∨ 57 < r))) ∧ L = L' := by
 refine AC_enter (TT := TT) (fn := Tryz.f90) TT_ok Tryz.func90 (by kernel_rfl) rfl Tryz.ntmps90 rfl (rs := [.tmp 2]) rfl [(0, _)] rfl ?_
 refine JC_seq ?_
 refine JC_region ?_
 refine JO_q (QE_as rfl) rfl ?_
 refine JO_nil ?_
 refine thenQ_n ?_
 refine JC_seq ?_
 refine JC_region ?_
 refine JO_q (QE_mv rfl) rfl ?_
 refine JO_q (QE_lt rfl rfl) rfl ?_
 refine JO_q (QE_mv rfl) rfl ?_
 refine JO_caseD (t := 5) rfl (fun c1 => ?_) (fun c1 => ?_)
 ·
  refine JO_gF rfl rfl rfl rfl ?_
  refine JO_gF rfl rfl rfl rfl ?_
  refine JO_q (QE_pickT rfl rfl) rfl ?_
  refine JO_q (QE_mv rfl) rfl ?_
  refine JO_gT rfl rfl ?_
  refine JO_q (QE_mv rfl) rfl ?_
  refine JO_gT rfl rfl ?_
  refine JO_q (QE_lt rfl rfl) rfl ?_
  refine JO_gT rfl rfl ?_
  refine JO_q (QE_mv rfl) rfl ?_
  refine JO_caseD (t := 12) rfl (fun c2 => ?_) (fun c2 => ?_)
  ·
   refine JO_gF rfl rfl rfl rfl ?_
   refine JO_gF rfl rfl rfl rfl ?_
   refine JO_gT rfl rfl ?_
   refine JO_q (QE_pickT rfl rfl) rfl ?_
   refine JO_q (QE_pickT rfl rfl) rfl ?_
   refine JO_q (QE_as rfl) rfl ?_
   refine JO_nil ?_
   refine thenQ_n ?_
   refine JC_ret ?_
   refine retQ_mk [] L (.inr rfl) (.tmp rfl (.nil)) rfl (Le.refl (D := D) _) (fun sR hS2 => ?_)
   exact ⟨by simp_all [resV] <;> omega, rfl⟩
  ·
   refine JO_gT rfl rfl ?_
   refine JO_q (QE_mv rfl) rfl ?_
   refine JO_gT rfl rfl ?_
   refine JO_q (QE_gt rfl rfl) rfl ?_
   refine JO_gT rfl rfl ?_
   refine JO_q (QE_pickF rfl rfl) rfl ?_
   refine JO_q (QE_pickT rfl rfl) rfl ?_
   refine JO_q (QE_as rfl) rfl ?_
   refine JO_nil ?_
   refine thenQ_n ?_
   refine JC_ret ?_
   refine retQ_mk [] L (.inr rfl) (.tmp rfl (.nil)) rfl (Le.refl (D := D) _) (fun sR hS2 => ?_)
   exact ⟨by simp_all [resV] <;> omega, rfl⟩
 ·
  refine JO_gT rfl rfl ?_
  refine JO_q (QE_mv rfl) rfl ?_
  refine JO_gT rfl rfl ?_
  refine JO_q (QE_gt rfl rfl) rfl ?_
  refine JO_q (QE_pickF rfl rfl) rfl ?_
  refine JO_q (QE_mv rfl) rfl ?_
  refine JO_caseD (t := 9) rfl (fun c3 => ?_) (fun c3 => ?_)
  ·
   refine JO_gT rfl rfl ?_
   refine JO_q (QE_mv rfl) rfl ?_
   refine JO_gT rfl rfl ?_
   refine JO_q (QE_lt rfl rfl) rfl ?_
   refine JO_gT rfl rfl ?_
   refine JO_q (QE_mv rfl) rfl ?_
   refine JO_caseD (t := 12) rfl (fun c4 => ?_) (fun c4 => ?_)
   ·
    refine JO_gF rfl rfl rfl rfl ?_
    refine JO_gF rfl rfl rfl rfl ?_
    refine JO_gT rfl rfl ?_
    refine JO_q (QE_pickT rfl rfl) rfl ?_
    refine JO_q (QE_pickT rfl rfl) rfl ?_
    refine JO_q (QE_as rfl) rfl ?_
    refine JO_nil ?_
    refine thenQ_n ?_
    refine JC_ret ?_
    refine retQ_mk [] L (.inr rfl) (.tmp rfl (.nil)) rfl (Le.refl (D := D) _) (fun sR hS2 => ?_)
    exact ⟨by simp_all [resV] <;> omega, rfl⟩
   ·
    refine JO_gT rfl rfl ?_
    refine JO_q (QE_mv rfl) rfl ?_
    refine JO_gT rfl rfl ?_
    refine JO_q (QE_gt rfl rfl) rfl ?_
    refine JO_gT rfl rfl ?_
    refine JO_q (QE_pickF rfl rfl) rfl ?_
    refine JO_q (QE_pickT rfl rfl) rfl ?_
    refine JO_q (QE_as rfl) rfl ?_
    refine JO_nil ?_
    refine thenQ_n ?_
    refine JC_ret ?_
    refine retQ_mk [] L (.inr rfl) (.tmp rfl (.nil)) rfl (Le.refl (D := D) _) (fun sR hS2 => ?_)
    exact ⟨by simp_all [resV] <;> omega, rfl⟩
  ·
   refine JO_gF rfl rfl rfl rfl ?_
   refine JO_gF rfl rfl rfl rfl ?_
   refine JO_gF rfl rfl rfl rfl ?_
   refine JO_gU rfl rfl rfl ?_
   refine JO_gU rfl rfl rfl ?_
   refine JO_gF rfl rfl rfl rfl ?_
   refine JO_q (QE_pickF rfl rfl) rfl ?_
   refine JO_q (QE_as rfl) rfl ?_
   refine JO_nil ?_
   refine thenQ_n ?_
   refine JC_ret ?_
   refine retQ_mk [] L (.inr rfl) (.tmp rfl (.nil)) rfl (Le.refl (D := D) _) (fun sR hS2 => ?_)
   exact ⟨by simp_all [resV] <;> omega, rfl⟩
set_option maxHeartbeats 1000000 in
set_option maxRecDepth 100000 in
theorem readLine1_ac (D : Nat) (L : Hl) (s : World) (r : Int) : AC Tryz.prog D 119 [.int .i32 r] L s fun v L' _ => v = .bool (decide (r = 32)) ∧ L = L' := by
 refine AC_enter (TT := TT) (fn := Tryz.f119) TT_ok Tryz.func119 (by kernel_rfl) rfl Tryz.ntmps119 rfl (rs := [.tmp 2]) rfl [(0, _)] rfl ?_
 refine JC_seq ?_
 refine JC_region ?_
 refine JO_q (QE_as rfl) rfl ?_
 refine JO_nil ?_
 refine thenQ_n ?_
 refine JC_seq ?_
 refine JC_region ?_
 refine JO_q (QE_mv rfl) rfl ?_
 refine JO_q (QE_eq rfl rfl) rfl ?_
 refine JO_q (QE_as rfl) rfl ?_
 refine JO_nil ?_
 refine thenQ_n ?_
 refine JC_ret ?_
 refine retQ_mk [] L (.inr rfl) (.tmp rfl (.nil)) rfl (Le.refl (D := D) _) (fun sR hS2 => ?_)
 exact ⟨rfl, rfl⟩
end Go.Proofs.YteomcjpigoaioaaGreatDoor
