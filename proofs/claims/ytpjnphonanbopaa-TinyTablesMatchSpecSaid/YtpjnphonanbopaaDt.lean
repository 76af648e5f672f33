/- The data of the machine: terms, actions, instructions, tables; how they lie in the shared world. -/
import Derived.Test.YtpjnphonanbopaaFlH
namespace Go.Proofs.Ytpjnphonanbopaa
open Go Go.FL

structure Tm where
  kind : Int
  val : Int
  deriving DecidableEq
structure Ac where
  kind : Int
  to : Int
  x : Tm
  y : Tm
  deriving DecidableEq
structure Ins where
  name : List UInt8
  code : Int
  operand : Bool
  acts : List Ac
  deriving DecidableEq
structure Tab where
  cells : Int
  ins : List Ins
  deriving DecidableEq

/-- a slice in the shared world: n elements of sz cells each, read by R -/
def Sl {α : Type} (sz : Nat) (R : World → α → List Value → Prop) (s : World) (A : Option Addr) (n c : Nat) (l : List α) : Prop :=
  n = l.length ∧ n ≤ c ∧ c ≤ 9223372036854775807 ∧ ∀ i x, l[i]? = some x → ∃ b off cs, A = some ⟨b, off, none⟩ ∧ CellsAt s b (off + i * sz) cs ∧ cs.length = sz ∧ R s x cs
theorem Sl.le {α : Type} {sz : Nat} {R : World → α → List Value → Prop} {D : Nat} {s s' : World} {A : Option Addr} {n c : Nat} {l : List α} (hR : ∀ x cs, R s x cs → R s' x cs) (h : Sl sz R s A n c l) (hl : Le D s s') : Sl sz R s' A n c l :=
  ⟨h.1, h.2.1, h.2.2.1, fun i x hi => by
    obtain ⟨b, off, cs, h1, h2, h3, h4⟩ := h.2.2.2 i x hi
    exact ⟨b, off, cs, h1, h2.le hl, h3, hR x cs h4⟩⟩

def U32 (x : Int) : Prop := 0 ≤ x ∧ x < 4294967296
def Ac.cs (a : Ac) : List Value := [.int .i64 a.kind, .int .i64 a.to, .int .i64 a.x.kind, .int .u32 a.x.val, .int .i64 a.y.kind, .int .u32 a.y.val]
def Acs (s : World) (A : Option Addr) (n c : Nat) (l : List Ac) : Prop := Sl 6 (fun _ a cs => cs = a.cs ∧ U32 a.x.val ∧ U32 a.y.val) s A n c l
theorem Acs.le {D : Nat} {s s' : World} {A : Option Addr} {n c : Nat} {l : List Ac} (h : Acs s A n c l) (hl : Le D s s') : Acs s' A n c l := Sl.le (fun _ _ h => h) h hl
def InsR (s : World) (x : Ins) (cs : List Value) : Prop := ∃ A n c, cs = [St x.name, .int .u32 x.code, .bool x.operand, .slice A n c] ∧ Acs s A n c x.acts ∧ x.name.length ≤ 9223372036854775807 ∧ U32 x.code
def Inss (s : World) (A : Option Addr) (n c : Nat) (l : List Ins) : Prop := Sl 4 InsR s A n c l
theorem InsR.le {D : Nat} {s s' : World} {x : Ins} {cs : List Value} (h : InsR s x cs) (hl : Le D s s') : InsR s' x cs := by
  obtain ⟨A, n, c, h1, h2, h3⟩ := h
  exact ⟨A, n, c, h1, h2.le hl, h3⟩
theorem Inss.le {D : Nat} {s s' : World} {A : Option Addr} {n c : Nat} {l : List Ins} (h : Inss s A n c l) (hl : Le D s s') : Inss s' A n c l := Sl.le (fun _ _ h => h.le hl) h hl

theorem Acs.at_ {s : World} {A : Option Addr} {n c k : Nat} {l : List Ac} (h : Acs s A n c l) (hk : k < n) : ∃ b off a, A = some ⟨b, off, none⟩ ∧ l[k]? = some a ∧
    CellsAt s b (off + k * 6) [.int .i64 a.kind, .int .i64 a.to, .int .i64 a.x.kind, .int .u32 a.x.val, .int .i64 a.y.kind, .int .u32 a.y.val] ∧ U32 a.x.val ∧ U32 a.y.val := by
  have hl : k < l.length := by rw [← h.1]; exact hk
  obtain ⟨b, off, cs, h1, h2, _, rfl, h5⟩ := h.2.2.2 k l[k] (List.getElem?_eq_getElem hl)
  exact ⟨b, off, l[k], h1, List.getElem?_eq_getElem hl, h2, h5⟩
theorem Inss.at_ {s : World} {A : Option Addr} {n c k : Nat} {l : List Ins} (h : Inss s A n c l) (hk : k < n) : ∃ b off x A' n' c', A = some ⟨b, off, none⟩ ∧ l[k]? = some x ∧
    CellsAt s b (off + k * 4) [St x.name, .int .u32 x.code, .bool x.operand, .slice A' n' c'] ∧ Acs s A' n' c' x.acts ∧ x.name.length ≤ 9223372036854775807 ∧ U32 x.code := by
  have hl : k < l.length := by rw [← h.1]; exact hk
  obtain ⟨b, off, cs, h1, h2, _, A', n', c', rfl, h5, h6⟩ := h.2.2.2 k l[k] (List.getElem?_eq_getElem hl)
  exact ⟨b, off, l[k], A', n', c', h1, List.getElem?_eq_getElem hl, h2, h5, h6⟩
theorem Sl.take {α : Type} {sz : Nat} {R : World → α → List Value → Prop} {s : World} {A : Option Addr} {n c k : Nat} {l : List α} (h : Sl sz R s A n c l) (hk : k < n) : Sl sz R s A k c (l.take k) :=
  ⟨by have := h.1; simp; omega, by have := h.2.1; omega, h.2.2.1, fun i x hi => h.2.2.2 i x (by
    rw [List.getElem?_take] at hi
    split at hi
    · exact hi
    · cases hi)⟩
theorem Inss.take {s : World} {A : Option Addr} {n c k : Nat} {l : List Ins} (h : Inss s A n c l) (hk : k < n) : Inss s A k c (l.take k) := Sl.take h hk

/-- a slice of 32-bit numbers; a slice of bytes -/
def Wds (s : World) (A : Option Addr) (n c : Nat) (l : List Int) : Prop := Sl 1 (fun _ x cs => cs = [.int .u32 x] ∧ U32 x) s A n c l
def Bts (s : World) (A : Option Addr) (n c : Nat) (l : List UInt8) : Prop := Sl 1 (fun _ x cs => cs = [.int .u8 (x.toNat : Int)]) s A n c l
theorem Wds.le {D : Nat} {s s' : World} {A : Option Addr} {n c : Nat} {l : List Int} (h : Wds s A n c l) (hl : Le D s s') : Wds s' A n c l := Sl.le (fun _ _ h => h) h hl
theorem Bts.le {D : Nat} {s s' : World} {A : Option Addr} {n c : Nat} {l : List UInt8} (h : Bts s A n c l) (hl : Le D s s') : Bts s' A n c l := Sl.le (fun _ _ h => h) h hl
theorem Wds.at_ {s : World} {A : Option Addr} {n c k : Nat} {l : List Int} (h : Wds s A n c l) (hk : k < n) : ∃ b off x, A = some ⟨b, off, none⟩ ∧ l[k]? = some x ∧ CellsAt s b (off + k) [.int .u32 x] ∧ U32 x := by
  have hl : k < l.length := by rw [← h.1]; exact hk
  obtain ⟨b, off, cs, h1, h2, _, rfl, h4⟩ := h.2.2.2 k l[k] (List.getElem?_eq_getElem hl)
  exact ⟨b, off, l[k], h1, List.getElem?_eq_getElem hl, by simpa using h2, h4⟩
theorem Bts.at_ {s : World} {A : Option Addr} {n c k : Nat} {l : List UInt8} (h : Bts s A n c l) (hk : k < n) : ∃ b off x, A = some ⟨b, off, none⟩ ∧ l[k]? = some x ∧ CellsAt s b (off + k) [.int .u8 (x.toNat : Int)] := by
  have hl : k < l.length := by rw [← h.1]; exact hk
  obtain ⟨b, off, cs, h1, h2, _, rfl⟩ := h.2.2.2 k l[k] (List.getElem?_eq_getElem hl)
  exact ⟨b, off, l[k], h1, List.getElem?_eq_getElem hl, by simpa using h2⟩
/-- a state of a machine -/
structure Mst where
  cells : List Int
  r0 : Int
  r1 : Int
  r2 : Int
  r3 : Int
  r4 : Int
  input : List UInt8
  output : List UInt8
  stop : Int
  code : Int
  deriving DecidableEq
end Go.Proofs.Ytpjnphonanbopaa
