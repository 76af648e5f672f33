/- What an action does, case by case. -/
import Derived.Test.YtpjnphonanbopaaDp
namespace Go.FL
open Go Go.RowKit
theorem CellsAt.sub {s : World} {b off : Nat} {vs us : List Value} (j : Nat) (h : CellsAt s b off vs) (hc : cut vs j us.length = some us) : CellsAt s b (off + j) us := fun i v hi => by
  obtain ⟨_, h2⟩ := cut_spec hc
  rw [Nat.add_assoc]
  exact h (j + i) v (h2 i v hi)
/-- an owned block brought to the front -/
def front (L : Hl) (i : Nat) : Hl := match L[i]? with
  | some x => x :: L.eraseIdx i
  | none => L
theorem front_perm (L : Hl) (i : Nat) : L.Perm (front L i) := by
  unfold front
  cases h : L[i]? with
  | none => exact List.Perm.refl _
  | some x =>
    induction L generalizing i with
    | nil => simp at h
    | cons y L ih =>
      cases i with
      | zero => simp at h; subst h; exact List.Perm.refl _
      | succ i =>
        simp at h
        simp only [List.eraseIdx_cons_succ]
        exact ((ih i h).cons y).trans (List.Perm.swap x y _)
theorem JC_front {P : Program} {TT : TyTab} {D n : Nat} {Q : APost} {fr : Fr} {L : Hl} {s : World} {c : Code} (i : Nat) (h : JC P TT D n Q c fr (front L i) s) : JC P TT D n Q c fr L s := fun ht a hr ho => by
  rw [fill_perm (front_perm L i) _ ho]
  exact h ht a hr (ho.perm (front_perm L i))
theorem JO_front {P : Program} {TT : TyTab} {D n : Nat} {Q : APost} {fr : Fr} {L : Hl} {s : World} {ops : Array Oper} {l : List Oper} (i : Nat) (h : JO P TT D n ops Q l fr (front L i) s) : JO P TT D n ops Q l fr L s := fun ht a hr ho => by
  rw [fill_perm (front_perm L i) _ ho]
  exact h ht a hr (ho.perm (front_perm L i))
/-- a row with something in it is a block -/
theorem Own.blk_of {e : Nat} {M : Hl} {Ad : Option Addr} {n c : Nat} {xs : List Value} (h : Own e 1 M (.slice Ad n c) n xs) (hn : 0 < n) : ∃ b ys, M = [(b, cb (xs ++ ys) e)] ∧ Ad = some ⟨b, 0, none⟩ ∧ xs.length + ys.length = c ∧ c ≤ 9223372036854775807 := by
  generalize hv : Value.slice Ad n c = v at h
  cases h with
  | nil => omega
  | blk b cap n xs ys h1 h2 h3 h4 =>
    injection hv with e1 e2 e3
    exact ⟨b, ys, rfl, e1, by omega, by omega⟩
end Go.FL
namespace Go.Proofs.Ytpjnphonanbopaa
open Go Go.FL
theorem head_tail {α : Type} {l : List α} {x : α} (h : l[0]? = some x) : ∃ r, l = x :: r := by
  cases l with
  | nil => cases h
  | cons y r => simp at h; exact ⟨r, by rw [h]⟩
/-- an action that a checked table may hold -/
structure AcOK (a : Ac) : Prop where
  kind : 0 ≤ a.kind ∧ a.kind ≤ 19
  to : 0 ≤ a.to ∧ a.to ≤ 4
  x : a.x.kind = 1 → 0 ≤ a.x.val ∧ a.x.val ≤ 4
  y : a.y.kind = 1 → 0 ≤ a.y.val ∧ a.y.val ≤ 4
  ux : U32 a.x.val
  uy : U32 a.y.val
theorem U32_val {m : Mst} (h : MOK m) {op : Int} (ho : U32 op) {x : Tm} (hx : U32 x.val) : U32 (valT m op x) := by
  unfold valT getR
  have := h.u0; have := h.u1; have := h.u2; have := h.u3; have := h.u4
  repeat' split
  all_goals assumption
section
variable {m : Mst} {a : Ac} {op : Int}
theorem act_k0 (h : a.kind = 0) : actM m a op = setR m a.to (valT m op a.x) := by simp [actM, h, comp]
theorem act_k19 (h : a.kind = 19) (hy : valT m op a.y = 0) : actM m a op = setR m a.to (valT m op a.x) := by simp [actM, h, hy, comp]
theorem act_k19n (h : a.kind = 19) (hy : ¬ valT m op a.y = 0) : actM m a op = m := by simp [actM, h, hy]
theorem act_k4z (h : a.kind = 4) (hy : valT m op a.y = 0) : actM m a op = { m with stop := 4 } := by simp [actM, h, hy]
theorem act_k5z (h : a.kind = 5) (hy : valT m op a.y = 0) : actM m a op = { m with stop := 4 } := by simp [actM, h, hy]
theorem act_k4 (h : a.kind = 4) (hy : ¬ valT m op a.y = 0) : actM m a op = setR m a.to (valT m op a.x / valT m op a.y) := by simp [actM, h, hy, comp]
theorem act_k5 (h : a.kind = 5) (hy : ¬ valT m op a.y = 0) : actM m a op = setR m a.to (valT m op a.x % valT m op a.y) := by simp [actM, h, hy, comp]
theorem act_k13f (h : a.kind = 13) (hx : ¬ valT m op a.x < (m.cells.length : Int)) : actM m a op = { m with stop := 3 } := by
  have : (m.cells.length : Int) ≤ valT m op a.x := by omega
  simp [actM, h, this]
theorem act_k14f (h : a.kind = 14) (hx : ¬ valT m op a.x < (m.cells.length : Int)) : actM m a op = { m with stop := 3 } := by
  have : (m.cells.length : Int) ≤ valT m op a.x := by omega
  simp [actM, h, this]
theorem act_k13 (h : a.kind = 13) (hx : valT m op a.x < (m.cells.length : Int)) : actM m a op = setR m a.to (m.cells.getD (valT m op a.x).toNat 0) := by
  have : ¬ (m.cells.length : Int) ≤ valT m op a.x := by omega
  simp [actM, h, this]
theorem act_k14 (h : a.kind = 14) (hx : valT m op a.x < (m.cells.length : Int)) : actM m a op = { m with cells := m.cells.set (valT m op a.x).toNat (valT m op a.y) } := by
  have : ¬ (m.cells.length : Int) ≤ valT m op a.x := by omega
  simp [actM, h, this]
theorem act_k15e (h : a.kind = 15) (hi : m.input = []) : actM m a op = setR m a.to 4294967295 := by simp [actM, h, hi]
theorem act_k15 (h : a.kind = 15) {c : UInt8} {r : List UInt8} (hi : m.input = c :: r) : actM m a op = { setR m a.to (c.toNat : Int) with input := r } := by simp [actM, h, hi]
theorem act_k16f (h : a.kind = 16) (hm : MOK m) (ho : 20000 ≤ m.output.length) : actM m a op = { m with stop := 5 } := by
  have : m.output.length = 20000 := by have := hm.output; omega
  simp [actM, h, this]
theorem act_k16 (h : a.kind = 16) (ho : ¬ 20000 ≤ m.output.length) : actM m a op = { m with output := m.output ++ [UInt8.ofNat ((valT m op a.x).toNat % 256)] } := by
  have : ¬ m.output.length = 20000 := by omega
  simp [actM, h, this]
theorem act_k17 (h : a.kind = 17) : actM m a op = { m with stop := 1, code := valT m op a.x } := by simp [actM, h]
theorem act_k18 (h : a.kind = 18) (hy : valT m op a.y = 0) : actM m a op = { m with stop := 1, code := valT m op a.x } := by simp [actM, h, hy]
theorem act_k18n (h : a.kind = 18) (hy : ¬ valT m op a.y = 0) : actM m a op = m := by simp [actM, h, hy]
theorem act_comp (h : 1 ≤ a.kind ∧ a.kind ≤ 12 ∧ a.kind ≠ 4 ∧ a.kind ≠ 5) : actM m a op = setR m a.to (comp a.kind (valT m op a.x) (valT m op a.y)) := by
  obtain ⟨h1, h2, h3, h4⟩ := h
  have e : ∀ n : Int, 12 < n → ¬ a.kind = n := fun n hn e => by omega
  simp [actM, h3, h4, h2, e 13 (by omega), e 14 (by omega), e 15 (by omega), e 16 (by omega), e 17 (by omega), e 18 (by omega)]
end
theorem nth_wv0 {l : List Int} {y : List Value} {i : Int} (h0 : 0 ≤ i) (h : i < l.length) : nth (wv l ++ y) (0 + i.toNat) = some (.int .u32 (l.getD i.toNat 0)) := by
  rw [Nat.zero_add]; exact nth_wv (by rw [List.getElem?_eq_getElem (by omega)]; simp [List.getD, show i.toNat < l.length by omega])
theorem spl_wv0 {l : List Int} {y : List Value} {i : Int} (v : Int) (h0 : 0 ≤ i) (h : i < l.length) : splice (wv l ++ y) (0 + i.toNat) [.int .u32 v] = wv (l.set i.toNat v) ++ y := by
  rw [Nat.zero_add]; exact spl_wv v (by omega)
theorem ble_wv0 {l : List Int} {y : List Value} {i : Int} (h0 : 0 ≤ i) (h : i < l.length) : Nat.ble (0 + i.toNat + 1) (wv l ++ y).length = true := by
  rw [Nat.zero_add]; exact ble_wv (by omega)
theorem byteW {x : Int} (h : U32 x) : IntKind.u8.wrap x = ((UInt8.ofNat (x.toNat % 256)).toNat : Int) := by
  obtain ⟨h1, h2⟩ := h
  rw [IntKind.wrap_u8]
  simp [UInt8.toNat_ofNat']
  omega
end Go.Proofs.Ytpjnphonanbopaa
