/- The machine's block: reading and writing it. -/
import Derived.Test.YtpjnphonanbopaaDb
namespace Go.FL
open Go Go.RowKit
section
variable {P : Program} {TT : TyTab} {D n : Nat} {Q : APost} {fr : Fr} {L L' K : Hl} {s s' s0 : World} {ops : Array Oper} {rest : List Oper} {d ty : Nat} {op : Op} {pos : String} {af : Array Edge} {v : Value}
theorem JC_drawT {id : Nat} {l : List Oper} (hm : P.follows .mixedOrders = true) (N : Nat) (hN : l.length = N) (j : Nat)
    (h : ∀ s', Le D s s' → JA P TT D n l.toArray Q (L.take j) s' N (Array.replicate N false) fr L s') : JC P TT D n Q (.region id l.toArray true) fr L s := JC_draw hm N hN _ (fun _ hx => List.mem_of_mem_take hx) h
theorem QE_iaI {t e b off len : Nat} {x y : Operand} {ti te : TI} {ik : IntKind} {i : Int} (hx : lk fr x = some (.pointer (some ⟨b, off, none⟩))) (hy : lk fr y = some (.int ik i)) (ht : tlook TT t = some ti) (hk : ti.kind = .ar len e) (he : tlook TT e = some te)
    (hs : te.size = 1) (h0 : 0 ≤ i) (h1 : i < len) : QE P TT D fr (.indexAddr t x y) ty K s0 (.pointer (some ⟨b, off + i.toNat * 1, none⟩)) := by
  obtain ⟨j, rfl⟩ := Int.eq_ofNat_of_zero_le h0
  exact QE_iaA hx hy ht hk he hs (by omega)
/-- the slice's index any integer -/
theorem QE_iaS {t e b off len cap : Nat} {x y : Operand} {ti te : TI} {ik : IntKind} {i : Int} (hx : lk fr x = some (.slice (some ⟨b, off, none⟩) len cap)) (hy : lk fr y = some (.int ik i)) (ht : tlook TT t = some ti) (hk : ti.kind = .sl e) (he : tlook TT e = some te)
    (hs : te.size = 1) (h0 : 0 ≤ i) (h1 : i < len) : QE P TT D fr (.indexAddr t x y) ty K s0 (.pointer (some ⟨b, off + i.toNat, none⟩)) := by
  obtain ⟨j, rfl⟩ := Int.eq_ofNat_of_zero_le h0
  exact QE_ia1 hx hy ht hk he hs (by omega)
theorem QE_snil {x : Operand} {t t' : Nat} {A : Option Addr} {m c : Nat} {ti : TI} {e : Nat} (hx : lk fr x = some (.slice A m c)) (ht : tlook TT t = some ti) (hk : ti.kind = .sl e) : QE P TT D fr (.binOp .eql t x (.const (.slice none 0 0)) t') ty K s0 (.bool A.isNone) :=
  QE.pure fun hT dst pos af g ρ hρ w => by
    obtain ⟨k1, k2, _⟩ := hT.at_ ht
    rw [hk] at k2
    simp only [TK.fits] at k2
    rw [k2] at k1
    have h0 : ρ (.const (.slice none 0 0)) = .slice none 0 0 := hρ _ _ rfl
    have he : (Op.equal t (.slice A m c) (.slice none 0 0)).run P w = .ok A.isNone w := by
      show (Op.equalIn (9999 + 1) t (.slice A m c) (.slice none 0 0)).run P w = _
      unfold Op.equalIn
      simp only [Sem.run_bind, run_underlying k1, Result.andThen_ok]
      cases A <;> simp
    simp [execOp, hρ x _ hx, h0, eqGuard, binOp, he]
end
end Go.FL
namespace Go.Proofs.Ytpjnphonanbopaa
open Go Go.FL
theorem nth_reg (m : Mst) {i : Int} (h : 0 ≤ i ∧ i ≤ 4) (C : Value) (tl : List Value) : nth (C :: .int .u32 m.r0 :: .int .u32 m.r1 :: .int .u32 m.r2 :: .int .u32 m.r3 :: .int .u32 m.r4 :: tl) (1 + i.toNat * 1) = some (.int .u32 (getR m i)) := by
  have : i = 0 ∨ i = 1 ∨ i = 2 ∨ i = 3 ∨ i = 4 := by omega
  rcases this with rfl | rfl | rfl | rfl | rfl <;> rfl
theorem nth_reg0 (m : Mst) {i : Int} (h : 0 ≤ i ∧ i ≤ 4) (tl : List Value) : nth (.int .u32 m.r0 :: .int .u32 m.r1 :: .int .u32 m.r2 :: .int .u32 m.r3 :: .int .u32 m.r4 :: tl) (0 + i.toNat * 1) = some (.int .u32 (getR m i)) := by
  have : i = 0 ∨ i = 1 ∨ i = 2 ∨ i = 3 ∨ i = 4 := by omega
  rcases this with rfl | rfl | rfl | rfl | rfl <;> rfl
theorem spl_reg (m : Mst) {i : Int} (h : 0 ≤ i ∧ i ≤ 4) (v : Int) (C : Value) (tl : List Value) : splice (C :: .int .u32 m.r0 :: .int .u32 m.r1 :: .int .u32 m.r2 :: .int .u32 m.r3 :: .int .u32 m.r4 :: tl) (1 + i.toNat * 1) [.int .u32 v] =
    C :: .int .u32 (setR m i v).r0 :: .int .u32 (setR m i v).r1 :: .int .u32 (setR m i v).r2 :: .int .u32 (setR m i v).r3 :: .int .u32 (setR m i v).r4 :: tl := by
  have : i = 0 ∨ i = 1 ∨ i = 2 ∨ i = 3 ∨ i = 4 := by omega
  rcases this with rfl | rfl | rfl | rfl | rfl <;> simp [splice, setR]
theorem ble_reg {i : Int} (h : 0 ≤ i ∧ i ≤ 4) (a0 a1 a2 a3 a4 a5 : Value) (tl : List Value) : Nat.ble (1 + i.toNat * 1 + 1) (a0 :: a1 :: a2 :: a3 :: a4 :: a5 :: tl).length = true := by
  rw [Nat.ble_eq]; simp; omega
section
variable (a0 a1 a2 a3 a4 a5 a6 a7 a8 a9 a10 q o : Value) {sm : List Int}
theorem nth_op (h : sm.length = 256) : nth (a0 :: a1 :: a2 :: a3 :: a4 :: a5 :: a6 :: a7 :: a8 :: a9 :: a10 :: (iv sm ++ [q, o])) 268 = some o := by
  rw [nth_eq]; simp only [List.getElem?_cons_succ]; rw [List.getElem?_append_right (by simp [iv, h])]; simp [iv, h]
theorem nth_map (h : sm.length = 256) : nth (a0 :: a1 :: a2 :: a3 :: a4 :: a5 :: a6 :: a7 :: a8 :: a9 :: a10 :: (iv sm ++ [q, o])) 267 = some q := by
  rw [nth_eq]; simp only [List.getElem?_cons_succ]; rw [List.getElem?_append_right (by simp [iv, h])]; simp [iv, h]
theorem nth_small {j : Nat} {p : Int} (h : sm[j]? = some p) : nth (a0 :: a1 :: a2 :: a3 :: a4 :: a5 :: a6 :: a7 :: a8 :: a9 :: a10 :: (iv sm ++ [q, o])) (11 + j * 1) = some (.int .i64 p) := by
  rw [nth_eq, Nat.mul_one, Nat.add_comm]; simp only [List.getElem?_cons_succ]
  rw [List.getElem?_append_left (by simp [iv]; exact (List.getElem?_eq_some_iff.1 h).1)]; simp [iv, h]
theorem spl_small {j : Nat} (p : Int) (h : j < sm.length) : splice (a0 :: a1 :: a2 :: a3 :: a4 :: a5 :: a6 :: a7 :: a8 :: a9 :: a10 :: (iv sm ++ [q, o])) (11 + j * 1) [.int .i64 p] = a0 :: a1 :: a2 :: a3 :: a4 :: a5 :: a6 :: a7 :: a8 :: a9 :: a10 :: (iv (sm.set j p) ++ [q, o]) := by
  rw [Nat.mul_one, Nat.add_comm]
  simp only [splice]
  have : ∀ (l : List Value) (r : List Value) (i : Nat) (v : Value), i < l.length → splice (l ++ r) i [v] = l.set i v ++ r := by
    intro l
    induction l with
    | nil => intro r i v h; simp at h
    | cons x l ih =>
      intro r i v h
      cases i with
      | zero => simp [splice]
      | succ i => simp only [List.cons_append, splice, List.set_cons_succ]; rw [ih r i v (by simpa using h)]
  rw [this _ _ _ _ (by simpa [iv] using h)]
  simp [iv, List.map_set]
theorem spl_op (v : Value) (h : sm.length = 256) : splice (a0 :: a1 :: a2 :: a3 :: a4 :: a5 :: a6 :: a7 :: a8 :: a9 :: a10 :: (iv sm ++ [q, o])) 268 [v] = a0 :: a1 :: a2 :: a3 :: a4 :: a5 :: a6 :: a7 :: a8 :: a9 :: a10 :: (iv sm ++ [q, v]) := by
  rw [splice_eq _ _ _ (by simp [iv, h])]
  have h1 : (iv sm).length = 256 := by simp [iv, h]
  simp only [List.length_cons, List.length_nil, List.take_succ_cons, List.drop_succ_cons, List.cons_append]
  rw [List.take_append, List.drop_eq_nil_of_le (by simp [h1])]
  simp [h1, List.take_of_length_le]
theorem ble_op (h : sm.length = 256) : Nat.ble (268 + 1) (a0 :: a1 :: a2 :: a3 :: a4 :: a5 :: a6 :: a7 :: a8 :: a9 :: a10 :: (iv sm ++ [q, o])).length = true := by
  rw [Nat.ble_eq]; simp [iv, h]
theorem ble_small {j : Nat} (h : sm.length = 256) (hj : j < 256) : Nat.ble (11 + j * 1 + 1) (a0 :: a1 :: a2 :: a3 :: a4 :: a5 :: a6 :: a7 :: a8 :: a9 :: a10 :: (iv sm ++ [q, o])).length = true := by
  rw [Nat.ble_eq]; simp [iv, h]; omega
end
theorem nth_wv {l : List Int} {y : List Value} {j : Nat} {x : Int} (h : l[j]? = some x) : nth (wv l ++ y) j = some (.int .u32 x) := by
  rw [nth_eq, List.getElem?_append_left (by simp [wv]; exact (List.getElem?_eq_some_iff.1 h).1)]; simp [wv, h]
theorem spl_wv {l : List Int} {y : List Value} {j : Nat} (v : Int) (h : j < l.length) : splice (wv l ++ y) j [.int .u32 v] = wv (l.set j v) ++ y := by
  rw [splice_eq _ _ _ (by simp [wv]; omega)]
  have h1 : (wv l).length = l.length := by simp [wv]
  rw [List.take_append_of_le_length (by omega), List.drop_append_of_le_length (by simp; omega)]
  simp only [wv, List.map_set]
  rw [List.set_eq_take_append_cons_drop]
  simp [h]
theorem ble_wv {l : List Int} {y : List Value} {j : Nat} (h : j < l.length) : Nat.ble (j + 1) (wv l ++ y).length = true := by
  rw [Nat.ble_eq]; simp [wv]; omega
/-- the machine, its cells, its map and its output in memory -/
def MaMem (bm : Nat) (X : Value) (sm : List Int) (bq : Nat) (es : List (Int × Value × Nat)) (ck : Nat) (op : Int) (m : Mst) (M : Hl) (s : World) : Prop :=
  ∃ bc cc yc O Ao co Ai ni ci, M = (bm, cb (.slice (some ⟨bc, 0, none⟩) m.cells.length cc :: .int .u32 m.r0 :: .int .u32 m.r1 :: .int .u32 m.r2 :: .int .u32 m.r3 :: .int .u32 m.r4 :: .slice Ai ni ci :: .slice Ao m.output.length co :: .int .i64 m.stop :: .int .u32 m.code :: X ::
    (iv sm ++ [.map (some bq), .int .u32 op])) 78) :: (bc, cb (wv m.cells ++ yc) 26) :: (bq, mp (Value.int .u32) es ck) :: O ∧ Own 5 1 O (.slice Ao m.output.length co) m.output.length (bv m.output) ∧ Bts s Ai ni ci m.input
    ∧ m.cells.length + yc.length = cc ∧ cc ≤ 9223372036854775807
/-- where the instruction at place p, less one, lies -/
def fp (A : Option Addr) (p : Nat) : Option Addr := if p = 0 then none else A.map (·.add ((p - 1) * 4))
theorem fp_some {b off p : Nat} (h : p ≠ 0) : fp (some ⟨b, off, none⟩) p = some ⟨b, off + (p - 1) * 4, none⟩ := by simp [fp, h, add_lit]
theorem w64u {a : Int} (h1 : 0 ≤ a) (h2 : a < 18446744073709551616) : IntKind.u64.wrap a = a := by simp [IntKind.wrap, IntKind.bits, IntKind.signed]; omega
end Go.Proofs.Ytpjnphonanbopaa
