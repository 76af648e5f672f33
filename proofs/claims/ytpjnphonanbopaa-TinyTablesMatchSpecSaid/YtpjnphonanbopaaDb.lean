/- Bits of 32-bit numbers: what the operators give, and what the reference's loops give. -/
import Derived.Test.YtpjnphonanbopaaDm
namespace Go.FL
open Go Go.RowKit Go.Proofs.Ytpjnphonanbopaa
theorem QE_cast {P : Program} {TT : TyTab} {D : Nat} {fr : Fr} {ty : Nat} {op : Op} {K : Hl} {s0 : World} {v v' : Value} (h : QE P TT D fr op ty K s0 v) (e : v = v') : QE P TT D fr op ty K s0 v' := e ▸ h
theorem notEq_and : (BinOp.and ≠ .eql ∧ BinOp.and ≠ .neq) := ⟨(by intro h; cases h), (by intro h; cases h)⟩
theorem notEq_or : (BinOp.or ≠ .eql ∧ BinOp.or ≠ .neq) := ⟨(by intro h; cases h), (by intro h; cases h)⟩
theorem notEq_xor : (BinOp.xor ≠ .eql ∧ BinOp.xor ≠ .neq) := ⟨(by intro h; cases h), (by intro h; cases h)⟩
theorem notEq_shl : (BinOp.shl ≠ .eql ∧ BinOp.shl ≠ .neq) := ⟨(by intro h; cases h), (by intro h; cases h)⟩
theorem notEq_shr : (BinOp.shr ≠ .eql ∧ BinOp.shr ≠ .neq) := ⟨(by intro h; cases h), (by intro h; cases h)⟩
theorem ofInt32 {x : Int} (h : U32 x) : (BitVec.ofInt 32 x).toNat = x.toNat := by
  obtain ⟨h1, h2⟩ := h
  rw [BitVec.toNat_ofInt]
  omega
theorem wrap32 {n : Nat} (h : n < 4294967296) : IntKind.u32.wrap (n : Int) = (n : Int) := by rw [IntKind.wrap_u32]; omega
section
variable {P : Program} {t : Nat} {x y : Int}
theorem run_and32 (hx : U32 x) (hy : U32 y) (w : World) : (binOp .and t (.int .u32 x) (.int .u32 y)).run P w = .ok (.int .u32 ((x.toNat &&& y.toNat : Nat) : Int)) w := by
  have h : (BitVec.ofInt 32 x &&& BitVec.ofInt 32 y).toNat = x.toNat &&& y.toNat := by rw [BitVec.toNat_and, ofInt32 hx, ofInt32 hy]
  have h2 : x.toNat &&& y.toNat < 4294967296 := h ▸ (BitVec.ofInt 32 x &&& BitVec.ofInt 32 y).isLt
  have h3 : Op.intBits .and .u32 x y = pure (.int .u32 (IntKind.u32.wrap ((BitVec.ofInt 32 x &&& BitVec.ofInt 32 y).toNat : Int))) := rfl
  simp only [binOp, h3, h, wrap32 h2]
  rfl
theorem run_or32 (hx : U32 x) (hy : U32 y) (w : World) : (binOp .or t (.int .u32 x) (.int .u32 y)).run P w = .ok (.int .u32 ((x.toNat ||| y.toNat : Nat) : Int)) w := by
  have h : (BitVec.ofInt 32 x ||| BitVec.ofInt 32 y).toNat = x.toNat ||| y.toNat := by rw [BitVec.toNat_or, ofInt32 hx, ofInt32 hy]
  have h2 : x.toNat ||| y.toNat < 4294967296 := h ▸ (BitVec.ofInt 32 x ||| BitVec.ofInt 32 y).isLt
  have h3 : Op.intBits .or .u32 x y = pure (.int .u32 (IntKind.u32.wrap ((BitVec.ofInt 32 x ||| BitVec.ofInt 32 y).toNat : Int))) := rfl
  simp only [binOp, h3, h, wrap32 h2]
  rfl
theorem run_xor32 (hx : U32 x) (hy : U32 y) (w : World) : (binOp .xor t (.int .u32 x) (.int .u32 y)).run P w = .ok (.int .u32 ((x.toNat ^^^ y.toNat : Nat) : Int)) w := by
  have h : (BitVec.ofInt 32 x ^^^ BitVec.ofInt 32 y).toNat = x.toNat ^^^ y.toNat := by rw [BitVec.toNat_xor, ofInt32 hx, ofInt32 hy]
  have h2 : x.toNat ^^^ y.toNat < 4294967296 := h ▸ (BitVec.ofInt 32 x ^^^ BitVec.ofInt 32 y).isLt
  have h3 : Op.intBits .xor .u32 x y = pure (.int .u32 (IntKind.u32.wrap ((BitVec.ofInt 32 x ^^^ BitVec.ofInt 32 y).toNat : Int))) := rfl
  simp only [binOp, h3, h, wrap32 h2]
  rfl
theorem two_pow_split {n : Nat} (h : 32 ≤ n) : (2 : Nat) ^ n = 4294967296 * 2 ^ (n - 32) := by
  rw [show n = 32 + (n - 32) by omega, Nat.pow_add]; simp
theorem shl_nat (X Y : Nat) : (X * 2 ^ min Y 32) % 4294967296 = (X <<< Y) % 4294967296 := by
  rw [Nat.shiftLeft_eq]
  rcases Nat.le_total Y 32 with h | h
  · rw [Nat.min_eq_left h]
  · rw [Nat.min_eq_right h, two_pow_split h]
    rw [show X * (4294967296 * 2 ^ (Y - 32)) = 4294967296 * (X * 2 ^ (Y - 32)) by rw [Nat.mul_left_comm]]
    omega
theorem shr_nat {X : Nat} (hX : X < 4294967296) (Y : Nat) : X / 2 ^ min Y 32 = X >>> Y := by
  rw [Nat.shiftRight_eq_div_pow]
  rcases Nat.le_total Y 32 with h | h
  · rw [Nat.min_eq_left h]
  · rw [Nat.min_eq_right h, Nat.div_eq_of_lt (by omega), Nat.div_eq_of_lt]
    have : (2 : Nat) ^ 32 ≤ 2 ^ Y := Nat.pow_le_pow_right (by omega) h
    omega
theorem run_shl32 (hx : U32 x) (hy : U32 y) (w : World) : (binOp .shl t (.int .u32 x) (.int .u32 y)).run P w = .ok (.int .u32 (((x.toNat <<< y.toNat) % 4294967296 : Nat) : Int)) w := by
  obtain ⟨X, rfl⟩ := Int.eq_ofNat_of_zero_le hx.1
  obtain ⟨Y, rfl⟩ := Int.eq_ofNat_of_zero_le hy.1
  have h3 : Op.shift .shl .u32 (X : Int) .u32 (Y : Int) = pure (.int .u32 (IntKind.u32.wrap ((X : Int) * 2 ^ min Y 32))) := by
    unfold Op.shift
    rw [if_neg (by omega)]
    rfl
  have h4 : IntKind.u32.wrap ((X : Int) * 2 ^ min Y 32) = (((X <<< Y) % 4294967296 : Nat) : Int) := by
    rw [IntKind.wrap_u32, ← shl_nat]
    have : ((X * 2 ^ min Y 32 : Nat) : Int) = (X : Int) * 2 ^ min Y 32 := by push_cast; rfl
    rw [← this]; omega
  simp only [binOp, h3, h4, Int.toNat_natCast]
  rfl
theorem run_shr32 (hx : U32 x) (hy : U32 y) (w : World) : (binOp .shr t (.int .u32 x) (.int .u32 y)).run P w = .ok (.int .u32 ((x.toNat >>> y.toNat : Nat) : Int)) w := by
  obtain ⟨X, rfl⟩ := Int.eq_ofNat_of_zero_le hx.1
  obtain ⟨Y, rfl⟩ := Int.eq_ofNat_of_zero_le hy.1
  have h3 : Op.shift .shr .u32 (X : Int) .u32 (Y : Int) = pure (.int .u32 ((X : Int).fdiv (2 ^ min Y 32))) := by
    unfold Op.shift
    rw [if_neg (by omega)]
    rfl
  have h4 : (X : Int).fdiv (2 ^ min Y 32) = ((X >>> Y : Nat) : Int) := by
    rw [← shr_nat (by have := hx.2; omega)]
    have : ((2 ^ min Y 32 : Nat) : Int) = (2 : Int) ^ min Y 32 := by push_cast; rfl
    rw [← this, Int.fdiv_eq_ediv_of_nonneg _ (Int.natCast_nonneg _)]
    rfl
  simp only [binOp, h3, h4, Int.toNat_natCast]
  rfl
end
end Go.FL
namespace Go.Proofs.Ytpjnphonanbopaa
open Go Go.FL
/-- the reference's way: bit by bit -/
def bwN (f : Nat → Bool) (X Y : Nat) : Nat → Nat
  | 0 => 0
  | k + 1 => bwN f X Y k + if f (X / 2 ^ k % 2 + Y / 2 ^ k % 2) then 2 ^ k else 0
theorem bwN_lt (f : Nat → Bool) (X Y k : Nat) : bwN f X Y k < 2 ^ k := by
  induction k with
  | zero => simp [bwN]
  | succ k ih => simp only [bwN, Nat.pow_succ]; split <;> omega
theorem bwN_bit (f : Nat → Bool) (X Y k i : Nat) : (bwN f X Y k).testBit i = (decide (i < k) && f (X / 2 ^ i % 2 + Y / 2 ^ i % 2)) := by
  induction k with
  | zero => simp [bwN]
  | succ k ih =>
    have hlt := bwN_lt f X Y k
    simp only [bwN]
    by_cases hf : f (X / 2 ^ k % 2 + Y / 2 ^ k % 2) = true
    · rw [if_pos hf, Nat.add_comm]
      rcases Nat.lt_trichotomy i k with h | h | h
      · rw [Nat.testBit_two_pow_add_gt h, ih]; simp [h, Nat.lt_succ_of_lt h]
      · subst h; rw [Nat.testBit_two_pow_add_eq, ih]; simp [hf]
      · rw [Nat.testBit_lt_two_pow]
        · simp [show ¬ i < k + 1 by omega]
        · calc 2 ^ k + bwN f X Y k < 2 ^ k + 2 ^ k := by omega
            _ = 2 ^ (k + 1) := by rw [Nat.pow_succ]; omega
            _ ≤ 2 ^ i := Nat.pow_le_pow_right (by omega) (by omega)
    · rw [if_neg hf, Nat.add_zero, ih]
      rcases Nat.lt_trichotomy i k with h | h | h
      · simp [h, Nat.lt_succ_of_lt h]
      · subst h; simp [hf]
      · simp [show ¬ i < k + 1 by omega, show ¬ i < k by omega]
theorem testBit_div (X i : Nat) : X.testBit i = decide (X / 2 ^ i % 2 = 1) := by
  rw [Nat.testBit_eq_decide_div_mod_eq]
theorem bw_eq {f : Nat → Bool} {X Y Z : Nat} (hZ : Z < 4294967296) (h : ∀ i, Z.testBit i = f (X / 2 ^ i % 2 + Y / 2 ^ i % 2) ∨ 32 ≤ i) : bwN f X Y 32 = Z := by
  apply Nat.eq_of_testBit_eq
  intro i
  rw [bwN_bit]
  by_cases hi : i < 32
  · rcases h i with h | h
    · simp [hi, h]
    · omega
  · rw [Nat.testBit_lt_two_pow (x := Z) (i := i)]
    · simp [hi]
    · have h32 : (2 : Nat) ^ 32 ≤ 2 ^ i := Nat.pow_le_pow_right (by omega) (by omega)
      omega
theorem bw_and {X Y : Nat} (hX : X < 4294967296) : bwN (fun d => decide (d = 2)) X Y 32 = X &&& Y := by
  refine bw_eq (Nat.lt_of_le_of_lt Nat.and_le_left hX) fun i => .inl ?_
  rw [Nat.testBit_and, testBit_div, testBit_div]
  have h1 : X / 2 ^ i % 2 < 2 := Nat.mod_lt _ (by omega)
  have h2 : Y / 2 ^ i % 2 < 2 := Nat.mod_lt _ (by omega)
  rw [Bool.eq_iff_iff]; simp; omega
theorem bw_or {X Y : Nat} (hX : X < 4294967296) (hY : Y < 4294967296) : bwN (fun d => decide (d = 1) || decide (d = 2)) X Y 32 = X ||| Y := by
  refine bw_eq (Nat.or_lt_two_pow (n := 32) hX hY) fun i => .inl ?_
  rw [Nat.testBit_or, testBit_div, testBit_div]
  have h1 : X / 2 ^ i % 2 < 2 := Nat.mod_lt _ (by omega)
  have h2 : Y / 2 ^ i % 2 < 2 := Nat.mod_lt _ (by omega)
  rw [Bool.eq_iff_iff]; simp; omega
theorem bw_xor {X Y : Nat} (hX : X < 4294967296) (hY : Y < 4294967296) : bwN (fun d => decide (d = 1)) X Y 32 = X ^^^ Y := by
  refine bw_eq (Nat.xor_lt_two_pow (n := 32) hX hY) fun i => .inl ?_
  rw [Nat.testBit_xor, testBit_div, testBit_div]
  have h1 : X / 2 ^ i % 2 < 2 := Nat.mod_lt _ (by omega)
  have h2 : Y / 2 ^ i % 2 < 2 := Nat.mod_lt _ (by omega)
  rw [Bool.eq_iff_iff]; simp; omega
/-- shifting one place at a time -/
def shN (left : Bool) (X : Nat) : Nat → Nat
  | 0 => X
  | k + 1 => if left then (shN left X k + shN left X k) % 4294967296 else shN left X k / 2
theorem shN_left {X : Nat} (hX : X < 4294967296) (k : Nat) : shN true X k = (X <<< k) % 4294967296 := by
  induction k with
  | zero => simp [shN, Nat.mod_eq_of_lt hX]
  | succ k ih => simp only [shN, if_true, ih, Nat.shiftLeft_eq, Nat.pow_succ]; rw [← Nat.mul_assoc]; omega
theorem shN_right (X k : Nat) : shN false X k = X >>> k := by
  induction k with
  | zero => simp [shN]
  | succ k ih => simp only [shN, ih, Nat.shiftRight_succ]; rfl
theorem shN_lt {X : Nat} (hX : X < 4294967296) (b : Bool) (k : Nat) : shN b X k < 4294967296 := by
  induction k with
  | zero => exact hX
  | succ k ih => simp only [shN]; split <;> omega
/-- all out beyond 32 places -/
theorem sh_far {X k : Nat} (hX : X < 4294967296) (hk : 32 < k) (b : Bool) : shN b X k = 0 := by
  cases b with
  | true =>
    rw [shN_left hX, ← shl_nat, Nat.min_eq_right (by omega)]; omega
  | false =>
    rw [shN_right, ← shr_nat hX, Nat.min_eq_right (by omega), Nat.div_eq_of_lt (by omega)]
end Go.Proofs.Ytpjnphonanbopaa
