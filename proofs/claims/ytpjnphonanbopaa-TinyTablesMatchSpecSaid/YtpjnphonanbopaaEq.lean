/- What == gives at the structs and arrays of the machine. -/
import Derived.Test.YtpjnphonanbopaaTy
import Derived.Test.YtpjnphonanbopaaDt
import Derived.Laws.StructEq
namespace Go.Proofs.Ytpjnphonanbopaa
open Go Go.FL
theorem aggOne {P : Program} {t : Nat} {ti : TI} (h : ti.ok P t) (hk : isOne ti.kind = true) (w : World) : (isAgg t).run P w = .ok false w := by rw [run_isAgg' h, hk]; rfl
theorem aggTwo {P : Program} {t : Nat} {ti : TI} (h : ti.ok P t) (hk : isOne ti.kind = false) (w : World) : (isAgg t).run P w = .ok true w := by rw [run_isAgg' h, hk]; rfl
theorem eqTermIn (d : Nat) (a b c e : Int) (w : World) : (Op.equalIn (d + 2) 84 (.agg #[.int .i64 a, .int .u32 b]) (.agg #[.int .i64 c, .int .u32 e])).run Try.prog w = .ok (decide (a = c) && decide (b = e)) w := by
  rw [run_equalIn_agg w (d + 1) 84 _ _ (by kernel_rfl) (by kernel_rfl)]
  simp only [Program.fieldsOf, Try.underlying84, Op.eqFields, part]
  simp [aggOne ti3_ok rfl, aggOne ti26_ok rfl, run_equalIn_int w d 3 .i64 .i64 _ _ Try.underlying3, run_equalIn_int w d 26 .u32 .u32 _ _ Try.underlying26]
  by_cases h1 : a = c <;> by_cases h2 : b = e <;> simp [h1, h2]
theorem eqTerm (a b c d : Int) : EqA Try.prog 84 [.int .i64 a, .int .u32 b] [.int .i64 c, .int .u32 d] (decide (a = c) && decide (b = d)) := ⟨by kernel_rfl, fun w => eqTermIn 9998 a b c d w⟩
theorem eqFault (a b c d : Int) : EqA Try.prog 32 [.int .i64 a, .int .i64 b] [.int .i64 c, .int .i64 d] (decide (a = c ∧ b = d)) := ⟨by kernel_rfl, fun w => by
  show (Op.equalIn (9998 + 2) 32 _ _).run Try.prog w = _
  rw [run_equalIn_agg w 9999 32 _ _ (by kernel_rfl) (by kernel_rfl)]
  simp only [Program.fieldsOf, Try.underlying32, Op.eqFields, part]
  simp [aggOne ti3_ok rfl, run_equalIn_int w 9998 3 .i64 .i64 _ _ Try.underlying3]
  by_cases h1 : a = c <;> by_cases h2 : b = d <;> simp [h1, h2]⟩
theorem sizeTwo (w : World) : (sizeOf 84).run Try.prog w = .ok 2 w := run_sizeOf' ti84_ok w
theorem eqAction (a b : Ac) : EqA Try.prog 86 [.int .i64 a.kind, .int .i64 a.to, .int .i64 a.x.kind, .int .u32 a.x.val, .int .i64 a.y.kind, .int .u32 a.y.val] [.int .i64 b.kind, .int .i64 b.to, .int .i64 b.x.kind, .int .u32 b.x.val, .int .i64 b.y.kind, .int .u32 b.y.val] (decide (a = b)) := ⟨by kernel_rfl, fun w => by
  obtain ⟨ak, at_, ⟨ax1, ax2⟩, ⟨ay1, ay2⟩⟩ := a
  obtain ⟨bk, bt, ⟨bx1, bx2⟩, ⟨by1, by2⟩⟩ := b
  show (Op.equalIn (9998 + 2) 86 _ _).run Try.prog w = _
  rw [run_equalIn_agg w 9999 86 _ _ (by kernel_rfl) (by kernel_rfl)]
  simp only [Program.fieldsOf, Try.underlying86, Op.eqFields, part]
  simp [aggOne ti3_ok rfl, aggTwo ti84_ok rfl, sizeTwo, run_equalIn_int w 9998 3 .i64 .i64 _ _ Try.underlying3, eqTermIn 9997]
  by_cases h1 : ak = bk <;> by_cases h2 : at_ = bt <;> by_cases h3 : ax1 = bx1 <;> by_cases h4 : ax2 = bx2 <;> by_cases h5 : ay1 = by1 <;> by_cases h6 : ay2 = by2 <;> simp [h1, h2, h3, h4, h5, h6]⟩
theorem eqRegs (a0 a1 a2 a3 a4 b0 b1 b2 b3 b4 : Int) : EqA Try.prog 27 [.int .u32 a0, .int .u32 a1, .int .u32 a2, .int .u32 a3, .int .u32 a4] [.int .u32 b0, .int .u32 b1, .int .u32 b2, .int .u32 b3, .int .u32 b4] (decide (a0 = b0 ∧ a1 = b1 ∧ a2 = b2 ∧ a3 = b3 ∧ a4 = b4)) := ⟨by kernel_rfl, fun w => by
  show (Op.equalIn (9998 + 2) 27 _ _).run Try.prog w = _
  rw [Op.equalIn]
  simp only [Sem.run_bind, run_underlying Try.underlying27, Result.andThen_ok]
  simp only [Std.Legacy.Range.forIn_eq_forIn_range', Std.Legacy.Range.size, Nat.sub_zero, Nat.add_sub_cancel, Nat.div_one, List.range'_succ, List.range'_zero, List.forIn_cons, List.forIn_nil]
  simp [part, aggOne ti26_ok rfl, run_sizeOf' ti26_ok, ti26, run_equalIn_int w 9998 26 .u32 .u32 _ _ Try.underlying26]
  by_cases h0 : a0 = b0 <;> by_cases h1 : a1 = b1 <;> by_cases h2 : a2 = b2 <;> by_cases h3 : a3 = b3 <;> by_cases h4 : a4 = b4 <;> simp [h0, h1, h2, h3, h4]⟩
end Go.Proofs.Ytpjnphonanbopaa
