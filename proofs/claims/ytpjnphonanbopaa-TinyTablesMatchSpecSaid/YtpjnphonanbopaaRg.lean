/- Terms, actions, instructions, tables and states as they are read. -/
import Derived.Test.YtpjnphonanbopaaRf
namespace Go.Proofs.Ytpjnphonanbopaa
open Go Go.FL Go.ChangeShapes Go.WideShapes Go.ChangeAt Go.RowKit
set_option maxRecDepth 100000
instance : Inhabited Ac := ⟨⟨0, 0, ⟨0, 0⟩, ⟨0, 0⟩⟩⟩
instance : Inhabited Ins := ⟨⟨[], 0, false, []⟩⟩
theorem c_int : Try.prog.cellsOf 3 = 1 := by kernel_rfl
theorem c_u32 : Try.prog.cellsOf 26 = 1 := by kernel_rfl
theorem c_u8 : Try.prog.cellsOf 5 = 1 := by kernel_rfl
theorem c_bool : Try.prog.cellsOf 4 = 1 := by kernel_rfl
theorem c_str : Try.prog.cellsOf 9 = 1 := by kernel_rfl
theorem c_term : Try.prog.cellsOf 84 = 2 := by kernel_rfl
theorem c_act : Try.prog.cellsOf 86 = 6 := by kernel_rfl
theorem c_acts : Try.prog.cellsOf 58 = 1 := by kernel_rfl
theorem c_ins : Try.prog.cellsOf 60 = 4 := by kernel_rfl
theorem c_inss : Try.prog.cellsOf 22 = 1 := by kernel_rfl
theorem c_tab : Try.prog.cellsOf 24 = 2 := by kernel_rfl
theorem c_words : Try.prog.cellsOf 25 = 1 := by kernel_rfl
theorem c_bytes : Try.prog.cellsOf 28 = 1 := by kernel_rfl
theorem c_regs : Try.prog.cellsOf 27 = 5 := by kernel_rfl
theorem c_state : Try.prog.cellsOf 30 = 10 := by kernel_rfl
section
variable {W : World} {cs : List Value}
theorem rd_term (h : Rd W 84 cs) : ∃ x : Tm, cs = [.int .i64 x.kind, .int .u32 x.val] ∧ U32 x.val := by
  obtain ⟨h1, h2⟩ := rd_field Try.underlying84 h c_term
  obtain ⟨a, b, rfl⟩ := len2 h1
  obtain ⟨k, e1, _⟩ := rd_int Try.underlying3 (h2 0 _ rfl _ _ _ rfl rfl c_int)
  obtain ⟨v, e2, w2⟩ := rd_int Try.underlying26 (h2 1 _ rfl _ _ _ rfl rfl c_u32)
  have z1 : a = .int .i64 k := one_eq e1
  have z2 : b = .int .u32 v := one_eq e2
  subst z1; subst z2
  exact ⟨⟨k, v⟩, rfl, u32_wf w2⟩
theorem rd_action (h : Rd W 86 cs) : ∃ a : Ac, cs = a.cs ∧ U32 a.x.val ∧ U32 a.y.val := by
  obtain ⟨h1, h2⟩ := rd_field Try.underlying86 h c_act
  obtain ⟨a, b, c, d, e, f, rfl⟩ := len6 h1
  obtain ⟨k, e1, _⟩ := rd_int Try.underlying3 (h2 0 _ rfl _ _ _ rfl rfl c_int)
  obtain ⟨t, e2, _⟩ := rd_int Try.underlying3 (h2 1 _ rfl _ _ _ rfl rfl c_int)
  obtain ⟨x, e3, wx⟩ := rd_term (h2 2 _ rfl _ _ _ rfl rfl c_term)
  obtain ⟨y, e4, wy⟩ := rd_term (h2 3 _ rfl _ _ _ rfl rfl c_term)
  have z1 : a = .int .i64 k := one_eq e1
  have z2 : b = .int .i64 t := one_eq e2
  have y3 : [c, d] = [.int .i64 x.kind, .int .u32 x.val] := e3
  have y4 : [e, f] = [.int .i64 y.kind, .int .u32 y.val] := e4
  injection y3 with z3 x3'
  injection y4 with z4 x4'
  have z3' : d = .int .u32 x.val := one_eq x3'
  have z4' : f = .int .u32 y.val := one_eq x4'
  subst z1; subst z2; subst z3; subst z3'; subst z4; subst z4'
  exact ⟨⟨k, t, x, y⟩, rfl, wx, wy⟩
theorem rd_acts (h : Rd W 58 cs) : ∃ A n c l, cs = [.slice A n c] ∧ Acs W A n c l := sl_of Try.underlying58 c_act (by decide) h fun _ hd => rd_action hd
theorem rd_ins (h : Rd W 60 cs) : ∃ x : Ins, InsR W x cs := by
  obtain ⟨h1, h2⟩ := rd_field Try.underlying60 h c_ins
  obtain ⟨a, b, c, d, rfl⟩ := len4 h1
  obtain ⟨l, e1, w1⟩ := rd_str Try.underlying9 (h2 0 _ rfl _ _ _ rfl rfl c_str)
  obtain ⟨v, e2, w2⟩ := rd_int Try.underlying26 (h2 1 _ rfl _ _ _ rfl rfl c_u32)
  obtain ⟨o, e3⟩ := rd_bool Try.underlying4 (h2 2 _ rfl _ _ _ rfl rfl c_bool)
  obtain ⟨A, n, q, la, e4, w4⟩ := rd_acts (h2 3 _ rfl _ _ _ rfl rfl c_acts)
  have z1 : a = St l := one_eq e1
  have z2 : b = .int .u32 v := one_eq e2
  have z3 : c = .bool o := one_eq e3
  have z4 : d = .slice A n q := one_eq e4
  subst z1; subst z2; subst z3; subst z4
  exact ⟨⟨l, v, o, la⟩, A, n, q, rfl, w4, w1, u32_wf w2⟩
theorem rd_inss (h : Rd W 22 cs) : ∃ A n c l, cs = [.slice A n c] ∧ Inss W A n c l := sl_of Try.underlying22 c_ins (by decide) h fun _ hd => rd_ins hd
theorem rd_words (h : Rd W 25 cs) : ∃ A n c l, cs = [.slice A n c] ∧ Wds W A n c l := sl_of Try.underlying25 c_u32 (by decide) h fun _ hd => by
  obtain ⟨n, h1, h2⟩ := rd_int Try.underlying26 hd
  exact ⟨n, h1, u32_wf h2⟩
theorem rd_bytes (h : Rd W 28 cs) : ∃ A n c l, cs = [.slice A n c] ∧ Bts W A n c l := sl_of Try.underlying28 c_u8 (by decide) h fun _ hd => by
  obtain ⟨n, h1, h2⟩ := rd_int Try.underlying5 hd
  have := bounds_u8 h2
  refine ⟨UInt8.ofNat n.toNat, h1.trans ?_⟩
  have e : ((UInt8.ofNat n.toNat).toNat : Int) = n := by simp [UInt8.toNat_ofNat']; omega
  rw [e]
theorem rd_table (h : Rd W 24 cs) : ∃ (t : Tab) (A : Option Addr) (n c : Nat), cs = [.int .i64 t.cells, .slice A n c] ∧ Inss W A n c t.ins := by
  obtain ⟨h1, h2⟩ := rd_field Try.underlying24 h c_tab
  obtain ⟨a, b, rfl⟩ := len2 h1
  obtain ⟨k, e1, _⟩ := rd_int Try.underlying3 (h2 0 _ rfl _ _ _ rfl rfl c_int)
  obtain ⟨A, n, c, l, e2, w2⟩ := rd_inss (h2 1 _ rfl _ _ _ rfl rfl c_inss)
  have z1 : a = .int .i64 k := one_eq e1
  have z2 : b = .slice A n c := one_eq e2
  subst z1; subst z2
  exact ⟨⟨k, l⟩, A, n, c, rfl, w2⟩
theorem rd_state (h : Rd W 30 cs) : ∃ (m : Mst) (Ax Bx Ox : Option Addr) (nA cA nB cB nO cO : Nat), cs = [.slice Ax nA cA, .int .u32 m.r0, .int .u32 m.r1, .int .u32 m.r2, .int .u32 m.r3, .int .u32 m.r4, .slice Bx nB cB, .slice Ox nO cO, .int .i64 m.stop, .int .u32 m.code] ∧
    Wds W Ax nA cA m.cells ∧ Bts W Bx nB cB m.input ∧ Bts W Ox nO cO m.output ∧ MU m := by
  obtain ⟨h1, h2⟩ := rd_field Try.underlying30 h c_state
  obtain ⟨a0, a1, a2, a3, a4, a5, a6, a7, a8, a9, rfl⟩ := len10 h1
  obtain ⟨Ax, nA, cA, lA, e0, w0⟩ := rd_words (h2 0 _ rfl _ _ _ rfl rfl c_words)
  obtain ⟨_, hr⟩ := rd_arr Try.underlying27 (h2 1 _ rfl _ _ _ rfl rfl c_regs) c_regs c_u32
  obtain ⟨r0, e1, w1⟩ := rd_int Try.underlying26 (hr 0 (by decide))
  obtain ⟨r1, e2, w2⟩ := rd_int Try.underlying26 (hr 1 (by decide))
  obtain ⟨r2, e3, w3⟩ := rd_int Try.underlying26 (hr 2 (by decide))
  obtain ⟨r3, e4, w4⟩ := rd_int Try.underlying26 (hr 3 (by decide))
  obtain ⟨r4, e5, w5⟩ := rd_int Try.underlying26 (hr 4 (by decide))
  obtain ⟨Bx, nB, cB, lB, e6, w6⟩ := rd_bytes (h2 2 _ rfl _ _ _ rfl rfl c_bytes)
  obtain ⟨Ox, nO, cO, lO, e7, w7⟩ := rd_bytes (h2 3 _ rfl _ _ _ rfl rfl c_bytes)
  obtain ⟨st, e8, _⟩ := rd_int Try.underlying3 (h2 4 _ rfl _ _ _ rfl rfl c_int)
  obtain ⟨cd, e9, w9⟩ := rd_int Try.underlying26 (h2 5 _ rfl _ _ _ rfl rfl c_u32)
  have z0 : a0 = .slice Ax nA cA := one_eq e0; have z1 : a1 = .int .u32 r0 := one_eq e1; have z2 : a2 = .int .u32 r1 := one_eq e2; have z3 : a3 = .int .u32 r2 := one_eq e3; have z4 : a4 = .int .u32 r3 := one_eq e4
  have z5 : a5 = .int .u32 r4 := one_eq e5; have z6 : a6 = .slice Bx nB cB := one_eq e6; have z7 : a7 = .slice Ox nO cO := one_eq e7; have z8 : a8 = .int .i64 st := one_eq e8; have z9 : a9 = .int .u32 cd := one_eq e9
  subst z0; subst z1; subst z2; subst z3; subst z4; subst z5; subst z6; subst z7; subst z8; subst z9
  exact ⟨⟨lA, r0, r1, r2, r3, r4, lB, lO, st, cd⟩, Ax, Bx, Ox, nA, cA, nB, cB, nO, cO, rfl, w0, w6, w7, u32_wf w1, u32_wf w2, u32_wf w3, u32_wf w4, u32_wf w5, u32_wf w9⟩
end
section
variable {H : Type} {enc : TypeId × Value → H} {W : World} {base : Nat} {v : Value} {d : DataW H} {ps : List MemPlace}
theorem rd_of {t : TypeId} (hd : DataW.Trod enc Try.prog W 0 (fun _ => true) true t v d ps) : Rd W t v.cells.toList := by
  obtain ⟨n, h⟩ := hd
  exact ⟨H, enc, n, _, h⟩
theorem agg_of {t : TypeId} {fs : Array Field} (ht : Try.prog.underlying t = some (.struct fs)) (hv : Value.okWide Try.prog W .any base t v) : ∃ cs, v = .agg cs := by
  unfold Value.okWide at hv
  rw [ht] at hv
  obtain ⟨cs, h, _⟩ := hv
  exact ⟨cs, h⟩
theorem arg_table (hv : Value.okWide Try.prog W .any base 24 v) (hd : DataW.Trod enc Try.prog W 0 (fun _ => true) true 24 v d ps) : ∃ (t : Tab) (A : Option Addr) (n c : Nat), v = .agg #[.int .i64 t.cells, .slice A n c] ∧ Inss W A n c t.ins := by
  obtain ⟨cs, rfl⟩ := agg_of Try.underlying24 hv
  obtain ⟨t, A, n, c, h1, h2⟩ := rd_table (rd_of hd)
  refine ⟨t, A, n, c, ?_, h2⟩
  simp only [Value.cells] at h1
  rw [← h1]
theorem arg_state (hv : Value.okWide Try.prog W .any base 30 v) (hd : DataW.Trod enc Try.prog W 0 (fun _ => true) true 30 v d ps) : ∃ (m : Mst) (Ax Bx Ox : Option Addr) (nA cA nB cB nO cO : Nat), v = .agg #[.slice Ax nA cA, .int .u32 m.r0, .int .u32 m.r1, .int .u32 m.r2, .int .u32 m.r3, .int .u32 m.r4, .slice Bx nB cB, .slice Ox nO cO, .int .i64 m.stop, .int .u32 m.code] ∧
    Wds W Ax nA cA m.cells ∧ Bts W Bx nB cB m.input ∧ Bts W Ox nO cO m.output ∧ MU m := by
  obtain ⟨cs, rfl⟩ := agg_of Try.underlying30 hv
  obtain ⟨m, Ax, Bx, Ox, nA, cA, nB, cB, nO, cO, h1, h2⟩ := rd_state (rd_of hd)
  refine ⟨m, Ax, Bx, Ox, nA, cA, nB, cB, nO, cO, ?_, h2⟩
  simp only [Value.cells] at h1
  rw [← h1]
theorem cell_of {t e : TypeId} (ht : Try.prog.underlying t = some (.slice e)) (hv : Value.okWide Try.prog W .any base t v) : v.cells.toList = [v] := by
  unfold Value.okWide at hv
  rw [ht] at hv
  simp only [Cell.okWide] at hv
  cases v <;> simp_all [Value.cells, Cell.ok]
theorem arg_words (hv : Value.okWide Try.prog W .any base 25 v) (hd : DataW.Trod enc Try.prog W 0 (fun _ => true) true 25 v d ps) : ∃ A n c l, v = .slice A n c ∧ Wds W A n c l := by
  obtain ⟨A, n, c, l, h1, h2⟩ := rd_words (rd_of hd)
  rw [cell_of Try.underlying25 hv] at h1
  exact ⟨A, n, c, l, one_eq h1, h2⟩
theorem arg_bytes (hv : Value.okWide Try.prog W .any base 28 v) (hd : DataW.Trod enc Try.prog W 0 (fun _ => true) true 28 v d ps) : ∃ A n c l, v = .slice A n c ∧ Bts W A n c l := by
  obtain ⟨A, n, c, l, h1, h2⟩ := rd_bytes (rd_of hd)
  rw [cell_of Try.underlying28 hv] at h1
  exact ⟨A, n, c, l, one_eq h1, h2⟩
end
end Go.Proofs.Ytpjnphonanbopaa
