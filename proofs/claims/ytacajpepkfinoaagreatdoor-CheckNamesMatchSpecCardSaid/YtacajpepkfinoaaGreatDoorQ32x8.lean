/- The law CheckNamesMatchSpec: for every input it returns true, and its arguments read behind the call az they read before; what the package-level variables of the library hold is tied tgt the text of the program. Part 8 of the proof of checkNamesMatchSpec_holds: texts Rt, Q32. -/
import Derived.Test.YtacajpepkfinoaaGreatDoorQ32x7
import Derived.Lay
import Derived.Lib.LaidTab
import Derived.Stop.LaidErr
import Derived.SevenTiedAt
import Derived.Test.YtacajpepkfinoaaGreatDoorCards
import Derived.Test.YtacajpepkfinoaaGreatDoorTie
set_option linter.unusedVariables false
set_option linter.unusedSimpArgs false
set_option linter.unnecessarySimpa false
set_option maxRecDepth 100000
set_option maxHeartbeats 8000000
namespace Go.Proofs.YtacajpepkfinoaaGreatDoor
open Go Go.FL Go.ChangeShapes Go.WideShapes Go.ChangeAt Go.RowKit Go.Deep
set_option maxRecDepth 100000
instance : Inhabited Ex := ⟨.mk 0 0 0 [] []⟩
instance : Inhabited Stm := ⟨.mk 0 [] [] [] []⟩
instance : Inhabited Fnc := ⟨⟨[], [], [], []⟩⟩
instance : Inhabited Glo := ⟨⟨0, [], 0, []⟩⟩
theorem c_int : Tryz.prog.cellsOf 3 = 1 := by kernel_rfl
theorem c_u32 : Tryz.prog.cellsOf 56 = 1 := by kernel_rfl
theorem c_str : Tryz.prog.cellsOf 9 = 1 := by kernel_rfl
theorem c_strs : Tryz.prog.cellsOf 52 = 1 := by kernel_rfl
theorem c_words : Tryz.prog.cellsOf 78 = 1 := by kernel_rfl
theorem c_ex : Tryz.prog.cellsOf 61 = 5 := by kernel_rfl
theorem c_exs : Tryz.prog.cellsOf 59 = 1 := by kernel_rfl
theorem c_st : Tryz.prog.cellsOf 65 = 5 := by kernel_rfl
theorem c_sts : Tryz.prog.cellsOf 53 = 1 := by kernel_rfl
theorem c_fn : Tryz.prog.cellsOf 55 = 4 := by kernel_rfl
theorem c_fns : Tryz.prog.cellsOf 23 = 1 := by kernel_rfl
theorem c_gl : Tryz.prog.cellsOf 80 = 4 := by kernel_rfl
theorem c_gls : Tryz.prog.cellsOf 22 = 1 := by kernel_rfl
theorem c_prg : Tryz.prog.cellsOf 25 = 2 := by kernel_rfl
theorem len5 {l : List Value} (h : l.length = 5) : ∃ a b c d e, l = [a, b, c, d, e] := by match l, h with | [a, b, c, d, e], _ => exact ⟨a, b, c, d, e, rfl⟩
def RdN (n : Nat) (W : World) (t : TypeId) (cs : List Value) : Prop := ∃ (H : Type) (enc : TypeId × Value → H) (x : DataW H × List MemPlace), DataW.trod enc Tryz.prog W 0 (fun _ => true) true n t cs = some x
section
variable {W : World} {t e : TypeId} {cs : List Value}
theorem RdN.rd {n : Nat} (h : RdN n W t cs) : Rd W t cs := by
  obtain ⟨H, enc, x, h⟩ := h
  exact ⟨H, enc, n, x, h⟩
theorem rdn_field {n : Nat} {fs : Array Field} (ht : Tryz.prog.underlying t = some (.struct fs)) (h : RdN n W t cs) {sz : Nat} (hc : Tryz.prog.cellsOf t = sz) : cs.length = sz ∧ ∃ m, n = m + 1 ∧ ∀ (i : Nat) (f : Field), fs[i]? = some f → ∀ (ty off k : Nat), f.type = ty → f.offset = off → Tryz.prog.cellsOf ty = k → RdN m W ty ((cs.drop off).take k) := by
  obtain ⟨H, enc, x, h⟩ := h
  obtain ⟨xs, m, hm, _, h1, h2, h3⟩ := DataW.trod_struct ht h
  refine ⟨h1.trans hc, m, hm, fun i f hf ty off k e1 e2 e3 => ?_⟩
  have hi : i < xs.length := by rw [h2]; exact (Array.getElem?_eq_some_iff.1 hf).1
  have := h3 i f hf
  rw [List.getElem?_eq_getElem hi, e1, e2, e3] at this
  exact ⟨H, enc, _, this⟩
theorem rdn_slice {n sz : Nat} (ht : Tryz.prog.underlying t = some (.slice e)) (hc : Tryz.prog.cellsOf e = sz) (hp : 0 < sz) (h : RdN n W t cs) : ∃ A m c, cs = [.slice A m c] ∧ m ≤ c ∧ c ≤ 9223372036854775807 ∧
    ∀ i, i < m → ∃ b off ds q, A = some ⟨b, off, none⟩ ∧ CellsAt W b (off + i * sz) ds ∧ ds.length = sz ∧ n = q + 1 ∧ RdN q W e ds := by
  obtain ⟨H, enc, x, h⟩ := h
  rcases DataW.trod_slice ht h with ⟨rfl, _⟩ | ⟨a, len, cap, elems, rest, q, hq, rfl, _, _, h1, h2, hlen, hel, _, _⟩
  · exact ⟨none, 0, 0, rfl, Nat.le_refl _, by omega, fun i hi => by omega⟩
  · simp only [maxLen] at h2
    have h4 : ∀ i, i < len → ∃ ds x, W.cells? 0 (a.add (i * sz)) sz = some ds ∧ DataW.trod enc Tryz.prog W 0 (fun _ => true) true q e ds = some x := by
      intro i hi
      have := hel i hi
      rw [List.getElem?_eq_getElem O, hc] at this
      obtain ⟨ds, k1, k2⟩ := Option.bind_eq_some_iff.1 this
      exact ⟨ds, _, k1, k2⟩
    refine ⟨some a, len, cap, Z, h1, by omega, fun i hi => ?_⟩
    obtain ⟨ds, y, k1, k2⟩ := h4 i hi
    obtain ⟨_, k3, k4⟩ := World.cells?_some k1
    obtain ⟨b, off, spot⟩ := a
    have hs : spot = none := by
      obtain ⟨ds0, _, j1, _⟩ := h4 0 O
      rw [Nat.zero_mul] at j1
      obtain ⟨_, j3, j4⟩ := World.cells?_some j1
      have := j4 0 hp
      rw [List.getElem?_eq_getElem O] at this
      simpa [Addr.add] using World.cell?_spot this
    subst hs
    refine ⟨b, off, ds, q, Z, fun j v hj => ?_, k3, hq, H, enc, _, k2⟩
    have hl : j < sz := by rw [← k3]; exact (List.getElem?_eq_some_iff.1 hj).1
    have := k4 j hl
    rw [hj, add_lit, add_lit] at this
    exact this
theorem sln_of {α : Type} [Inhabited α] {R : World → α → List Value → Prop} {n sz : Nat} (ht : Tryz.prog.underlying t = some (.slice e)) (hc : Tryz.prog.cellsOf e = sz) (hp : 0 < sz) (h : RdN n W t cs) (hel : ∀ q, n = q + 1 → ∀ ds, RdN q W e ds → ∃ x : α, R W x ds) : ∃ A m c l, cs = [.slice A m c] ∧ Sl sz R W A m c l := by
  obtain ⟨A, m, c, h1, h2, h3, h4⟩ := rdn_slice ht hc hp h
  obtain ⟨f, hf⟩ := choose_lt (α := α) (p := fun i x => ∃ b off ds, A = some ⟨b, off, none⟩ ∧ CellsAt W b (off + i * sz) ds ∧ ds.length = sz ∧ R W x ds) (n := m) (fun i hi => by
    obtain ⟨b, off, ds, q, k1, k2, k3, k5, k4⟩ := h4 i hi
    obtain ⟨x, hx⟩ := hel q k5 ds k4
    exact ⟨x, b, off, ds, k1, k2, k3, hx⟩)
  refine ⟨A, m, c, (List.range m).map f, h1, by simp, h2, h3, fun i x hi => ?_⟩
  rw [List.getElem?_map] at hi
  cases hr : (List.range m)[i]? with
  | none => simp [hr] at hi
  | some j =>
    simp [hr] at hi
    obtain ⟨hi1, hi2⟩ := List.getElem?_eq_some_iff.1 hr
    simp at hi1 hi2
    subst hi2; subst hi
    exact hf i hi1
theorem rd_words (h : Rd W 78 cs) : ∃ A n c l, cs = [.slice A n c] ∧ Wds W A n c l := sl_of Tryz.underlying78 c_u32 (by decide) h fun _ hd => by
  obtain ⟨n, h1, h2⟩ := rd_int Tryz.underlying56 hd
  exact ⟨n, h1, u32_wf h2⟩
theorem rd_strs (h : Rd W 52 cs) : ∃ A n c l, cs = [.slice A n c] ∧ Strs W A n c l :=
  sl_of (α := List UInt8) (R := fun _ x cs => cs = [St x] ∧ x.length ≤ 9223372036854775807) Tryz.underlying52 c_str (by decide) h (fun _ hd => rd_str Tryz.underlying9 hd)
theorem rd_ex (n : Nat) : ∀ cs, RdN n W 61 cs → ∃ x : Ex, ExR n W x cs := by
  refine Nat.strongRecOn n ?_
  intro n ih cs h
  obtain ⟨h1, m, rfl, h2⟩ := rdn_field Tryz.underlying61 h c_ex
  obtain ⟨a, b, c, d, e, rfl⟩ := len5 h1
  obtain ⟨k, e1, _⟩ := rd_int Tryz.underlying3 (h2 0 _ rfl _ _ _ rfl rfl c_int).rd
  obtain ⟨o, e2, _⟩ := rd_int Tryz.underlying3 (h2 1 _ rfl _ _ _ rfl rfl c_int).rd
  obtain ⟨u, e3, w3⟩ := rd_int Tryz.underlying56 (h2 2 _ rfl _ _ _ rfl rfl c_u32).rd
  obtain ⟨w, e4, w4⟩ := rd_str Tryz.underlying9 (h2 3 _ rfl _ _ _ rfl rfl c_str).rd
  obtain ⟨A, p, q, l, e5, w5⟩ := sln_of (R := ExR m) Tryz.underlying59 c_ex (by decide) (h2 4 _ rfl _ _ _ rfl rfl c_exs) fun q hq ds hd => by
    obtain ⟨x, hx⟩ := ih q O ds hd
    exact ⟨x, hx.up O⟩
  have z1 : a = .int .i64 k := one_eq e1
  have z2 : b = .int .i64 o := one_eq e2
  have z3 : c = .int .u32 u := one_eq e3
  have z4 : d = St w := one_eq e4
  have z5 : e = .slice A p q := one_eq e5
  subst z1; subst z2; subst z3; subst z4; subst z5
  exact ⟨.mk k o u w l, A, p, q, rfl, w5, u32_wf w3, w4⟩
theorem rd_exs {n : Nat} (h : RdN n W 59 cs) : ∃ A m c l, cs = [.slice A m c] ∧ Exs n W A m c l :=
  sln_of (R := ExR n) Tryz.underlying59 c_ex (by decide) h fun q hq ds hd => by
    obtain ⟨x, hx⟩ := rd_ex q ds hd
    exact ⟨x, hx.up O⟩
theorem rd_st (n : Nat) : ∀ cs, RdN n W 65 cs → ∃ x : Stm, StR n W x cs := by
  refine Nat.strongRecOn n ?_
  intro n ih cs h
  obtain ⟨h1, m, rfl, h2⟩ := rdn_field Tryz.underlying65 h c_st
  obtain ⟨a, b, c, d, e, rfl⟩ := len5 h1
  have hB : ∀ {cs}, RdN m W 53 cs → ∃ A p q l, cs = [.slice A p q] ∧ Sl 5 (StR m) W A p q l := fun h => sln_of (R := StR m) Tryz.underlying53 c_st (by decide) h fun q hq ds hd => by
    obtain ⟨x, hx⟩ := ih q O ds hd
    exact ⟨x, hx.up O⟩
  obtain ⟨k, e1, _⟩ := rd_int Tryz.underlying3 (h2 0 _ rfl _ _ _ rfl rfl c_int).rd
  obtain ⟨w, e2, w2⟩ := rd_str Tryz.underlying9 (h2 1 _ rfl _ _ _ rfl rfl c_str).rd
  obtain ⟨A1, p1, q1, l1, e3, w3⟩ := rd_exs (h2 2 _ rfl _ _ _ rfl rfl c_exs)
  obtain ⟨A2, p2, q2, l2, e4, w4⟩ := hB (h2 3 _ rfl _ _ _ rfl rfl c_sts)
  obtain ⟨A3, p3, q3, l3, e5, w5⟩ := hB (h2 4 _ rfl _ _ _ rfl rfl c_sts)
  have z1 : a = .int .i64 k := one_eq e1
  have z2 : b = St w := one_eq e2
  have z3 : c = .slice A1 p1 q1 := one_eq e3
  have z4 : d = .slice A2 p2 q2 := one_eq e4
  have z5 : e = .slice A3 p3 q3 := one_eq e5
  subst z1; subst z2; subst z3; subst z4; subst z5
  exact ⟨.mk k w l1 l2 l3, A1, p1, q1, A2, p2, q2, A3, p3, q3, rfl, w3, w4, w5, w2⟩
theorem rd_sts {n : Nat} (h : RdN n W 53 cs) : ∃ A m c l, cs = [.slice A m c] ∧ Stms n W A m c l :=
  sln_of (R := StR n) Tryz.underlying53 c_st (by decide) h fun q hq ds hd => by
    obtain ⟨x, hx⟩ := rd_st q ds hd
    exact ⟨x, hx.up O⟩
theorem FnR.up {d e : Nat} {s : World} {x : Fnc} {cs : List Value} (h : FnR d s x cs) (he : d ≤ e) : FnR e s x cs := by
  obtain ⟨A1, n1, c1, A2, n2, c2, A3, n3, c3, h1, h2, h3, h4, h5⟩ := h
  exact ⟨A1, n1, c1, A2, n2, c2, A3, n3, c3, h1, h2, h3, Stms.up h4 he, h5⟩
theorem rd_fn {n : Nat} {cs : List Value} (h : RdN n W 55 cs) : ∃ x : Fnc, FnR n W x cs := by
  obtain ⟨h1, m, rfl, h2⟩ := rdn_field Tryz.underlying55 h c_fn
  obtain ⟨a, b, c, d, rfl⟩ := len4 h1
  obtain ⟨w, e1, w1⟩ := rd_str Tryz.underlying9 (h2 0 _ rfl _ _ _ rfl rfl c_str).rd
  obtain ⟨A1, p1, q1, l1, e2, w2⟩ := rd_strs (h2 1 _ rfl _ _ _ rfl rfl c_strs).rd
  obtain ⟨A2, p2, q2, l2, e3, w3⟩ := rd_strs (h2 2 _ rfl _ _ _ rfl rfl c_strs).rd
  obtain ⟨A3, p3, q3, l3, e4, w4⟩ := rd_sts (h2 3 _ rfl _ _ _ rfl rfl c_sts)
  have z1 : a = St w := one_eq e1
  have z2 : b = .slice A1 p1 q1 := one_eq e2
  have z3 : c = .slice A2 p2 q2 := one_eq e3
  have z4 : d = .slice A3 p3 q3 := one_eq e4
  subst z1; subst z2; subst z3; subst z4
  exact ⟨⟨w, l1, l2, l3⟩, A1, p1, q1, A2, p2, q2, A3, p3, q3, rfl, w2, w3, Stms.up w4 O, w1⟩
theorem rd_gl {cs : List Value} (h : Rd W 80 cs) : ∃ x : Glo, GlR W x cs := by
  obtain ⟨h1, h2⟩ := rd_field Tryz.underlying80 h c_gl
  obtain ⟨a, b, c, d, rfl⟩ := len4 h1
  obtain ⟨k, e1, _⟩ := rd_int Tryz.underlying3 (h2 0 _ rfl _ _ _ rfl rfl c_int)
  obtain ⟨w, e2, w2⟩ := rd_str Tryz.underlying9 (h2 1 _ rfl _ _ _ rfl rfl c_str)
  obtain ⟨u, e3, w3⟩ := rd_int Tryz.underlying56 (h2 2 _ rfl _ _ _ rfl rfl c_u32)
  obtain ⟨A, p, q, l, e4, w4⟩ := rd_words (h2 3 _ rfl _ _ _ rfl rfl c_words)
  have z1 : a = .int .i64 k := one_eq e1
  have z2 : b = St w := one_eq e2
  have z3 : c = .int .u32 u := one_eq e3
  have z4 : d = .slice A p q := one_eq e4
  subst z1; subst z2; subst z3; subst z4
  exact ⟨⟨k, w, u, l⟩, A, p, q, rfl, w4, u32_wf w3, w2⟩
theorem rd_prg {n : Nat} {cs : List Value} (h : RdN n W 25 cs) : ∃ (p : Prg) (Ag Af : Option Addr) (ng cg nf cf : Nat), cs = [.slice Ag ng cg, .slice Af nf cf] ∧ Glos W Ag ng cg p.globals ∧ Fncs n W Af nf cf p.funcs := by
  obtain ⟨h1, m, rfl, h2⟩ := rdn_field Tryz.underlying25 h c_prg
  obtain ⟨a, b, rfl⟩ := len2 h1
  obtain ⟨Ag, ng, cg, lg, e1, w1⟩ := sl_of (R := GlR) Tryz.underlying22 c_gl (by decide) (h2 0 _ rfl _ _ _ rfl rfl c_gls).rd fun _ hd => rd_gl hd
  obtain ⟨Af, nf, cf, lf, e2, w2⟩ := sln_of (R := FnR (m + 1)) Tryz.underlying23 c_fn (by decide) (h2 1 _ rfl _ _ _ rfl rfl c_fns) fun q hq ds hd => by
    obtain ⟨x, hx⟩ := rd_fn hd
    exact ⟨x, hx.up O⟩
  have z1 : a = .slice Ag ng cg := one_eq e1
  have z2 : b = .slice Af nf cf := one_eq e2
  subst z1; subst z2
  exact ⟨⟨lg, lf⟩, Ag, Af, ng, cg, nf, cf, rfl, w1, w2⟩
end
section
variable {H : Type} {enc : TypeId × Value → H} {W : World} {base : Nat} {v : Value} {d : DataW H} {ps : List MemPlace}
theorem rd_of {t : TypeId} (hd : DataW.Trod enc Tryz.prog W 0 (fun _ => true) true t v d ps) : Rd W t v.cells.toList := by
  obtain ⟨n, h⟩ := hd
  exact ⟨H, enc, n, _, h⟩
theorem agg_of {t : TypeId} {fs : Array Field} (ht : Tryz.prog.underlying t = some (.struct fs)) (hv : Value.okWide Tryz.prog W .any base t v) : ∃ cs, v = .agg cs := by
  unfold Value.okWide at hv
  rw [ht] at hv
  obtain ⟨cs, h, _⟩ := hv
  exact ⟨cs, h⟩
theorem arg_prg (hv : Value.okWide Tryz.prog W .any base 25 v) (hd : DataW.Trod enc Tryz.prog W 0 (fun _ => true) true 25 v d ps) : ∃ (m : Nat) (p : Prg) (Ag Af : Option Addr) (ng cg nf cf : Nat), v = .agg #[.slice Ag ng cg, .slice Af nf cf] ∧ Glos W Ag ng cg p.globals ∧ Fncs m W Af nf cf p.funcs := by
  obtain ⟨cs, rfl⟩ := agg_of Tryz.underlying25 hv
  obtain ⟨n, h⟩ := hd
  obtain ⟨p, Ag, Af, ng, cg, nf, cf, h1, h2, h3⟩ := rd_prg (n := n) ⟨H, enc, _, h⟩
  refine ⟨n, p, Ag, Af, ng, cg, nf, cf, ?_, h2, h3⟩
  simp only [Value.cells] at h1
  rw [← h1]
theorem arg_str (hv : Value.okWide Tryz.prog W .any base 9 v) (hd : DataW.Trod enc Tryz.prog W 0 (fun _ => true) true 9 v d ps) : ∃ l, v = St l ∧ l.length ≤ 9223372036854775807 := by
  obtain ⟨x, h1, h2⟩ := rd_str Tryz.underlying9 (rd_of hd)
  obtain ⟨u, rfl⟩ := okWide_string Tryz.underlying9 hv
  exact ⟨x, one_eq h1, h2⟩
end
theorem gw_var {W : World} {nm : String} {g : Nat} {cs : Array Value} (hg : Tryz.prog.globalNamed nm = some g) (h : W.var? Tryz.prog nm = some cs) : ∃ ty fz, W.heap[g]? = some (.cells cs ty fz) := by
  unfold World.var? at h
  rw [hg] at h
  simp only [Option.bind_some] at h
  split at h
  · rename_i c t f hb
    injection h with h
    subst h
    exact ⟨t, f, hb⟩
  · cases h
theorem gp_of {W : World} (h : laidMetH Tryz.prog Rows.checkProgramMatchesSpecRow.laid W) : GP W := by
  rw [MakeChecks.laidMetH_plain _ _ _ V] at h
  have h2 := h.tail.tail
  have hpow := Lib.tabIs_of_head (zs := Lib.pow10Tab) (k := .u64) (g := 2) V V Tryz.underlying231 Tryz.underlying168 V V h2
  have hasc := Lib.tabIs_of_head (zs := Lib.asciiSpaceTab) (k := .u8) (g := 0) V V Tryz.underlying203 Tryz.underlying5 V V h2.tail.tail
  exact ⟨⟨gw_var (g := 2) V hpow⟩, gw_var (g := 0) V hasc⟩
open Go Go.FL Go.ChangeShapes Go.WideShapes Go.ChangeAt Go.RowKit
theorem checkNamesMatchSpec_reads : ∀ t ∈ Tryz.f4.params.toList, Tryz.prog.readableRec t = true ∧ t < Tryz.prog.types.size := by
  rw [Tryz.params4]
  intro t ht
  simp only [List.mem_cons, List.not_mem_nil, or_false] at ht
  rcases ht with rfl | rfl | rfl <;> exact ⟨by kernel_rfl, of_decide_eq_true V⟩
theorem checkNamesMatchSpec_contract (H : Type) (enc : TypeId × Value → H) (W : World) (base : Nat) (args : Array Value) (ds gs : List (DataW H)) (before : List MemPlace)
    (hval : ∀ (j : Nat) t v, Tryz.f4.params[j]? = some t → args[j]? = some v → Value.okWide Tryz.prog W .any base t v)
    (hW : DataW.Whole enc Tryz.prog Tryz.f4.params.toList Rows.checkNamesMatchSpecSpec.vars false W args.toList ds gs before) (hL : laidMetH Tryz.prog Rows.checkNamesMatchSpecRow.laid W) :
    Calls Tryz.prog 4 args W fun e W' => ∃ v, e = .returned v ∧ Rows.checkNamesMatchSpecSpec.post enc Tryz.prog Tryz.f4 false true false false W args v W' := by
  have hW' := hW
  obtain ⟨p, q, hA0, hV, rfl, hfz, hnd⟩ := hW'
  have hA : DataW.TrodAll enc Tryz.prog W 0 (fun _ => true) true Tryz.f4.params.toList args.toList ds p := hA0
  rw [Tryz.params4] at hA hval
  obtain ⟨v0, vs0, d0, ds0, p0, q0, hargs0, rfl, rfl, h0, r0⟩ := trodAll_cons hA
  obtain ⟨v1, vs1, d1, ds1, p1, q1, hargs1, rfl, rfl, h1, r1⟩ := trodAll_cons r0
  obtain ⟨v2, vs2, d2, ds2, p2, q2, hargs2, rfl, rfl, h2, r2⟩ := trodAll_cons r1
  obtain ⟨rfl, rfl, rfl⟩ := trodAll_nil r2
  obtain rfl : args = #[v0, v1, v2] := by cases args; simp_all
  obtain ⟨rfl, rfl⟩ := trodVars_none hV
  obtain ⟨m0, p0, Ag0, Af0, ng0, cg0, nf0, cf0, rfl, hGl0, hFn0⟩ := arg_prg (hval 0 25 v0 rfl rfl) h0
  obtain ⟨k1, rfl, rfl, rfl, wk1⟩ := open_int Tryz.underlying3 (hval 1 3 v1 rfl rfl) h1
  obtain ⟨l2, rfl, hL2⟩ := arg_str (hval 2 9 v2 rfl rfl) h2
  refine (law_calls (args := [_, _, _]) fun D => lawNames_ac D [] W (gp_of hL) m0 p0 Ag0 Af0 ng0 cg0 nf0 cf0 hGl0 hFn0 k1 l2).mono fun e W' ⟨he, hg⟩ => ?_
  subst he
  exact ⟨_, rfl, law_post laid_out checkNamesMatchSpec_reads V Tryz.underlying4 rfl hW rfl hg⟩
theorem checkNamesMatchSpec_lifted (os : Os) (started : os.Started) (H : Type) (enc : TypeId × Value → H) :
    ReturnsInHanded {} Tryz.checked os 4 .any (fun w args => (Rows.checkNamesMatchSpecSpec.pre enc Tryz.prog Tryz.f4 [] false w args ∧ laidMetH Tryz.prog Rows.checkNamesMatchSpecRow.laid w) ∧ sizedMet enc Tryz.prog Tryz.f4 (OpenSpec.ofChange Rows.checkNamesMatchSpecSpec) false w args) (Rows.checkNamesMatchSpecSpec.post enc Tryz.prog Tryz.f4 false true false false) := by
  refine returnsInHanded_of_change_and (C := Tryz.checked) (X := fun w _ => laidMetH Tryz.prog Rows.checkNamesMatchSpecRow.laid w) (fun _ _ _ hh h => h.of_heap hh) own_knob started V Tryz.func4
    (ChangeSpec.witness_shaped (enc := enc) (C := Tryz.checked) (os := os) (X := fun w _ => laidMetH Tryz.prog Rows.checkNamesMatchSpecRow.laid w) false (World.laidAll Tryz.prog os Rows.checkNamesMatchSpecRow.laid) #[.agg #[.slice none 0 0, .slice none 0 0], .int .i64 0, .string .empty] 8 (World.laidAll_os _ _ _)
      (World.shaped_of_ZipB V V) V V V
      (by rw [MakeChecks.laidMetH_plain _ _ _ V]; exact laidMet_laidAll _ V V)) ?_
  intro W base args ds gs before hval hW _ _ hL _
  exact checkNamesMatchSpec_contract H enc W base args ds gs before hval hW hL
theorem checkNamesMatchSpec_said : Rows.CheckNamesMatchSpecSaid :=
  OpenClaim.holds_of_wide 4 Tryz.f4 rfl rfl rfl rfl rfl rfl rfl ⟨rfl, rfl, rfl, rfl, rfl⟩ rfl rfl rfl rfl rfl V Tryz.func4 V
    (of_decide_eq_true V) (by unfold Func.isWrapper; first | (rw [if_pos (by decide +kernel)]; kernel_rfl) | (rw [if_neg (by decide +kernel)]; exact ⟨rfl, rfl⟩))
    (fun os started H enc _ => checkNamesMatchSpec_lifted os started H enc)
theorem checkNamesMatchSpec_plain (f : FuncId) (fn : Func) (hf : Tryz.pinned.checked.prog.funcNamed Rows.checkNamesMatchSpecRow.func = some f) (hfn : Tryz.pinned.checked.prog.funcs[f]? = some fn) : false = Tryz.pinned.checked.prog.looks [] ∧ ∀ (j : Nat) t, fn.params[j]? = some t → Tryz.pinned.checked.prog.wantsStandIn t = false := by
  obtain rfl : f = 4 := Option.some.inj ((show Tryz.prog.funcNamed Rows.checkNamesMatchSpecRow.func = some 4 by kernel_rfl).symm.trans hf) |>.symm
  obtain rfl : fn = Tryz.f4 := (Option.some.inj (Tryz.func4.symm.trans hfn)).symm
  exact ⟨by kernel_rfl, fun j t ht => by
    rw [Tryz.params4] at ht
    have hm : t ∈ [25, 3, 9] := by simpa using Array.mem_of_getElem? ht
    have hall : ([25, 3, 9].all fun u => !Tryz.prog.wantsStandIn u) = true := by kernel_rfl
    exact (show Tryz.prog.wantsStandIn t = false by simpa using List.all_eq_true.1 hall t hm)⟩
theorem checkNamesMatchSpec_holds : Rows.CheckNamesMatchSpecCardSaid :=
  Claim7.holds_tied_plain_at .later [] _ _ _ _ checkNamesMatchSpec_said (fun _ h => by cases h) V (fun _ h => by cases h) checkNamesMatchSpec_row_tie rfl ⟨rfl, rfl⟩ V rfl checkNamesMatchSpec_plain V
end Go.Proofs.YtacajpepkfinoaaGreatDoor
