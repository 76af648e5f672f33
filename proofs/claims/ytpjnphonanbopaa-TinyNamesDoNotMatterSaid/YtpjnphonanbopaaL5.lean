/- The law TinyNamesDoNotMatter: for every input it returns true, and its arguments read behind the call as they read before. -/
import Derived.Test.YtpjnphonanbopaaV17
import Derived.Test.YtpjnphonanbopaaRh
namespace Go.Proofs.Ytpjnphonanbopaa
open Go Go.FL Go.ChangeShapes Go.WideShapes Go.ChangeAt Go.RowKit

theorem tinyNamesDoNotMatter_reads : ∀ t ∈ Try.f7.params.toList, Try.prog.readableRec t = true ∧ t < Try.prog.types.size := by
  rw [Try.params7]
  intro t ht
  simp only [List.mem_cons, List.not_mem_nil, or_false] at ht
  rcases ht with rfl | rfl | rfl | rfl <;> exact ⟨by kernel_rfl, of_decide_eq_true (by kernel_rfl)⟩
set_option maxRecDepth 100000 in
theorem tinyNamesDoNotMatter_contract (H : Type) (enc : TypeId × Value → H) (W : World) (base : Nat) (args : Array Value) (ds gs : List (DataW H)) (before : List MemPlace)
    (hval : ∀ (j : Nat) t v, Try.f7.params[j]? = some t → args[j]? = some v → Value.okWide Try.prog W .any base t v)
    (hW : DataW.Whole enc Try.prog Try.f7.params.toList Rows.tinyNamesDoNotMatterSpec.vars false W args.toList ds gs before) (hk : (DataW.weightsEach Try.prog (Try.f7.params.toList ++ Rows.tinyNamesDoNotMatterSpec.plain.varTypes Try.prog) (ds ++ gs)).all (· ≤ reachBytes) = true) :
    Calls Try.prog 7 args W fun e W' => ∃ v, e = .returned v ∧ Rows.tinyNamesDoNotMatterSpec.post enc Try.prog Try.f7 false true false false W args v W' := by
  have hW' := hW
  obtain ⟨p, q, hA0, hV, rfl, hfz, hnd⟩ := hW
  have hA : DataW.TrodAll enc Try.prog W 0 (fun _ => true) true Try.f7.params.toList args.toList ds p := hA0
  rw [Try.params7] at hA hval
  rw [Try.params7] at hk
  obtain ⟨v0, vs0, d0, ds0, p0, q0, hargs0, rfl, rfl, h0, r0⟩ := trodAll_cons hA
  obtain ⟨v1, vs1, d1, ds1, p1, q1, hargs1, rfl, rfl, h1, r1⟩ := trodAll_cons r0
  obtain ⟨v2, vs2, d2, ds2, p2, q2, hargs2, rfl, rfl, h2, r2⟩ := trodAll_cons r1
  obtain ⟨v3, vs3, d3, ds3, p3, q3, hargs3, rfl, rfl, h3, r3⟩ := trodAll_cons r2
  obtain ⟨rfl, rfl, rfl⟩ := trodAll_nil r3
  obtain rfl : args = #[v0, v1, v2, v3] := by cases args; simp_all
  obtain ⟨rfl, rfl⟩ := trodVars_none hV
  simp only [List.append_nil] at hk
  obtain ⟨t0, A0, n0, c0, rfl, hT0, hroom0⟩ := arg_table_sized (hval 0 24 v0 rfl rfl) h0 (fun k hk1 => by simpa using List.all_eq_true.1 hk k (DataW.weights_mem_each (j := 0) rfl rfl k hk1))
  obtain ⟨m1, Ax1, Bx1, Ox1, nA1, cA1, nB1, cB1, nO1, cO1, rfl, hA1, hB1, hO1, hU1⟩ := arg_state (hval 1 30 v1 rfl rfl) h1
  obtain ⟨A2, n2, c2, l2, rfl, hS2⟩ := arg_strs (hval 2 57 v2 rfl rfl) h2
  obtain ⟨k3, rfl, rfl, rfl, wk3⟩ := open_int Try.underlying3 (hval 3 3 v3 rfl rfl) h3
  refine (law_calls (args := [_, _, _, _]) fun D => lawNames_ac D [] W t0 A0 n0 c0 hT0 m1 Ax1 Bx1 Ox1 nA1 cA1 nB1 cB1 nO1 cO1 hA1 hB1 hO1 hU1 A2 n2 c2 l2 hS2 k3 hroom0).mono fun e W' ⟨he, hg⟩ => ?_
  subst he
  exact ⟨_, rfl, law_post laid_out tinyNamesDoNotMatter_reads (by kernel_rfl) Try.underlying4 rfl hW' rfl hg⟩
set_option maxRecDepth 100000 in
theorem tinyNamesDoNotMatter_lifted (os : Os) (started : os.Started) (H : Type) (enc : TypeId × Value → H) :
    ReturnsInHanded {} Try.checked os 7 .any (Rows.tinyNamesDoNotMatterSpec.pre6 enc Try.prog Try.f7 Rows.tinyNamesDoNotMatterRow.domain false) (Rows.tinyNamesDoNotMatterSpec.post enc Try.prog Try.f7 false true false false) := by
  refine returnsInHanded_of_change_sized (C := Try.checked) own_knob started (by kernel_rfl) Try.func7
    (ChangeSpec.witness6 (enc := enc) (C := Try.checked) false ⟨#[], #[.agg #[.int .i64 0, .slice none 0 0], .agg #[.slice none 0 0, .int .u32 0, .int .u32 0, .int .u32 0, .int .u32 0, .int .u32 0, .slice none 0 0, .slice none 0 0, .int .i64 0, .int .u32 0], .slice none 0 0, .int .i64 0], []⟩ 8 (by kernel_rfl) (by kernel_rfl) (by kernel_rfl) (by kernel_rfl)) ?_
  intro W base args ds gs before hval hW _ hk _
  exact tinyNamesDoNotMatter_contract H enc W base args ds gs before hval hW hk
/-- the given statement -/
theorem tinyNamesDoNotMatter_holds : Rows.TinyNamesDoNotMatterSaid :=
  OpenClaim.holds_of_wide 7 Try.f7 rfl rfl rfl rfl rfl rfl rfl ⟨rfl, rfl, rfl, rfl, rfl⟩ rfl rfl rfl rfl rfl (by kernel_rfl) Try.func7 (by kernel_rfl)
    (of_decide_eq_true (by kernel_rfl)) (by unfold Func.isWrapper; first | (rw [if_pos (by decide +kernel)]; kernel_rfl) | (rw [if_neg (by decide +kernel)]; exact ⟨rfl, rfl⟩))
    (fun os started H enc _ => tinyNamesDoNotMatter_lifted os started H enc)
end Go.Proofs.Ytpjnphonanbopaa
