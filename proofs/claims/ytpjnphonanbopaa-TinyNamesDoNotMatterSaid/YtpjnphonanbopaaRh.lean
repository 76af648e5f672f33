/- Strings as they are read; what the form's own reach says of a table. -/
import Derived.Test.YtpjnphonanbopaaRg
import Derived.Test.YtpjnphonanbopaaFlL
namespace Go.Proofs.Ytpjnphonanbopaa
open Go Go.FL Go.ChangeShapes Go.WideShapes Go.ChangeAt Go.RowKit Go.Deep
set_option maxRecDepth 100000
section
variable {H : Type} {enc : TypeId × Value → H} {W : World} {base : Nat} {v : Value} {d : DataW H} {ps : List MemPlace}
theorem arg_strs (hv : Value.okWide Try.prog W .any base 57 v) (hd : DataW.Trod enc Try.prog W 0 (fun _ => true) true 57 v d ps) : ∃ A n c l, v = .slice A n c ∧ Strs W A n c l := by
  obtain ⟨A, n, c, l, h1, h2⟩ := sl_of (α := List UInt8) (R := fun _ x cs => cs = [St x] ∧ x.length ≤ 9223372036854775807) Try.underlying57 c_str (by decide) (rd_of hd) (fun _ hd => rd_str Try.underlying9 hd)
  rw [cell_of Try.underlying57 hv] at h1
  exact ⟨A, n, c, l, one_eq h1, h2⟩
theorem b_ins : Try.prog.bytesOf 60 = 48 := by kernel_rfl
theorem arg_table_sized (hv : Value.okWide Try.prog W .any base 24 v) (hd : DataW.Trod enc Try.prog W 0 (fun _ => true) true 24 v d ps) (hw : ∀ k ∈ d.weights Try.prog 24, k ≤ reachBytes) :
    ∃ (t : Tab) (A : Option Addr) (n c : Nat), v = .agg #[.int .i64 t.cells, .slice A n c] ∧ Inss W A n c t.ins ∧ n * 48 ≤ 140737488351232 := by
  obtain ⟨t, A, n, c, rfl, hI⟩ := arg_table hv hd
  refine ⟨t, A, n, c, rfl, hI, ?_⟩
  obtain ⟨fuel, hf⟩ := hd
  obtain ⟨xs, m, _, hx, hl, hxs, hfld⟩ := DataW.trod_struct Try.underlying24 hf
  injection hx with hx _
  subst hx
  have h1 := hfld 1 _ rfl
  have hlen : xs.length = 2 := hxs
  match xs, hlen with
  | [x0, x1], _ =>
    have h1 : DataW.trod enc Try.prog W 0 (fun _ => true) true m 22 ((([.int .i64 t.cells, .slice A n c] : List Value).drop 1).take (Try.prog.cellsOf 22)) = some x1 := h1
    rw [c_inss] at h1
    have h1' : DataW.trod enc Try.prog W 0 (fun _ => true) true m 22 [.slice A n c] = some x1 := h1
    have hmem : ∀ k ∈ x1.1.weights Try.prog 22, k ≤ reachBytes := fun k hk => hw k (by
      simp only [DataW.weights, Try.underlying24, List.map_cons, List.map_nil, DataW.weightsEach, List.mem_append]
      exact .inr (.inl hk))
    rcases open_slice Try.underlying22 h1' with ⟨h0, _⟩ | ⟨a, len, cap, q, k, D, Pl, h0, _, g1, g2, g3, g4, _⟩
    · have h0 := one_eq h0
      injection h0 with _ h0 _
      omega
    · have h0 := one_eq h0
      injection h0 with _ e2 _
      have := hmem _ (by rw [g4]; simp only [DataW.weights, Try.underlying22]; exact List.mem_cons_self ..)
      rw [b_ins] at this
      simp only [List.length_map, List.length_range, reachBytes] at this
      omega
end
end Go.Proofs.Ytpjnphonanbopaa
