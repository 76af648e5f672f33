/- From the readings of the arguments to the facts that the walks ask for, and from a walk to a row's statement. -/
import Derived.Test.YtpjnphonanbopaaRows
import Derived.ProofKit
import Derived.OpenShut
import Derived.SizedLaws
import Derived.Deep.Slices
import Derived.Test.YtpjnphonanbopaaDr
namespace Go.Proofs.Ytpjnphonanbopaa
open Go Go.FL Go.ChangeShapes Go.WideShapes Go.ChangeAt Go.RowKit Go.Deep

theorem own_knob : ownKnob Try.prog.godebug = none := by kernel_rfl
theorem laid_out : laidOutB Try.prog = true := by kernel_rfl

/-- a mark that no block of a world bears -/
theorem mark_free (l : List Obj) : ∃ D, ∀ E, D ≤ E → ∀ o ∈ l, o ≠ dum E := by
  induction l with
  | nil => exact ⟨0, fun _ _ _ h => by cases h⟩
  | cons x l ih =>
    obtain ⟨D, hD⟩ := ih
    have hx : ∃ B, ∀ E, B ≤ E → x ≠ dum E := by
      cases x with
      | mapIter a n b c => exact ⟨n + 1, fun E hE h => by simp only [dum, Obj.mapIter.injEq] at h; omega⟩
      | _ => exact ⟨0, fun E _ h => by simp [dum] at h⟩
    obtain ⟨B, hB⟩ := hx
    refine ⟨max D B, fun E hE o ho => ?_⟩
    rcases List.mem_cons.1 ho with rfl | ho
    · exact hB E (by omega)
    · exact hD E (by omega) o ho
theorem mark_world (W : World) : ∃ D, ∀ k : Nat, W.heap[k]? ≠ some (dum D) := by
  obtain ⟨D, hD⟩ := mark_free W.heap.toList
  refine ⟨D, fun k hk => hD D (Nat.le_refl _) (dum D) ?_ rfl⟩
  rw [← Array.getElem?_toList] at hk
  exact List.mem_of_getElem? hk
theorem below_of {D : Nat} {W W' : World} (hD : ∀ k : Nat, W.heap[k]? ≠ some (dum D)) (h : Le D W W') : Below W.heap.size W W' :=
  ⟨h.os, h.tape, h.output, h.size, fun k hk => (h.block k hk).resolve_left (hD k)⟩
theorem law_calls {P : Program} {f : FuncId} {args : List Value} {W : World} (h : ∀ D, AC P D f args [] W fun v L' _ => v = .bool true ∧ [] = L') :
    Calls P f args.toArray W fun e W' => e = .returned (.bool true) ∧ Below W.heap.size W W' := by
  obtain ⟨D, hD⟩ := mark_world W
  refine ((h D).2 ⟨by simp, fun x hx => by cases hx⟩).mono ?_
  rintro e w' ⟨v, L', s', h1, rfl, h3, h4, rfl, rfl⟩
  exact ⟨h1, below_of hD h4⟩

section
variable {H : Type} {enc : TypeId × Value → H} {P : Program}
theorem trodAll_stays {W W' : World} (hl : laidOutB P = true) (hb : Below W.heap.size W W') : ∀ {ts : List TypeId} {vs : List Value} {ds : List (DataW H)} {ps : List MemPlace}, (∀ t ∈ ts, P.readableRec t = true ∧ t < P.types.size) → (∀ x ∈ ps, x.block < W.heap.size) →
    DataW.TrodAll enc P W 0 (fun _ => true) true ts vs ds ps → DataW.TrodAll enc P W' 0 (fun b => decide (b < W.heap.size)) true ts vs ds ps
  | [], _, _, _, _, _, h => by
    obtain ⟨rfl, rfl, rfl⟩ := trodAll_nil h
    exact trodAll_mk0
  | t :: ts, _, _, _, hts, hp, h => by
    obtain ⟨v, vs, d, ds, a, b, rfl, rfl, rfl, h1, h2⟩ := trodAll_cons h
    have ht := hts t (List.mem_cons_self ..)
    exact trodAll_cons_mk (Below.trod hl ht.1 ht.2 h1 hb fun x hx => hp x (List.mem_append_left _ hx)) (trodAll_stays hl hb (fun t' h' => hts t' (List.mem_cons_of_mem _ h')) (fun x hx => hp x (List.mem_append_right _ hx)) h2)
/-- a law that answered true and left what was there -/
theorem law_post {fn : Func} {s : ChangeSpec} {W W' : World} {args : Array Value} {ds gs : List (DataW H)} {before : List MemPlace} {tb : TypeId} (hl : laidOutB P = true) (hts : ∀ t ∈ fn.params.toList, P.readableRec t = true ∧ t < P.types.size) (hr : fn.resultTypes = #[tb]) (hb : P.underlying tb = some .bool)
    (hv : s.vars = []) (hW : DataW.Whole enc P fn.params.toList s.vars false W args.toList ds gs before) (hfn : s.fn H ds = { results := [.lit (.bool true)], args := ds }) (hB : Below W.heap.size W W') : s.post enc P fn false true false false W args (.bool true) W' := by
  have hlt : ∀ x ∈ before, x.block < W.heap.size := fun x hx => hW.lt x hx
  have hW' := hW
  obtain ⟨p, q, hA, hV, rfl, _, _⟩ := hW
  rw [hv] at hV
  obtain ⟨rfl, rfl⟩ := trodVars_none hV
  refine ⟨ds, [], p ++ [], [], p, [], hW', ?_, ?_, ?_, hB.frame _, fun h => by cases h⟩
  · rw [List.append_nil, hfn, hr]; exact trodAll_cons_mk (shut_bool hb _) trodAll_mk0
  · rw [List.append_nil, hfn]; exact trodAll_stays hl hB hts (fun x hx => hlt x (List.mem_append_left _ hx)) hA
  · rw [List.append_nil, hfn, hv]; rfl
end

/-- a row of cells reads as data of a type -/
def Rd (W : World) (t : TypeId) (cs : List Value) : Prop := ∃ (H : Type) (enc : TypeId × Value → H) (n : Nat) (x : DataW H × List MemPlace), DataW.trod enc Try.prog W 0 (fun _ => true) true n t cs = some x
section
variable {W : World} {t e : TypeId} {cs : List Value}
theorem rd_int {k : IntKind} (ht : Try.prog.underlying t = some (.int k)) (h : Rd W t cs) : ∃ n, cs = [.int k n] ∧ (Lit.int k n).wf = true := by
  obtain ⟨H, enc, n, x, h⟩ := h
  obtain ⟨i, h1, _, h2⟩ := DataW.trod_int ht h
  exact ⟨i, h1, h2⟩
theorem rd_bool (ht : Try.prog.underlying t = some .bool) (h : Rd W t cs) : ∃ b, cs = [.bool b] := by
  obtain ⟨H, enc, n, x, h⟩ := h
  obtain ⟨i, h1, _⟩ := DataW.trod_bool ht h
  exact ⟨i, h1⟩
theorem rd_str (ht : Try.prog.underlying t = some .string) (h : Rd W t cs) : ∃ l : List UInt8, cs = [St l] ∧ l.length ≤ 9223372036854775807 := by
  obtain ⟨H, enc, n, x, h⟩ := h
  obtain ⟨s, h1, _, h2⟩ := DataW.trod_string ht h
  refine ⟨s.data.toList, by rw [h1], ?_⟩
  have : s.data.toList.length = s.size := by rw [Array.length_toList]; rfl
  simp only [maxLen] at h2
  omega
theorem rd_field {fs : Array Field} (ht : Try.prog.underlying t = some (.struct fs)) (h : Rd W t cs) {sz : Nat} (hc : Try.prog.cellsOf t = sz) : cs.length = sz ∧ ∀ (i : Nat) (f : Field), fs[i]? = some f → ∀ (ty off n : Nat), f.type = ty → f.offset = off → Try.prog.cellsOf ty = n → Rd W ty ((cs.drop off).take n) := by
  obtain ⟨H, enc, n, x, h⟩ := h
  obtain ⟨xs, m, _, _, h1, h2, h3⟩ := DataW.trod_struct ht h
  refine ⟨h1.trans hc, fun i f hf ty off k e1 e2 e3 => ?_⟩
  have hi : i < xs.length := by rw [h2]; exact (Array.getElem?_eq_some_iff.1 hf).1
  have := h3 i f hf
  rw [List.getElem?_eq_getElem hi, e1, e2, e3] at this
  exact ⟨H, enc, m, _, this⟩
theorem rd_arr {n : Nat} (ht : Try.prog.underlying t = some (.array n e)) (h : Rd W t cs) {sz k : Nat} (hc : Try.prog.cellsOf t = sz) (he : Try.prog.cellsOf e = k) : cs.length = sz ∧ ∀ i, i < n → Rd W e ((cs.drop (i * k)).take k) := by
  obtain ⟨H, enc, m, x, h⟩ := h
  obtain ⟨xs, q, _, _, h1, h2, h3⟩ := DataW.trod_array ht h
  refine ⟨h1.trans hc, fun i hi => ?_⟩
  have := h3 i hi
  rw [List.getElem?_eq_getElem (by omega), he] at this
  exact ⟨H, enc, q, _, this⟩
theorem rd_slice {sz : Nat} (ht : Try.prog.underlying t = some (.slice e)) (hc : Try.prog.cellsOf e = sz) (hp : 0 < sz) (h : Rd W t cs) : ∃ A n c, cs = [.slice A n c] ∧ n ≤ c ∧ c ≤ 9223372036854775807 ∧
    ∀ i, i < n → ∃ b off ds, A = some ⟨b, off, none⟩ ∧ CellsAt W b (off + i * sz) ds ∧ ds.length = sz ∧ Rd W e ds := by
  obtain ⟨H, enc, q, x, h⟩ := h
  rcases open_slice ht h with ⟨rfl, _⟩ | ⟨a, len, cap, m, k, D, Pl, rfl, _, h1, h2, h3, _, h4⟩
  · exact ⟨none, 0, 0, rfl, Nat.le_refl _, by omega, fun i hi => by omega⟩
  · simp only [maxLen] at h2
    refine ⟨some a, len, cap, rfl, h1, by omega, fun i hi => ?_⟩
    obtain ⟨ds, k1, k2⟩ := h4 i (by simp at h3; omega)
    rw [hc] at k1
    obtain ⟨_, k3, k4⟩ := World.cells?_some k1
    obtain ⟨b, off, spot⟩ := a
    have hs : spot = none := by
      obtain ⟨ds0, j1, _⟩ := h4 0 (by simp at h3; omega)
      rw [hc, Nat.zero_mul] at j1
      obtain ⟨_, j3, j4⟩ := World.cells?_some j1
      have := j4 0 hp
      rw [List.getElem?_eq_getElem (by omega)] at this
      simpa [Addr.add] using World.cell?_spot this
    subst hs
    refine ⟨b, off, ds, rfl, fun j v hj => ?_, k3, H, enc, k, _, k2⟩
    have hl : j < sz := by rw [← k3]; exact (List.getElem?_eq_some_iff.1 hj).1
    have := k4 j hl
    rw [hj, add_lit, add_lit] at this
    exact this
theorem sl_of {α : Type} [Inhabited α] {R : World → α → List Value → Prop} {sz : Nat} (ht : Try.prog.underlying t = some (.slice e)) (hc : Try.prog.cellsOf e = sz) (hp : 0 < sz) (h : Rd W t cs) (hel : ∀ ds, Rd W e ds → ∃ x : α, R W x ds) : ∃ A n c l, cs = [.slice A n c] ∧ Sl sz R W A n c l := by
  obtain ⟨A, n, c, h1, h2, h3, h4⟩ := rd_slice ht hc hp h
  obtain ⟨f, hf⟩ := choose_lt (α := α) (p := fun i x => ∃ b off ds, A = some ⟨b, off, none⟩ ∧ CellsAt W b (off + i * sz) ds ∧ ds.length = sz ∧ R W x ds) (n := n) (fun i hi => by
    obtain ⟨b, off, ds, k1, k2, k3, k4⟩ := h4 i hi
    obtain ⟨x, hx⟩ := hel ds k4
    exact ⟨x, b, off, ds, k1, k2, k3, hx⟩)
  refine ⟨A, n, c, (List.range n).map f, h1, by simp, h2, h3, fun i x hi => ?_⟩
  rw [List.getElem?_map] at hi
  cases hr : (List.range n)[i]? with
  | none => simp [hr] at hi
  | some j =>
    simp [hr] at hi
    obtain ⟨hi1, hi2⟩ := List.getElem?_eq_some_iff.1 hr
    simp at hi1 hi2
    subst hi2; subst hi
    exact hf i hi1
theorem len1 {l : List Value} (h : l.length = 1) : ∃ a, l = [a] := by match l, h with | [a], _ => exact ⟨a, rfl⟩
theorem len2 {l : List Value} (h : l.length = 2) : ∃ a b, l = [a, b] := by match l, h with | [a, b], _ => exact ⟨a, b, rfl⟩
theorem len4 {l : List Value} (h : l.length = 4) : ∃ a b c d, l = [a, b, c, d] := by match l, h with | [a, b, c, d], _ => exact ⟨a, b, c, d, rfl⟩
theorem len6 {l : List Value} (h : l.length = 6) : ∃ a b c d e f, l = [a, b, c, d, e, f] := by match l, h with | [a, b, c, d, e, f], _ => exact ⟨a, b, c, d, e, f, rfl⟩
theorem len10 {l : List Value} (h : l.length = 10) : ∃ a b c d e f g i j k, l = [a, b, c, d, e, f, g, i, j, k] := by match l, h with | [a, b, c, d, e, f, g, i, j, k], _ => exact ⟨a, b, c, d, e, f, g, i, j, k, rfl⟩
theorem one_eq {a b : Value} (h : [a] = [b]) : a = b := by injection h
theorem u32_wf {n : Int} (h : (Lit.int .u32 n).wf = true) : U32 n := by have := bounds_u32 h; exact ⟨by omega, by omega⟩
end
end Go.Proofs.Ytpjnphonanbopaa
