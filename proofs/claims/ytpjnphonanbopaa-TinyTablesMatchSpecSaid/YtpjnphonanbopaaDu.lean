/- Literal rows in the shared world. -/
import Derived.Test.YtpjnphonanbopaaDr
namespace Go.Proofs.Ytpjnphonanbopaa
open Go Go.FL
/-- two lists, part by part -/
inductive All2 {α β : Type} (R : α → β → Prop) : List α → List β → Prop
  | nil : All2 R [] []
  | cons {a : α} {b : β} {l : List α} {m : List β} (h : R a b) (k : All2 R l m) : All2 R (a :: l) (b :: m)
theorem sl_lit {α : Type} {sz : Nat} {R : World → α → List Value → Prop} {s : World} {b : Nat} {l : List α} {css : List (List Value)} (h : All2 (fun x cs => cs.length = sz ∧ R s x cs) l css) :
    ∀ off, CellsAt s b off css.flatten → ∀ i x, l[i]? = some x → ∃ cs, CellsAt s b (off + i * sz) cs ∧ cs.length = sz ∧ R s x cs := by
  induction h with
  | nil => intro off _ i x hi; cases hi
  | @cons a c l m h k ih =>
    intro off hc i x hi
    have h1 : CellsAt s b off c := fun j v hj => hc j v (by rw [List.flatten_cons, List.getElem?_append_left (List.getElem?_eq_some_iff.1 hj).1]; exact hj)
    have h2 : CellsAt s b (off + sz) m.flatten := fun j v hj => by
      have := hc (sz + j) v (by rw [List.flatten_cons, List.getElem?_append_right (by omega), h.1]; simpa using hj)
      rwa [← Nat.add_assoc] at this
    cases i with
    | zero => simp at hi; subst hi; exact ⟨c, by simpa using h1, h.1, h.2⟩
    | succ i =>
      obtain ⟨cs, k1, k2⟩ := ih (off + sz) h2 i x (by simpa using hi)
      exact ⟨cs, by rw [Nat.succ_mul]; rwa [show off + sz + i * sz = off + (i * sz + sz) by omega] at k1, k2⟩
theorem Sl.lit {α : Type} {sz : Nat} {R : World → α → List Value → Prop} {s : World} {b : Nat} {l : List α} (css : List (List Value)) {zs : List Value} (hc : CellsAt s b 0 zs) (hz : css.flatten = zs) (h : All2 (fun x cs => cs.length = sz ∧ R s x cs) l css) (n : Nat) (hn : n = l.length) (hm : n ≤ 9223372036854775807) : Sl sz R s (some ⟨b, 0, none⟩) n n l :=
  ⟨hn, Nat.le_refl _, hm, fun i x hi => by
    obtain ⟨cs, h1, h2⟩ := sl_lit h 0 (hz ▸ hc) i x hi
    exact ⟨b, 0, cs, rfl, h1, h2⟩⟩
theorem StW.list {m : Mst} {zs : List Value} {s : World} (h : StW s m (.agg zs.toArray)) : ∃ A nA cA B nB cB O nO cO, zs = [.slice A nA cA, .int .u32 m.r0, .int .u32 m.r1, .int .u32 m.r2, .int .u32 m.r3, .int .u32 m.r4, .slice B nB cB, .slice O nO cO, .int .i64 m.stop, .int .u32 m.code]
    ∧ Wds s A nA cA m.cells ∧ Bts s B nB cB m.input ∧ Bts s O nO cO m.output := by
  obtain ⟨A, nA, cA, B, nB, cB, O, nO, cO, h1, h2⟩ := h
  refine ⟨A, nA, cA, B, nB, cB, O, nO, cO, ?_, h2⟩
  injection h1 with h1
  have := congrArg Array.toList h1
  simpa using this
theorem bts_pub {s : World} {b cc : Nat} {l : List UInt8} {yc : List Value} (hp : CellsAt s b 0 (bv l ++ yc)) (h1 : l.length + yc.length = cc) (h2 : cc ≤ 9223372036854775807) : Bts s (some ⟨b, 0, none⟩) l.length cc l :=
  Own.bts (e := 0) (A := [(b, cb (bv l ++ yc) 0)]) (.blk b cc l.length (bv l) yc (by simp [bv]) (by rw [bv_len]; omega) (by omega) h2) (fun b zs t hm => by
    simp only [List.mem_singleton, Prod.mk.injEq, cb, Obj.cells.injEq] at hm
    obtain ⟨rfl, h, rfl, _⟩ := hm
    have e : zs = bv l ++ yc := by simpa using h
    rw [e]; exact hp)
end Go.Proofs.Ytpjnphonanbopaa
